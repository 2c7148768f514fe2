/- The row of 'BagScript', its '..UptoSaid': whatever the input of bulk at most 1048576, the law returns true and the input reads as it did; its condition: that bulk. -/
import Derived.Test.YtdlokohmdnkdoaaHBagScriptA
import Derived.Test.YtdlokohmdnkdoaaHBagScriptB
import Derived.Test.YtdlokohmdnkdoaaRows
import Derived.Deep.Slices
import Derived.ChangeArms
import Derived.KernelRfl
import Derived.Laws.OwnMore
import Derived.WalkKit
import Derived.ProofKit
import Derived.OpenShut
import Derived.JoinedCond
import Derived.Below
import Derived.ChangeOld
namespace Go.Proofs.Ytdlokohmdnkdoaa.G
open Go Go.RowKit
set_option linter.unusedVariables false
set_option linter.unusedSimpArgs false
set_option maxRecDepth 100000
set_option maxHeartbeats 40000000
theorem haulageref20_Bag_Send.calls {m : Nat} {c0 : Nat → Nat} {w0 : World} {j4 : Nat} {j5 : Nat} {p2 : Option Addr} {A9 : Option Addr} {C10 : Nat} {a1 : Option Bg3} {a6 : Int} {a7 : Int} {a8 : List Int} (hm0 : 0 < m) (B0 : CB m c0 w0) (h3 : BG3 j4 j5 c0 w0 p2 a1) (h11 : SL false (Kint .u8) 0 0 c0 w0 A9 C10 a8) (bj4 : 0 < j4 ∧ j4 < m) (bj5 : 0 < j5 ∧ j5 < m ∧ j5 ≠ j4) (r : Int × Int × (Option Bg3)) (H : haulageref20_Bag_Send.f a1 a6 a7 a8 = some r) : Calls Try.prog 26 #[.pointer p2, .int .i64 a6, .int .i64 a7, .slice A9 a8.length C10] w0 (fun e w_ => ∃ (c_ : Nat → Nat), e = .returned (.tuple #[.int .i64 r.1, .int .i64 r.2.1]) ∧ Ev (fun x => (x = j4 ∨ x = j5)) c0 w0 c_ w_ ∧ CB m c_ w_ ∧ BG3 j4 j5 c_ w_ p2 r.2.2) := by
 unfold haulageref20_Bag_Send.f at H; have B := B0.mono (show m ≤ m + 1 by omega); have E : Ev (fun x => (x = j4 ∨ x = j5) ∨ m ≤ x) c0 w0 c0 w0 := Ev.refl; refine enter (N := 50) (l := [.pointer p2, .int .i64 a6, .int .i64 a7, .slice A9 a8.length C10]) Try.func26 rfl rfl (nb rfl) fun a F => ?_; refine sr fun K12 hK12 => qa F fun a F => qa F fun a F => nil (hK12 _ _ ?_); refine sq fun K13 hK13 => ?_; refine sr fun K14 hK14 => qm F fun a F => ?_; refine qv F (r_peqlA F Try.underlying48 rfl rfl (BG3.isNone h3)) fun a F => ?_; refine nil (hK14 _ _ ?_)
 by_cases hb15 : (Option.isNone a1) = true
 ·replace H := ip hb15 H; refine wct (fb F hb15) ?_; refine sr fun K16 hK16 => qa F fun a F => qa F fun a F => nil (hK16 _ _ ?_); refine wp_ret ?_; refine thenR ?_; obtain rfl := si H; refine out2 F rfl rfl rfl ?_; exact ⟨cf (ct m) c0, rfl, E.lv B0, cfb, BG3.rc h3 cfk cfk cfk⟩
 replace H := im hb15 H; refine wcf (fb F (bfalse hb15)) (wp_skip (hK13 _ _ ?_)); refine sq fun K17 hK17 => ?_; refine sq fun K18 hK18 => ?_; have J21 : ∀ (c22 : Nat → Nat) (w23 : World) (a : Act) (b20 : Bool), Fr a 50 [(0, .pointer p2), (1, .int .i64 a6), (2, .int .i64 a7), (3, .slice A9 a8.length C10), (17, .bool b20)] → Ev (fun x => (x = j4 ∨ x = j5) ∨ m ≤ x) c0 w0 c22 w23 → CB (m + 1) c22 w23 → BG3 j4 j5 c22 w23 p2 a1 → SL false (Kint .u8) 0 0 c22 w23 A9 C10 a8 → haulageref20_Bag_Send.j1 a1 a6 a7 a8 b20 = some r → K18 a w23 := by
  intro c22 w23 a b20 F E B h3 h11 H; unfold haulageref20_Bag_Send.j1 at H; refine hK18 _ _ ?_
  by_cases hb24 : b20 = true
  ·replace H := ip hb24 H; refine wct (fb F hb24) ?_; refine sr fun K25 hK25 => qa F fun a F => qa F fun a F => nil (hK25 _ _ ?_); refine wp_ret ?_; refine thenR ?_; obtain rfl := si H; refine out2 F rfl rfl rfl ?_; exact ⟨cf (ct m) c22, rfl, E.lv B0, cfb, BG3.rc h3 cfk cfk cfk⟩
  replace H := im hb24 H; refine wcf (fb F (bfalse hb24)) (wp_skip (hK17 _ _ ?_)); refine sq fun K26 hK26 => ?_; refine sr fun K27 hK27 => qm F fun a F => ?_; refine qv F (r_lensl F Try.underlying27 rfl) fun a F => ?_; refine qv F (r_gtr F rfl rfl) fun a F => ?_; refine nil (hK27 _ _ ?_)
  by_cases hb28 : 524288 < (a8.length : Int)
  ·replace H := ip hb28 H; refine wct (fb F (dt hb28)) ?_; refine sr fun K29 hK29 => qa F fun a F => qa F fun a F => nil (hK29 _ _ ?_); replace F : Fr a 50 [(8, .int .i64 0), (9, .int .i64 3)] := F.sub ⟨rfl, rfl, trivial⟩; refine wp_ret ?_; refine thenR ?_; obtain rfl := si H; refine out2 F rfl rfl rfl ?_; exact ⟨cf (ct m) c22, rfl, E.lv B0, cfb, BG3.rc h3 cfk cfk cfk⟩
  replace H := im hb28 H; refine wcf (fb F (dz hb28)) (wp_skip (hK26 _ _ ?_)); refine sq fun K30 hK30 => ?_; refine sr fun K31 hK31 => qm F fun a F => ?_; obtain ⟨ob32, e33, H⟩ := bind_some H; have z34 := h3; rw [e33] at z34; obtain ⟨ad35, A37, C38, rfl, hat36, h39⟩ := BG3.some z34; refine qi F fun a F => ?_; refine qf F ff_76_0 fun a F => ?_; refine ql F ag_34 hat36 fun a F => ?_; refine qv F (r_lensl F Try.underlying34 rfl) fun a F => ?_; refine qv F (r_geq F rfl rfl) fun a F => ?_; refine nil (hK31 _ _ ?_); replace F : Fr a 50 [(0, .pointer (some ad35)), (1, .int .i64 a6), (2, .int .i64 a7), (3, .slice A9 a8.length C10), (26, .bool (decide (65536 ≤ (ob32.Row.length : Int))))] := F.sub ⟨rfl, rfl, rfl, rfl, rfl, trivial⟩
  by_cases hb41 : 65536 ≤ (ob32.Row.length : Int)
  ·replace H := ip hb41 H; refine wct (fb F (dt hb41)) ?_; refine sr fun K42 hK42 => qm F fun a F => ?_; refine qi F fun a F => ?_; refine qf F ff_76_2 fun a F => ?_; refine qv F (r_fieldAddr2 F hat36 rfl ff_63_4) fun a F => ?_; refine ql F ag_3 hat36 fun a F => ?_; refine qv F (r_add F rfl rfl) fun a F => ?_; refine qi F fun a F => ?_; refine qf F ff_76_2 fun a F => ?_; refine qv F (r_fieldAddr2 F hat36 rfl ff_63_4) fun a F => ?_; refine q_eff0 F rfl rfl (e_store F rfl rfl sz_3 hat36 (nb rfl) rfl) ?_; rintro w43 a ⟨E44, hat36, Z45⟩ F; replace h39 := h39.ev E44 bj5.2.2 (ne_z bj4.1); replace E := E.trans E44 (fun x (q : x = j4) => Or.inl (Or.inl q)); replace hat36 : AT true j4 c22 w43 ad35 [.slice A37 ob32.Row.length C38, .int .i64 ob32.Next, .int .i64 ob32.Told.Sent, .int .i64 ob32.Told.Twice, .int .i64 ob32.Told.Delivered, .int .i64 ob32.Told.Dropped, .int .i64 (IntKind.i64.wrap (ob32.Told.Lost + 1))] := hat36; refine nil (hK42 _ _ ?_); replace F : Fr a 50 [] := F.sub trivial; refine sr fun K46 hK46 => qa F fun a F => qa F fun a F => nil (hK46 _ _ ?_); refine wp_ret ?_; refine thenR ?_; have h47 : BG3 j4 j5 c22 w43 (some ad35) (some (Bg3.mk ob32.Row ob32.Next (api_Traffic.mk ob32.Told.Sent ob32.Told.Twice ob32.Told.Delivered ob32.Told.Dropped (IntKind.i64.wrap (ob32.Told.Lost + 1))))) := BG3.mk hat36 h39; obtain rfl := si H; refine out2 F rfl rfl rfl ?_; exact ⟨cf (ct m) c22, rfl, E.lv B0, cfb, BG3.rc h47 cfk cfk cfk⟩
  replace H := im hb41 H; refine wcf (fb F (dz hb41)) (wp_skip (hK30 _ _ ?_)); refine sr fun K48 hK48 => qm F fun a F => ?_; refine qi F fun a F => ?_; refine qf F ff_76_2 fun a F => ?_; refine qv F (r_fieldAddr2 F hat36 rfl ff_63_0) fun a F => ?_; refine ql F ag_3 hat36 fun a F => ?_; refine qv F (r_add F rfl rfl) fun a F => ?_; refine qi F fun a F => ?_; refine qf F ff_76_2 fun a F => ?_; refine qv F (r_fieldAddr2 F hat36 rfl ff_63_0) fun a F => ?_; refine q_eff0 F rfl rfl (e_store F rfl rfl sz_3 hat36 (nb rfl) rfl) ?_; rintro w49 a ⟨E50, hat36, Z51⟩ F; replace B := B.size Z51; replace h11 := h11.ev E50 (ne_z bj4.1) (ne_z bj4.1); replace h39 := h39.ev E50 bj5.2.2 (ne_z bj4.1); replace E := E.trans E50 (fun x (q : x = j4) => Or.inl (Or.inl q)); replace hat36 : AT true j4 c22 w49 ad35 [.slice A37 ob32.Row.length C38, .int .i64 ob32.Next, .int .i64 (IntKind.i64.wrap (ob32.Told.Sent + 1)), .int .i64 ob32.Told.Twice, .int .i64 ob32.Told.Delivered, .int .i64 ob32.Told.Dropped, .int .i64 ob32.Told.Lost] := hat36; refine nil (hK48 _ _ ?_); replace F : Fr a 50 [(0, .pointer (some ad35)), (1, .int .i64 a6), (2, .int .i64 a7), (3, .slice A9 a8.length C10)] := F.sub ⟨rfl, rfl, rfl, rfl, trivial⟩; refine sr fun K52 hK52 => qm F fun a F => qm F fun a F => qm F fun a F => qm F fun a F => ?_; have h53 : BG3 j4 j5 c22 w49 (some ad35) (some (Bg3.mk ob32.Row ob32.Next (api_Traffic.mk (IntKind.i64.wrap (ob32.Told.Sent + 1)) ob32.Told.Twice ob32.Told.Delivered ob32.Told.Dropped ob32.Told.Lost))) := BG3.mk hat36 h39; obtain ⟨t54, q55, H⟩ := bind_some H; refine qc F Try.func45 (haulageref20_Bag_put.calls (m := m + 1) (pl hm0) B h53 h11 ⟨bj4.1, (Nat.lt_add_right _ bj4.2)⟩ ⟨bj5.1, (Nat.lt_add_right _ bj5.2.1), bj5.2.2⟩ _ q55) ?_; rintro e w57 ⟨c56, rfl, E58, B, h60⟩; refine rt fun a F => ?_; replace E := E.trans E58 (fun x (q : x = j4 ∨ x = j5) => q.elim (fun q => Or.inl (Or.inl q)) (fun q => Or.inl (Or.inr (q)))); refine qa F fun a F => qa F fun a F => nil (hK52 _ _ ?_); replace F : Fr a 50 [(8, .int .i64 t54.1), (9, .int .i64 0)] := F.sub ⟨rfl, rfl, trivial⟩; refine wp_ret ?_; obtain rfl := si H; refine out2 F rfl rfl rfl ?_; exact ⟨cf (ct m) c56, rfl, E.lv B0, cfb, BG3.rc h60 cfk cfk cfk⟩
 refine reg ?_; refine qm F fun a F => ?_; refine qv F (r_lss F rfl rfl) fun a F => ?_; refine qm F fun a F => ?_
 by_cases hb19 : a6 < 0
 ·replace H := ip hb19 H; refine qn F (dt hb19) fun a F => qn F (dt hb19) fun a F => ?_; refine qv F (r_pick_t F rfl (dt hb19) rfl) fun a F => ?_; refine nil ?_; exact J21 c0 w0 a true (F.sub ⟨rfl, rfl, rfl, rfl, rfl, trivial⟩) E B h3 h11 H
 replace H := im hb19 H; refine qy F (dz hb19) ?_; refine qm F fun a F => ?_; refine qy F (dz hb19) ?_; refine qv F (r_lss F rfl rfl) fun a F => ?_; refine qv F (r_pick_f F rfl (dz hb19) rfl) fun a F => ?_; refine nil ?_; exact J21 c0 w0 a (decide (a7 < 0)) (F.sub ⟨rfl, rfl, rfl, rfl, rfl, trivial⟩) E B h3 h11 H
theorem haulageref20_Bag_Twice.calls (k : Nat) {m : Nat} {c0 : Nat → Nat} {w0 : World} {j4 : Nat} {j5 : Nat} {p2 : Option Addr} {a1 : Option Bg3} {a6 : Int} (hm0 : 0 < m) (B0 : CB m c0 w0) (h3 : BG3 j4 j5 c0 w0 p2 a1) (bj4 : 0 < j4 ∧ j4 < m) (bj5 : 0 < j5 ∧ j5 < m ∧ j5 ≠ j4) (r : Int × Int × (Option Bg3)) (H : haulageref20_Bag_Twice.f k a1 a6 = some r) : Calls Try.prog 40 #[.pointer p2, .int .i64 a6] w0 (fun e w_ => ∃ (c_ : Nat → Nat), e = .returned (.tuple #[.int .i64 r.1, .int .i64 r.2.1]) ∧ Ev (fun x => (x = j4 ∨ x = j5)) c0 w0 c_ w_ ∧ CB m c_ w_ ∧ BG3 j4 j5 c_ w_ p2 r.2.2) := by
 unfold haulageref20_Bag_Twice.f at H; have B := B0.mono (show m ≤ m + 2 by omega); have E : Ev (fun x => (x = j4 ∨ x = j5) ∨ m ≤ x) c0 w0 c0 w0 := Ev.refl; refine enter (N := 54) (l := [.pointer p2, .int .i64 a6]) Try.func40 rfl rfl (nb rfl) fun a F => ?_; refine sr fun K7 hK7 => qa F fun a F => qa F fun a F => nil (hK7 _ _ ?_); refine sq fun K8 hK8 => ?_; refine sr fun K9 hK9 => qm F fun a F => ?_; refine qv F (r_peqlA F Try.underlying48 rfl rfl (BG3.isNone h3)) fun a F => ?_; refine nil (hK9 _ _ ?_)
 by_cases hb10 : (Option.isNone a1) = true
 ·replace H := ip hb10 H; refine wct (fb F hb10) ?_; refine sr fun K11 hK11 => qa F fun a F => qa F fun a F => nil (hK11 _ _ ?_); refine wp_ret ?_; refine thenR ?_; obtain rfl := si H; refine out2 F rfl rfl rfl ?_; exact ⟨cf (ct m) c0, rfl, E.lv B0, cfb, BG3.rc h3 cfk cfk cfk⟩
 replace H := im hb10 H; refine wcf (fb F (bfalse hb10)) (wp_skip (hK8 _ _ ?_)); refine sr fun K12 hK12 => qm F fun a F => qm F fun a F => ?_; obtain ⟨t13, q14, H⟩ := bind_some H; refine qc F Try.func50 (haulageref20_Bag_find.calls k (m := m + 2) (pl hm0) B h3 (Nat.lt_add_right _ bj4.2) ⟨(Nat.lt_add_right _ bj5.2.1), bj5.2.2⟩ _ q14) ?_; rintro e w16 ⟨c15, rfl, E17, B⟩; refine rt fun a F => ?_; replace h3 := h3.ev E17; replace E := E.n E17; refine qa F fun a F => nil (hK12 _ _ ?_); replace F : Fr a 54 [(0, .pointer p2), (6, .int .i64 t13)] := F.sub ⟨rfl, rfl, trivial⟩; refine sq fun K20 hK20 => ?_; refine sr fun K21 hK21 => qm F fun a F => ?_; refine qv F (r_lss F rfl rfl) fun a F => ?_; refine nil (hK21 _ _ ?_)
 by_cases hb22 : t13 < 0
 ·replace H := ip hb22 H; refine wct (fb F (dt hb22)) ?_; refine sr fun K23 hK23 => qa F fun a F => qa F fun a F => nil (hK23 _ _ ?_); refine wp_ret ?_; refine thenR ?_; obtain rfl := si H; refine out2 F rfl rfl rfl ?_; exact ⟨cf (ct m) c15, rfl, E.lv B0, cfb, BG3.rc h3 cfk cfk cfk⟩
 replace H := im hb22 H; refine wcf (fb F (dz hb22)) (wp_skip (hK20 _ _ ?_)); refine sq fun K24 hK24 => ?_; refine sr fun K25 hK25 => qm F fun a F => ?_; obtain ⟨ob26, e27, H⟩ := bind_some H; have z28 := h3; rw [e27] at z28; obtain ⟨ad29, A31, C32, rfl, hat30, h33⟩ := BG3.some z28; refine qi F fun a F => ?_; refine qf F ff_76_0 fun a F => ?_; refine ql F ag_34 hat30 fun a F => ?_; refine qv F (r_lensl F Try.underlying34 rfl) fun a F => ?_; refine qv F (r_geq F rfl rfl) fun a F => ?_; refine nil (hK25 _ _ ?_)
 by_cases hb35 : 65536 ≤ (ob26.Row.length : Int)
 ·replace H := ip hb35 H; refine wct (fb F (dt hb35)) ?_; refine sr fun K36 hK36 => qm F fun a F => ?_; refine qi F fun a F => ?_; refine qf F ff_76_2 fun a F => ?_; refine qv F (r_fieldAddr2 F hat30 rfl ff_63_4) fun a F => ?_; refine ql F ag_3 hat30 fun a F => ?_; refine qv F (r_add F rfl rfl) fun a F => ?_; refine qi F fun a F => ?_; refine qf F ff_76_2 fun a F => ?_; refine qv F (r_fieldAddr2 F hat30 rfl ff_63_4) fun a F => ?_; refine q_eff0 F rfl rfl (e_store F rfl rfl sz_3 hat30 (nb rfl) rfl) ?_; rintro w37 a ⟨E38, hat30, Z39⟩ F; replace h33 := h33.ev E38 bj5.2.2 (ne_z bj4.1); replace E := E.trans E38 (fun x (q : x = j4) => Or.inl (Or.inl q)); replace hat30 : AT true j4 c15 w37 ad29 [.slice A31 ob26.Row.length C32, .int .i64 ob26.Next, .int .i64 ob26.Told.Sent, .int .i64 ob26.Told.Twice, .int .i64 ob26.Told.Delivered, .int .i64 ob26.Told.Dropped, .int .i64 (IntKind.i64.wrap (ob26.Told.Lost + 1))] := hat30; refine nil (hK36 _ _ ?_); replace F : Fr a 54 [] := F.sub trivial; refine sr fun K40 hK40 => qa F fun a F => qa F fun a F => nil (hK40 _ _ ?_); refine wp_ret ?_; refine thenR ?_; have h41 : BG3 j4 j5 c15 w37 (some ad29) (some (Bg3.mk ob26.Row ob26.Next (api_Traffic.mk ob26.Told.Sent ob26.Told.Twice ob26.Told.Delivered ob26.Told.Dropped (IntKind.i64.wrap (ob26.Told.Lost + 1))))) := BG3.mk hat30 h33; obtain rfl := si H; refine out2 F rfl rfl rfl ?_; exact ⟨cf (ct m) c15, rfl, E.lv B0, cfb, BG3.rc h41 cfk cfk cfk⟩
 replace H := im hb35 H; refine wcf (fb F (dz hb35)) (wp_skip (hK24 _ _ ?_)); replace F : Fr a 54 [(0, .pointer (some ad29)), (6, .int .i64 t13)] := F.sub ⟨rfl, rfl, trivial⟩; refine sr fun K42 hK42 => qm F fun a F => ?_; refine qi F fun a F => ?_; refine qf F ff_76_2 fun a F => ?_; refine qv F (r_fieldAddr2 F hat30 rfl ff_63_1) fun a F => ?_; refine ql F ag_3 hat30 fun a F => ?_; refine qv F (r_add F rfl rfl) fun a F => ?_; refine qi F fun a F => ?_; refine qf F ff_76_2 fun a F => ?_; refine qv F (r_fieldAddr2 F hat30 rfl ff_63_1) fun a F => ?_; refine q_eff0 F rfl rfl (e_store F rfl rfl sz_3 hat30 (nb rfl) rfl) ?_; rintro w43 a ⟨E44, hat30, Z45⟩ F; replace B := B.size Z45; replace h33 := h33.ev E44 bj5.2.2 (ne_z bj4.1); replace E := E.trans E44 (fun x (q : x = j4) => Or.inl (Or.inl q)); replace hat30 : AT true j4 c15 w43 ad29 [.slice A31 ob26.Row.length C32, .int .i64 ob26.Next, .int .i64 ob26.Told.Sent, .int .i64 (IntKind.i64.wrap (ob26.Told.Twice + 1)), .int .i64 ob26.Told.Delivered, .int .i64 ob26.Told.Dropped, .int .i64 ob26.Told.Lost] := hat30; refine nil (hK42 _ _ ?_); replace F : Fr a 54 [(0, .pointer (some ad29)), (6, .int .i64 t13)] := F.sub ⟨rfl, rfl, trivial⟩; refine sr fun K46 hK46 => qm F fun a F => ?_; refine qi F fun a F => ?_; refine qf F ff_76_0 fun a F => ?_; refine ql F ag_34 hat30 fun a F => ?_; refine qm F fun a F => ?_; replace H := ifN H; obtain ⟨g47, H⟩ := H; obtain ⟨ad48, cs49, e50, h51, r52⟩ := SL.at h33 t13 g47.1 g47.2; obtain ⟨A53, C54, rfl, h55⟩ := r52; replace h55 := SL.fl (i' := 0) h55 (fun q => q); obtain ⟨qa56, qqa56⟩ : ∃ q, q = (ad48.add (t13.toNat * 4)) := ⟨_, rfl⟩; have h51 : AT true j5 c15 w43 qa56 [.int .i64 ((rd ob26.Row t13).Number), .int .i64 ((rd ob26.Row t13).From), .int .i64 ((rd ob26.Row t13).To), .slice A53 ((rd ob26.Row t13).Data).length C54] := by rw [qqa56]; exact h51
 refine qv F (r_indexAddr' F Try.underlying34 sz_40 rfl rfl g47.1 g47.2 e50 qqa56) fun a F => ?_; refine qv F (r_loads (cs := [.int .i64 ((rd ob26.Row t13).Number), .int .i64 ((rd ob26.Row t13).From), .int .i64 ((rd ob26.Row t13).To), .slice A53 ((rd ob26.Row t13).Data).length C54]) F rfl ag_40 sz_40 h51) fun a F => ?_; refine q_eff F rfl rfl (by decide) (e_alloc F zv_40 c15 (m + 1)) ?_; rintro v w59 a ⟨c58, qa60, rfl, E61, h62, B63⟩ F; replace B := B63 _ B lm; replace h33 := h33.ev E61; replace hat30 := hat30.ev E61; replace E := E.n E61; replace h62 : AT _ _ _ _ _ [.int .i64 0, .int .i64 0, .int .i64 0, .slice none 0 0] := h62; refine q_eff0 F rfl rfl (e_storeN0 (us := [.int .i64 ((rd ob26.Row t13).Number), .int .i64 ((rd ob26.Row t13).From), .int .i64 ((rd ob26.Row t13).To), .slice A53 ((rd ob26.Row t13).Data).length C54]) F rfl rfl sz_40 h62 (nb rfl) (one_all rfl)) ?_; rintro w65 a ⟨E66, h62, Z67⟩ F; replace B := B.size Z67; replace h33 := h33.ev E66 (ne_pm bj5.2.1) ne_zm; replace hat30 := hat30.ev E66 (ne_pm bj4.2); replace h55 := (h55.ev E61).ev E66; replace E := E.trans E66 lc1; replace h62 : AT _ _ _ _ _ [.int .i64 ((rd ob26.Row t13).Number), .int .i64 ((rd ob26.Row t13).From), .int .i64 ((rd ob26.Row t13).To), .slice A53 ((rd ob26.Row t13).Data).length C54] := h62; refine nil (hK46 _ _ ?_); replace F : Fr a 54 [(0, .pointer (some ad29)), (7, .pointer (some qa60))] := F.sub ⟨rfl, rfl, trivial⟩; refine sr fun K68 hK68 => qm F fun a F => qf F ff_40_1 fun a F => ?_; refine ql F ag_3 h62 fun a F => ?_; refine qf F ff_40_2 fun a F => ?_; refine ql F ag_3 h62 fun a F => ?_; refine qf F ff_40_3 fun a F => ?_; refine ql F ag_27 h62 fun a F => ?_; have h69 : BG3 j4 j5 c58 w65 (some ad29) (some (Bg3.mk ob26.Row ob26.Next (api_Traffic.mk ob26.Told.Sent (IntKind.i64.wrap (ob26.Told.Twice + 1)) ob26.Told.Delivered ob26.Told.Dropped ob26.Told.Lost))) := BG3.mk hat30 h33; obtain ⟨t70, q71, H⟩ := bind_some H; refine qc F Try.func45 (haulageref20_Bag_put.calls (m := m + 2) (pl hm0) B h69 h55 ⟨bj4.1, (Nat.lt_add_right _ bj4.2)⟩ ⟨bj5.1, (Nat.lt_add_right _ bj5.2.1), bj5.2.2⟩ _ q71) ?_; rintro e w73 ⟨c72, rfl, E74, B, h76⟩; refine rt fun a F => ?_; replace E := E.trans E74 (fun x (q : x = j4 ∨ x = j5) => q.elim (fun q => Or.inl (Or.inl q)) (fun q => Or.inl (Or.inr (q)))); refine qa F fun a F => qa F fun a F => nil (hK68 _ _ ?_); replace F : Fr a 54 [(4, .int .i64 t70.1), (5, .int .i64 0)] := F.sub ⟨rfl, rfl, trivial⟩; refine wp_ret ?_; obtain rfl := si H; refine out2 F rfl rfl rfl ?_; exact ⟨cf (ct m) c72, rfl, E.lv B0, cfb, BG3.rc h76 cfk cfk cfk⟩
theorem haulagelaw20_step.calls (k : Nat) {m : Nat} {c0 : Nat → Nat} {w0 : World} {j4 : Nat} {j5 : Nat} {j9 : Nat} {j10 : Nat} {p2 : Option Addr} {p7 : Option Addr} {A12 : Option Addr} {C13 : Nat} {a1 : Option Bag} {a6 : Option Bg3} {a11 : haulagelaw20_Op} (hm0 : 0 < m) (B0 : CB m c0 w0) (h3 : BG j4 j5 c0 w0 p2 a1) (h8 : BG3 j9 j10 c0 w0 p7 a6) (h14 : SL false (Kint .u8) 0 0 c0 w0 A12 C13 a11.Data) (bj4 : 0 < j4 ∧ j4 < m) (bj5 : 0 < j5 ∧ j5 < m ∧ j5 ≠ j4) (bj9 : 0 < j9 ∧ j9 < m ∧ j9 ≠ j4 ∧ j9 ≠ j5) (bj10 : 0 < j10 ∧ j10 < m ∧ j10 ≠ j9 ∧ j10 ≠ j4 ∧ j10 ≠ j5) (r : Bool × (Option Bag) × (Option Bg3)) (H : haulagelaw20_step.f k a1 a6 a11 = some r) : Calls Try.prog 24 #[.pointer p2, .pointer p7, .agg #[.int .i64 a11.Who, .int .i64 a11.Kind, .int .i64 a11.Number, .int .i64 a11.To, .slice A12 a11.Data.length C13]] w0 (fun e w_ => ∃ (c_ : Nat → Nat), e = .returned (.bool r.1) ∧ Ev (fun x => (x = j4 ∨ x = j5 ∨ x = j9 ∨ x = j10)) c0 w0 c_ w_ ∧ CB m c_ w_ ∧ BG j4 j5 c_ w_ p2 r.2.1 ∧ BG3 j9 j10 c_ w_ p7 r.2.2) := by
 unfold haulagelaw20_step.f at H; have B := B0.mono (show m ≤ m + 7 by omega); have E : Ev (fun x => (x = j4 ∨ x = j5 ∨ x = j9 ∨ x = j10) ∨ m ≤ x) c0 w0 c0 w0 := Ev.refl; refine enter (N := 170) (l := [.pointer p2, .pointer p7, .agg #[.int .i64 a11.Who, .int .i64 a11.Kind, .int .i64 a11.Number, .int .i64 a11.To, .slice A12 a11.Data.length C13]]) Try.func24 rfl rfl (nb rfl) fun a F => ?_; refine sr fun K15 hK15 => ?_; refine q_eff F rfl rfl (by decide) (e_box F (v := .agg #[.int .i64 a11.Who, .int .i64 a11.Kind, .int .i64 a11.Number, .int .i64 a11.To, .slice A12 a11.Data.length C13]) rfl c0 (m + 1)) ?_; rintro v w17 a ⟨c16, qa18, rfl, E19, h20, B21⟩ F; replace B := B21 _ B lm; replace h3 := h3.ev E19; replace h8 := h8.ev E19; replace h14 := h14.ev E19; replace E := E.n E19; replace h20 : AT _ _ _ _ _ [.int .i64 a11.Who, .int .i64 a11.Kind, .int .i64 a11.Number, .int .i64 a11.To, .slice A12 a11.Data.length C13] := h20; refine qa F fun a F => nil (hK15 _ _ ?_); refine sq fun K23 hK23 => ?_; have J341 : ∀ (c342 : Nat → Nat) (w343 : World) (a : Act) (o337 : Option Bag) (o340 : Option Bg3), Fr a 170 [(0, .pointer p2), (1, .pointer p7)] → Ev (fun x => (x = j4 ∨ x = j5 ∨ x = j9 ∨ x = j10) ∨ m ≤ x) c0 w0 c342 w343 → CB (m + 7) c342 w343 → BG j4 j5 c342 w343 p2 o337 → BG3 j9 j10 c342 w343 p7 o340 → haulagelaw20_step.j5 o337 o340 = some r → K23 a w343 := by
  intro c342 w343 a o337 o340 F E B h336 h339 H; unfold haulagelaw20_step.j5 at H; refine hK23 _ _ ?_; refine sr fun K344 hK344 => qm F fun a F => ?_; obtain ⟨t345, q346, H⟩ := bind_some H
  as_aux_lemma =>
  refine qc F Try.func10 (bag_Bag_Len.calls (m := m + 7) (pl hm0) B h336 (Nat.lt_add_right _ bj4.2) ⟨bj5.1, (Nat.lt_add_right _ bj5.2.1), bj5.2.2⟩ _ q346) ?_; rintro e w348 ⟨c347, rfl, E349, B⟩; refine rt fun a F => ?_; replace h339 := h339.ev E349; replace E := E.n E349; refine qm F fun a F => ?_; obtain ⟨t352, q353, H⟩ := bind_some H; refine qc F Try.func42 (haulageref20_Bag_Len.calls (m := m + 7) (pl hm0) B h339 (Nat.lt_add_right _ bj9.2.1) ⟨(Nat.lt_add_right _ bj10.2.1), bj10.2.2.1⟩ _ q353) ?_; rintro e w355 ⟨c354, rfl, E356, B⟩; refine rt fun a F => ?_; replace h336 := (h336.ev E349).ev E356; replace h339 := h339.ev E356; replace E := E.n E356; refine qv F (r_eql F rfl rfl) fun a F => ?_; refine qa F fun a F => nil (hK344 _ _ ?_); refine wp_ret ?_; obtain rfl := si H; refine out1 F rfl rfl ?_; exact ⟨cf (ct m) c354, rfl, E.lv B0, cfb, BG.rc h336 cfk cfk cfk (by omega), BG3.rc h339 cfk cfk cfk⟩
 refine sr fun K24 hK24 => qf F ff_53_1 fun a F => ?_; refine ql F ag_3 h20 fun a F => ?_; refine nil (hK24 _ _ ?_)
 as_aux_lemma =>
 refine wp_block ?_; refine sr fun K25 hK25 => ?_; refine qv F (r_eql F rfl rfl) fun a F => ?_; refine qa F fun a F => nil (hK25 _ _ ?_)
 by_cases hb26 : a11.Kind = 0
 ·replace H := ip hb26 H; refine wct (fb F (dt hb26)) ?_; refine sr fun K27 hK27 => qm F fun a F => qf F ff_53_2 fun a F => ?_; refine ql F ag_3 h20 fun a F => ?_; refine qf F ff_53_3 fun a F => ?_; refine ql F ag_3 h20 fun a F => ?_; refine qf F ff_53_4 fun a F => ?_; refine ql F ag_27 h20 fun a F => ?_; obtain ⟨t28, q29, H⟩ := bind_some H; refine qc F Try.func26 (haulageref20_Bag_Send.calls (m := m + 7) (pl hm0) B h8 h14 ⟨bj9.1, (Nat.lt_add_right _ bj9.2.1)⟩ ⟨bj10.1, (Nat.lt_add_right _ bj10.2.1), bj10.2.2.1⟩ _ q29) ?_; rintro e w31 ⟨c30, rfl, E32, B, h34⟩; refine rt fun a F => ?_; replace h3 := h3.ev E32 (nor (Ne.symm bj9.2.2.1) (Ne.symm bj10.2.2.2.1)) (nor (Ne.symm bj9.2.2.2) (Ne.symm bj10.2.2.2.2)) (nor (ne_z bj9.1) (ne_z bj10.1)); replace h14 := h14.ev E32 (nor (ne_z bj9.1) (ne_z bj10.1)) (nor (ne_z bj9.1) (ne_z bj10.1)); replace h20 := h20.ev E32 (nor (ne_mp bj9.2.1) (ne_mp bj10.2.1)); replace E := E.trans E32 (fun x (q : x = j9 ∨ x = j10) => q.elim (fun q => Or.inl (Or.inr (Or.inr (Or.inl q)))) (fun q => Or.inl (Or.inr (Or.inr (Or.inr (q)))))); refine qm F fun a F => ?_; refine qx F fun a F => ?_
  as_aux_lemma =>
  refine qx F fun a F => ?_; refine qa F fun a F => qa F fun a F => nil (hK27 _ _ ?_); replace F : Fr a 170 [(0, .pointer p2), (1, .pointer p7), (5, .pointer (some qa18)), (7, .int .i64 t28.1), (8, .int .i64 t28.2.1)] := F.sub ⟨rfl, rfl, rfl, rfl, rfl, trivial⟩; refine sr fun K36 hK36 => qf F ff_53_4 fun a F => ?_; refine ql F ag_27 h20 fun a F => ?_; obtain ⟨t37, q38, H⟩ := bind_some H; refine qc F Try.func11 (haulagelaw20_lent.calls (m := m + 7) (pl hm0) B h14 (pl hm0) (m + 2) lm _ q38) ?_; rintro e w40 ⟨c39, A43, C44, rfl, E41, B, h45⟩; refine rt fun a F => ?_; replace h3 := h3.ev E41; replace h14 := h14.ev E41; replace h20 := h20.ev E41; replace h34 := h34.ev E41; replace E := E.n E41; refine qa F fun a F => nil (hK36 _ _ ?_); refine sr fun K47 hK47 => qm F fun a F => qf F ff_53_2 fun a F => ?_; refine ql F ag_3 h20 fun a F => ?_; refine qf F ff_53_3 fun a F => ?_; refine ql F ag_3 h20 fun a F => ?_; refine qm F fun a F => ?_; obtain ⟨t48, q49, H⟩ := bind_some H; refine qc F Try.func12 (bag_Bag_Send.calls (m := m + 7) (pl hm0) B h3 (SLM.v h45).r ⟨bj4.1, (Nat.lt_add_right _ bj4.2)⟩ ⟨bj5.1, (Nat.lt_add_right _ bj5.2.1), bj5.2.2⟩ ⟨lm, (ne_mp bj4.2), (ne_mp bj5.2.1)⟩ _ q49) ?_; rintro e w51 ⟨c50, rfl, E52, B, h54⟩
  as_aux_lemma =>
  refine rt fun a F => ?_; replace h14 := h14.ev E52 (nor (ne_z bj4.1) (ne_z bj5.1)) (nor (ne_z bj4.1) (ne_z bj5.1)); replace h20 := h20.ev E52 (nor (ne_mp bj4.2) (ne_mp bj5.2.1)); replace h34 := h34.ev E52 (nor bj9.2.2.1 bj9.2.2.2) (nor bj10.2.2.2.1 bj10.2.2.2.2) (nor (ne_z bj4.1) (ne_z bj5.1)); replace h45 := h45.ev E52 (nor (ne_mp bj4.2) (ne_mp bj5.2.1)) (nor (ne_z bj4.1) (ne_z bj5.1)); replace E := E.trans E52 (fun x (q : x = j4 ∨ x = j5) => q.elim (fun q => Or.inl (Or.inl q)) (fun q => Or.inl (Or.inr (Or.inl q)))); refine qm F fun a F => ?_; refine qx F fun a F => ?_; refine qx F fun a F => ?_; refine qa F fun a F => qa F fun a F => nil (hK47 _ _ ?_); replace F : Fr a 170 [(0, .pointer p2), (1, .pointer p7), (5, .pointer (some qa18)), (7, .int .i64 t28.1), (8, .int .i64 t28.2.1), (9, .slice A43 t37.length C44), (10, .int .i64 t48.1), (11, .int .i64 t48.2.1)] := F.sub ⟨rfl, rfl, rfl, rfl, rfl, rfl, rfl, rfl, trivial⟩; refine sq fun K56 hK56 => ?_; refine sq fun K57 hK57 => ?_; have J75 : ∀ (c76 : Nat → Nat) (w77 : World) (a : Act) (b74 : Bool), Fr a 170 [(0, .pointer p2), (1, .pointer p7), (9, .slice A43 t37.length C44), (67, .bool b74)] → Ev (fun x => (x = j4 ∨ x = j5 ∨ x = j9 ∨ x = j10) ∨ m ≤ x) c0 w0 c76 w77 → CB (m + 7) c76 w77 → BG j4 j5 c76 w77 p2 t48.2.2 → BG3 j9 j10 c76 w77 p7 t28.2.2 → SL true (Kint .u8) (m + 2) 0 c76 w77 A43 C44 (t37 ++ [201, 202, 203]) → haulagelaw20_step.j1 k t28 t37 t48 b74 = some r → K57 a w77 := by
   intro c76 w77 a b74 F E B h54 h34 h45 H; unfold haulagelaw20_step.j1 at H; refine hK57 _ _ ?_
   by_cases hb78 : b74 = true
   ·replace H := ip hb78 H; refine wct (fb F hb78) ?_; refine sr fun K79 hK79 => qa F fun a F => nil (hK79 _ _ ?_); refine wp_ret ?_; refine thenR ?_
    as_aux_lemma =>
    refine inbR ?_; refine thenR ?_; obtain rfl := si H; refine out1 F rfl rfl ?_; exact ⟨cf (ct m) c76, rfl, E.lv B0, cfb, BG.rc h54 cfk cfk cfk (by omega), BG3.rc h34 cfk cfk cfk⟩
   replace H := im hb78 H; refine wcf (fb F (bfalse hb78)) (wp_skip (hK56 _ _ ?_)); refine reg ?_; refine qm F fun a F => ?_; obtain ⟨t80, q81, H⟩ := bind_some H; refine qc F Try.func14 (haulagelaw20_over.calls k (m := m + 7) (pl hm0) B (SLM.v h45) ⟨(pl hm0), lm⟩ _ q81) ?_; rintro e w83 ⟨c82, rfl, E84, B, h86, hl87⟩; refine rt fun a F => ?_; replace h54 := h54.ev E84 (ne_pm bj4.2) (ne_pm bj5.2.1) ne_zm; replace h34 := h34.ev E84 (ne_pm bj9.2.1) (ne_pm bj10.2.1) ne_zm; replace E := E.trans E84 lc1; replace hl87 := hl87.symm; replace F := F.sub (L' := [(0, .pointer p2), (1, .pointer p7), (68, .slice A43 t80.length C44)]) ⟨rfl, rfl, (by rw [← hl87]; rfl), trivial⟩; refine nil ?_; exact J341 c82 w83 a t48.2.2 t28.2.2 (F.sub ⟨rfl, rfl, trivial⟩) E B h54 h34 H
  refine reg ?_; refine qm F fun a F => ?_; obtain ⟨t58, q59, H⟩ := bind_some H
  as_aux_lemma =>
  refine qc F Try.func13 (haulagelaw20_num.calls (m := m + 7) (pl hm0) B _ q59) ?_; rintro e w61 ⟨c60, rfl, E62, B⟩; refine rt fun a F => ?_; replace h14 := h14.ev E62; replace h20 := h20.ev E62; replace h34 := h34.ev E62; replace h45 := h45.ev E62; replace h54 := h54.ev E62; replace E := E.n E62; refine qm F fun a F => ?_; refine qv F (r_neq F rfl rfl) fun a F => ?_; refine qm F fun a F => ?_
  by_cases hb65 : t58 = t28.2.1
  ·replace H := ip hb65 H; refine qy F (congrArg not (dt hb65)) ?_; refine qm F fun a F => ?_; refine qy F (congrArg not (dt hb65)) ?_; refine qm F fun a F => ?_; refine qy F (congrArg not (dt hb65)) ?_; refine qv F (r_neq F rfl rfl) fun a F => ?_; refine qv F (r_pick_f F rfl (congrArg not (dt hb65)) rfl) fun a F => ?_; refine qm F fun a F => ?_
   by_cases hb66 : t48.1 = t28.1
   ·replace H := ip hb66 H
    as_aux_lemma =>
    refine qy F (congrArg not (dt hb66)) ?_; refine qm F fun a F => ?_; refine qy F (congrArg not (dt hb66)) ?_; refine qf F ff_53_4 fun a F => ?_; refine qy F (congrArg not (dt hb66)) ?_; refine ql F ag_27 h20 fun a F => ?_; obtain ⟨t67, q68, H⟩ := bind_some H; refine qy F (congrArg not (dt hb66)) ?_; refine qc F Try.func37 (haulagelaw20_kept.calls k (m := m + 7) (pl hm0) B h45.r h14 lm (pl hm0) _ q68) ?_; rintro e w70 ⟨c69, rfl, E71, B⟩; refine rt fun a F => ?_; replace h34 := h34.ev E71; replace h45 := h45.ev E71; replace h54 := h54.ev E71; replace E := E.n E71; refine qy F (congrArg not (dt hb66)) ?_; refine qv F (r_not F rfl) fun a F => ?_; refine qv F (r_pick_f F rfl (congrArg not (dt hb66)) rfl) fun a F => ?_; refine nil ?_; exact J75 c69 w70 a (!t67) (F.sub ⟨rfl, rfl, rfl, rfl, trivial⟩) E B h54 h34 h45 H
   replace H := im hb66 H; refine qn F (congrArg not (dz hb66)) fun a F => qn F (congrArg not (dz hb66)) fun a F => qn F (congrArg not (dz hb66)) fun a F => qn F (congrArg not (dz hb66)) fun a F => qn F (congrArg not (dz hb66)) fun a F => ?_
   as_aux_lemma =>
   refine qv F (r_pick_t F rfl (congrArg not (dz hb66)) rfl) fun a F => ?_; refine nil ?_; exact J75 c60 w61 a true (F.sub ⟨rfl, rfl, rfl, rfl, trivial⟩) E B h54 h34 h45 H
  replace H := im hb65 H; refine qn F (congrArg not (dz hb65)) fun a F => qn F (congrArg not (dz hb65)) fun a F => qn F (congrArg not (dz hb65)) fun a F => ?_; refine qv F (r_pick_t F rfl (congrArg not (dz hb65)) rfl) fun a F => ?_; refine qm F fun a F => qn F rfl fun a F => qn F rfl fun a F => qn F rfl fun a F => qn F rfl fun a F => qn F rfl fun a F => ?_; refine qt F fun a F => ?_; refine nil ?_; exact J75 c60 w61 a true (F.sub ⟨rfl, rfl, rfl, rfl, trivial⟩) E B h54 h34 h45 H
 replace H := im hb26 H; refine wcf (fb F (dz hb26)) ?_; refine sr fun K89 hK89 => ?_; refine qv F (r_eql F rfl rfl) fun a F => ?_; refine qa F fun a F => nil (hK89 _ _ ?_)
 by_cases hb90 : a11.Kind = 1
 ·replace H := ip hb90 H; refine wct (fb F (dt hb90)) ?_; refine sr fun K91 hK91 => qm F fun a F => qf F ff_53_2 fun a F => ?_; refine ql F ag_3 h20 fun a F => ?_; obtain ⟨t92, q93, H⟩ := bind_some H; refine qc F Try.func38 (haulageref20_Bag_Deliver.calls k (m := m + 7) (pl hm0) B h8 ⟨bj9.1, (Nat.lt_add_right _ bj9.2.1)⟩ ⟨bj10.1, (Nat.lt_add_right _ bj10.2.1), bj10.2.2.1⟩ _ q93) ?_; rintro e w95 ⟨c94, A98, C99, rfl, E96, B, h100, h101⟩
  as_aux_lemma =>
  refine rt fun a F => ?_; replace h3 := h3.ev E96 (nor (Ne.symm bj9.2.2.1) (Ne.symm bj10.2.2.2.1)) (nor (Ne.symm bj9.2.2.2) (Ne.symm bj10.2.2.2.2)) (nor (ne_z bj9.1) (ne_z bj10.1)); replace h20 := h20.ev E96 (nor (ne_mp bj9.2.1) (ne_mp bj10.2.1)); replace E := E.trans E96 (fun x (q : x = j9 ∨ x = j10) => q.elim (fun q => Or.inl (Or.inr (Or.inr (Or.inl q)))) (fun q => Or.inl (Or.inr (Or.inr (Or.inr (q)))))); refine qm F fun a F => ?_; refine qx F fun a F => ?_; refine qx F fun a F => ?_; refine q_eff F rfl rfl (by decide) (e_alloc F zv_40 c94 (m + 3)) ?_; rintro v w104 a ⟨c103, qa105, rfl, E106, h107, B108⟩ F; replace B := B108 _ B lm; replace h3 := h3.ev E106; replace h101 := h101.ev E106; replace E := E.n E106; replace h107 : AT _ _ _ _ _ [.int .i64 0, .int .i64 0, .int .i64 0, .slice none 0 0] := h107; refine q_eff0 F rfl rfl (e_storeN0 (us := [.int .i64 t92.1.Number, .int .i64 t92.1.From, .int .i64 t92.1.To, .slice A98 t92.1.Data.length C99]) F rfl rfl sz_40 h107 (nb rfl) (one_all rfl)) ?_; rintro w110 a ⟨E111, h107, Z112⟩ F; replace B := B.size Z112; replace h3 := h3.ev E111 (ne_pm bj4.2) (ne_pm bj5.2.1) ne_zm; replace h20 := (h20.ev E106).ev E111; replace h100 := (h100.ev E106).ev E111; replace h101 := h101.ev E111 (ne_pm bj9.2.1) (ne_pm bj10.2.1) ne_zm; replace E := E.trans E111 lc1
  as_aux_lemma =>
  replace h107 : AT _ _ _ _ _ [.int .i64 t92.1.Number, .int .i64 t92.1.From, .int .i64 t92.1.To, .slice A98 t92.1.Data.length C99] := h107; refine qa F fun a F => nil (hK91 _ _ ?_); replace F : Fr a 170 [(0, .pointer p2), (1, .pointer p7), (5, .pointer (some qa18)), (12, .pointer (some qa105)), (13, .int .i64 t92.2.1)] := F.sub ⟨rfl, rfl, rfl, rfl, rfl, trivial⟩; refine sr fun K113 hK113 => qm F fun a F => qf F ff_53_2 fun a F => ?_; refine ql F ag_3 h20 fun a F => ?_; obtain ⟨t114, q115, H⟩ := bind_some H; refine qc F Try.func18 (bag_Bag_Deliver.calls (m := m + 7) (pl hm0) B h3 ⟨bj4.1, (Nat.lt_add_right _ bj4.2)⟩ ⟨bj5.1, (Nat.lt_add_right _ bj5.2.1), bj5.2.2⟩ (m + 4) lm _ q115) ?_; rintro e w117 ⟨c116, A120, C121, rfl, E118, B, h122, h123⟩; refine rt fun a F => ?_; replace h100 := h100.ev E118 (nor (ne_z bj4.1) (ne_z bj5.1)) (nor (ne_z bj4.1) (ne_z bj5.1)); replace h101 := h101.ev E118 (nor bj9.2.2.1 bj9.2.2.2) (nor bj10.2.2.2.1 bj10.2.2.2.2) (nor (ne_z bj4.1) (ne_z bj5.1)); replace h107 := h107.ev E118 (nor (ne_mp bj4.2) (ne_mp bj5.2.1)); replace E := E.trans E118 (fun x (q : x = j4 ∨ x = j5) => q.elim (fun q => Or.inl (Or.inl q)) (fun q => Or.inl (Or.inr (Or.inl q)))); refine qm F fun a F => ?_; refine qx F fun a F => ?_; refine qx F fun a F => ?_; refine q_eff F rfl rfl (by decide) (e_alloc F zv_40 c116 (m + 5)) ?_; rintro v w126 a ⟨c125, qa127, rfl, E128, h129, B130⟩ F; replace B := B130 _ B lm; replace h101 := h101.ev E128; replace h123 := h123.ev E128; replace E := E.n E128
  as_aux_lemma =>
  replace h129 : AT _ _ _ _ _ [.int .i64 0, .int .i64 0, .int .i64 0, .slice none 0 0] := h129; refine q_eff0 F rfl rfl (e_storeN0 (us := [.int .i64 t114.1.Number, .int .i64 t114.1.From, .int .i64 t114.1.To, .slice A120 t114.1.Data.length C121]) F rfl rfl sz_40 h129 (nb rfl) (one_all rfl)) ?_; rintro w132 a ⟨E133, h129, Z134⟩ F; replace B := B.size Z134; replace h101 := h101.ev E133 (ne_pm bj9.2.1) (ne_pm bj10.2.1) ne_zm; replace h122 := (h122.ev E128).ev E133; replace h123 := h123.ev E133 (ne_pm bj4.2) (ne_pm bj5.2.1) ne_zm; replace E := E.trans E133 lc1; replace h129 : AT _ _ _ _ _ [.int .i64 t114.1.Number, .int .i64 t114.1.From, .int .i64 t114.1.To, .slice A120 t114.1.Data.length C121] := h129; refine qa F fun a F => nil (hK113 _ _ ?_); replace F : Fr a 170 [(0, .pointer p2), (1, .pointer p7), (12, .pointer (some qa105)), (13, .int .i64 t92.2.1), (14, .pointer (some qa127)), (15, .int .i64 t114.2.1)] := F.sub ⟨rfl, rfl, rfl, rfl, rfl, rfl, trivial⟩; refine sq fun K135 hK135 => ?_; refine sq fun K136 hK136 => ?_; have J153 : ∀ (c154 : Nat → Nat) (w155 : World) (a : Act) (b152 : Bool), Fr a 170 [(0, .pointer p2), (1, .pointer p7), (14, .pointer (some qa127)), (95, .bool b152)] → Ev (fun x => (x = j4 ∨ x = j5 ∨ x = j9 ∨ x = j10) ∨ m ≤ x) c0 w0 c154 w155 → CB (m + 7) c154 w155 → AT true (m + 5) c154 w155 qa127 [.int .i64 t114.1.Number, .int .i64 t114.1.From, .int .i64 t114.1.To, .slice A120 t114.1.Data.length C121] → BG j4 j5 c154 w155 p2 t114.2.2 → BG3 j9 j10 c154 w155 p7 t92.2.2 → SL true (Kint .u8) (m + 4) 0 c154 w155 A120 C121 t114.1.Data → haulagelaw20_step.j2 k t92 t114 b152 = some r → K136 a w155 := by
   intro c154 w155 a b152 F E B h129 h123 h101 h122 H; unfold haulagelaw20_step.j2 at H; refine hK136 _ _ ?_
   by_cases hb156 : b152 = true
   ·replace H := ip hb156 H; refine wct (fb F hb156) ?_; refine sr fun K157 hK157 => qa F fun a F => nil (hK157 _ _ ?_); refine wp_ret ?_; refine thenR ?_
    as_aux_lemma =>
    refine inbR ?_; refine thenR ?_; obtain rfl := si H; refine out1 F rfl rfl ?_; exact ⟨cf (ct m) c154, rfl, E.lv B0, cfb, BG.rc h123 cfk cfk cfk (by omega), BG3.rc h101 cfk cfk cfk⟩
   replace H := im hb156 H; refine wcf (fb F (bfalse hb156)) (wp_skip (hK135 _ _ ?_)); refine reg ?_; refine qf F ff_40_3 fun a F => ?_; refine ql F ag_27 h129 fun a F => ?_; obtain ⟨t158, q159, H⟩ := bind_some H; refine qc F Try.func14 (haulagelaw20_over.calls k (m := m + 7) (pl hm0) B h122 ⟨(pl hm0), lm⟩ _ q159) ?_; rintro e w161 ⟨c160, rfl, E162, B, h164, hl165⟩; refine rt fun a F => ?_; replace h129 := h129.ev E162; replace h123 := h123.ev E162 (ne_pm bj4.2) (ne_pm bj5.2.1) ne_zm; replace h101 := h101.ev E162 (ne_pm bj9.2.1) (ne_pm bj10.2.1) ne_zm; replace E := E.trans E162 lc1; replace hl165 := hl165.symm; have h129 : AT true (m + 5) c160 w161 qa127 [.int .i64 t114.1.Number, .int .i64 t114.1.From, .int .i64 t114.1.To, .slice A120 t158.length C121] := by rw [← hl165]; exact h129
   replace F := F.sub (L' := [(0, .pointer p2), (1, .pointer p7), (97, .slice A120 t158.length C121)]) ⟨rfl, rfl, (by rw [← hl165]; rfl), trivial⟩; refine nil ?_; exact J341 c160 w161 a t114.2.2 t92.2.2 (F.sub ⟨rfl, rfl, trivial⟩) E B h123 h101 H
  as_aux_lemma =>
  refine reg ?_; refine qm F fun a F => ?_; obtain ⟨t137, q138, H⟩ := bind_some H; refine qc F Try.func13 (haulagelaw20_num.calls (m := m + 7) (pl hm0) B _ q138) ?_; rintro e w140 ⟨c139, rfl, E141, B⟩; refine rt fun a F => ?_; replace h100 := ((h100.ev E128).ev E133).ev E141; replace h101 := h101.ev E141; replace h107 := ((h107.ev E128).ev E133).ev E141; replace h122 := h122.ev E141; replace h123 := h123.ev E141; replace h129 := h129.ev E141; replace E := E.n E141; refine qm F fun a F => ?_; refine qv F (r_neq F rfl rfl) fun a F => ?_; refine qm F fun a F => ?_
  by_cases hb144 : t137 = t92.2.1
  ·replace H := ip hb144 H; refine qy F (congrArg not (dt hb144)) ?_; refine qv F (r_loads (cs := [.int .i64 t114.1.Number, .int .i64 t114.1.From, .int .i64 t114.1.To, .slice A120 t114.1.Data.length C121]) F rfl ag_40 sz_40 h129) fun a F => ?_; refine qy F (congrArg not (dt hb144)) ?_; refine qv F (r_loads (cs := [.int .i64 t92.1.Number, .int .i64 t92.1.From, .int .i64 t92.1.To, .slice A98 t92.1.Data.length C99]) F rfl ag_40 sz_40 h107) fun a F => ?_; obtain ⟨t145, q146, H⟩ := bind_some H
   as_aux_lemma =>
   refine qy F (congrArg not (dt hb144)) ?_; refine qc F Try.func28 (haulagelaw20_alike.calls k (m := m + 7) (pl hm0) B h122.r h100 lm (pl hm0) _ q146) ?_; rintro e w148 ⟨c147, rfl, E149, B⟩; refine rt fun a F => ?_; replace h101 := h101.ev E149; replace h122 := h122.ev E149; replace h123 := h123.ev E149; replace h129 := h129.ev E149; replace E := E.n E149; refine qy F (congrArg not (dt hb144)) ?_; refine qv F (r_not F rfl) fun a F => ?_; refine qv F (r_pick_f F rfl (congrArg not (dt hb144)) rfl) fun a F => ?_; refine nil ?_; exact J153 c147 w148 a (!t145) (F.sub ⟨rfl, rfl, rfl, rfl, trivial⟩) E B h129 h123 h101 h122 H
  replace H := im hb144 H; refine qn F (congrArg not (dz hb144)) fun a F => qn F (congrArg not (dz hb144)) fun a F => qn F (congrArg not (dz hb144)) fun a F => qn F (congrArg not (dz hb144)) fun a F => ?_; refine qv F (r_pick_t F rfl (congrArg not (dz hb144)) rfl) fun a F => ?_; refine nil ?_; exact J153 c139 w140 a true (F.sub ⟨rfl, rfl, rfl, rfl, trivial⟩) E B h129 h123 h101 h122 H
 replace H := im hb90 H; refine wcf (fb F (dz hb90)) ?_; refine sr fun K167 hK167 => ?_
 as_aux_lemma =>
 refine qv F (r_eql F rfl rfl) fun a F => ?_; refine qa F fun a F => nil (hK167 _ _ ?_); replace F : Fr a 170 [(0, .pointer p2), (1, .pointer p7), (5, .pointer (some qa18)), (25, .int .i64 a11.Kind), (99, .bool (decide (a11.Kind = 2)))] := F.sub ⟨rfl, rfl, rfl, rfl, rfl, trivial⟩
 by_cases hb168 : a11.Kind = 2
 ·replace H := ip hb168 H; refine wct (fb F (dt hb168)) ?_; refine sr fun K169 hK169 => qm F fun a F => qf F ff_53_2 fun a F => ?_; refine ql F ag_3 h20 fun a F => ?_; obtain ⟨t170, q171, H⟩ := bind_some H; refine qc F Try.func39 (haulageref20_Bag_Drop.calls k (m := m + 7) (pl hm0) B h8 ⟨bj9.1, (Nat.lt_add_right _ bj9.2.1)⟩ ⟨bj10.1, (Nat.lt_add_right _ bj10.2.1), bj10.2.2.1⟩ _ q171) ?_; rintro e w173 ⟨c172, rfl, E174, B, h176⟩; refine rt fun a F => ?_; replace h3 := h3.ev E174 (nor (Ne.symm bj9.2.2.1) (Ne.symm bj10.2.2.2.1)) (nor (Ne.symm bj9.2.2.2) (Ne.symm bj10.2.2.2.2)) (nor (ne_z bj9.1) (ne_z bj10.1)); replace h20 := h20.ev E174 (nor (ne_mp bj9.2.1) (ne_mp bj10.2.1)); replace E := E.trans E174 (fun x (q : x = j9 ∨ x = j10) => q.elim (fun q => Or.inl (Or.inr (Or.inr (Or.inl q)))) (fun q => Or.inl (Or.inr (Or.inr (Or.inr (q)))))); refine qa F fun a F => nil (hK169 _ _ ?_); refine sr fun K178 hK178 => qm F fun a F => qf F ff_53_2 fun a F => ?_; refine ql F ag_3 h20 fun a F => ?_; obtain ⟨t179, q180, H⟩ := bind_some H; refine qc F Try.func27 (bag_Bag_Drop.calls (m := m + 7) (pl hm0) B h3 ⟨bj4.1, (Nat.lt_add_right _ bj4.2)⟩ ⟨bj5.1, (Nat.lt_add_right _ bj5.2.1), bj5.2.2⟩ _ q180) ?_; rintro e w182 ⟨c181, rfl, E183, B, h185⟩; refine rt fun a F => ?_; replace h176 := h176.ev E183 (nor bj9.2.2.1 bj9.2.2.2) (nor bj10.2.2.2.1 bj10.2.2.2.2) (nor (ne_z bj4.1) (ne_z bj5.1))
  as_aux_lemma =>
  replace E := E.trans E183 (fun x (q : x = j4 ∨ x = j5) => q.elim (fun q => Or.inl (Or.inl q)) (fun q => Or.inl (Or.inr (Or.inl q)))); refine qa F fun a F => nil (hK178 _ _ ?_); replace F : Fr a 170 [(16, .int .i64 t170.1), (17, .int .i64 t179.1)] := F.sub ⟨rfl, rfl, trivial⟩; refine sr fun K187 hK187 => qm F fun a F => ?_; obtain ⟨t188, q189, H⟩ := bind_some H; refine qc F Try.func13 (haulagelaw20_num.calls (m := m + 7) (pl hm0) B _ q189) ?_; rintro e w191 ⟨c190, rfl, E192, B⟩; refine rt fun a F => ?_; replace h176 := h176.ev E192; replace h185 := h185.ev E192; replace E := E.n E192; refine qm F fun a F => ?_; refine qv F (r_eql F rfl rfl) fun a F => ?_; refine qa F fun a F => nil (hK187 _ _ ?_); refine wp_ret ?_; refine inbR ?_; refine thenR ?_; obtain rfl := si H; refine out1 F rfl rfl ?_; exact ⟨cf (ct m) c190, rfl, E.lv B0, cfb, BG.rc h185 cfk cfk cfk (by omega), BG3.rc h176 cfk cfk cfk⟩
 replace H := im hb168 H; refine wcf (fb F (dz hb168)) ?_
 as_aux_lemma =>
 refine sr fun K195 hK195 => ?_; refine qv F (r_eql F rfl rfl) fun a F => ?_; refine qa F fun a F => nil (hK195 _ _ ?_)
 by_cases hb196 : a11.Kind = 3
 ·replace H := ip hb196 H; refine wct (fb F (dt hb196)) ?_; refine sr fun K197 hK197 => qm F fun a F => qf F ff_53_2 fun a F => ?_; refine ql F ag_3 h20 fun a F => ?_; obtain ⟨t198, q199, H⟩ := bind_some H; refine qc F Try.func40 (haulageref20_Bag_Twice.calls k (m := m + 7) (pl hm0) B h8 ⟨bj9.1, (Nat.lt_add_right _ bj9.2.1)⟩ ⟨bj10.1, (Nat.lt_add_right _ bj10.2.1), bj10.2.2.1⟩ _ q199) ?_; rintro e w201 ⟨c200, rfl, E202, B, h204⟩; refine rt fun a F => ?_; replace h3 := h3.ev E202 (nor (Ne.symm bj9.2.2.1) (Ne.symm bj10.2.2.2.1)) (nor (Ne.symm bj9.2.2.2) (Ne.symm bj10.2.2.2.2)) (nor (ne_z bj9.1) (ne_z bj10.1)); replace h20 := h20.ev E202 (nor (ne_mp bj9.2.1) (ne_mp bj10.2.1)); replace E := E.trans E202 (fun x (q : x = j9 ∨ x = j10) => q.elim (fun q => Or.inl (Or.inr (Or.inr (Or.inl q)))) (fun q => Or.inl (Or.inr (Or.inr (Or.inr (q)))))); refine qm F fun a F => ?_; refine qx F fun a F => ?_; refine qx F fun a F => ?_; refine qa F fun a F => qa F fun a F => nil (hK197 _ _ ?_); replace F : Fr a 170 [(0, .pointer p2), (5, .pointer (some qa18)), (18, .int .i64 t198.1), (19, .int .i64 t198.2.1)] := F.sub ⟨rfl, rfl, rfl, rfl, trivial⟩; refine sr fun K206 hK206 => qm F fun a F => qf F ff_53_2 fun a F => ?_; refine ql F ag_3 h20 fun a F => ?_; obtain ⟨t207, q208, H⟩ := bind_some H
  as_aux_lemma =>
  refine qc F Try.func17 (bag_Bag_Twice.calls (m := m + 7) (pl hm0) B h3 ⟨bj4.1, (Nat.lt_add_right _ bj4.2)⟩ ⟨bj5.1, (Nat.lt_add_right _ bj5.2.1), bj5.2.2⟩ _ q208) ?_; rintro e w210 ⟨c209, rfl, E211, B, h213⟩; refine rt fun a F => ?_; replace h204 := h204.ev E211 (nor bj9.2.2.1 bj9.2.2.2) (nor bj10.2.2.2.1 bj10.2.2.2.2) (nor (ne_z bj4.1) (ne_z bj5.1)); replace E := E.trans E211 (fun x (q : x = j4 ∨ x = j5) => q.elim (fun q => Or.inl (Or.inl q)) (fun q => Or.inl (Or.inr (Or.inl q)))); refine qm F fun a F => ?_; refine qx F fun a F => ?_; refine qx F fun a F => ?_; refine qa F fun a F => qa F fun a F => nil (hK206 _ _ ?_); replace F : Fr a 170 [(18, .int .i64 t198.1), (19, .int .i64 t198.2.1), (20, .int .i64 t207.1), (21, .int .i64 t207.2.1)] := F.sub ⟨rfl, rfl, rfl, rfl, trivial⟩; refine sr fun K215 hK215 => qm F fun a F => ?_; obtain ⟨t216, q217, H⟩ := bind_some H; refine qc F Try.func13 (haulagelaw20_num.calls (m := m + 7) (pl hm0) B _ q217) ?_; rintro e w219 ⟨c218, rfl, E220, B⟩; refine rt fun a F => ?_; replace h204 := h204.ev E220; replace h213 := h213.ev E220; replace E := E.n E220; refine qm F fun a F => ?_; refine qv F (r_eql F rfl rfl) fun a F => ?_; refine qm F fun a F => ?_
  by_cases hb223 : t216 = t198.2.1
  ·replace H := ip hb223 H
   as_aux_lemma =>
   refine qy F (dt hb223) ?_; refine qm F fun a F => ?_; refine qy F (dt hb223) ?_; refine qm F fun a F => ?_; refine qy F (dt hb223) ?_; refine qv F (r_eql F rfl rfl) fun a F => ?_; refine qv F (r_pick_t F rfl (dt hb223) rfl) fun a F => ?_; refine qa F fun a F => nil (hK215 _ _ ?_); replace F : Fr a 170 [(6, .bool (decide (t207.1 = t198.1)))] := F.sub ⟨rfl, trivial⟩; refine wp_ret ?_; refine inbR ?_; refine thenR ?_; obtain rfl := si H; refine out1 F rfl rfl ?_; exact ⟨cf (ct m) c218, rfl, E.lv B0, cfb, BG.rc h213 cfk cfk cfk (by omega), BG3.rc h204 cfk cfk cfk⟩
  replace H := im hb223 H; refine qn F (dz hb223) fun a F => qn F (dz hb223) fun a F => qn F (dz hb223) fun a F => ?_; refine qv F (r_pick_f F rfl (dz hb223) rfl) fun a F => ?_; refine qa F fun a F => nil (hK215 _ _ ?_); replace F : Fr a 170 [(6, .bool false)] := F.sub ⟨rfl, trivial⟩; refine wp_ret ?_; refine inbR ?_
  as_aux_lemma =>
  refine thenR ?_; obtain rfl := si H; refine out1 F rfl rfl ?_; exact ⟨cf (ct m) c218, rfl, E.lv B0, cfb, BG.rc h213 cfk cfk cfk (by omega), BG3.rc h204 cfk cfk cfk⟩
 replace H := im hb196 H; refine wcf (fb F (dz hb196)) ?_; refine sr fun K224 hK224 => ?_; refine qv F (r_eql F rfl rfl) fun a F => ?_; refine qa F fun a F => nil (hK224 _ _ ?_)
 by_cases hb225 : a11.Kind = 4
 ·replace H := ip hb225 H; refine wct (fb F (dt hb225)) ?_; refine sr fun K226 hK226 => qm F fun a F => qm F fun a F => ?_; obtain ⟨t227, q228, H⟩ := bind_some H; refine qc F Try.func25 (haulagelaw20_told.calls k (m := m + 7) (pl hm0) B h3 h8 (Nat.lt_add_right _ bj4.2) ⟨bj5.1, (Nat.lt_add_right _ bj5.2.1), bj5.2.2⟩ (Nat.lt_add_right _ bj9.2.1) ⟨(Nat.lt_add_right _ bj10.2.1), bj10.2.2.1⟩ _ q228) ?_; rintro e w230 ⟨c229, rfl, E231, B⟩; refine rt fun a F => ?_; replace h3 := h3.ev E231; replace h8 := h8.ev E231; replace E := E.n E231; refine qa F fun a F => nil (hK226 _ _ ?_); replace F : Fr a 170 [(6, .bool t227)] := F.sub ⟨rfl, trivial⟩; refine wp_ret ?_
  as_aux_lemma =>
  refine inbR ?_; refine thenR ?_; obtain rfl := si H; refine out1 F rfl rfl ?_; exact ⟨cf (ct m) c229, rfl, E.lv B0, cfb, BG.rc h3 cfk cfk cfk (by omega), BG3.rc h8 cfk cfk cfk⟩
 replace H := im hb225 H; refine wcf (fb F (dz hb225)) ?_; refine sr fun K234 hK234 => ?_; refine qv F (r_eql F rfl rfl) fun a F => ?_; refine qa F fun a F => nil (hK234 _ _ ?_)
 by_cases hb235 : a11.Kind = 5
 ·replace H := ip hb235 H; refine wct (fb F (dt hb235)) ?_; refine sr fun K236 hK236 => qm F fun a F => qf F ff_53_3 fun a F => ?_; refine ql F ag_3 h20 fun a F => ?_; obtain ⟨t237, q238, H⟩ := bind_some H; refine qc F Try.func16 (bag_Bag_For.calls (m := m + 7) (pl hm0) B h3 (by omega) (by omega) (m + 6) lm _ q238) ?_; rintro e w240 ⟨c239, A243, C244, rfl, E241, B, h245⟩; refine rt fun a F => ?_; replace h8 := h8.ev E241; replace h20 := h20.ev E241; replace E := E.n E241; refine qa F fun a F => nil (hK236 _ _ ?_); replace F : Fr a 170 [(0, .pointer p2), (1, .pointer p7), (5, .pointer (some qa18)), (22, .slice A243 t237.length C244)] := F.sub ⟨rfl, rfl, rfl, rfl, trivial⟩
  as_aux_lemma =>
  refine sq fun K247 hK247 => ?_; refine sr fun K248 hK248 => qm F fun a F => qm F fun a F => qf F ff_53_3 fun a F => ?_; refine ql F ag_3 h20 fun a F => ?_; obtain ⟨t249, q250, H⟩ := bind_some H; refine qc F Try.func41 (haulageref20_Bag_For.calls k (m := m + 7) (pl hm0) B h8 (Nat.lt_add_right _ bj9.2.1) ⟨(Nat.lt_add_right _ bj10.2.1), bj10.2.2.1⟩ 0 (pl hm0) _ q250) ?_; rintro e w252 ⟨c251, A255, C256, rfl, E253, B, h257⟩; refine rt fun a F => ?_; replace h245 := h245.ev E253; replace E := E.n E253; obtain ⟨t259, q260, H⟩ := bind_some H; refine qc F Try.func20 (haulagelaw20_ints.calls k (m := m + 7) (pl hm0) B h245.r h257.r lm (pl hm0) _ q260) ?_; rintro e w262 ⟨c261, rfl, E263, B⟩; refine rt fun a F => ?_; replace h3 := ((h3.ev E241).ev E253).ev E263; replace h8 := (h8.ev E253).ev E263; replace h245 := h245.ev E263; replace E := E.n E263; refine qv F (r_not F rfl) fun a F => ?_; refine nil (hK248 _ _ ?_)
  by_cases hb266 : t259 = true
  ·replace H := ip hb266 H; refine wcf (fb F (congrArg not hb266)) (wp_skip (hK247 _ _ ?_)); replace F : Fr a 170 [(0, .pointer p2), (1, .pointer p7), (22, .slice A243 t237.length C244)] := F.sub ⟨rfl, rfl, rfl, trivial⟩
   as_aux_lemma =>
   refine sr fun K268 hK268 => qa F fun a F => nil (hK268 _ _ ?_); refine wp_block ?_; obtain ⟨x310, HL, HR309⟩ := bind_some H; have J332 : ∀ (c333 : Nat → Nat) (w334 : World) (a : Act), Fr a 170 [(0, .pointer p2), (1, .pointer p7)] → Ev (fun x => (x = j4 ∨ x = j5 ∨ x = j9 ∨ x = j10) ∨ m ≤ x) c0 w0 c333 w334 → CB (m + 7) c333 w334 → BG j4 j5 c333 w334 p2 a1 → BG3 j9 j10 c333 w334 p7 a6 → haulagelaw20_step.j4 a1 a6 = some r → K23 a w334 := by
    intro c333 w334 a  F E B h3 h8 H; unfold haulagelaw20_step.j4 at H; exact J341 c333 w334 a a1 a6 (F.sub ⟨rfl, rfl, trivial⟩) E B h3 h8 H
   refine loop_fuel (I := fun n a w => ∃ (l299 : List Int) (A296 : Option Addr) (C297 : Nat) (i300 : Int) (c : Nat → Nat), Fr a 170 [(0, .pointer p2), (1, .pointer p7), (22, .slice A296 l299.length C297), (23, .int .i64 i300)] ∧ Ev (fun x => (x = j4 ∨ x = j5 ∨ x = j9 ∨ x = j10) ∨ m ≤ x) c0 w0 c w ∧ CB (m + 7) c w ∧ BG j4 j5 c w p2 a1 ∧ BG3 j9 j10 c w p7 a6 ∧ SL true (Kint .i64) (m + 6) 0 c w A296 C297 l299 ∧ loop (fun (s_ : (List Int) × Int) => haulagelaw20_step.b3 s_.1 s_.2) n (l299, i300) = some x310) (k := k) ⟨t237, A243, C244, 0, c261, F.sub ⟨rfl, rfl, rfl, rfl, trivial⟩, E, B, h3, h8, h245, HL⟩ ?_; clear HL H E F B; intro n307 X303 hX303 a w302 ⟨l299, A296, C297, i300, c301, F, E, B, h3, h8, h298, HL⟩; obtain ⟨n308, ctl306, rfl, HB, HN304, HD305⟩ := loop_some HL; have H : haulagelaw20_step.b3 l299 i300 = some ctl306 := HB; clear HB HL; unfold haulagelaw20_step.b3 at H; refine sq fun K311 hK311 => ?_; refine sr fun K312 hK312 => qm F fun a F => qm F fun a F => ?_; refine qv F (r_lensl F Try.underlying36 rfl) fun a F => ?_; refine qv F (r_lss F rfl rfl) fun a F => ?_; refine nil (hK312 _ _ ?_)
   by_cases hb313 : i300 < (l299.length : Int)
   ·replace H := ip hb313 H; refine wct (fb F (dt hb313)) (wp_skip (hK311 _ _ ?_)); refine sq fun K314 hK314 => ?_
    as_aux_lemma =>
    refine wp_block ?_; refine reg ?_; refine qm F fun a F => qm F fun a F => ?_; replace H := ifN H; obtain ⟨g315, H⟩ := H; obtain ⟨ad316, cs317, e318, h319, r320⟩ := SL.at h298 i300 g315.1 g315.2; obtain rfl : cs317 = [.int .i64 (rd l299 i300)] := r320; obtain ⟨qa321, qqa321⟩ : ∃ q, q = (ad316.add (i300.toNat * 1)) := ⟨_, rfl⟩; have h319 : AT true (m + 6) c301 w302 qa321 [.int .i64 (rd l299 i300)] := by rw [qqa321]; exact h319
    refine qv F (r_indexAddr' F Try.underlying36 sz_3 rfl rfl g315.1 g315.2 e318 qqa321) fun a F => ?_; refine q_eff0 F rfl rfl (e_storeel0 (k := (Kint .i64)) F rfl rfl sz_3 h298 g315.1 g315.2 e318 qqa321 h319 rfl (nb rfl) rfl (-1) rfl ne_zm) ?_; rintro w323 a ⟨E324, h298, Z325⟩ F; replace B := B.size Z325; replace h3 := h3.ev E324 (ne_pm bj4.2) (ne_pm bj5.2.1) ne_zm; replace h8 := h8.ev E324 (ne_pm bj9.2.1) (ne_pm bj10.2.1) ne_zm; replace E := E.trans E324 lc1; have hl326 : l299.length = (l299.set i300.toNat (-1)).length := by simp
    replace F := F.sub (L' := [(0, .pointer p2), (1, .pointer p7), (22, .slice A296 (l299.set i300.toNat (-1)).length C297), (23, .int .i64 i300)]) ⟨rfl, rfl, (by rw [← hl326]; rfl), rfl, trivial⟩; refine nil (hK314 _ _ ?_); refine reg ?_; refine qm F fun a F => ?_; refine qv F (r_add F rfl rfl) fun a F => ?_
    as_aux_lemma =>
    refine qa F fun a F => nil ?_; replace H := HN304 _ (si H).symm; exact hX303 _ _ _ (Nat.lt_succ_self _) ⟨(l299.set i300.toNat (-1)), A296, C297, (IntKind.i64.wrap (i300 + 1)), c301, F.sub ⟨rfl, rfl, rfl, rfl, trivial⟩, E, B, h3, h8, h298, H⟩
   replace H := im hb313 H; refine wcf (fb F (dz hb313)) ?_; refine wp_exit ?_; refine thenE ?_; refine thenE ?_; refine inbE ?_; have hx_ := HD305 _ (si H).symm; have H := HR309; exact J332 c301 w302 a  (F.sub ⟨rfl, rfl, trivial⟩) E B h3 h8 H
  replace H := im hb266 H; refine wct (fb F (congrArg not (bfalse hb266))) ?_; refine sr fun K267 hK267 => qa F fun a F => nil (hK267 _ _ ?_); replace F : Fr a 170 [(6, .bool false)] := F.sub ⟨rfl, trivial⟩; refine wp_ret ?_; refine thenR ?_; refine inbR ?_; refine thenR ?_; obtain rfl := si H; refine out1 F rfl rfl ?_; exact ⟨cf (ct m) c261, rfl, E.lv B0, cfb, BG.rc h3 cfk cfk cfk (by omega), BG3.rc h8 cfk cfk cfk⟩
 as_aux_lemma =>
 replace H := im hb235 H; refine wcf (fb F (dz hb235)) ?_; refine wp_skip ?_; exact J341 c16 w17 a a1 a6 (F.sub ⟨rfl, rfl, trivial⟩) E B h3 h8 H
theorem haulageref20_New.calls {m : Nat} {c0 : Nat → Nat} {w0 : World} (hm0 : 0 < m) (B0 : CB m c0 w0) (jr11 : Nat) (bjr11 : jr11 < m) (jr12 : Nat) (bjr12 : jr12 < m) (r : (Option Bg3)) (H : haulageref20_New.f = some r) : Calls Try.prog 23 #[] w0 (fun e w_ => ∃ (c_ : Nat → Nat) (P0_ : Option Addr), e = .returned (.pointer P0_) ∧ Ev (fun x => False) c0 w0 c_ w_ ∧ CB m c_ w_ ∧ BG3 jr11 jr12 c_ w_ P0_ r) := by
 unfold haulageref20_New.f at H; have B := B0.mono (show m ≤ m + 3 by omega); have E : Ev (fun x => False ∨ m ≤ x) c0 w0 c0 w0 := Ev.refl; refine enter (N := 3) (l := []) Try.func23 rfl rfl (nb rfl) fun a F => ?_; refine sr fun K1 hK1 => qa F fun a F => nil (hK1 _ _ ?_); refine sr fun K2 hK2 => ?_; refine qv F (r_build (v := .agg #[.slice none 0 0, .int .i64 0, .int .i64 0, .int .i64 0, .int .i64 0, .int .i64 0, .int .i64 0]) F [] (by exact trivial) (bd_76_)) fun a F => ?_; refine q_eff F rfl rfl (by decide) (e_box F (v := .agg #[.slice none 0 0, .int .i64 0, .int .i64 0, .int .i64 0, .int .i64 0, .int .i64 0, .int .i64 0]) rfl c0 (m + 1)) ?_; rintro v w4 a ⟨c3, qa5, rfl, E6, h7, B8⟩ F; replace B := B8 _ B lm; replace E := E.n E6; replace h7 : AT _ _ _ _ _ [.slice none 0 0, .int .i64 0, .int .i64 0, .int .i64 0, .int .i64 0, .int .i64 0, .int .i64 0] := h7; refine qa F fun a F => nil (hK2 _ _ ?_); refine wp_ret ?_; have h10 : BG3 (m + 1) (m + 2) c3 w4 (some qa5) (some (Bg3.mk [] 0 (api_Traffic.mk 0 0 0 0 0))) := BG3.mk h7 SL.nil; obtain rfl := si H; refine out1 F rfl rfl ?_; exact ⟨cf (fun x_ => if x_ = m + 1 then jr11 else if x_ = m + 2 then jr12 else if x_ < m then x_ else 0) c3, (some qa5), rfl, E.lv B0, cfb, BG3.rc h10 cfk cfk cfk⟩
theorem haulagelaw20_BagScript.calls (k : Nat) {m : Nat} {c0 : Nat → Nat} {w0 : World} {A2 : Option Addr} {C3 : Nat} {a1 : List haulagelaw20_Op} (hm0 : 0 < m) (B0 : CB m c0 w0) (h4 : SL false K_haulagelaw20_Op 0 0 c0 w0 A2 C3 a1) (r : Bool) (H : haulagelaw20_BagScript.f k a1 = some r) : Calls Try.prog 4 #[.slice A2 a1.length C3] w0 (fun e w_ => ∃ (c_ : Nat → Nat), e = .returned (.bool r) ∧ Ev (fun x => False) c0 w0 c_ w_ ∧ CB m c_ w_) := by
 unfold haulagelaw20_BagScript.f at H; have B := B0.mono (show m ≤ m + 38 by omega); have E : Ev (fun x => False ∨ m ≤ x) c0 w0 c0 w0 := Ev.refl; refine enter (N := 83) (l := [.slice A2 a1.length C3]) Try.func4 rfl rfl (nb rfl) fun a F => ?_; refine sr fun K5 hK5 => qa F fun a F => nil (hK5 _ _ ?_); refine sr fun K6 hK6 => qa F fun a F => nil (hK6 _ _ ?_); refine sr fun K7 hK7 => qa F fun a F => nil (hK7 _ _ ?_); refine sr fun K8 hK8 => ?_; obtain ⟨t9, q10, H⟩ := bind_some H; refine qc F Try.func9 (bag_New.calls (m := m + 38) (pl hm0) B (m + 1) ⟨(pl hm0), lm⟩ (m + 2) ⟨(pl hm0), lm⟩ _ q10) ?_; rintro e w12 ⟨c11, p15, rfl, E13, B, h16⟩; refine rt fun a F => ?_; replace E := E.n E13; obtain ⟨t18, q19, H⟩ := bind_some H; refine qc F Try.func9 (bag_New.calls (m := m + 38) (pl hm0) B (m + 3) ⟨(pl hm0), lm⟩ (m + 4) ⟨(pl hm0), lm⟩ _ q19) ?_; rintro e w21 ⟨c20, p24, rfl, E22, B, h25⟩; refine rt fun a F => ?_; replace h4 := (h4.ev E13).ev E22; replace h16 := h16.ev E22; replace E := E.n E22; refine qm F fun a F => ?_; have h27 : GR KO_Bag (m + 5) c20 w21 ([] : List (List Value)) ([] : List (Option Bag)) := GR.nil (pl hm0); obtain ⟨c28, e29, e30, h27⟩ := GRL.push (zs := [m + 1, m + 2]) (ds := ([.pointer p15] : List Value)) (x := t9) h27 ⟨p15, rfl, h16⟩ rfl ⟨⟨mm, (pl hm0)⟩, ⟨mm, (pl hm0)⟩, trivial⟩ ⟨⟨mm, trivial⟩, trivial, trivial⟩
 as_aux_lemma =>
 replace h4 := SL.rc h4 (rn e29 ⟨ne_zm, ne_zm, trivial⟩) (rn e29 ⟨ne_zm, ne_zm, trivial⟩); replace h25 := BG.rc h25 (rn e29 ⟨mm, mm, trivial⟩) (rn e29 ⟨mm, mm, trivial⟩) (rn e29 ⟨ne_zm, ne_zm, trivial⟩) (pl hm0); replace E := E.rn B0 e29; replace B := B.rk e30 lm; obtain ⟨c31, e32, e33, h27⟩ := GRL.push (zs := [m + 3, m + 4]) (ds := ([.pointer p24] : List Value)) (x := t18) h27 ⟨p24, rfl, h25⟩ rfl ⟨⟨mm, (pl hm0)⟩, ⟨mm, (pl hm0)⟩, trivial⟩ ⟨⟨mm, trivial⟩, trivial, trivial⟩; replace h4 := SL.rc h4 (rn e32 ⟨ne_zm, ne_zm, trivial⟩) (rn e32 ⟨ne_zm, ne_zm, trivial⟩); replace E := E.rn B0 e32; replace B := B.rk e33 lm; obtain ⟨c34, e35, e36, h27⟩ := GRL.push (zs := [m + 7, m + 8]) (ds := ([.pointer none] : List Value)) (x := none) h27 ⟨none, rfl, BG.nil⟩ rfl ⟨⟨mm, (pl hm0)⟩, ⟨mm, (pl hm0)⟩, trivial⟩ ⟨⟨mm, trivial⟩, trivial, trivial⟩; replace h4 := SL.rc h4 (rn e35 ⟨ne_zm, ne_zm, trivial⟩) (rn e35 ⟨ne_zm, ne_zm, trivial⟩); replace E := E.rn B0 e35; replace B := B.rk e36 lm; refine q_eff F rfl rfl (by decide) (e_buildSlice (n := 3) (e := 24) (c := c34) (k := Kraw KO_Bag.sz KO_Bag.pos) (i := 0) F [(0, .pointer p15), (1, .pointer p24), (2, .pointer none)] [.pointer p15, .pointer p24, .pointer none] ([([.pointer p15] : List Value), ([.pointer p24] : List Value), ([.pointer none] : List Value)] : List (List Value)) (by exact ⟨rfl, rfl, rfl, rfl, rfl, rfl, trivial⟩) (fun w => by kernel_rfl) rfl (by decide) rfl ⟨⟨rfl, rfl, one_all rfl⟩, ⟨rfl, rfl, one_all rfl⟩, ⟨rfl, rfl, one_all rfl⟩, trivial⟩ (fun q => q) (m + 6)) ?_; rintro v w38 a ⟨c37, A39, C40, rfl, E41, h42, B43⟩ F; replace B := B43 _ B lm; replace h27 := h27.ev E41; replace E := E.n E41; replace h42 : OL KO_Bag (m + 6) (m + 5) c37 w38 A39 C40 [t9, t18, none] := OL.mk h42 h27; refine qa F fun a F => nil (hK8 _ _ ?_); refine sr fun K44 hK44 => ?_; obtain ⟨t45, q46, H⟩ := bind_some H; refine qc F Try.func23 (haulageref20_New.calls (m := m + 38) (pl hm0) B (m + 9) lm (m + 10) lm _ q46) ?_; rintro e w48 ⟨c47, p51, rfl, E49, B, h52⟩
 as_aux_lemma =>
 refine rt fun a F => ?_; replace E := E.n E49; obtain ⟨t54, q55, H⟩ := bind_some H; refine qc F Try.func23 (haulageref20_New.calls (m := m + 38) (pl hm0) B (m + 11) lm (m + 12) lm _ q55) ?_; rintro e w57 ⟨c56, p60, rfl, E58, B, h61⟩; refine rt fun a F => ?_; replace h4 := ((h4.ev E41).ev E49).ev E58; replace h42 := (h42.ev E49).ev E58; replace h52 := h52.ev E58; replace E := E.n E58; refine qm F fun a F => ?_; have h63 : GR KO_Bg3 (m + 13) c56 w57 ([] : List (List Value)) ([] : List (Option Bg3)) := GR.nil (pl hm0); obtain ⟨c64, e65, e66, h63⟩ := GRL.push (zs := [m + 9, m + 10]) (ds := ([.pointer p51] : List Value)) (x := t45) h63 ⟨p51, rfl, h52⟩ rfl ⟨⟨mm, (pl hm0)⟩, ⟨mm, (pl hm0)⟩, trivial⟩ ⟨⟨mm, trivial⟩, trivial, trivial⟩; replace h4 := SL.rc h4 (rn e65 ⟨ne_zm, ne_zm, trivial⟩) (rn e65 ⟨ne_zm, ne_zm, trivial⟩); replace h42 := OL.rc h42 (rn e65 ⟨mm, mm, trivial⟩) (rn e65 ⟨mm, mm, trivial⟩) (rn e65 ⟨ne_zm, ne_zm, trivial⟩) (pl hm0); replace h61 := BG3.rc h61 (rn e65 ⟨mm, mm, trivial⟩) (rn e65 ⟨mm, mm, trivial⟩) (rn e65 ⟨ne_zm, ne_zm, trivial⟩); replace E := E.rn B0 e65; replace B := B.rk e66 lm; obtain ⟨c67, e68, e69, h63⟩ := GRL.push (zs := [m + 11, m + 12]) (ds := ([.pointer p60] : List Value)) (x := t54) h63 ⟨p60, rfl, h61⟩ rfl ⟨⟨mm, (pl hm0)⟩, ⟨mm, (pl hm0)⟩, trivial⟩ ⟨⟨mm, trivial⟩, trivial, trivial⟩; replace h4 := SL.rc h4 (rn e68 ⟨ne_zm, ne_zm, trivial⟩) (rn e68 ⟨ne_zm, ne_zm, trivial⟩); replace h42 := OL.rc h42 (rn e68 ⟨mm, mm, trivial⟩) (rn e68 ⟨mm, mm, trivial⟩) (rn e68 ⟨ne_zm, ne_zm, trivial⟩) (pl hm0); replace E := E.rn B0 e68
 as_aux_lemma =>
 replace B := B.rk e69 lm; obtain ⟨c70, e71, e72, h63⟩ := GRL.push (zs := [m + 15, m + 16]) (ds := ([.pointer none] : List Value)) (x := none) h63 ⟨none, rfl, BG3.nil⟩ rfl ⟨⟨mm, (pl hm0)⟩, ⟨mm, (pl hm0)⟩, trivial⟩ ⟨⟨mm, trivial⟩, trivial, trivial⟩; replace h4 := SL.rc h4 (rn e71 ⟨ne_zm, ne_zm, trivial⟩) (rn e71 ⟨ne_zm, ne_zm, trivial⟩); replace h42 := OL.rc h42 (rn e71 ⟨mm, mm, trivial⟩) (rn e71 ⟨mm, mm, trivial⟩) (rn e71 ⟨ne_zm, ne_zm, trivial⟩) (pl hm0); replace E := E.rn B0 e71; replace B := B.rk e72 lm; refine q_eff F rfl rfl (by decide) (e_buildSlice (n := 3) (e := 48) (c := c70) (k := Kraw KO_Bg3.sz KO_Bg3.pos) (i := 0) F [(0, .pointer p51), (1, .pointer p60), (2, .pointer none)] [.pointer p51, .pointer p60, .pointer none] ([([.pointer p51] : List Value), ([.pointer p60] : List Value), ([.pointer none] : List Value)] : List (List Value)) (by exact ⟨rfl, rfl, rfl, rfl, rfl, rfl, trivial⟩) (fun w => by kernel_rfl) rfl (by decide) rfl ⟨⟨rfl, rfl, one_all rfl⟩, ⟨rfl, rfl, one_all rfl⟩, ⟨rfl, rfl, one_all rfl⟩, trivial⟩ (fun q => q) (m + 14)) ?_; rintro v w74 a ⟨c73, A75, C76, rfl, E77, h78, B79⟩ F; replace B := B79 _ B lm; replace h4 := h4.ev E77; replace h42 := h42.ev E77; replace h63 := h63.ev E77; replace E := E.n E77; replace h78 : OL KO_Bg3 (m + 14) (m + 13) c73 w74 A75 C76 [t45, t54, none] := OL.mk h78 h63; refine qa F fun a F => nil (hK44 _ _ ?_); refine sq fun K80 hK80 => ?_; refine sq fun K81 hK81 => ?_; have J122 : ∀ (c123 : Nat → Nat) (w124 : World) (a : Act) (b121 : Bool), Fr a 83 [(0, .slice A2 a1.length C3), (5, .slice A39 [t9, t18, none].length C40), (6, .slice A75 [t45, t54, none].length C76), (26, .bool b121)] → Ev (fun x => False ∨ m ≤ x) c0 w0 c123 w124 → CB (m + 38) c123 w124 → SL false K_haulagelaw20_Op 0 0 c123 w124 A2 C3 a1 → OL KO_Bag (m + 6) (m + 5) c123 w124 A39 C40 [t9, t18, none] → OL KO_Bg3 (m + 14) (m + 13) c123 w124 A75 C76 [t45, t54, none] → haulagelaw20_BagScript.j1 k a1 t9 t18 t45 t54 b121 = some r → K81 a w124 := by
  intro c123 w124 a b121 F E B h4 h42 h78 H; unfold haulagelaw20_BagScript.j1 at H; refine hK81 _ _ ?_
  by_cases hb125 : b121 = true
  ·replace H := ip hb125 H
   as_aux_lemma =>
   refine wct (fb F hb125) ?_; refine sr fun K126 hK126 => qa F fun a F => nil (hK126 _ _ ?_); refine wp_ret ?_; refine thenR ?_; obtain rfl := si H; refine out1 F rfl rfl ?_; exact ⟨cf (ct m) c123, rfl, E.lv B0, cfb⟩
  replace H := im hb125 H; refine wcf (fb F (bfalse hb125)) (wp_skip (hK80 _ _ ?_)); refine sq fun K127 hK127 => ?_; refine sr fun K128 hK128 => qa F fun a F => nil (hK128 _ _ ?_); refine wp_block ?_; obtain ⟨x240, HL, HR239⟩ := bind_some H; have J335 : ∀ (c336 : Nat → Nat) (w337 : World) (a : Act) (l328 : List (Option Bag)) (A329 : Option Addr) (C330 : Nat) (l332 : List (Option Bg3)) (A333 : Option Addr) (C334 : Nat), Fr a 83 [(5, .slice A329 l328.length C330), (6, .slice A333 l332.length C334)] → Ev (fun x => False ∨ m ≤ x) c0 w0 c336 w337 → CB (m + 38) c336 w337 → OL KO_Bag (m + 6) (m + 5) c336 w337 A329 C330 l328 → OL KO_Bg3 (m + 14) (m + 13) c336 w337 A333 C334 l332 → haulagelaw20_BagScript.j5 k l328 l332 = some r → K127 a w337 := by
   intro c336 w337 a l328 A329 C330 l332 A333 C334 F E B h327 h331 H; unfold haulagelaw20_BagScript.j5 at H; refine hK127 _ _ ?_; refine sq fun K338 hK338 => ?_; replace H := ifN H; obtain ⟨g339, H⟩ := H; obtain ⟨c340, e341, e342, ad343, cs344, e345, h346, r347, h327⟩ := OL.lend h327 [m + 26, m + 27] (0 : Int) g339.1 g339.2 rfl ⟨⟨mm, (pl hm0)⟩, ⟨mm, (pl hm0)⟩, trivial⟩ mm; replace h331 := OL.rc h331 (rk e341 mm) (rk e341 mm) (rk e341 ne_zm) (pl hm0); obtain ⟨p349, rfl, h350⟩ := r347
   as_aux_lemma =>
   replace h350 : BG (m + 26) (m + 27) c340 w337 p349 (rd l328 (0 : Int)) := h350; obtain ⟨qa348, qqa348⟩ : ∃ q, q = (ad343.add ((0 : Int).toNat * 1)) := ⟨_, rfl⟩; have h346 : AT true (m + 6) c340 w337 qa348 [.pointer p349] := by rw [qqa348]; exact h346
   replace E := E.rk B0 e341; replace B : CB (m + 38) c340 w337 := e342 _ ⟨lm, lm, trivial⟩ B; replace H := ifN H; obtain ⟨g352, H⟩ := H; obtain ⟨c353, e354, e355, ad356, cs357, e358, h359, r360, h331⟩ := OL.lend h331 [m + 28, m + 29] (0 : Int) g352.1 g352.2 rfl ⟨⟨mm, (pl hm0)⟩, ⟨mm, (pl hm0)⟩, trivial⟩ mm; replace h327 := OL.rc h327 (rk e354 mm) (rk e354 mm) (rk e354 ne_zm) (pl hm0); replace h350 := BG.rc h350 (rk e354 mm) (rk e354 mm) (rk e354 ne_zm) (pl hm0); replace h346 := AT.rc h346 (rk e354 mm); obtain ⟨p362, rfl, h363⟩ := r360; replace h363 : BG3 (m + 28) (m + 29) c353 w337 p362 (rd l332 (0 : Int)) := h363; obtain ⟨qa361, qqa361⟩ : ∃ q, q = (ad356.add ((0 : Int).toNat * 1)) := ⟨_, rfl⟩; have h359 : AT true (m + 14) c353 w337 qa361 [.pointer p362] := by rw [qqa361]; exact h359
   replace E := E.rk B0 e354; replace B : CB (m + 38) c353 w337 := e355 _ ⟨lm, lm, trivial⟩ B; replace H := ifN H; obtain ⟨g365, H⟩ := H; obtain ⟨c366, e367, e368, ad369, cs370, e371, h372, r373, h327⟩ := OL.lendH h327 [m + 30, m + 31] (1 : Int) g365.1 g365.2 (by simp) rfl ⟨⟨mm, (pl hm0)⟩, ⟨mm, (pl hm0)⟩, trivial⟩ mm; replace h331 := OL.rc h331 (rk e367 mm) (rk e367 mm) (rk e367 ne_zm) (pl hm0); replace h350 := BG.rc h350 (rk e367 mm) (rk e367 mm) (rk e367 ne_zm) (pl hm0)
   as_aux_lemma =>
   replace h346 := AT.rc h346 (rk e367 mm); replace h363 := BG3.rc h363 (rk e367 mm) (rk e367 mm) (rk e367 ne_zm); replace h359 := AT.rc h359 (rk e367 mm); obtain ⟨p375, rfl, h376⟩ := r373; replace h376 : BG (m + 30) (m + 31) c366 w337 p375 (rd l328 (1 : Int)) := h376; obtain ⟨qa374, qqa374⟩ : ∃ q, q = (ad369.add ((1 : Int).toNat * 1)) := ⟨_, rfl⟩; have h372 : AT true (m + 6) c366 w337 qa374 [.pointer p375] := by rw [qqa374]; exact h372
   replace E := E.rk B0 e367; replace B : CB (m + 38) c366 w337 := e368 _ ⟨lm, lm, trivial⟩ B; replace H := ifN H; obtain ⟨g378, H⟩ := H; obtain ⟨c379, e380, e381, ad382, cs383, e384, h385, r386, h331⟩ := OL.lendH h331 [m + 32, m + 33] (1 : Int) g378.1 g378.2 (by simp) rfl ⟨⟨mm, (pl hm0)⟩, ⟨mm, (pl hm0)⟩, trivial⟩ mm; replace h327 := OL.rc h327 (rk e380 mm) (rk e380 mm) (rk e380 ne_zm) (pl hm0); replace h350 := BG.rc h350 (rk e380 mm) (rk e380 mm) (rk e380 ne_zm) (pl hm0); replace h346 := AT.rc h346 (rk e380 mm); replace h363 := BG3.rc h363 (rk e380 mm) (rk e380 mm) (rk e380 ne_zm); replace h359 := AT.rc h359 (rk e380 mm); replace h376 := BG.rc h376 (rk e380 mm) (rk e380 mm) (rk e380 ne_zm) (pl hm0); replace h372 := AT.rc h372 (rk e380 mm); obtain ⟨p388, rfl, h389⟩ := r386; replace h389 : BG3 (m + 32) (m + 33) c379 w337 p388 (rd l332 (1 : Int)) := h389; obtain ⟨qa387, qqa387⟩ : ∃ q, q = (ad382.add ((1 : Int).toNat * 1)) := ⟨_, rfl⟩; have h385 : AT true (m + 14) c379 w337 qa387 [.pointer p388] := by rw [qqa387]; exact h385
   as_aux_lemma =>
   replace E := E.rk B0 e380; replace B : CB (m + 38) c379 w337 := e381 _ ⟨lm, lm, trivial⟩ B; replace H := ifN H; obtain ⟨g391, H⟩ := H; obtain ⟨c392, e393, e394, ad395, cs396, e397, h398, r399, h327⟩ := OL.lendH h327 [m + 34, m + 35] (2 : Int) g391.1 g391.2 (by simp) rfl ⟨⟨mm, (pl hm0)⟩, ⟨mm, (pl hm0)⟩, trivial⟩ mm; replace h331 := OL.rc h331 (rk e393 mm) (rk e393 mm) (rk e393 ne_zm) (pl hm0); replace h350 := BG.rc h350 (rk e393 mm) (rk e393 mm) (rk e393 ne_zm) (pl hm0); replace h346 := AT.rc h346 (rk e393 mm); replace h363 := BG3.rc h363 (rk e393 mm) (rk e393 mm) (rk e393 ne_zm); replace h359 := AT.rc h359 (rk e393 mm); replace h376 := BG.rc h376 (rk e393 mm) (rk e393 mm) (rk e393 ne_zm) (pl hm0); replace h372 := AT.rc h372 (rk e393 mm); replace h389 := BG3.rc h389 (rk e393 mm) (rk e393 mm) (rk e393 ne_zm); replace h385 := AT.rc h385 (rk e393 mm); obtain ⟨p401, rfl, h402⟩ := r399; replace h402 : BG (m + 34) (m + 35) c392 w337 p401 (rd l328 (2 : Int)) := h402; obtain ⟨qa400, qqa400⟩ : ∃ q, q = (ad395.add ((2 : Int).toNat * 1)) := ⟨_, rfl⟩; have h398 : AT true (m + 6) c392 w337 qa400 [.pointer p401] := by rw [qqa400]; exact h398
   replace E := E.rk B0 e393; replace B : CB (m + 38) c392 w337 := e394 _ ⟨lm, lm, trivial⟩ B; replace H := ifN H; obtain ⟨g404, H⟩ := H; obtain ⟨c405, e406, e407, ad408, cs409, e410, h411, r412, h331⟩ := OL.lendH h331 [m + 36, m + 37] (2 : Int) g404.1 g404.2 (by simp) rfl ⟨⟨mm, (pl hm0)⟩, ⟨mm, (pl hm0)⟩, trivial⟩ mm
   as_aux_lemma =>
   replace h327 := OL.rc h327 (rk e406 mm) (rk e406 mm) (rk e406 ne_zm) (pl hm0); replace h350 := BG.rc h350 (rk e406 mm) (rk e406 mm) (rk e406 ne_zm) (pl hm0); replace h346 := AT.rc h346 (rk e406 mm); replace h363 := BG3.rc h363 (rk e406 mm) (rk e406 mm) (rk e406 ne_zm); replace h359 := AT.rc h359 (rk e406 mm); replace h376 := BG.rc h376 (rk e406 mm) (rk e406 mm) (rk e406 ne_zm) (pl hm0); replace h372 := AT.rc h372 (rk e406 mm); replace h389 := BG3.rc h389 (rk e406 mm) (rk e406 mm) (rk e406 ne_zm); replace h385 := AT.rc h385 (rk e406 mm); replace h402 := BG.rc h402 (rk e406 mm) (rk e406 mm) (rk e406 ne_zm) (pl hm0); replace h398 := AT.rc h398 (rk e406 mm); obtain ⟨p414, rfl, h415⟩ := r412; replace h415 : BG3 (m + 36) (m + 37) c405 w337 p414 (rd l332 (2 : Int)) := h415; obtain ⟨qa413, qqa413⟩ : ∃ q, q = (ad408.add ((2 : Int).toNat * 1)) := ⟨_, rfl⟩; have h411 : AT true (m + 14) c405 w337 qa413 [.pointer p414] := by rw [qqa413]; exact h411
   replace E := E.rk B0 e406; replace B : CB (m + 38) c405 w337 := e407 _ ⟨lm, lm, trivial⟩ B; refine regD (SB No c405 w337) 26 (.q 0 (.q 1 (.q 2 (.q 3 (.q 4 (.q 5 (.e 6 (.q 7 (.q 8 (.q 9 (.q 10 (.q 11 (.q 12 (.q 13 (.e 14 (.q 15 (.q 16 (.q 17 (.q 18 (.q 19 (.q 20 (.q 21 (.q 22 (.e 23 (.q 24 (.q 25 .nil)))))))))))))))))))))))))) Try_hm (by decide +kernel) ?_; intro w417 w1_ w2_ w3_ w4_; have E418 : Ev No c405 w337 c405 w417 := Ev.same w1_ w2_ w3_ w4_; replace B := B.same w1_; have zh346 := h346; have zh359 := h359; have zh372 := h372; have zh385 := h385; have zh398 := h398; have zh411 := h411; have ER : Ev No c405 w337 c405 w417 := Ev.same w1_ w2_ w3_ w4_
   as_aux_lemma =>
   replace h350 := h350.ev E418; replace h363 := h363.ev E418; replace E := E.n E418; refine dm F ER.sb fun a F => ?_; refine dq F (fun wq hS => r_indexAddr' F Try.underlying49 sz_24 rfl rfl g339.1 g339.2 e345 qqa348) ER.sb fun a F => ?_; refine dq F (fun wq hS => r_load F rfl ag_24 (AT.cell0 (AT.sb zh346 hS nq) rfl)) ER.sb fun a F => ?_; refine dm F ER.sb fun a F => ?_; refine dq F (fun wq hS => r_indexAddr' F Try.underlying51 sz_48 rfl rfl g352.1 g352.2 e358 qqa361) ER.sb fun a F => ?_; refine dq F (fun wq hS => r_load F rfl ag_48 (AT.cell0 (AT.sb zh359 hS nq) rfl)) ER.sb fun a F => ?_; refine d_e ?_; obtain ⟨t419, q420, H⟩ := bind_some H; refine oc F Try.func25 (haulagelaw20_told.calls k (m := m + 38) (pl hm0) B h350 h363 lm ⟨(pl hm0), lm, mm⟩ lm ⟨lm, mm⟩ _ q420) ?_; rintro e w422 ⟨c421, rfl, E423, B⟩; refine rt fun a F => ?_; replace ER := ER.trans E423 nx; replace h327 := (h327.ev E418).ev E423; replace h331 := (h331.ev E418).ev E423; replace h350 := h350.ev E423; replace h346 := (h346.ev E418).ev E423; replace h363 := h363.ev E423; replace h359 := (h359.ev E418).ev E423; replace h376 := (h376.ev E418).ev E423
   as_aux_lemma =>
   replace h372 := (h372.ev E418).ev E423; replace h389 := (h389.ev E418).ev E423; replace h385 := (h385.ev E418).ev E423; replace h402 := (h402.ev E418).ev E423; replace h398 := (h398.ev E418).ev E423; replace h415 := (h415.ev E418).ev E423; replace h411 := (h411.ev E418).ev E423; replace E := E.n E423; refine ⟨fun _ => ER.sb, ?_⟩; refine dm F ER.sb fun a F => ?_
   by_cases hb426 : t419 = true
   ·replace H := ip hb426 H; refine dy F hb426 (fun wq hS => r_move F rfl) ER.sb fun a F => ?_; refine dy F hb426 (fun wq hS => r_indexAddr' F Try.underlying49 sz_24 rfl rfl g365.1 g365.2 e371 qqa374) ER.sb fun a F => ?_; refine dy F hb426 (fun wq hS => r_load F rfl ag_24 (AT.cell0 (AT.sb zh372 hS nq) rfl)) ER.sb fun a F => ?_; refine dy F hb426 (fun wq hS => r_move F rfl) ER.sb fun a F => ?_; refine dy F hb426 (fun wq hS => r_indexAddr' F Try.underlying51 sz_48 rfl rfl g378.1 g378.2 e384 qqa387) ER.sb fun a F => ?_; refine dy F hb426 (fun wq hS => r_load F rfl ag_48 (AT.cell0 (AT.sb zh385 hS nq) rfl)) ER.sb fun a F => ?_; refine d_e ?_; obtain ⟨t427, q428, H⟩ := bind_some H; refine o_call F rfl (wanted_yes F rfl rfl (by decide) rfl hb426) rfl (by decide) (r_call F Try.func25 rfl (by kernel_rfl) rfl) (haulagelaw20_told.calls k (m := m + 38) (pl hm0) B h376 h389 lm ⟨(pl hm0), lm, mm⟩ lm ⟨lm, mm⟩ _ q428) ?_; rintro e w430 ⟨c429, rfl, E431, B⟩; refine rt fun a F => ?_
    as_aux_lemma =>
    replace ER := ER.trans E431 nx; replace h327 := h327.ev E431; replace h331 := h331.ev E431; replace h350 := h350.ev E431; replace h346 := h346.ev E431; replace h363 := h363.ev E431; replace h359 := h359.ev E431; replace h376 := h376.ev E431; replace h372 := h372.ev E431; replace h389 := h389.ev E431; replace h385 := h385.ev E431; replace h402 := h402.ev E431; replace h398 := h398.ev E431; replace h415 := h415.ev E431; replace h411 := h411.ev E431; replace E := E.n E431; refine ⟨fun _ => ER.sb, ?_⟩; refine dq F (fun wq hS => r_pick_t F rfl hb426 rfl) ER.sb fun a F => ?_; refine dm F ER.sb fun a F => ?_
    by_cases hb434 : t427 = true
    ·replace H := ip hb434 H; refine dy F hb434 (fun wq hS => r_move F rfl) ER.sb fun a F => ?_; refine dy F hb434 (fun wq hS => r_indexAddr' F Try.underlying49 sz_24 rfl rfl g391.1 g391.2 e397 qqa400) ER.sb fun a F => ?_
     as_aux_lemma =>
     refine dy F hb434 (fun wq hS => r_load F rfl ag_24 (AT.cell0 (AT.sb zh398 hS nq) rfl)) ER.sb fun a F => ?_; refine dy F hb434 (fun wq hS => r_move F rfl) ER.sb fun a F => ?_; refine dy F hb434 (fun wq hS => r_indexAddr' F Try.underlying51 sz_48 rfl rfl g404.1 g404.2 e410 qqa413) ER.sb fun a F => ?_; refine dy F hb434 (fun wq hS => r_load F rfl ag_48 (AT.cell0 (AT.sb zh411 hS nq) rfl)) ER.sb fun a F => ?_; refine d_e ?_; obtain ⟨t435, q436, H⟩ := bind_some H; refine o_call F rfl (wanted_yes F rfl rfl (by decide) rfl hb434) rfl (by decide) (r_call F Try.func25 rfl (by kernel_rfl) rfl) (haulagelaw20_told.calls k (m := m + 38) (pl hm0) B h402 h415 lm ⟨(pl hm0), lm, mm⟩ lm ⟨lm, mm⟩ _ q436) ?_; rintro e w438 ⟨c437, rfl, E439, B⟩; refine rt fun a F => ?_; replace ER := ER.trans E439 nx; replace h327 := h327.ev E439; replace h331 := h331.ev E439; replace h350 := h350.ev E439; replace h346 := h346.ev E439; replace h363 := h363.ev E439; replace h359 := h359.ev E439; replace h376 := h376.ev E439; replace h372 := h372.ev E439; replace h389 := h389.ev E439; replace h385 := h385.ev E439; replace h402 := h402.ev E439; replace h398 := h398.ev E439
     as_aux_lemma =>
     replace h415 := h415.ev E439; replace h411 := h411.ev E439; replace E := E.n E439; refine ⟨fun _ => ER.sb, ?_⟩; refine dq F (fun wq hS => r_pick_t F rfl hb434 rfl) ER.sb fun a F => ?_; refine da F ER.sb fun a F => ?_; refine d_nil ?_; obtain ⟨c442, e443, e444, h331⟩ := OL.backH (zs := [m + 36, m + 37]) (k := (2 : Int)) (ad := ad408) (x := (rd l332 (2 : Int))) h331 g404.1 g404.2 e410 (by have q_ := h411; rw [qqa413] at q_; exact q_) ⟨p414, rfl, h415⟩ rfl ⟨⟨mm, (pl hm0)⟩, ⟨mm, (pl hm0)⟩, trivial⟩ ⟨⟨mm, trivial⟩, trivial, trivial⟩ ⟨mm, mm, trivial⟩ ⟨ne_zm, ne_zm, trivial⟩; rw [set_rd g404.1] at h331; replace h327 := OL.rc h327 (rn e443 ⟨mm, mm, trivial⟩) (rn e443 ⟨mm, mm, trivial⟩) (rn e443 ⟨ne_zm, ne_zm, trivial⟩) (pl hm0); replace h350 := BG.rc h350 (rn e443 ⟨mm, mm, trivial⟩) (rn e443 ⟨mm, mm, trivial⟩) (rn e443 ⟨ne_zm, ne_zm, trivial⟩) (pl hm0); replace h346 := AT.rc h346 (rn e443 ⟨mm, mm, trivial⟩); replace h363 := BG3.rc h363 (rn e443 ⟨mm, mm, trivial⟩) (rn e443 ⟨mm, mm, trivial⟩) (rn e443 ⟨ne_zm, ne_zm, trivial⟩); replace h359 := AT.rc h359 (rn e443 ⟨mm, mm, trivial⟩); replace h376 := BG.rc h376 (rn e443 ⟨mm, mm, trivial⟩) (rn e443 ⟨mm, mm, trivial⟩) (rn e443 ⟨ne_zm, ne_zm, trivial⟩) (pl hm0); replace h372 := AT.rc h372 (rn e443 ⟨mm, mm, trivial⟩); replace h389 := BG3.rc h389 (rn e443 ⟨mm, mm, trivial⟩) (rn e443 ⟨mm, mm, trivial⟩) (rn e443 ⟨ne_zm, ne_zm, trivial⟩); replace h385 := AT.rc h385 (rn e443 ⟨mm, mm, trivial⟩); replace h402 := BG.rc h402 (rn e443 ⟨mm, mm, trivial⟩) (rn e443 ⟨mm, mm, trivial⟩) (rn e443 ⟨ne_zm, ne_zm, trivial⟩) (pl hm0); replace h398 := AT.rc h398 (rn e443 ⟨mm, mm, trivial⟩); replace E := E.rn B0 e443; replace B := B.rk e444 lm; obtain ⟨c446, e447, e448, h327⟩ := OL.backH (zs := [m + 34, m + 35]) (k := (2 : Int)) (ad := ad395) (x := (rd l328 (2 : Int))) h327 g391.1 g391.2 e397 (by have q_ := h398; rw [qqa400] at q_; exact q_) ⟨p401, rfl, h402⟩ rfl ⟨⟨mm, (pl hm0)⟩, ⟨mm, (pl hm0)⟩, trivial⟩ ⟨⟨mm, trivial⟩, trivial, trivial⟩ ⟨mm, mm, trivial⟩ ⟨ne_zm, ne_zm, trivial⟩; rw [set_rd g391.1] at h327
     as_aux_lemma =>
     replace h331 := OL.rc h331 (rn e447 ⟨mm, mm, trivial⟩) (rn e447 ⟨mm, mm, trivial⟩) (rn e447 ⟨ne_zm, ne_zm, trivial⟩) (pl hm0); replace h350 := BG.rc h350 (rn e447 ⟨mm, mm, trivial⟩) (rn e447 ⟨mm, mm, trivial⟩) (rn e447 ⟨ne_zm, ne_zm, trivial⟩) (pl hm0); replace h346 := AT.rc h346 (rn e447 ⟨mm, mm, trivial⟩); replace h363 := BG3.rc h363 (rn e447 ⟨mm, mm, trivial⟩) (rn e447 ⟨mm, mm, trivial⟩) (rn e447 ⟨ne_zm, ne_zm, trivial⟩); replace h359 := AT.rc h359 (rn e447 ⟨mm, mm, trivial⟩); replace h376 := BG.rc h376 (rn e447 ⟨mm, mm, trivial⟩) (rn e447 ⟨mm, mm, trivial⟩) (rn e447 ⟨ne_zm, ne_zm, trivial⟩) (pl hm0); replace h372 := AT.rc h372 (rn e447 ⟨mm, mm, trivial⟩); replace h389 := BG3.rc h389 (rn e447 ⟨mm, mm, trivial⟩) (rn e447 ⟨mm, mm, trivial⟩) (rn e447 ⟨ne_zm, ne_zm, trivial⟩); replace h385 := AT.rc h385 (rn e447 ⟨mm, mm, trivial⟩); replace E := E.rn B0 e447; replace B := B.rk e448 lm; obtain ⟨c450, e451, e452, h331⟩ := OL.backH (zs := [m + 32, m + 33]) (k := (1 : Int)) (ad := ad382) (x := (rd l332 (1 : Int))) h331 g378.1 g378.2 e384 (by have q_ := h385; rw [qqa387] at q_; exact q_) ⟨p388, rfl, h389⟩ rfl ⟨⟨mm, (pl hm0)⟩, ⟨mm, (pl hm0)⟩, trivial⟩ ⟨⟨mm, trivial⟩, trivial, trivial⟩ ⟨mm, mm, trivial⟩ ⟨ne_zm, ne_zm, trivial⟩; rw [set_rd g378.1] at h331; replace h327 := OL.rc h327 (rn e451 ⟨mm, mm, trivial⟩) (rn e451 ⟨mm, mm, trivial⟩) (rn e451 ⟨ne_zm, ne_zm, trivial⟩) (pl hm0); replace h350 := BG.rc h350 (rn e451 ⟨mm, mm, trivial⟩) (rn e451 ⟨mm, mm, trivial⟩) (rn e451 ⟨ne_zm, ne_zm, trivial⟩) (pl hm0); replace h346 := AT.rc h346 (rn e451 ⟨mm, mm, trivial⟩); replace h363 := BG3.rc h363 (rn e451 ⟨mm, mm, trivial⟩) (rn e451 ⟨mm, mm, trivial⟩) (rn e451 ⟨ne_zm, ne_zm, trivial⟩); replace h359 := AT.rc h359 (rn e451 ⟨mm, mm, trivial⟩); replace h376 := BG.rc h376 (rn e451 ⟨mm, mm, trivial⟩) (rn e451 ⟨mm, mm, trivial⟩) (rn e451 ⟨ne_zm, ne_zm, trivial⟩) (pl hm0); replace h372 := AT.rc h372 (rn e451 ⟨mm, mm, trivial⟩); replace E := E.rn B0 e451; replace B := B.rk e452 lm; obtain ⟨c454, e455, e456, h327⟩ := OL.backH (zs := [m + 30, m + 31]) (k := (1 : Int)) (ad := ad369) (x := (rd l328 (1 : Int))) h327 g365.1 g365.2 e371 (by have q_ := h372; rw [qqa374] at q_; exact q_) ⟨p375, rfl, h376⟩ rfl ⟨⟨mm, (pl hm0)⟩, ⟨mm, (pl hm0)⟩, trivial⟩ ⟨⟨mm, trivial⟩, trivial, trivial⟩ ⟨mm, mm, trivial⟩ ⟨ne_zm, ne_zm, trivial⟩; rw [set_rd g365.1] at h327
     as_aux_lemma =>
     replace h331 := OL.rc h331 (rn e455 ⟨mm, mm, trivial⟩) (rn e455 ⟨mm, mm, trivial⟩) (rn e455 ⟨ne_zm, ne_zm, trivial⟩) (pl hm0); replace h350 := BG.rc h350 (rn e455 ⟨mm, mm, trivial⟩) (rn e455 ⟨mm, mm, trivial⟩) (rn e455 ⟨ne_zm, ne_zm, trivial⟩) (pl hm0); replace h346 := AT.rc h346 (rn e455 ⟨mm, mm, trivial⟩); replace h363 := BG3.rc h363 (rn e455 ⟨mm, mm, trivial⟩) (rn e455 ⟨mm, mm, trivial⟩) (rn e455 ⟨ne_zm, ne_zm, trivial⟩); replace h359 := AT.rc h359 (rn e455 ⟨mm, mm, trivial⟩); replace E := E.rn B0 e455; replace B := B.rk e456 lm; obtain ⟨c458, e459, e460, h331⟩ := OL.back (zs := [m + 28, m + 29]) (k := (0 : Int)) (ad := ad356) (x := (rd l332 (0 : Int))) h331 g352.1 g352.2 e358 (by have q_ := h359; rw [qqa361] at q_; exact q_) ⟨p362, rfl, h363⟩ rfl ⟨⟨mm, (pl hm0)⟩, ⟨mm, (pl hm0)⟩, trivial⟩ ⟨⟨mm, trivial⟩, trivial, trivial⟩ ⟨mm, mm, trivial⟩ ⟨ne_zm, ne_zm, trivial⟩; rw [set_rd g352.1] at h331; replace h327 := OL.rc h327 (rn e459 ⟨mm, mm, trivial⟩) (rn e459 ⟨mm, mm, trivial⟩) (rn e459 ⟨ne_zm, ne_zm, trivial⟩) (pl hm0); replace h350 := BG.rc h350 (rn e459 ⟨mm, mm, trivial⟩) (rn e459 ⟨mm, mm, trivial⟩) (rn e459 ⟨ne_zm, ne_zm, trivial⟩) (pl hm0); replace h346 := AT.rc h346 (rn e459 ⟨mm, mm, trivial⟩); replace E := E.rn B0 e459; replace B := B.rk e460 lm; obtain ⟨c462, e463, e464, h327⟩ := OL.back (zs := [m + 26, m + 27]) (k := (0 : Int)) (ad := ad343) (x := (rd l328 (0 : Int))) h327 g339.1 g339.2 e345 (by have q_ := h346; rw [qqa348] at q_; exact q_) ⟨p349, rfl, h350⟩ rfl ⟨⟨mm, (pl hm0)⟩, ⟨mm, (pl hm0)⟩, trivial⟩ ⟨⟨mm, trivial⟩, trivial, trivial⟩ ⟨mm, mm, trivial⟩ ⟨ne_zm, ne_zm, trivial⟩; rw [set_rd g339.1] at h327; replace E := E.rn B0 e463; replace B := B.rk e464 lm; refine hK338 _ _ ?_; replace F : Fr a 83 [(2, .bool t435)] := F.sub ⟨rfl, trivial⟩; refine wp_ret ?_; obtain rfl := si H
     as_aux_lemma =>
     refine out1 F rfl rfl ?_; exact ⟨cf (ct m) c462, rfl, E.lv B0, cfb⟩
    replace H := im hb434 H; refine dn F (bfalse hb434) ER.sb fun a F => ?_; refine dn F (bfalse hb434) ER.sb fun a F => ?_; refine dn F (bfalse hb434) ER.sb fun a F => ?_; refine dn F (bfalse hb434) ER.sb fun a F => ?_; refine dn F (bfalse hb434) ER.sb fun a F => ?_; refine dn F (bfalse hb434) ER.sb fun a F => ?_; refine d_e ?_; refine o_no F rfl rfl rfl (by decide) rfl (bfalse hb434) rfl (by decide) fun a F => ?_; refine ⟨fun _ => ER.sb, ?_⟩; refine dq F (fun wq hS => r_pick_f F rfl (bfalse hb434) rfl) ER.sb fun a F => ?_; refine da F ER.sb fun a F => ?_; refine d_nil ?_; obtain ⟨c466, e467, e468, h331⟩ := OL.backH (zs := [m + 36, m + 37]) (k := (2 : Int)) (ad := ad408) (x := (rd l332 (2 : Int))) h331 g404.1 g404.2 e410 (by have q_ := h411; rw [qqa413] at q_; exact q_) ⟨p414, rfl, h415⟩ rfl ⟨⟨mm, (pl hm0)⟩, ⟨mm, (pl hm0)⟩, trivial⟩ ⟨⟨mm, trivial⟩, trivial, trivial⟩ ⟨mm, mm, trivial⟩ ⟨ne_zm, ne_zm, trivial⟩; rw [set_rd g404.1] at h331; replace h327 := OL.rc h327 (rn e467 ⟨mm, mm, trivial⟩) (rn e467 ⟨mm, mm, trivial⟩) (rn e467 ⟨ne_zm, ne_zm, trivial⟩) (pl hm0); replace h350 := BG.rc h350 (rn e467 ⟨mm, mm, trivial⟩) (rn e467 ⟨mm, mm, trivial⟩) (rn e467 ⟨ne_zm, ne_zm, trivial⟩) (pl hm0); replace h346 := AT.rc h346 (rn e467 ⟨mm, mm, trivial⟩); replace h363 := BG3.rc h363 (rn e467 ⟨mm, mm, trivial⟩) (rn e467 ⟨mm, mm, trivial⟩) (rn e467 ⟨ne_zm, ne_zm, trivial⟩); replace h359 := AT.rc h359 (rn e467 ⟨mm, mm, trivial⟩)
    as_aux_lemma =>
    replace h376 := BG.rc h376 (rn e467 ⟨mm, mm, trivial⟩) (rn e467 ⟨mm, mm, trivial⟩) (rn e467 ⟨ne_zm, ne_zm, trivial⟩) (pl hm0); replace h372 := AT.rc h372 (rn e467 ⟨mm, mm, trivial⟩); replace h389 := BG3.rc h389 (rn e467 ⟨mm, mm, trivial⟩) (rn e467 ⟨mm, mm, trivial⟩) (rn e467 ⟨ne_zm, ne_zm, trivial⟩); replace h385 := AT.rc h385 (rn e467 ⟨mm, mm, trivial⟩); replace h402 := BG.rc h402 (rn e467 ⟨mm, mm, trivial⟩) (rn e467 ⟨mm, mm, trivial⟩) (rn e467 ⟨ne_zm, ne_zm, trivial⟩) (pl hm0); replace h398 := AT.rc h398 (rn e467 ⟨mm, mm, trivial⟩); replace E := E.rn B0 e467; replace B := B.rk e468 lm; obtain ⟨c470, e471, e472, h327⟩ := OL.backH (zs := [m + 34, m + 35]) (k := (2 : Int)) (ad := ad395) (x := (rd l328 (2 : Int))) h327 g391.1 g391.2 e397 (by have q_ := h398; rw [qqa400] at q_; exact q_) ⟨p401, rfl, h402⟩ rfl ⟨⟨mm, (pl hm0)⟩, ⟨mm, (pl hm0)⟩, trivial⟩ ⟨⟨mm, trivial⟩, trivial, trivial⟩ ⟨mm, mm, trivial⟩ ⟨ne_zm, ne_zm, trivial⟩; rw [set_rd g391.1] at h327; replace h331 := OL.rc h331 (rn e471 ⟨mm, mm, trivial⟩) (rn e471 ⟨mm, mm, trivial⟩) (rn e471 ⟨ne_zm, ne_zm, trivial⟩) (pl hm0); replace h350 := BG.rc h350 (rn e471 ⟨mm, mm, trivial⟩) (rn e471 ⟨mm, mm, trivial⟩) (rn e471 ⟨ne_zm, ne_zm, trivial⟩) (pl hm0); replace h346 := AT.rc h346 (rn e471 ⟨mm, mm, trivial⟩); replace h363 := BG3.rc h363 (rn e471 ⟨mm, mm, trivial⟩) (rn e471 ⟨mm, mm, trivial⟩) (rn e471 ⟨ne_zm, ne_zm, trivial⟩); replace h359 := AT.rc h359 (rn e471 ⟨mm, mm, trivial⟩); replace h376 := BG.rc h376 (rn e471 ⟨mm, mm, trivial⟩) (rn e471 ⟨mm, mm, trivial⟩) (rn e471 ⟨ne_zm, ne_zm, trivial⟩) (pl hm0); replace h372 := AT.rc h372 (rn e471 ⟨mm, mm, trivial⟩); replace h389 := BG3.rc h389 (rn e471 ⟨mm, mm, trivial⟩) (rn e471 ⟨mm, mm, trivial⟩) (rn e471 ⟨ne_zm, ne_zm, trivial⟩); replace h385 := AT.rc h385 (rn e471 ⟨mm, mm, trivial⟩); replace E := E.rn B0 e471; replace B := B.rk e472 lm; obtain ⟨c474, e475, e476, h331⟩ := OL.backH (zs := [m + 32, m + 33]) (k := (1 : Int)) (ad := ad382) (x := (rd l332 (1 : Int))) h331 g378.1 g378.2 e384 (by have q_ := h385; rw [qqa387] at q_; exact q_) ⟨p388, rfl, h389⟩ rfl ⟨⟨mm, (pl hm0)⟩, ⟨mm, (pl hm0)⟩, trivial⟩ ⟨⟨mm, trivial⟩, trivial, trivial⟩ ⟨mm, mm, trivial⟩ ⟨ne_zm, ne_zm, trivial⟩; rw [set_rd g378.1] at h331
    as_aux_lemma =>
    replace h327 := OL.rc h327 (rn e475 ⟨mm, mm, trivial⟩) (rn e475 ⟨mm, mm, trivial⟩) (rn e475 ⟨ne_zm, ne_zm, trivial⟩) (pl hm0); replace h350 := BG.rc h350 (rn e475 ⟨mm, mm, trivial⟩) (rn e475 ⟨mm, mm, trivial⟩) (rn e475 ⟨ne_zm, ne_zm, trivial⟩) (pl hm0); replace h346 := AT.rc h346 (rn e475 ⟨mm, mm, trivial⟩); replace h363 := BG3.rc h363 (rn e475 ⟨mm, mm, trivial⟩) (rn e475 ⟨mm, mm, trivial⟩) (rn e475 ⟨ne_zm, ne_zm, trivial⟩); replace h359 := AT.rc h359 (rn e475 ⟨mm, mm, trivial⟩); replace h376 := BG.rc h376 (rn e475 ⟨mm, mm, trivial⟩) (rn e475 ⟨mm, mm, trivial⟩) (rn e475 ⟨ne_zm, ne_zm, trivial⟩) (pl hm0); replace h372 := AT.rc h372 (rn e475 ⟨mm, mm, trivial⟩); replace E := E.rn B0 e475; replace B := B.rk e476 lm; obtain ⟨c478, e479, e480, h327⟩ := OL.backH (zs := [m + 30, m + 31]) (k := (1 : Int)) (ad := ad369) (x := (rd l328 (1 : Int))) h327 g365.1 g365.2 e371 (by have q_ := h372; rw [qqa374] at q_; exact q_) ⟨p375, rfl, h376⟩ rfl ⟨⟨mm, (pl hm0)⟩, ⟨mm, (pl hm0)⟩, trivial⟩ ⟨⟨mm, trivial⟩, trivial, trivial⟩ ⟨mm, mm, trivial⟩ ⟨ne_zm, ne_zm, trivial⟩; rw [set_rd g365.1] at h327; replace h331 := OL.rc h331 (rn e479 ⟨mm, mm, trivial⟩) (rn e479 ⟨mm, mm, trivial⟩) (rn e479 ⟨ne_zm, ne_zm, trivial⟩) (pl hm0); replace h350 := BG.rc h350 (rn e479 ⟨mm, mm, trivial⟩) (rn e479 ⟨mm, mm, trivial⟩) (rn e479 ⟨ne_zm, ne_zm, trivial⟩) (pl hm0); replace h346 := AT.rc h346 (rn e479 ⟨mm, mm, trivial⟩); replace h363 := BG3.rc h363 (rn e479 ⟨mm, mm, trivial⟩) (rn e479 ⟨mm, mm, trivial⟩) (rn e479 ⟨ne_zm, ne_zm, trivial⟩); replace h359 := AT.rc h359 (rn e479 ⟨mm, mm, trivial⟩); replace E := E.rn B0 e479; replace B := B.rk e480 lm; obtain ⟨c482, e483, e484, h331⟩ := OL.back (zs := [m + 28, m + 29]) (k := (0 : Int)) (ad := ad356) (x := (rd l332 (0 : Int))) h331 g352.1 g352.2 e358 (by have q_ := h359; rw [qqa361] at q_; exact q_) ⟨p362, rfl, h363⟩ rfl ⟨⟨mm, (pl hm0)⟩, ⟨mm, (pl hm0)⟩, trivial⟩ ⟨⟨mm, trivial⟩, trivial, trivial⟩ ⟨mm, mm, trivial⟩ ⟨ne_zm, ne_zm, trivial⟩; rw [set_rd g352.1] at h331; replace h327 := OL.rc h327 (rn e483 ⟨mm, mm, trivial⟩) (rn e483 ⟨mm, mm, trivial⟩) (rn e483 ⟨ne_zm, ne_zm, trivial⟩) (pl hm0); replace h350 := BG.rc h350 (rn e483 ⟨mm, mm, trivial⟩) (rn e483 ⟨mm, mm, trivial⟩) (rn e483 ⟨ne_zm, ne_zm, trivial⟩) (pl hm0)
    as_aux_lemma =>
    replace h346 := AT.rc h346 (rn e483 ⟨mm, mm, trivial⟩); replace E := E.rn B0 e483; replace B := B.rk e484 lm; obtain ⟨c486, e487, e488, h327⟩ := OL.back (zs := [m + 26, m + 27]) (k := (0 : Int)) (ad := ad343) (x := (rd l328 (0 : Int))) h327 g339.1 g339.2 e345 (by have q_ := h346; rw [qqa348] at q_; exact q_) ⟨p349, rfl, h350⟩ rfl ⟨⟨mm, (pl hm0)⟩, ⟨mm, (pl hm0)⟩, trivial⟩ ⟨⟨mm, trivial⟩, trivial, trivial⟩ ⟨mm, mm, trivial⟩ ⟨ne_zm, ne_zm, trivial⟩; rw [set_rd g339.1] at h327; replace E := E.rn B0 e487; replace B := B.rk e488 lm; refine hK338 _ _ ?_; replace F : Fr a 83 [(2, .bool false)] := F.sub ⟨rfl, trivial⟩; refine wp_ret ?_; obtain rfl := si H; refine out1 F rfl rfl ?_; exact ⟨cf (ct m) c486, rfl, E.lv B0, cfb⟩
   replace H := im hb426 H; refine dn F (bfalse hb426) ER.sb fun a F => ?_; refine dn F (bfalse hb426) ER.sb fun a F => ?_; refine dn F (bfalse hb426) ER.sb fun a F => ?_; refine dn F (bfalse hb426) ER.sb fun a F => ?_; refine dn F (bfalse hb426) ER.sb fun a F => ?_; refine dn F (bfalse hb426) ER.sb fun a F => ?_; refine d_e ?_; refine o_no F rfl rfl rfl (by decide) rfl (bfalse hb426) rfl (by decide) fun a F => ?_
   as_aux_lemma =>
   refine ⟨fun _ => ER.sb, ?_⟩; refine dq F (fun wq hS => r_pick_f F rfl (bfalse hb426) rfl) ER.sb fun a F => ?_; refine dm F ER.sb fun a F => ?_; refine dn F rfl ER.sb fun a F => ?_; refine dn F rfl ER.sb fun a F => ?_; refine dn F rfl ER.sb fun a F => ?_; refine dn F rfl ER.sb fun a F => ?_; refine dn F rfl ER.sb fun a F => ?_; refine dn F rfl ER.sb fun a F => ?_; refine d_e ?_; refine o_no F rfl rfl rfl (by decide) rfl rfl rfl (by decide) fun a F => ?_; refine ⟨fun _ => ER.sb, ?_⟩; refine dq F (fun wq hS => r_pick_f F rfl rfl rfl) ER.sb fun a F => ?_; refine da F ER.sb fun a F => ?_; refine d_nil ?_; obtain ⟨c490, e491, e492, h331⟩ := OL.backH (zs := [m + 36, m + 37]) (k := (2 : Int)) (ad := ad408) (x := (rd l332 (2 : Int))) h331 g404.1 g404.2 e410 (by have q_ := h411; rw [qqa413] at q_; exact q_) ⟨p414, rfl, h415⟩ rfl ⟨⟨mm, (pl hm0)⟩, ⟨mm, (pl hm0)⟩, trivial⟩ ⟨⟨mm, trivial⟩, trivial, trivial⟩ ⟨mm, mm, trivial⟩ ⟨ne_zm, ne_zm, trivial⟩; rw [set_rd g404.1] at h331; replace h327 := OL.rc h327 (rn e491 ⟨mm, mm, trivial⟩) (rn e491 ⟨mm, mm, trivial⟩) (rn e491 ⟨ne_zm, ne_zm, trivial⟩) (pl hm0); replace h350 := BG.rc h350 (rn e491 ⟨mm, mm, trivial⟩) (rn e491 ⟨mm, mm, trivial⟩) (rn e491 ⟨ne_zm, ne_zm, trivial⟩) (pl hm0); replace h346 := AT.rc h346 (rn e491 ⟨mm, mm, trivial⟩); replace h363 := BG3.rc h363 (rn e491 ⟨mm, mm, trivial⟩) (rn e491 ⟨mm, mm, trivial⟩) (rn e491 ⟨ne_zm, ne_zm, trivial⟩); replace h359 := AT.rc h359 (rn e491 ⟨mm, mm, trivial⟩)
   as_aux_lemma =>
   replace h376 := BG.rc h376 (rn e491 ⟨mm, mm, trivial⟩) (rn e491 ⟨mm, mm, trivial⟩) (rn e491 ⟨ne_zm, ne_zm, trivial⟩) (pl hm0); replace h372 := AT.rc h372 (rn e491 ⟨mm, mm, trivial⟩); replace h389 := BG3.rc h389 (rn e491 ⟨mm, mm, trivial⟩) (rn e491 ⟨mm, mm, trivial⟩) (rn e491 ⟨ne_zm, ne_zm, trivial⟩); replace h385 := AT.rc h385 (rn e491 ⟨mm, mm, trivial⟩); replace h402 := BG.rc h402 (rn e491 ⟨mm, mm, trivial⟩) (rn e491 ⟨mm, mm, trivial⟩) (rn e491 ⟨ne_zm, ne_zm, trivial⟩) (pl hm0); replace h398 := AT.rc h398 (rn e491 ⟨mm, mm, trivial⟩); replace E := E.rn B0 e491; replace B := B.rk e492 lm; obtain ⟨c494, e495, e496, h327⟩ := OL.backH (zs := [m + 34, m + 35]) (k := (2 : Int)) (ad := ad395) (x := (rd l328 (2 : Int))) h327 g391.1 g391.2 e397 (by have q_ := h398; rw [qqa400] at q_; exact q_) ⟨p401, rfl, h402⟩ rfl ⟨⟨mm, (pl hm0)⟩, ⟨mm, (pl hm0)⟩, trivial⟩ ⟨⟨mm, trivial⟩, trivial, trivial⟩ ⟨mm, mm, trivial⟩ ⟨ne_zm, ne_zm, trivial⟩; rw [set_rd g391.1] at h327; replace h331 := OL.rc h331 (rn e495 ⟨mm, mm, trivial⟩) (rn e495 ⟨mm, mm, trivial⟩) (rn e495 ⟨ne_zm, ne_zm, trivial⟩) (pl hm0); replace h350 := BG.rc h350 (rn e495 ⟨mm, mm, trivial⟩) (rn e495 ⟨mm, mm, trivial⟩) (rn e495 ⟨ne_zm, ne_zm, trivial⟩) (pl hm0); replace h346 := AT.rc h346 (rn e495 ⟨mm, mm, trivial⟩); replace h363 := BG3.rc h363 (rn e495 ⟨mm, mm, trivial⟩) (rn e495 ⟨mm, mm, trivial⟩) (rn e495 ⟨ne_zm, ne_zm, trivial⟩); replace h359 := AT.rc h359 (rn e495 ⟨mm, mm, trivial⟩); replace h376 := BG.rc h376 (rn e495 ⟨mm, mm, trivial⟩) (rn e495 ⟨mm, mm, trivial⟩) (rn e495 ⟨ne_zm, ne_zm, trivial⟩) (pl hm0); replace h372 := AT.rc h372 (rn e495 ⟨mm, mm, trivial⟩); replace h389 := BG3.rc h389 (rn e495 ⟨mm, mm, trivial⟩) (rn e495 ⟨mm, mm, trivial⟩) (rn e495 ⟨ne_zm, ne_zm, trivial⟩); replace h385 := AT.rc h385 (rn e495 ⟨mm, mm, trivial⟩); replace E := E.rn B0 e495; replace B := B.rk e496 lm; obtain ⟨c498, e499, e500, h331⟩ := OL.backH (zs := [m + 32, m + 33]) (k := (1 : Int)) (ad := ad382) (x := (rd l332 (1 : Int))) h331 g378.1 g378.2 e384 (by have q_ := h385; rw [qqa387] at q_; exact q_) ⟨p388, rfl, h389⟩ rfl ⟨⟨mm, (pl hm0)⟩, ⟨mm, (pl hm0)⟩, trivial⟩ ⟨⟨mm, trivial⟩, trivial, trivial⟩ ⟨mm, mm, trivial⟩ ⟨ne_zm, ne_zm, trivial⟩; rw [set_rd g378.1] at h331
   as_aux_lemma =>
   replace h327 := OL.rc h327 (rn e499 ⟨mm, mm, trivial⟩) (rn e499 ⟨mm, mm, trivial⟩) (rn e499 ⟨ne_zm, ne_zm, trivial⟩) (pl hm0); replace h350 := BG.rc h350 (rn e499 ⟨mm, mm, trivial⟩) (rn e499 ⟨mm, mm, trivial⟩) (rn e499 ⟨ne_zm, ne_zm, trivial⟩) (pl hm0); replace h346 := AT.rc h346 (rn e499 ⟨mm, mm, trivial⟩); replace h363 := BG3.rc h363 (rn e499 ⟨mm, mm, trivial⟩) (rn e499 ⟨mm, mm, trivial⟩) (rn e499 ⟨ne_zm, ne_zm, trivial⟩); replace h359 := AT.rc h359 (rn e499 ⟨mm, mm, trivial⟩); replace h376 := BG.rc h376 (rn e499 ⟨mm, mm, trivial⟩) (rn e499 ⟨mm, mm, trivial⟩) (rn e499 ⟨ne_zm, ne_zm, trivial⟩) (pl hm0); replace h372 := AT.rc h372 (rn e499 ⟨mm, mm, trivial⟩); replace E := E.rn B0 e499; replace B := B.rk e500 lm; obtain ⟨c502, e503, e504, h327⟩ := OL.backH (zs := [m + 30, m + 31]) (k := (1 : Int)) (ad := ad369) (x := (rd l328 (1 : Int))) h327 g365.1 g365.2 e371 (by have q_ := h372; rw [qqa374] at q_; exact q_) ⟨p375, rfl, h376⟩ rfl ⟨⟨mm, (pl hm0)⟩, ⟨mm, (pl hm0)⟩, trivial⟩ ⟨⟨mm, trivial⟩, trivial, trivial⟩ ⟨mm, mm, trivial⟩ ⟨ne_zm, ne_zm, trivial⟩; rw [set_rd g365.1] at h327; replace h331 := OL.rc h331 (rn e503 ⟨mm, mm, trivial⟩) (rn e503 ⟨mm, mm, trivial⟩) (rn e503 ⟨ne_zm, ne_zm, trivial⟩) (pl hm0); replace h350 := BG.rc h350 (rn e503 ⟨mm, mm, trivial⟩) (rn e503 ⟨mm, mm, trivial⟩) (rn e503 ⟨ne_zm, ne_zm, trivial⟩) (pl hm0); replace h346 := AT.rc h346 (rn e503 ⟨mm, mm, trivial⟩); replace h363 := BG3.rc h363 (rn e503 ⟨mm, mm, trivial⟩) (rn e503 ⟨mm, mm, trivial⟩) (rn e503 ⟨ne_zm, ne_zm, trivial⟩); replace h359 := AT.rc h359 (rn e503 ⟨mm, mm, trivial⟩); replace E := E.rn B0 e503; replace B := B.rk e504 lm; obtain ⟨c506, e507, e508, h331⟩ := OL.back (zs := [m + 28, m + 29]) (k := (0 : Int)) (ad := ad356) (x := (rd l332 (0 : Int))) h331 g352.1 g352.2 e358 (by have q_ := h359; rw [qqa361] at q_; exact q_) ⟨p362, rfl, h363⟩ rfl ⟨⟨mm, (pl hm0)⟩, ⟨mm, (pl hm0)⟩, trivial⟩ ⟨⟨mm, trivial⟩, trivial, trivial⟩ ⟨mm, mm, trivial⟩ ⟨ne_zm, ne_zm, trivial⟩; rw [set_rd g352.1] at h331; replace h327 := OL.rc h327 (rn e507 ⟨mm, mm, trivial⟩) (rn e507 ⟨mm, mm, trivial⟩) (rn e507 ⟨ne_zm, ne_zm, trivial⟩) (pl hm0); replace h350 := BG.rc h350 (rn e507 ⟨mm, mm, trivial⟩) (rn e507 ⟨mm, mm, trivial⟩) (rn e507 ⟨ne_zm, ne_zm, trivial⟩) (pl hm0)
   as_aux_lemma =>
   replace h346 := AT.rc h346 (rn e507 ⟨mm, mm, trivial⟩); replace E := E.rn B0 e507; replace B := B.rk e508 lm; obtain ⟨c510, e511, e512, h327⟩ := OL.back (zs := [m + 26, m + 27]) (k := (0 : Int)) (ad := ad343) (x := (rd l328 (0 : Int))) h327 g339.1 g339.2 e345 (by have q_ := h346; rw [qqa348] at q_; exact q_) ⟨p349, rfl, h350⟩ rfl ⟨⟨mm, (pl hm0)⟩, ⟨mm, (pl hm0)⟩, trivial⟩ ⟨⟨mm, trivial⟩, trivial, trivial⟩ ⟨mm, mm, trivial⟩ ⟨ne_zm, ne_zm, trivial⟩; rw [set_rd g339.1] at h327; replace E := E.rn B0 e511; replace B := B.rk e512 lm; refine hK338 _ _ ?_; replace F : Fr a 83 [(2, .bool false)] := F.sub ⟨rfl, trivial⟩; refine wp_ret ?_; obtain rfl := si H; refine out1 F rfl rfl ?_; exact ⟨cf (ct m) c510, rfl, E.lv B0, cfb⟩
  refine loop_fuel (I := fun n a w => ∃ (l225 : List (Option Bag)) (A222 : Option Addr) (C223 : Nat) (l229 : List (Option Bg3)) (A226 : Option Addr) (C227 : Nat) (i230 : Int) (c : Nat → Nat), Fr a 83 [(0, .slice A2 a1.length C3), (5, .slice A222 l225.length C223), (6, .slice A226 l229.length C227), (7, .int .i64 i230)] ∧ Ev (fun x => False ∨ m ≤ x) c0 w0 c w ∧ CB (m + 38) c w ∧ SL false K_haulagelaw20_Op 0 0 c w A2 C3 a1 ∧ OL KO_Bag (m + 6) (m + 5) c w A222 C223 l225 ∧ OL KO_Bg3 (m + 14) (m + 13) c w A226 C227 l229 ∧ loop (fun (s_ : (List (Option Bag)) × (List (Option Bg3)) × Int) => haulagelaw20_BagScript.b4 k a1 s_.1 s_.2.1 s_.2.2) n (l225, l229, i230) = some x240) (k := k) ⟨[t9, t18, none], A39, C40, [t45, t54, none], A75, C76, 0, c123, F.sub ⟨rfl, rfl, rfl, rfl, trivial⟩, E, B, h4, h42, h78, HL⟩ ?_; clear HL H E F B; intro n237 X233 hX233 a w232 ⟨l225, A222, C223, l229, A226, C227, i230, c231, F, E, B, h4, h224, h228, HL⟩; obtain ⟨n238, ctl236, rfl, HB, HN234, HD235⟩ := loop_some HL; have H : haulagelaw20_BagScript.b4 k a1 l225 l229 i230 = some ctl236 := HB; clear HB HL; unfold haulagelaw20_BagScript.b4 at H; refine sq fun K241 hK241 => ?_; refine sr fun K242 hK242 => qm F fun a F => qm F fun a F => ?_
  as_aux_lemma =>
  refine qv F (r_lensl F Try.underlying47 rfl) fun a F => ?_; refine qv F (r_lss F rfl rfl) fun a F => ?_; refine nil (hK242 _ _ ?_)
  by_cases hb243 : i230 < (a1.length : Int)
  ·replace H := ip hb243 H; refine wct (fb F (dt hb243)) (wp_skip (hK241 _ _ ?_)); refine sq fun K244 hK244 => ?_; refine wp_block ?_; refine sr fun K245 hK245 => qm F fun a F => qm F fun a F => ?_; replace H := ifN H; obtain ⟨g246, H⟩ := H; obtain ⟨ad247, cs248, e249, h250, r251⟩ := SL.at h4 i230 g246.1 g246.2; obtain ⟨A252, C253, rfl, h254⟩ := r251; replace h254 := SL.fl (i' := 0) h254 (fun q => q); obtain ⟨qa255, qqa255⟩ : ∃ q, q = (ad247.add (i230.toNat * 5)) := ⟨_, rfl⟩; have h250 : AT false 0 c231 w232 qa255 [.int .i64 ((rd a1 i230).Who), .int .i64 ((rd a1 i230).Kind), .int .i64 ((rd a1 i230).Number), .int .i64 ((rd a1 i230).To), .slice A252 ((rd a1 i230).Data).length C253] := by rw [qqa255]; exact h250
   refine qv F (r_indexAddr' F Try.underlying47 sz_53 rfl rfl g246.1 g246.2 e249 qqa255) fun a F => ?_; refine qv F (r_loads (cs := [.int .i64 ((rd a1 i230).Who), .int .i64 ((rd a1 i230).Kind), .int .i64 ((rd a1 i230).Number), .int .i64 ((rd a1 i230).To), .slice A252 ((rd a1 i230).Data).length C253]) F rfl ag_53 sz_53 h250) fun a F => ?_; refine q_eff F rfl rfl (by decide) (e_alloc F zv_53 c231 (m + 21)) ?_; rintro v w258 a ⟨c257, qa158, rfl, E259, h160, B260⟩ F; replace B := B260 _ B lm; replace E := E.n E259; replace h160 : AT _ _ _ _ _ [.int .i64 0, .int .i64 0, .int .i64 0, .int .i64 0, .slice none 0 0] := h160
   as_aux_lemma =>
   refine q_eff0 F rfl rfl (e_storeN0 (us := [.int .i64 ((rd a1 i230).Who), .int .i64 ((rd a1 i230).Kind), .int .i64 ((rd a1 i230).Number), .int .i64 ((rd a1 i230).To), .slice A252 ((rd a1 i230).Data).length C253]) F rfl rfl sz_53 h160 (nb rfl) (one_all rfl)) ?_; rintro w261 a ⟨E262, h160, Z263⟩ F; replace B := B.size Z263; replace h4 := (h4.ev E259).ev E262; replace h224 := (h224.ev E259).ev E262; replace h228 := (h228.ev E259).ev E262; replace h254 := (h254.ev E259).ev E262; replace E := E.trans E262 lc1; replace h160 : AT _ _ _ _ _ [.int .i64 ((rd a1 i230).Who), .int .i64 ((rd a1 i230).Kind), .int .i64 ((rd a1 i230).Number), .int .i64 ((rd a1 i230).To), .slice A252 ((rd a1 i230).Data).length C253] := h160; refine nil (hK245 _ _ ?_); replace F : Fr a 83 [(0, .slice A2 a1.length C3), (5, .slice A222 l225.length C223), (6, .slice A226 l229.length C227), (7, .int .i64 i230), (8, .pointer (some qa158))] := F.sub ⟨rfl, rfl, rfl, rfl, rfl, trivial⟩; refine sq fun K264 hK264 => ?_; refine sq fun K265 hK265 => ?_; have J268 : ∀ (c269 : Nat → Nat) (w270 : World) (a : Act) (b267 : Bool), Fr a 83 [(0, .slice A2 a1.length C3), (5, .slice A222 l225.length C223), (6, .slice A226 l229.length C227), (7, .int .i64 i230), (8, .pointer (some qa158)), (44, .bool b267)] → Ev (fun x => False ∨ m ≤ x) c0 w0 c269 w270 → CB (m + 38) c269 w270 → AT true (m + 21) c269 w270 qa158 [.int .i64 ((rd a1 i230).Who), .int .i64 ((rd a1 i230).Kind), .int .i64 ((rd a1 i230).Number), .int .i64 ((rd a1 i230).To), .slice A252 ((rd a1 i230).Data).length C253] → SL false K_haulagelaw20_Op 0 0 c269 w270 A2 C3 a1 → OL KO_Bag (m + 6) (m + 5) c269 w270 A222 C223 l225 → OL KO_Bg3 (m + 14) (m + 13) c269 w270 A226 C227 l229 → SL false (Kint .u8) 0 0 c269 w270 A252 C253 ((rd a1 i230).Data) → haulagelaw20_BagScript.j3 k a1 l225 l229 i230 b267 = some ctl236 → K265 a w270 := by
    intro c269 w270 a b267 F E B h160 h4 h224 h228 h254 H; unfold haulagelaw20_BagScript.j3 at H; refine hK265 _ _ ?_
    by_cases hb271 : b267 = true
    ·replace H := ip hb271 H; refine wct (fb F hb271) ?_; refine wp_exit ?_; refine thenE ?_; refine inbE ?_
     as_aux_lemma =>
     refine hK244 _ _ ?_; refine reg ?_; refine qm F fun a F => ?_; refine qv F (r_add F rfl rfl) fun a F => ?_; refine qa F fun a F => nil ?_; replace H := HN234 _ (si H).symm; exact hX233 _ _ _ (Nat.lt_succ_self _) ⟨l225, A222, C223, l229, A226, C227, (IntKind.i64.wrap (i230 + 1)), c269, F.sub ⟨rfl, rfl, rfl, rfl, trivial⟩, E, B, h4, h224, h228, H⟩
    replace H := im hb271 H; refine wcf (fb F (bfalse hb271)) (wp_skip (hK264 _ _ ?_)); refine sq fun K272 hK272 => ?_; replace H := ifN H; obtain ⟨g273, H⟩ := H; obtain ⟨c274, e275, e276, ad277, cs278, e279, h280, r281, h224⟩ := OL.lend h224 [m + 22, m + 23] ((rd a1 i230).Who) g273.1 g273.2 rfl ⟨⟨mm, (pl hm0)⟩, ⟨mm, (pl hm0)⟩, trivial⟩ mm; replace h160 := AT.rc h160 (rk e275 mm); replace h4 := SL.rc h4 (rk e275 ne_zm) (rk e275 ne_zm); replace h228 := OL.rc h228 (rk e275 mm) (rk e275 mm) (rk e275 ne_zm) (pl hm0); replace h254 := SL.rc h254 (rk e275 ne_zm) (rk e275 ne_zm); obtain ⟨p283, rfl, h284⟩ := r281; replace h284 : BG (m + 22) (m + 23) c274 w270 p283 (rd l225 ((rd a1 i230).Who)) := h284; obtain ⟨qa282, qqa282⟩ : ∃ q, q = (ad277.add (((rd a1 i230).Who).toNat * 1)) := ⟨_, rfl⟩; have h280 : AT true (m + 6) c274 w270 qa282 [.pointer p283] := by rw [qqa282]; exact h280
    replace E := E.rk B0 e275
    as_aux_lemma =>
    replace B : CB (m + 38) c274 w270 := e276 _ ⟨lm, lm, trivial⟩ B; replace H := ifN H; obtain ⟨g286, H⟩ := H; obtain ⟨c287, e288, e289, ad290, cs291, e292, h293, r294, h228⟩ := OL.lend h228 [m + 24, m + 25] ((rd a1 i230).Who) g286.1 g286.2 rfl ⟨⟨mm, (pl hm0)⟩, ⟨mm, (pl hm0)⟩, trivial⟩ mm; replace h160 := AT.rc h160 (rk e288 mm); replace h4 := SL.rc h4 (rk e288 ne_zm) (rk e288 ne_zm); replace h224 := OL.rc h224 (rk e288 mm) (rk e288 mm) (rk e288 ne_zm) (pl hm0); replace h254 := SL.rc h254 (rk e288 ne_zm) (rk e288 ne_zm); replace h284 := BG.rc h284 (rk e288 mm) (rk e288 mm) (rk e288 ne_zm) (pl hm0); replace h280 := AT.rc h280 (rk e288 mm); obtain ⟨p296, rfl, h297⟩ := r294; replace h297 : BG3 (m + 24) (m + 25) c287 w270 p296 (rd l229 ((rd a1 i230).Who)) := h297; obtain ⟨qa295, qqa295⟩ : ∃ q, q = (ad290.add (((rd a1 i230).Who).toNat * 1)) := ⟨_, rfl⟩; have h293 : AT true (m + 14) c287 w270 qa295 [.pointer p296] := by rw [qqa295]; exact h293
    replace E := E.rk B0 e288; replace B : CB (m + 38) c287 w270 := e289 _ ⟨lm, lm, trivial⟩ B; refine regD (SB (fun x => x = m + 22 ∨ x = m + 23 ∨ x = m + 24 ∨ x = m + 25) c287 w270) 13 (.q 0 (.q 1 (.q 2 (.q 3 (.q 4 (.q 5 (.q 6 (.q 7 (.q 8 (.q 9 (.q 10 (.e 11 (.q 12 .nil))))))))))))) Try_hm (by decide +kernel) ?_; intro w299 w1_ w2_ w3_ w4_; have E300 : Ev No c287 w270 c287 w299 := Ev.same w1_ w2_ w3_ w4_; replace B := B.same w1_; have zh160 := h160; have zh280 := h280; have zh293 := h293; have ER : Ev (fun x => x = m + 22 ∨ x = m + 23 ∨ x = m + 24 ∨ x = m + 25) c287 w270 c287 w299 := Ev.same w1_ w2_ w3_ w4_
    as_aux_lemma =>
    replace h4 := h4.ev E300; replace h224 := h224.ev E300; replace h228 := h228.ev E300; replace h254 := h254.ev E300; replace h284 := h284.ev E300; replace h280 := h280.ev E300; replace h297 := h297.ev E300; replace h293 := h293.ev E300; replace E := E.n E300; refine dm F ER.sb fun a F => ?_; refine df F ff_53_0 ER.sb fun a F => ?_; refine dq F (fun wq hS => r_load F rfl ag_3 (AT.cell (AT.sb zh160 hS (nor mm (nor mm (nor mm mm)))) rfl)) ER.sb fun a F => ?_; refine dq F (fun wq hS => r_indexAddr' F Try.underlying49 sz_24 rfl rfl g273.1 g273.2 e279 qqa282) ER.sb fun a F => ?_; refine dq F (fun wq hS => r_load F rfl ag_24 (AT.cell0 (AT.sb zh280 hS (nor mm (nor mm (nor mm mm)))) rfl)) ER.sb fun a F => ?_; refine dm F ER.sb fun a F => ?_; refine df F ff_53_0 ER.sb fun a F => ?_; refine dq F (fun wq hS => r_load F rfl ag_3 (AT.cell (AT.sb zh160 hS (nor mm (nor mm (nor mm mm)))) rfl)) ER.sb fun a F => ?_; refine dq F (fun wq hS => r_indexAddr' F Try.underlying51 sz_48 rfl rfl g286.1 g286.2 e292 qqa295) ER.sb fun a F => ?_; refine dq F (fun wq hS => r_load F rfl ag_48 (AT.cell0 (AT.sb zh293 hS (nor mm (nor mm (nor mm mm)))) rfl)) ER.sb fun a F => ?_; refine dq F (fun wq hS => r_loads (cs := [.int .i64 ((rd a1 i230).Who), .int .i64 ((rd a1 i230).Kind), .int .i64 ((rd a1 i230).Number), .int .i64 ((rd a1 i230).To), .slice A252 ((rd a1 i230).Data).length C253]) F rfl ag_53 sz_53 (AT.sb zh160 hS (nor mm (nor mm (nor mm mm))))) ER.sb fun a F => ?_; refine d_e ?_; obtain ⟨t203, q204, H⟩ := bind_some H
    as_aux_lemma =>
    refine oc F Try.func24 (haulagelaw20_step.calls k (m := m + 38) (pl hm0) B h284 h297 h254 ⟨(pl hm0), lm⟩ ⟨(pl hm0), lm, mm⟩ ⟨(pl hm0), lm, mm, mm⟩ ⟨(pl hm0), lm, mm, mm, mm⟩ _ q204) ?_; rintro e w302 ⟨c301, rfl, E303, B, h305, h306⟩; refine rt fun a F => ?_; replace ER := ER.trans E303 (fun x q => by replace q : x = m + 22 ∨ x = m + 23 ∨ x = m + 24 ∨ x = m + 25 := q; show x = m + 22 ∨ x = m + 23 ∨ x = m + 24 ∨ x = m + 25; omega); replace h4 := h4.ev E303 (nor ne_zm (nor ne_zm (nor ne_zm ne_zm))) (nor ne_zm (nor ne_zm (nor ne_zm ne_zm))); replace h224 := h224.ev E303 (nor mm (nor mm (nor mm mm))) (nor mm (nor mm (nor mm mm))) (nor ne_zm (nor ne_zm (nor ne_zm ne_zm))); replace h228 := h228.ev E303 (nor mm (nor mm (nor mm mm))) (nor mm (nor mm (nor mm mm))) (nor ne_zm (nor ne_zm (nor ne_zm ne_zm))); replace h280 := h280.ev E303 (nor mm (nor mm (nor mm mm))); replace h293 := h293.ev E303 (nor mm (nor mm (nor mm mm))); replace E := E.trans E303 (fun x (q : x = m + 22 ∨ x = m + 23 ∨ x = m + 24 ∨ x = m + 25) => q.elim (fun q => Or.inr (le_col q)) (fun q => q.elim (fun q => Or.inr (le_col q)) (fun q => q.elim (fun q => Or.inr (le_col q)) (fun q => Or.inr (le_col q))))); refine ⟨fun _ => ER.sb, ?_⟩; refine dq F (fun wq hS => r_not F rfl) ER.sb fun a F => ?_; refine d_nil ?_; obtain ⟨c308, e309, e310, h228⟩ := OL.back (zs := [m + 24, m + 25]) (k := ((rd a1 i230).Who)) (ad := ad290) (x := t203.2.2) h228 g286.1 g286.2 e292 (by have q_ := h293; rw [qqa295] at q_; exact q_) ⟨p296, rfl, h306⟩ rfl ⟨⟨mm, (pl hm0)⟩, ⟨mm, (pl hm0)⟩, trivial⟩ ⟨⟨mm, trivial⟩, trivial, trivial⟩ ⟨mm, mm, trivial⟩ ⟨ne_zm, ne_zm, trivial⟩; replace h4 := SL.rc h4 (rn e309 ⟨ne_zm, ne_zm, trivial⟩) (rn e309 ⟨ne_zm, ne_zm, trivial⟩); replace h224 := OL.rc h224 (rn e309 ⟨mm, mm, trivial⟩) (rn e309 ⟨mm, mm, trivial⟩) (rn e309 ⟨ne_zm, ne_zm, trivial⟩) (pl hm0); replace h280 := AT.rc h280 (rn e309 ⟨mm, mm, trivial⟩); replace h305 := BG.rc h305 (rn e309 ⟨mm, mm, trivial⟩) (rn e309 ⟨mm, mm, trivial⟩) (rn e309 ⟨ne_zm, ne_zm, trivial⟩) (pl hm0); replace E := E.rn B0 e309; replace B := B.rk e310 lm; have hl311 : l229.length = (l229.set ((rd a1 i230).Who).toNat t203.2.2).length := by simp
    replace F := F.sub (L' := [(0, .slice A2 a1.length C3), (5, .slice A222 l225.length C223), (6, .slice A226 (l229.set ((rd a1 i230).Who).toNat t203.2.2).length C227), (7, .int .i64 i230), (8, .pointer (some qa158)), (44, .bool b267), (45, .slice A222 l225.length C223), (46, .pointer (some (qa158.add 0))), (47, .int .i64 ((rd a1 i230).Who)), (48, .pointer (some qa282)), (49, .pointer p283), (50, .slice A226 (l229.set ((rd a1 i230).Who).toNat t203.2.2).length C227), (51, .pointer (some (qa158.add 0))), (52, .int .i64 ((rd a1 i230).Who)), (55, .agg #[.int .i64 ((rd a1 i230).Who), .int .i64 ((rd a1 i230).Kind), .int .i64 ((rd a1 i230).Number), .int .i64 ((rd a1 i230).To), .slice A252 ((rd a1 i230).Data).length C253]), (56, .bool t203.1), (57, .bool (!t203.1))]) ⟨rfl, rfl, (by rw [← hl311]; rfl), rfl, rfl, rfl, rfl, rfl, rfl, rfl, rfl, (by rw [← hl311]; rfl), rfl, rfl, rfl, rfl, rfl, trivial⟩; obtain ⟨c312, e313, e314, h224⟩ := OL.back (zs := [m + 22, m + 23]) (k := ((rd a1 i230).Who)) (ad := ad277) (x := t203.2.1) h224 g273.1 g273.2 e279 (by have q_ := h280; rw [qqa282] at q_; exact q_) ⟨p283, rfl, h305⟩ rfl ⟨⟨mm, (pl hm0)⟩, ⟨mm, (pl hm0)⟩, trivial⟩ ⟨⟨mm, trivial⟩, trivial, trivial⟩ ⟨mm, mm, trivial⟩ ⟨ne_zm, ne_zm, trivial⟩
    as_aux_lemma =>
    replace h4 := SL.rc h4 (rn e313 ⟨ne_zm, ne_zm, trivial⟩) (rn e313 ⟨ne_zm, ne_zm, trivial⟩); replace h228 := OL.rc h228 (rn e313 ⟨mm, mm, trivial⟩) (rn e313 ⟨mm, mm, trivial⟩) (rn e313 ⟨ne_zm, ne_zm, trivial⟩) (pl hm0); replace E := E.rn B0 e313; replace B := B.rk e314 lm; have hl315 : l225.length = (l225.set ((rd a1 i230).Who).toNat t203.2.1).length := by simp
    replace F := F.sub (L' := [(0, .slice A2 a1.length C3), (5, .slice A222 (l225.set ((rd a1 i230).Who).toNat t203.2.1).length C223), (6, .slice A226 (l229.set ((rd a1 i230).Who).toNat t203.2.2).length C227), (7, .int .i64 i230), (8, .pointer (some qa158)), (44, .bool b267), (45, .slice A222 (l225.set ((rd a1 i230).Who).toNat t203.2.1).length C223), (46, .pointer (some (qa158.add 0))), (47, .int .i64 ((rd a1 i230).Who)), (50, .slice A226 (l229.set ((rd a1 i230).Who).toNat t203.2.2).length C227), (51, .pointer (some (qa158.add 0))), (52, .int .i64 ((rd a1 i230).Who)), (55, .agg #[.int .i64 ((rd a1 i230).Who), .int .i64 ((rd a1 i230).Kind), .int .i64 ((rd a1 i230).Number), .int .i64 ((rd a1 i230).To), .slice A252 ((rd a1 i230).Data).length C253]), (56, .bool t203.1), (57, .bool (!t203.1))]) ⟨rfl, (by rw [← hl315]; rfl), rfl, rfl, rfl, rfl, (by rw [← hl315]; rfl), rfl, rfl, rfl, rfl, rfl, rfl, rfl, rfl, trivial⟩; refine hK272 _ _ ?_; replace F : Fr a 83 [(0, .slice A2 a1.length C3), (5, .slice A222 (l225.set ((rd a1 i230).Who).toNat t203.2.1).length C223), (6, .slice A226 (l229.set ((rd a1 i230).Who).toNat t203.2.2).length C227), (7, .int .i64 i230), (57, .bool (!t203.1))] := F.sub ⟨rfl, rfl, rfl, rfl, rfl, trivial⟩
    by_cases hb316 : t203.1 = true
    ·replace H := ip hb316 H; refine wcf (fb F (congrArg not hb316)) (wp_skip (hK244 _ _ ?_)); refine reg ?_; refine qm F fun a F => ?_; refine qv F (r_add F rfl rfl) fun a F => ?_; refine qa F fun a F => nil ?_; replace H := HN234 _ (si H).symm; exact hX233 _ _ _ (Nat.lt_succ_self _) ⟨(l225.set ((rd a1 i230).Who).toNat t203.2.1), A222, C223, (l229.set ((rd a1 i230).Who).toNat t203.2.2), A226, C227, (IntKind.i64.wrap (i230 + 1)), c312, F.sub ⟨rfl, rfl, rfl, rfl, trivial⟩, E, B, h4, h224, h228, H⟩
    replace H := im hb316 H; refine wct (fb F (congrArg not (bfalse hb316))) ?_; refine sr fun K317 hK317 => qa F fun a F => nil (hK317 _ _ ?_); refine wp_ret ?_; refine inbR ?_; refine thenR ?_
    as_aux_lemma =>
    refine thenR ?_; refine inbR ?_; refine thenR ?_; have hx_ := HD235 _ (si H).symm; have H := HR239; rw [← hx_] at H; replace H : some false = some r := H; obtain rfl := si H; refine out1 F rfl rfl ?_; exact ⟨cf (ct m) c312, rfl, E.lv B0, cfb⟩
   refine reg ?_; refine qf F ff_53_0 fun a F => ?_; refine ql F ag_3 h160 fun a F => ?_; refine qv F (r_lss F rfl rfl) fun a F => ?_; refine qm F fun a F => ?_
   by_cases hb266 : ((rd a1 i230).Who) < 0
   ·replace H := ip hb266 H; refine qn F (dt hb266) fun a F => qn F (dt hb266) fun a F => qn F (dt hb266) fun a F => ?_; refine qv F (r_pick_t F rfl (dt hb266) rfl) fun a F => ?_; refine nil ?_; exact J268 c257 w261 a true (F.sub ⟨rfl, rfl, rfl, rfl, rfl, rfl, trivial⟩) E B h160 h4 h224 h228 h254 H
   replace H := im hb266 H; refine qy F (dz hb266) ?_
   as_aux_lemma =>
   refine qf F ff_53_0 fun a F => ?_; refine qy F (dz hb266) ?_; refine ql F ag_3 h160 fun a F => ?_; refine qy F (dz hb266) ?_; refine qv F (r_gtr F rfl rfl) fun a F => ?_; refine qv F (r_pick_f F rfl (dz hb266) rfl) fun a F => ?_; refine nil ?_; exact J268 c257 w261 a (decide (2 < ((rd a1 i230).Who))) (F.sub ⟨rfl, rfl, rfl, rfl, rfl, rfl, trivial⟩) E B h160 h4 h224 h228 h254 H
  replace H := im hb243 H; refine wcf (fb F (dz hb243)) ?_; refine wp_exit ?_; refine thenE ?_; refine thenE ?_; refine inbE ?_; have hx_ := HD235 _ (si H).symm; have H := HR239; rw [← hx_] at H; exact J335 c231 w232 a l225 A222 C223 l229 A226 C227 (F.sub ⟨rfl, rfl, trivial⟩) E B h224 h228 H
 refine reg ?_; refine qm F fun a F => ?_; replace H := ifN H; obtain ⟨g82, H⟩ := H; obtain ⟨c83, e84, e85, ad86, cs87, e88, h89, r90, h42⟩ := OL.lend h42 [m + 17, m + 18] (0 : Int) g82.1 g82.2 rfl ⟨⟨mm, (pl hm0)⟩, ⟨mm, (pl hm0)⟩, trivial⟩ mm
 as_aux_lemma =>
 replace h4 := SL.rc h4 (rk e84 ne_zm) (rk e84 ne_zm); replace h78 := OL.rc h78 (rk e84 mm) (rk e84 mm) (rk e84 ne_zm) (pl hm0); obtain ⟨p92, rfl, h93⟩ := r90; replace h93 : BG (m + 17) (m + 18) c83 w74 p92 (rd [t9, t18, none] (0 : Int)) := h93; obtain ⟨qa91, qqa91⟩ : ∃ q, q = (ad86.add ((0 : Int).toNat * 1)) := ⟨_, rfl⟩; have h89 : AT true (m + 6) c83 w74 qa91 [.pointer p92] := by rw [qqa91]; exact h89
 replace E := E.rk B0 e84; replace B : CB (m + 38) c83 w74 := e85 _ ⟨lm, lm, trivial⟩ B; refine qv F (r_indexAddr' F Try.underlying49 sz_24 rfl rfl g82.1 g82.2 e88 qqa91) fun a F => ?_; refine qv F (r_load F rfl ag_24 (AT.cell0 h89 rfl)) fun a F => ?_; refine qv F (r_peqlA F Try.underlying24 rfl rfl (BG.isNone h93)) fun a F => ?_; refine qm F fun a F => ?_
 by_cases hb95 : (Option.isNone (rd [t9, t18, none] (0 : Int))) = true
 ·replace H := ip hb95 H; refine qn F hb95 fun a F => qn F hb95 fun a F => qn F hb95 fun a F => qn F hb95 fun a F => ?_; refine qv F (r_pick_t F rfl hb95 rfl) fun a F => ?_; obtain ⟨c96, e97, e98, h42⟩ := OL.back (zs := [m + 17, m + 18]) (k := (0 : Int)) (ad := ad86) (x := (rd [t9, t18, none] (0 : Int))) h42 g82.1 g82.2 e88 (by have q_ := h89; rw [qqa91] at q_; exact q_) ⟨p92, rfl, h93⟩ rfl ⟨⟨mm, (pl hm0)⟩, ⟨mm, (pl hm0)⟩, trivial⟩ ⟨⟨mm, trivial⟩, trivial, trivial⟩ ⟨mm, mm, trivial⟩ ⟨ne_zm, ne_zm, trivial⟩; rw [set_rd g82.1] at h42; replace h4 := SL.rc h4 (rn e97 ⟨ne_zm, ne_zm, trivial⟩) (rn e97 ⟨ne_zm, ne_zm, trivial⟩); replace h78 := OL.rc h78 (rn e97 ⟨mm, mm, trivial⟩) (rn e97 ⟨mm, mm, trivial⟩) (rn e97 ⟨ne_zm, ne_zm, trivial⟩) (pl hm0); replace E := E.rn B0 e97; replace B := B.rk e98 lm; refine nil ?_; exact J122 c96 w74 a true (F.sub ⟨rfl, rfl, rfl, rfl, trivial⟩) E B h4 h42 h78 H
 as_aux_lemma =>
 replace H := im hb95 H; refine qy F (bfalse hb95) ?_; refine qm F fun a F => ?_; obtain ⟨c100, e101, e102, h42⟩ := OL.back (zs := [m + 17, m + 18]) (k := (0 : Int)) (ad := ad86) (x := (rd [t9, t18, none] (0 : Int))) h42 g82.1 g82.2 e88 (by have q_ := h89; rw [qqa91] at q_; exact q_) ⟨p92, rfl, h93⟩ rfl ⟨⟨mm, (pl hm0)⟩, ⟨mm, (pl hm0)⟩, trivial⟩ ⟨⟨mm, trivial⟩, trivial, trivial⟩ ⟨mm, mm, trivial⟩ ⟨ne_zm, ne_zm, trivial⟩; rw [set_rd g82.1] at h42; replace h4 := SL.rc h4 (rn e101 ⟨ne_zm, ne_zm, trivial⟩) (rn e101 ⟨ne_zm, ne_zm, trivial⟩); replace h78 := OL.rc h78 (rn e101 ⟨mm, mm, trivial⟩) (rn e101 ⟨mm, mm, trivial⟩) (rn e101 ⟨ne_zm, ne_zm, trivial⟩) (pl hm0); replace E := E.rn B0 e101; replace B := B.rk e102 lm; replace H := ifN H; obtain ⟨g104, H⟩ := H; obtain ⟨c105, e106, e107, ad108, cs109, e110, h111, r112, h42⟩ := OL.lend h42 [m + 19, m + 20] (1 : Int) g104.1 g104.2 rfl ⟨⟨mm, (pl hm0)⟩, ⟨mm, (pl hm0)⟩, trivial⟩ mm; replace h4 := SL.rc h4 (rk e106 ne_zm) (rk e106 ne_zm); replace h78 := OL.rc h78 (rk e106 mm) (rk e106 mm) (rk e106 ne_zm) (pl hm0); obtain ⟨p114, rfl, h115⟩ := r112; replace h115 : BG (m + 19) (m + 20) c105 w74 p114 (rd [t9, t18, none] (1 : Int)) := h115; obtain ⟨qa113, qqa113⟩ : ∃ q, q = (ad108.add ((1 : Int).toNat * 1)) := ⟨_, rfl⟩; have h111 : AT true (m + 6) c105 w74 qa113 [.pointer p114] := by rw [qqa113]; exact h111
 replace E := E.rk B0 e106; replace B : CB (m + 38) c105 w74 := e107 _ ⟨lm, lm, trivial⟩ B; refine qy F (bfalse hb95) ?_; refine qv F (r_indexAddr' F Try.underlying49 sz_24 rfl rfl g104.1 g104.2 e110 qqa113) fun a F => ?_
 as_aux_lemma =>
 refine qy F (bfalse hb95) ?_; refine qv F (r_load F rfl ag_24 (AT.cell0 h111 rfl)) fun a F => ?_; refine qy F (bfalse hb95) ?_; refine qv F (r_peqlA F Try.underlying24 rfl rfl (BG.isNone h115)) fun a F => ?_; refine qv F (r_pick_f F rfl (bfalse hb95) rfl) fun a F => ?_; obtain ⟨c117, e118, e119, h42⟩ := OL.back (zs := [m + 19, m + 20]) (k := (1 : Int)) (ad := ad108) (x := (rd [t9, t18, none] (1 : Int))) h42 g104.1 g104.2 e110 (by have q_ := h111; rw [qqa113] at q_; exact q_) ⟨p114, rfl, h115⟩ rfl ⟨⟨mm, (pl hm0)⟩, ⟨mm, (pl hm0)⟩, trivial⟩ ⟨⟨mm, trivial⟩, trivial, trivial⟩ ⟨mm, mm, trivial⟩ ⟨ne_zm, ne_zm, trivial⟩; rw [set_rd g104.1] at h42; replace h4 := SL.rc h4 (rn e118 ⟨ne_zm, ne_zm, trivial⟩) (rn e118 ⟨ne_zm, ne_zm, trivial⟩); replace h78 := OL.rc h78 (rn e118 ⟨mm, mm, trivial⟩) (rn e118 ⟨mm, mm, trivial⟩) (rn e118 ⟨ne_zm, ne_zm, trivial⟩) (pl hm0); replace E := E.rn B0 e118; replace B := B.rk e119 lm; refine nil ?_; exact J122 c117 w74 a (Option.isNone (rd [t9, t18, none] (1 : Int))) (F.sub ⟨rfl, rfl, rfl, rfl, trivial⟩) E B h4 h42 h78 H
end Go.Proofs.Ytdlokohmdnkdoaa.G
namespace Go.Proofs.Ytdlokohmdnkdoaa.G
open Go Go.ChangeShapes Go.WideShapes
set_option linter.unusedVariables false
set_option linter.unusedSimpArgs false
theorem bulk_one {H : Type} (d : DataW H) : 1 ≤ Rows.uptoBulk d := by
 cases d with
 | lit l => cases l <;> simp [Rows.uptoBulk]
 | nil => simp [Rows.uptoBulk]
 | ptr d => simp [Rows.uptoBulk]
 | slice elems spare => simp [Rows.uptoBulk]
 | agg parts => simp [Rows.uptoBulk]
 | iface t d => simp [Rows.uptoBulk]
 | map entries => simp [Rows.uptoBulk]
 | held h => simp [Rows.uptoBulk]
theorem bulk_slice {H : Type} (elems spare : List (DataW H)) : Rows.uptoBulkAll elems + 1 ≤ Rows.uptoBulk (.slice elems spare) := by
 simp only [Rows.uptoBulk]
 omega
theorem bulk_agg {H : Type} (parts : List (DataW H)) : Rows.uptoBulkAll parts + 1 ≤ Rows.uptoBulk (.agg parts) := by
 simp only [Rows.uptoBulk]
 omega
theorem bulk_all {H : Type} : ∀ l : List (DataW H), Rows.uptoBulkAll l = (l.map Rows.uptoBulk).sum
 | [] => by simp [Rows.uptoBulkAll]
 | d :: l => by simp [Rows.uptoBulkAll, bulk_all l]
def c0 : Nat → Nat := fun _ => 0
def Opens {α : Type} (P : Program) (w : World) (t : TypeId) (e : K α) (wt : α → Nat) (ok : α → Prop) : Prop :=
 ∀ (H : Type) (enc : TypeId × Value → H) (fuel : Nat) (cs : List Value) (x : DataW H × List MemPlace), DataW.trod enc P w 0 (fun _ => true) true fuel t cs = some x → ∃ y, e.rep 0 c0 w cs y ∧ wt y ≤ Rows.uptoBulk x.1 ∧ ok y
section
variable {α : Type} {P : Program} {w : World} {t u : TypeId} {e : K α} {wt : α → Nat} {ok : α → Prop}
theorem opens_int {k : IntKind} (ht : P.underlying t = some (.int k)) : Opens P w t (Kint k) (fun _ => 1) (fun n => (Lit.int k n).wf = true) := by
 intro H enc fuel cs x h
 obtain ⟨n, rfl, rfl, hw⟩ := DataW.trod_int ht h
 exact ⟨n, rfl, bulk_one _, hw⟩
theorem at_cell {p : Addr} {v : Value} (h : w.cell? p = some v) : p = ⟨p.block, p.off, none⟩ ∧ ∃ cur ty fz, w.heap[p.block]? = some (.cells cur ty fz) ∧ cur[p.off]? = some v := by
 obtain ⟨b, off, spot⟩ := p
 simp only [World.cell?] at h
 split at h
 ·rename_i c ty fz hb
  cases spot with
  | some s => simp at h
  | none => exact ⟨rfl, c, ty, fz, hb, by simpa using h⟩
 ·cases h
theorem at_cells {p : Addr} {n : Nat} {cs : List Value} (hn : cs.length = n) (hp : 0 < n) (h : ∀ i, i < n → w.cell? (p.add i) = cs[i]?) : AT false 0 c0 w p cs := by
 have h0 := h 0 hp
 have e0 : p.add 0 = p := by simp [Addr.add]
 rw [e0, List.getElem?_eq_getElem (by omega)] at h0
 obtain ⟨ep, cur, ty, fz, hb, hc⟩ := at_cell h0
 refine ⟨p.block, p.off, cur, ty, fz, ep, hb, rfl, fun k hk => ?_, fun q => by cases q⟩
 have hk' := h k (by omega)
 rw [ep, add_eq] at hk'
 simp only [World.cell?, hb] at hk'
 simpa using hk'
theorem sum_le {β γ : Type} (f : β → Nat) (g : γ → Nat) : ∀ (l : List β) (m : List γ), l.length = m.length → (∀ i (h : i < l.length) (h' : i < m.length), f l[i] ≤ g m[i]) → (l.map f).sum ≤ (m.map g).sum
 | [], [], _, _ => Nat.le_refl _
 | [], _ :: _, h, _ => by simp at h
 | _ :: _, [], h, _ => by simp at h
 | a :: l, b :: m, h, hh => by
  simp only [List.map_cons, List.sum_cons]
  have h0 := hh 0 (by simp) (by simp)
  simp only [List.getElem_cons_zero] at h0
  have := sum_le f g l m (by simpa using h) (fun i h1 h2 => by
   have := hh (i + 1) (by simp; omega) (by simp; omega)
   simpa using this)
  omega
theorem open_sl [Inhabited α] (ht : P.underlying t = some (.slice u)) (hc : P.cellsOf u = e.sz) (hu : Opens P w u e wt ok) {H : Type} {enc : TypeId × Value → H} {fuel : Nat} {cs : List Value} {x : DataW H × List MemPlace}
  (h : DataW.trod enc P w 0 (fun _ => true) true fuel t cs = some x) :
  ∃ A cap xs, cs = [.slice A xs.length cap] ∧ SL false e 0 0 c0 w A cap xs ∧ (xs.map wt).sum + 1 ≤ Rows.uptoBulk x.1 ∧ ∀ y ∈ xs, ok y := by
 rcases Deep.open_slice ht h with ⟨rfl, rfl⟩ | ⟨a, len, cap, m, n, D, Pl, rfl, _, hl, hm, hmm, rfl, hx⟩
 ·exact ⟨none, 0, [], rfl, SL.nil, by simp [Rows.uptoBulk], fun y hy => by cases hy⟩
 simp only [if_true] at hmm
 subst hmm
 have hp := e.pos
 rw [hc] at hx
 have each : ∀ i, i < m → ∃ y : List Value × α, (y.1.length = e.sz ∧ ∀ k, k < e.sz → w.cell? ((a.add (i * e.sz)).add k) = y.1[k]?) ∧ e.rep 0 c0 w y.1 y.2 ∧ wt y.2 ≤ Rows.uptoBulk (D i) ∧ ok y.2 := by
  intro i hi
  obtain ⟨cs', h1, h2⟩ := hx i hi
  obtain ⟨_, g1, g2⟩ := World.cells?_some h1
  obtain ⟨y, g3, g4, g5⟩ := hu H enc n cs' _ h2
  exact ⟨(cs', y), ⟨g1, g2⟩, g3, g4, g5⟩
 obtain ⟨y, hy⟩ := Deep.choose_lt each
 let V : Nat → Value := fun q => (y (q / e.sz)).1.getD (q % e.sz) default
 have hV : ∀ i k, k < e.sz → V (i * e.sz + k) = (y i).1.getD k default := by
  intro i k hk
  show (y ((i * e.sz + k) / e.sz)).1.getD ((i * e.sz + k) % e.sz) default = _
  rw [Nat.mul_comm, Nat.mul_add_div hp, Nat.div_eq_of_lt hk, Nat.add_zero, Nat.mul_add_mod, Nat.mod_eq_of_lt hk]
 let cs := (List.range (m * e.sz)).map V
 have hcs : cs.length = m * e.sz := by simp [cs]
 have hcell : ∀ q, q < m * e.sz → w.cell? (a.add q) = cs[q]? := by
  intro q hq
  have hi : q / e.sz < m := (Nat.div_lt_iff_lt_mul hp).2 hq
  have hk : q % e.sz < e.sz := Nat.mod_lt _ hp
  obtain ⟨⟨g1, g2⟩, _⟩ := hy _ hi
  have g := g2 _ hk
  have e1 : (a.add (q / e.sz * e.sz)).add (q % e.sz) = a.add q := by
   have e2 : q / e.sz * e.sz + q % e.sz = q := Nat.div_add_mod' q e.sz
   obtain ⟨b, off, s⟩ := a
   simp only [Addr.add]
   split <;> split <;> split <;> simp_all <;> omega
  rw [e1] at g
  rw [g]
  simp only [cs, List.getElem?_map, List.getElem?_range hq, Option.map_some]
  show _ = some ((y (q / e.sz)).1.getD (q % e.sz) default)
  rw [List.getD_eq_getElem?_getD, List.getElem?_eq_getElem (by omega)]
  rfl
 refine ⟨some a, m, (List.range len).map fun i => (y i).2, by simp, ⟨cs, by simpa using hl, hm, hcs, ?_, fun n hn => ?_⟩, ?_, ?_⟩
 ·rcases Nat.eq_zero_or_pos (m * e.sz) with q | q
  ·left; exact List.length_eq_zero_iff.1 (by omega)
  ·right; exact ⟨a, rfl, at_cells hcs q hcell⟩
 ·simp only [List.length_map, List.length_range] at hn
  obtain ⟨⟨g1, _⟩, g3, _, _⟩ := hy n (by omega)
  have e1 : (cs.drop (n * e.sz)).take e.sz = (y n).1 := by
   apply List.ext_getElem?
   intro k
   by_cases hk : k < e.sz
   ·have hq : n * e.sz + k < m * e.sz := by
     have : (n + 1) * e.sz ≤ m * e.sz := Nat.mul_le_mul_right _ (by omega)
     rw [Nat.succ_mul] at this; omega
    rw [List.getElem?_take_of_lt hk, List.getElem?_drop]
    simp only [cs, List.getElem?_map, List.getElem?_range hq, Option.map_some]
    rw [hV n k hk, List.getD_eq_getElem?_getD, List.getElem?_eq_getElem (by omega)]
    rfl
   ·rw [List.getElem?_eq_none (by simp; omega), List.getElem?_eq_none (by omega)]
  rw [e1]
  simpa using g3
 ·refine Nat.le_trans (Nat.succ_le_succ ?_) (bulk_slice _ _)
  rw [bulk_all]
  rw [List.map_map, List.map_map]
  have := sum_le (fun i => wt (y i).2) (fun i => Rows.uptoBulk (D i)) (List.range len) (List.range len) rfl (fun i h1 h2 => by
   simp only [List.length_range] at h1
   simp only [List.getElem_range]
   exact (hy i (by omega)).2.2.1)
  exact this
 ·intro z hz
  obtain ⟨i, hi, rfl⟩ := List.mem_map.1 hz
  exact (hy i (by have := List.mem_range.1 hi; omega)).2.2.2
theorem opens_slice [Inhabited α] (ht : P.underlying t = some (.slice u)) (hc : P.cellsOf u = e.sz) (hu : Opens P w u e wt ok) : Opens P w t (Kslice e) (fun xs => (xs.map wt).sum + 1) (fun xs => ∀ y ∈ xs, ok y) := by
 intro H enc fuel cs x h
 obtain ⟨A, cap, xs, h1, h2, h3, h4⟩ := open_sl ht hc hu h
 exact ⟨xs, ⟨A, cap, h1, h2⟩, h3, h4⟩
end
end Go.Proofs.Ytdlokohmdnkdoaa.G
namespace Go.Proofs.Ytdlokohmdnkdoaa.G
open Go Go.ChangeShapes Go.WideShapes
set_option linter.unusedVariables false
theorem row_own : ownKnob Try.prog.godebug = none := by kernel_rfl
theorem row_laidOut : laidOutB Try.prog = true := by kernel_rfl
def intok (n : Int) : Prop := (Lit.int .i64 n).wf = true
theorem intok.range {n : Int} (h : intok n) : -9223372036854775808 ≤ n ∧ n ≤ 9223372036854775807 := by simpa [intok, Lit.wf, IntKind.min, IntKind.max, IntKind.signed, IntKind.bits] using h
def byteok (n : Int) : Prop := (Lit.int .u8 n).wf = true
def bytesok (xs : List Int) : Prop := ∀ n ∈ xs, byteok n
theorem byteok.range {n : Int} (h : byteok n) : 0 ≤ n ∧ n ≤ 255 := by simpa [byteok, Lit.wf, IntKind.min, IntKind.max, IntKind.signed, IntKind.bits] using h
theorem sum_one {α : Type} (xs : List α) : (xs.map fun _ => 1).sum = xs.length := by
 induction xs with
 | nil => rfl
 | cons x xs ih => simp [ih]; omega
theorem mem_sum {α : Type} (f : α → Nat) : ∀ {xs : List α} {x : α}, x ∈ xs → f x ≤ (xs.map f).sum
 | y :: xs, x, h => by
  rcases List.mem_cons.1 h with e | h
  ·subst e; simp
  ·have := mem_sum f h; simp only [List.map_cons, List.sum_cons]; omega
theorem len_sum {α : Type} (f : α → Nat) (hf : ∀ x, 1 ≤ f x) : ∀ xs : List α, xs.length ≤ (xs.map f).sum
 | [] => Nat.le_refl _
 | x :: xs => by have := len_sum f hf xs; have := hf x; simp only [List.map_cons, List.sum_cons, List.length_cons]; omega
theorem cells_3 : Try.prog.cellsOf 3 = 1 := by kernel_rfl
theorem cells_5 : Try.prog.cellsOf 5 = 1 := by kernel_rfl
theorem cells_27 : Try.prog.cellsOf 27 = 1 := by kernel_rfl
theorem cells_53 : Try.prog.cellsOf 53 = 5 := by kernel_rfl
theorem opens_bytes {w : World} : Opens Try.prog w 27 (Kslice (Kint .u8)) (fun xs => xs.length + 1) bytesok := by
 intro H enc fuel cs x h
 obtain ⟨y, h1, h2, h3⟩ := opens_slice (e := Kint .u8) Try.underlying27 cells_5 (opens_int Try.underlying5) H enc fuel cs x h
 have h2' : (y.map fun _ => 1).sum + 1 ≤ Rows.uptoBulk x.1 := h2
 rw [sum_one] at h2'
 exact ⟨y, h1, h2', h3⟩
abbrev wt_haulagelaw20_Op (o : haulagelaw20_Op) : Nat := o.Data.length + 1
def ok_haulagelaw20_Op (o : haulagelaw20_Op) : Prop := intok o.Who ∧ intok o.Kind ∧ intok o.Number ∧ intok o.To ∧ bytesok o.Data
set_option maxRecDepth 100000 in
theorem opens_haulagelaw20_Op {w : World} : Opens Try.prog w 53 K_haulagelaw20_Op wt_haulagelaw20_Op ok_haulagelaw20_Op := by
 intro H enc fuel cs x h
 obtain ⟨xs, n, rfl, rfl, hl, hxl, hf⟩ := DataW.trod_struct Try.underlying53 h
 rw [cells_53] at hl
 match cs, hl with
 | [v0, v1, v2, v3, v4], _ =>
  match xs, hxl with
  | [x0, x1, x2, x3, x4], _ =>
   have g0 : DataW.trod enc Try.prog w 0 (fun _ => true) true n 3 (([v0, v1, v2, v3, v4].drop 0).take (Try.prog.cellsOf 3)) = some x0 := hf 0 _ rfl
   rw [cells_3] at g0
   replace g0 : DataW.trod enc Try.prog w 0 (fun _ => true) true n 3 [v0] = some x0 := g0
   obtain ⟨y0, r0, -, k0⟩ := opens_int (w := w) Try.underlying3 H enc n _ _ g0
   have g1 : DataW.trod enc Try.prog w 0 (fun _ => true) true n 3 (([v0, v1, v2, v3, v4].drop 1).take (Try.prog.cellsOf 3)) = some x1 := hf 1 _ rfl
   rw [cells_3] at g1
   replace g1 : DataW.trod enc Try.prog w 0 (fun _ => true) true n 3 [v1] = some x1 := g1
   obtain ⟨y1, r1, -, k1⟩ := opens_int (w := w) Try.underlying3 H enc n _ _ g1
   have g2 : DataW.trod enc Try.prog w 0 (fun _ => true) true n 3 (([v0, v1, v2, v3, v4].drop 2).take (Try.prog.cellsOf 3)) = some x2 := hf 2 _ rfl
   rw [cells_3] at g2
   replace g2 : DataW.trod enc Try.prog w 0 (fun _ => true) true n 3 [v2] = some x2 := g2
   obtain ⟨y2, r2, -, k2⟩ := opens_int (w := w) Try.underlying3 H enc n _ _ g2
   have g3 : DataW.trod enc Try.prog w 0 (fun _ => true) true n 3 (([v0, v1, v2, v3, v4].drop 3).take (Try.prog.cellsOf 3)) = some x3 := hf 3 _ rfl
   rw [cells_3] at g3
   replace g3 : DataW.trod enc Try.prog w 0 (fun _ => true) true n 3 [v3] = some x3 := g3
   obtain ⟨y3, r3, -, k3⟩ := opens_int (w := w) Try.underlying3 H enc n _ _ g3
   have g4 : DataW.trod enc Try.prog w 0 (fun _ => true) true n 27 (([v0, v1, v2, v3, v4].drop 4).take (Try.prog.cellsOf 27)) = some x4 := hf 4 _ rfl
   rw [cells_27] at g4
   replace g4 : DataW.trod enc Try.prog w 0 (fun _ => true) true n 27 [v4] = some x4 := g4
   obtain ⟨y4, ⟨A4, C4, e4, s4⟩, b4, k4⟩ := opens_bytes (w := w) H enc n _ _ g4
   obtain rfl : v0 = .int .i64 y0 := List.head_eq_of_cons_eq r0
   obtain rfl : v1 = .int .i64 y1 := List.head_eq_of_cons_eq r1
   obtain rfl : v2 = .int .i64 y2 := List.head_eq_of_cons_eq r2
   obtain rfl : v3 = .int .i64 y3 := List.head_eq_of_cons_eq r3
   obtain rfl := List.head_eq_of_cons_eq e4
   refine ⟨⟨y0, y1, y2, y3, y4⟩, ⟨A4, C4, rfl, s4⟩, ?_, ⟨k0, k1, k2, k3, k4⟩⟩
   refine Nat.le_trans ?_ (bulk_agg _)
   simp only [List.map_cons, List.map_nil, Rows.uptoBulkAll]
   have q0 := bulk_one x0.1
   have q1 := bulk_one x1.1
   have q2 := bulk_one x2.1
   have q3 := bulk_one x3.1
   have q4 : y4.length + 1 ≤ Rows.uptoBulk x4.1 := b4
   show y4.length + 1 ≤ _
   omega
theorem wt_haulagelaw20_Op_pos (o : haulagelaw20_Op) : 1 ≤ wt_haulagelaw20_Op o := by unfold wt_haulagelaw20_Op; omega
theorem arg_ops {H : Type} {enc : TypeId × Value → H} {w : World} {v : Value} {d : DataW H} {p : List MemPlace} (hv : ∃ a len cap, v = .slice a len cap) (h : DataW.Trod enc Try.prog w 0 (fun _ => true) true 47 v d p) :
  ∃ A C xs, v = .slice A xs.length C ∧ SL false K_haulagelaw20_Op 0 0 c0 w A C xs ∧ (xs.map wt_haulagelaw20_Op).sum + 1 ≤ Rows.uptoBulk d ∧ ∀ o ∈ xs, ok_haulagelaw20_Op o := by
 obtain ⟨a, len, cap, rfl⟩ := hv
 obtain ⟨fuel, hf⟩ := h
 obtain ⟨A, C, xs, e, h1, h2, h3⟩ := open_sl (e := K_haulagelaw20_Op) Try.underlying47 cells_53 opens_haulagelaw20_Op hf
 refine ⟨A, C, xs, ?_, h1, h2, h3⟩
 have e' : [Value.slice a len cap] = [.slice A xs.length C] := e
 exact List.head_eq_of_cons_eq e'
end Go.Proofs.Ytdlokohmdnkdoaa.G
namespace Go.Proofs.Ytdlokohmdnkdoaa.G
open Go
set_option linter.unusedVariables false
set_option linter.unusedSimpArgs false
theorem bind_eq {α β : Type} {x : Option α} {f : α → Option β} {a : α} (h : x = some a) : x.bind f = f a := by rw [h]; rfl
theorem loop_next {S X : Type} {f : S → Option (Ctl S X)} {n : Nat} {s s' : S} (h : f s = some (.next s')) : loop f (n + 1) s = loop f n s' := by
 show (f s).bind _ = _; rw [h]; rfl
theorem loop_done {S X : Type} {f : S → Option (Ctl S X)} {n : Nat} {s : S} {x : X} (h : f s = some (.done x)) : loop f (n + 1) s = some x := by
 show (f s).bind _ = _; rw [h]; rfl
theorem loop_inv {S X : Type} {f : S → Option (Ctl S X)} {I : Nat → S → Prop} {P : X → Prop} {N : Nat}
  (step : ∀ i s, i < N → I i s → (∃ s', f s = some (.next s') ∧ I (i + 1) s') ∨ (∃ x, f s = some (.done x) ∧ P x))
  (last : ∀ s, I N s → ∃ x, f s = some (.done x) ∧ P x) : ∀ (n i : Nat) (s : S) (m : Nat), I i s → i + n = N → n < m → ∃ x, loop f m s = some x ∧ P x
 | _, _, _, 0, _, _, h => absurd h (by omega)
 | 0, i, s, m + 1, hI, hN, _ => by
  obtain rfl : i = N := by omega
  obtain ⟨x, h1, h2⟩ := last s hI
  exact ⟨x, loop_done h1, h2⟩
 | n + 1, i, s, m + 1, hI, hN, hm => by
  rcases step i s (by omega) hI with ⟨s', h1, h2⟩ | ⟨x, h1, h2⟩
  ·rw [loop_next h1]
   exact loop_inv step last n (i + 1) s' m h2 (by omega) (by omega)
  ·exact ⟨x, loop_done h1, h2⟩
theorem loop_run {S X : Type} {f : S → Option (Ctl S X)} {I : Nat → S → Prop} {P : X → Prop} {N : Nat} {k : Nat} {s : S}
  (step : ∀ i s, i < N → I i s → ∃ s', f s = some (.next s') ∧ I (i + 1) s') (last : ∀ s, I N s → ∃ x, f s = some (.done x) ∧ P x) (h0 : I 0 s) (hk : N < k) : ∃ x, loop f k s = some x ∧ P x :=
 loop_inv (fun i s hi h => .inl (step i s hi h)) last N 0 s k h0 (by omega) hk
theorem wr {n : Int} (h0 : -1000000000000000000 ≤ n) (h1 : n ≤ 1000000000000000000) : IntKind.i64.wrap n = n := by rw [IntKind.wrap_i64]; omega
theorem wrS (i : Nat) (h : i < 1000000000000000) : IntKind.i64.wrap ((i : Int) + 1) = ((i + 1 : Nat) : Int) := by rw [wr (by omega) (by omega)]; omega
theorem rd_eq {α : Type} [Inhabited α] {xs : List α} {i : Nat} (h : i < xs.length) : rd xs (i : Int) = xs[i] := by
 unfold rd
 rw [Int.toNat_natCast, List.getD_eq_getElem?_getD, List.getElem?_eq_getElem h]
 rfl
theorem wf64 {n : Int} (h0 : -9223372036854775808 ≤ n) (h1 : n ≤ 9223372036854775807) : (Lit.int .i64 n).wf = true := by
 simp [Lit.wf, IntKind.min, IntKind.max, IntKind.signed, IntKind.bits]; omega
def Fuel (k : Nat) : Prop := 1099511627776 ≤ k
theorem same_loop (a b : List Int) (hl : a.length = b.length) : ∀ (n i m : Nat), i + n = a.length → n < m → a.length < 4000000000 →
  loop (fun (s_ : Int) => haulagelaw20_same.b1 a b s_) m (i : Int) = some (if a.drop i = b.drop i then Sum.inl () else Sum.inr false)
 | _, _, 0, _, h, _ => absurd h (by omega)
 | 0, i, m + 1, h, _, _ => by
  refine loop_done ?_
  unfold haulagelaw20_same.b1
  rw [if_neg (by omega), if_pos]
  rw [List.drop_of_length_le (by omega), List.drop_of_length_le (by omega)]
 | n + 1, i, m + 1, h, hm, hb => by
  have hi : i < a.length := by omega
  have hj : i < b.length := by omega
  rw [List.drop_eq_getElem_cons hi, List.drop_eq_getElem_cons hj]
  by_cases c : a[i] = b[i]
  ·rw [loop_next (s' := ((i + 1 : Nat) : Int)), same_loop a b hl n (i + 1) m (by omega) (by omega) hb]
   ·simp only [c, List.cons.injEq, true_and]
   ·unfold haulagelaw20_same.b1
    rw [if_pos (by omega), if_pos (by omega), if_pos (by omega), rd_eq hi, rd_eq hj, if_pos c, wrS i (by omega)]
  ·rw [if_neg (by simp only [List.cons.injEq, c, false_and, not_false_eq_true])]
   refine loop_done ?_
   unfold haulagelaw20_same.b1
   rw [if_pos (by omega), if_pos (by omega), if_pos (by omega), rd_eq hi, rd_eq hj, if_neg c]
theorem same_eq {k : Nat} (hk : Fuel k) (a b : List Int) (h : a.length < 4000000000 ∨ b.length < 4000000000) : haulagelaw20_same.f k a b = some (decide (a = b)) := by
 have h24 : 1099511627776 ≤ k := hk
 unfold haulagelaw20_same.f
 by_cases c : a.length = b.length
 ·rw [if_pos (by omega), show (0 : Int) = ((0 : Nat) : Int) from rfl, bind_eq (same_loop a b c a.length 0 k (by omega) (by omega) (by omega))]
  simp only [List.drop_zero]
  by_cases e : a = b
  ·simp [e, haulagelaw20_same.j2]
  ·simp [e]
 ·rw [if_neg (by omega), decide_eq_false (fun e => c (by rw [e]))]
theorem alike_eq {k : Nat} (hk : Fuel k) (a b : api_Letter) (h : a.Data.length < 4000000000 ∨ b.Data.length < 4000000000) : haulagelaw20_alike.f k a b = some (decide (a = b)) := by
 obtain ⟨a1, a2, a3, a4⟩ := a
 obtain ⟨b1, b2, b3, b4⟩ := b
 unfold haulagelaw20_alike.f
 by_cases c1 : a1 = b1
 ·rw [if_pos c1]
  by_cases c2 : a2 = b2
  ·rw [if_pos c2]
   by_cases c3 : a3 = b3
   ·rw [if_pos c3, bind_eq (same_eq hk _ _ h)]; simp [c1, c2, c3]
   ·rw [if_neg c3]; simp [c3]
  ·rw [if_neg c2]; simp [c2]
 ·rw [if_neg c1]; simp [c1]
theorem ints_loop (a b : List Int) (hl : a.length = b.length) : ∀ (n i m : Nat), i + n = a.length → n < m → a.length < 4000000000 →
  loop (fun (s_ : Int) => haulagelaw20_ints.b1 a b s_) m (i : Int) = some (if a.drop i = b.drop i then Sum.inl () else Sum.inr false)
 | _, _, 0, _, h, _ => absurd h (by omega)
 | 0, i, m + 1, h, _, _ => by
  refine loop_done ?_
  unfold haulagelaw20_ints.b1
  rw [if_neg (by omega), if_pos]
  rw [List.drop_of_length_le (by omega), List.drop_of_length_le (by omega)]
 | n + 1, i, m + 1, h, hm, hb => by
  have hi : i < a.length := by omega
  have hj : i < b.length := by omega
  rw [List.drop_eq_getElem_cons hi, List.drop_eq_getElem_cons hj]
  by_cases c : a[i] = b[i]
  ·rw [loop_next (s' := ((i + 1 : Nat) : Int)), ints_loop a b hl n (i + 1) m (by omega) (by omega) hb]
   ·simp only [c, List.cons.injEq, true_and]
   ·unfold haulagelaw20_ints.b1
    rw [if_pos (by omega), if_pos (by omega), if_pos (by omega), rd_eq hi, rd_eq hj, if_pos c, wrS i (by omega)]
  ·rw [if_neg (by simp only [List.cons.injEq, c, false_and, not_false_eq_true])]
   refine loop_done ?_
   unfold haulagelaw20_ints.b1
   rw [if_pos (by omega), if_pos (by omega), if_pos (by omega), rd_eq hi, rd_eq hj, if_neg c]
theorem ints_eq {k : Nat} (hk : Fuel k) (a b : List Int) (h : a.length < 4000000000 ∨ b.length < 4000000000) : haulagelaw20_ints.f k a b = some (decide (a = b)) := by
 have h24 : 1099511627776 ≤ k := hk
 unfold haulagelaw20_ints.f
 by_cases c : a.length = b.length
 ·rw [if_pos (by omega), show (0 : Int) = ((0 : Nat) : Int) from rfl, bind_eq (ints_loop a b c a.length 0 k (by omega) (by omega) (by omega))]
  simp only [List.drop_zero]
  by_cases e : a = b
  ·simp [e, haulagelaw20_ints.j2]
  ·simp [e]
 ·rw [if_neg (by omega), decide_eq_false (fun e => c (by rw [e]))]
theorem own_eq {l : api_Letter} (h : l.Data.length ≤ 140737488355328) : bag_own.f l = some l := by
 unfold bag_own.f slices_Clone.f
 rw [if_pos (by omega)]
 cases l; rfl
theorem lent_eq (a : List Int) (h : a.length ≤ 1048576) : haulagelaw20_lent.f a = some a := by
 unfold haulagelaw20_lent.f
 rw [wr (by omega) (by omega), if_pos (by omega)]
 have e : List.replicate (0 : Int).toNat (0 : Int) ++ a = a := rfl
 rw [e]
 rw [if_pos (by simp; omega), if_pos (by simp; omega), if_pos rfl]
theorem kept_eq {k : Nat} (hk : Fuel k) (a : List Int) (h : a.length ≤ 1048576) : haulagelaw20_kept.f k a a = some true := by
 unfold haulagelaw20_kept.f
 have hl : (a ++ [201, 202, 203]).length = a.length + 3 := by simp
 have e3 : IntKind.i64.wrap ((a.length : Int) + 3) = ((a.length + 3 : Nat) : Int) := by rw [wr (by omega) (by omega)]; omega
 have e1 : IntKind.i64.wrap ((a.length : Int) + 1) = ((a.length + 1 : Nat) : Int) := by rw [wr (by omega) (by omega)]; omega
 have e2 : IntKind.i64.wrap ((a.length : Int) + 2) = ((a.length + 2 : Nat) : Int) := by rw [wr (by omega) (by omega)]; omega
 rw [e3, e1, e2]
 have et : List.take (((a.length + 3 : Nat) : Int)).toNat (a ++ [201, 202, 203]) = a ++ [201, 202, 203] := by rw [Int.toNat_natCast, ← hl, List.take_length]
 rw [et, if_pos (by rw [hl]; omega), bind_eq (same_eq hk a a (.inl (by omega))), if_pos (by simp)]
 rw [if_pos (by rw [hl]; omega), rd_eq (by rw [hl]; omega), if_pos (by simp)]
 rw [if_pos (by rw [hl]; omega), rd_eq (by rw [hl]; omega), if_pos (by simp)]
 rw [if_pos (by rw [hl]; omega), rd_eq (by rw [hl]; omega)]
 simp
theorem over_eq {k : Nat} (hk : Fuel k) (a : List Int) (h : a.length < 4000000000) : ∃ l, haulagelaw20_over.f k a = some l := by
 have h24 : 1099511627776 ≤ k := hk
 unfold haulagelaw20_over.f
 obtain ⟨x, h1, h2⟩ := loop_run (f := fun (s_ : (List Int) × Int) => haulagelaw20_over.b1 s_.1 s_.2) (I := fun i s => s.1.length = a.length ∧ s.2 = (i : Int)) (P := fun x => x.length = a.length) (N := a.length) (k := k) (s := (a, 0)) (fun i s hi hI => by
  obtain ⟨l, z⟩ := s
  obtain ⟨g1, g2⟩ := hI
  have h1 : l.length = a.length := g1
  have h2 : z = (i : Int) := g2
  subst h2
  refine ⟨(l.set ((i : Int).toNat) (IntKind.u8.wrap (255 - (rd l (i : Int)))), ((i + 1 : Nat) : Int)), ?_, ?_⟩
  ·show haulagelaw20_over.b1 l i = _
   unfold haulagelaw20_over.b1
   rw [if_pos (by omega), if_pos (by omega), if_pos (by omega), wrS i (by omega)]
  ·exact ⟨by simpa using h1, rfl⟩) (fun s hI => by
  obtain ⟨l, z⟩ := s
  obtain ⟨g1, g2⟩ := hI
  have h1 : l.length = a.length := g1
  have h2 : z = (a.length : Int) := g2
  subst h2
  refine ⟨l, ?_, h1⟩
  show haulagelaw20_over.b1 l (a.length : Int) = _
  unfold haulagelaw20_over.b1
  rw [if_neg (by omega)]) ⟨rfl, rfl⟩ (by omega)
 refine ⟨x, ?_⟩
 rw [bind_eq h1]
 unfold haulagelaw20_over.j2
 rw [if_pos h2]
structure SI (b : Bag) (m : Bg3) (i : Nat) : Prop where
 nx : b.next = m.Next
 n0 : 0 ≤ m.Next
 ni : m.Next ≤ i
 un : b.under.n ≤ i
 rl : m.Row.length ≤ i
 tl : b.told = m.Told
 ln : b.under.len = m.Row.length
 rs : (m.Row.map (·.Number)).Pairwise (· < ·)
 inr : ∀ x ∈ m.Row, 0 ≤ x.Number ∧ x.Number < m.Next ∧ x.Data.length ≤ 1048576
 f1 : ∀ x ∈ m.Row, b.under.f x.Number = some x
 f2 : ∀ k x, b.under.f k = some x → x ∈ m.Row ∧ x.Number = k
theorem SI.mono {b : Bag} {m : Bg3} {i j : Nat} (h : SI b m i) (hij : i ≤ j) : SI b m j := ⟨h.nx, h.n0, by have := h.ni; omega, Nat.le_trans h.un hij, Nat.le_trans h.rl hij, h.tl, h.ln, h.rs, h.inr, h.f1, h.f2⟩
theorem SI.keys {b : Bag} {m : Bg3} {i : Nat} (h : SI b m i) : b.under.keys b.next = m.Row.map (·.Number) := by
 refine perm_rising (keys_rise _ _) h.rs ((List.perm_ext_iff_of_nodup (rising_nodup (keys_rise _ _)) (rising_nodup h.rs)).2 fun z => ?_)
 rw [mem_keys, List.mem_map]
 constructor
 ·rintro ⟨_, h2⟩
  obtain ⟨x, hx⟩ := Option.isSome_iff_exists.1 h2
  exact ⟨x, h.f2 z x hx⟩
 ·rintro ⟨x, hx, rfl⟩
  obtain ⟨a1, a2, _⟩ := h.inr x hx
  exact ⟨⟨a1, by rw [h.nx]; exact a2⟩, by rw [h.f1 x hx]; rfl⟩
theorem SI.all {b : Bag} {m : Bg3} {i : Nat} (h : SI b m i) : b.under.all b.next = m.Row := by
 unfold MkV.all
 rw [h.keys, List.map_map]
 conv => rhs; rw [← List.map_id m.Row]
 exact List.map_congr_left fun x hx => by show (b.under.f x.Number).getD default = x; rw [h.f1 x hx]; rfl
theorem SI.tidy {b : Bag} {m : Bg3} {i : Nat} (h : SI b m i) (hi : i ≤ 1000000000) : b.under.tidy b.next := by
 have := h.ni
 refine ⟨by rw [h.nx]; omega, by rw [h.keys, h.ln]; simp, fun k hk => ?_⟩
 rw [h.keys] at hk
 obtain ⟨x, hx, rfl⟩ := List.mem_map.1 hk
 rw [h.f1 x hx]
 exact ⟨rfl, by have := (h.inr x hx).2.2; show x.Data.length ≤ _; omega⟩
theorem SI.new : SI ⟨⟨fun _ => none, 0, 0⟩, 0, ⟨0, 0, 0, 0, 0⟩⟩ ⟨[], 0, ⟨0, 0, 0, 0, 0⟩⟩ 0 :=
 ⟨rfl, by decide, by decide, Nat.le_refl _, Nat.le_refl _, rfl, rfl, List.Pairwise.nil, fun x h => (by cases h), fun x h => (by cases h), fun k x h => (by cases h)⟩
theorem SI.count {b : Bag} {m : Bg3} {i : Nat} (h : SI b m i) (t : api_Traffic) : SI ⟨b.under, b.next, t⟩ ⟨m.Row, m.Next, t⟩ i := ⟨h.nx, h.n0, h.ni, h.un, h.rl, rfl, h.ln, h.rs, h.inr, h.f1, h.f2⟩
theorem SI.put {b : Bag} {m : Bg3} {i : Nat} (h : SI b m i) (t : api_Traffic) (f d : Int) (x : List Int) (hx : x.length ≤ 1048576) : SI ⟨b.under.put b.next ⟨b.next, f, d, x⟩, b.next + 1, t⟩ ⟨m.Row ++ [⟨m.Next, f, d, x⟩], m.Next + 1, t⟩ (i + 1) := by
 have h0 := h.n0; have h1 := h.ni; have h2 := h.un; have h3 := h.rl
 have hn : b.under.f b.next = none := by
  cases e : b.under.f b.next with
  | none => rfl
  | some y => obtain ⟨a1, a2⟩ := h.f2 _ _ e; have := (h.inr y a1).2.1; rw [a2, h.nx] at this; omega
 refine ⟨by show b.next + 1 = m.Next + 1; rw [h.nx], by show 0 ≤ m.Next + 1; omega, by show m.Next + 1 ≤ _; omega, by show b.under.n + 1 ≤ _; omega, by show (m.Row ++ [_]).length ≤ _; simp; omega, rfl, ?_, ?_, fun y hy => ?_, fun y hy => ?_, fun k y hk => ?_⟩
 ·show (if (b.under.f b.next).isSome then b.under.len else b.under.len + 1) = ((m.Row ++ [_]).length : Int)
  rw [hn, h.ln]; simp
 ·show ((m.Row ++ [(⟨m.Next, f, d, x⟩ : api_Letter)]).map (·.Number)).Pairwise (· < ·)
  rw [List.map_append, List.pairwise_append]
  refine ⟨h.rs, List.pairwise_singleton _ _, fun a ha c hc => ?_⟩
  obtain ⟨y, hy, rfl⟩ := List.mem_map.1 ha
  simp at hc
  subst hc
  exact (h.inr y hy).2.1
 ·rcases List.mem_append.1 hy with q | q
  ·obtain ⟨a1, a2, a3⟩ := h.inr y q
   exact ⟨a1, by show y.Number < m.Next + 1; omega, a3⟩
  ·simp at q; subst q
   exact ⟨h0, by show m.Next < m.Next + 1; omega, hx⟩
 ·show (if y.Number = b.next then some _ else b.under.f y.Number) = some y
  rcases List.mem_append.1 hy with q | q
  ·have := (h.inr y q).2.1
   rw [if_neg (by rw [h.nx]; omega)]; exact h.f1 y q
  ·simp at q; subst q
   rw [h.nx, if_pos rfl]
 ·have hk : (if k = b.next then some _ else b.under.f k) = some y := hk
  by_cases c : k = b.next
  ·rw [if_pos c] at hk
   obtain rfl := Option.some.inj hk
   exact ⟨by rw [h.nx]; simp, c.symm⟩
  ·rw [if_neg c] at hk
   obtain ⟨a1, a2⟩ := h.f2 k y hk
   exact ⟨List.mem_append_left _ a1, a2⟩
theorem num_inj {m : List api_Letter} (h : (m.map (·.Number)).Pairwise (· < ·)) {a c : Nat} (ha : a < m.length) (hc : c < m.length) (e : m[a].Number = m[c].Number) : a = c := by
 have hn : (m.map (·.Number)).Nodup := rising_nodup h
 exact (List.getElem_inj (xs := m.map (·.Number)) (h₀ := by simpa using ha) (h₁ := by simpa using hc) hn).1 (by simpa using e)
theorem SI.del {b : Bag} {m : Bg3} {i : Nat} (h : SI b m i) (t : api_Traffic) (a : Nat) (ha : a < m.Row.length) : SI ⟨b.under.del (m.Row[a]).Number, b.next, t⟩ ⟨m.Row.take a ++ m.Row.drop (a + 1), m.Next, t⟩ i := by
 have h3 := h.rl
 have hsub : (m.Row.take a ++ m.Row.drop (a + 1)).Sublist m.Row := by rw [← List.eraseIdx_eq_take_drop_succ]; exact List.eraseIdx_sublist ..
 have hmem : ∀ y, y ∈ m.Row.take a ++ m.Row.drop (a + 1) ↔ (y ∈ m.Row ∧ y.Number ≠ (m.Row[a]).Number) := fun y => by
  rw [← List.eraseIdx_eq_take_drop_succ, List.mem_eraseIdx_iff_getElem]
  constructor
  ·rintro ⟨j, hj, hne, rfl⟩
   exact ⟨List.getElem_mem _, fun e => hne (num_inj h.rs hj ha e)⟩
  ·rintro ⟨hy, hne⟩
   obtain ⟨j, hj, rfl⟩ := List.getElem_of_mem hy
   exact ⟨j, hj, fun e => hne (by subst e; rfl), rfl⟩
 have hlen : (m.Row.take a ++ m.Row.drop (a + 1)).length = m.Row.length - 1 := by rw [← List.eraseIdx_eq_take_drop_succ, List.length_eraseIdx_of_lt ha]
 have hs : b.under.f (m.Row[a]).Number = some m.Row[a] := h.f1 _ (List.getElem_mem ha)
 refine ⟨h.nx, h.n0, h.ni, h.un, by show (m.Row.take a ++ m.Row.drop (a + 1)).length ≤ i; omega, rfl, ?_, ?_, fun y hy => h.inr y ((hmem y).1 hy).1, fun y hy => ?_, fun k y hk => ?_⟩
 ·show (if (b.under.f (m.Row[a]).Number).isSome then b.under.len - 1 else b.under.len) = ((m.Row.take a ++ m.Row.drop (a + 1)).length : Int)
  rw [hs, hlen, h.ln]; simp; omega
 ·exact List.Pairwise.sublist (hsub.map _) h.rs
 ·obtain ⟨a1, a2⟩ := (hmem y).1 hy
  show (if y.Number = (m.Row[a]).Number then none else b.under.f y.Number) = some y
  rw [if_neg a2]; exact h.f1 y a1
 ·have hk : (if k = (m.Row[a]).Number then none else b.under.f k) = some y := hk
  by_cases c : k = (m.Row[a]).Number
  ·rw [if_pos c] at hk; cases hk
  ·rw [if_neg c] at hk
   obtain ⟨a1, a2⟩ := h.f2 k y hk
   exact ⟨(hmem y).2 ⟨a1, by rw [a2]; exact c⟩, a2⟩
def isI (n : Int) : Prop := -9223372036854775808 ≤ n ∧ n ≤ 9223372036854775807
theorem rfind {k : Nat} (hk : Fuel k) (m : Bg3) (hl : m.Row.length < 4000000000) (n : Int) :
  (∃ a : Nat, ∃ h : a < m.Row.length, (m.Row[a]).Number = n ∧ haulageref20_Bag_find.f k (some m) n = some (a : Int)) ∨ ((∀ x ∈ m.Row, x.Number ≠ n) ∧ haulageref20_Bag_find.f k (some m) n = some (-1)) := by
 have h24 : 1099511627776 ≤ k := hk
 obtain ⟨x, h1, h2⟩ := loop_inv (f := fun (s_ : Int) => haulageref20_Bag_find.b1 (some m) n s_) (I := fun i s => s = (i : Int) ∧ ∀ j (h : j < m.Row.length), j < i → (m.Row[j]).Number ≠ n)
  (P := fun x => (x = Sum.inl () ∧ ∀ x ∈ m.Row, x.Number ≠ n) ∨ ∃ a : Nat, ∃ h : a < m.Row.length, (m.Row[a]).Number = n ∧ x = Sum.inr (a : Int)) (N := m.Row.length)
  (fun i s hi hI => by
   obtain ⟨rfl, h2⟩ := hI
   show (∃ s', haulageref20_Bag_find.b1 (some m) n i = _ ∧ _) ∨ (∃ x, haulageref20_Bag_find.b1 (some m) n i = _ ∧ _)
   unfold haulageref20_Bag_find.b1
   rw [Option.bind_some, if_pos (by omega), if_pos (by omega), rd_eq hi]
   by_cases c : (m.Row[i]).Number = n
   ·rw [if_pos c]; exact .inr ⟨_, rfl, .inr ⟨i, hi, c, rfl⟩⟩
   ·rw [if_neg c, wrS i (by omega)]
    refine .inl ⟨_, rfl, rfl, fun j hj hji => ?_⟩
    by_cases e : j = i
    ·subst e; exact c
    ·exact h2 j hj (by omega))
  (fun s hI => by
   obtain ⟨rfl, h2⟩ := hI
   refine ⟨Sum.inl (), ?_, .inl ⟨rfl, fun x hx => ?_⟩⟩
   ·show haulageref20_Bag_find.b1 (some m) n _ = _
    unfold haulageref20_Bag_find.b1
    rw [Option.bind_some, if_neg (by omega)]
   ·obtain ⟨j, hj, rfl⟩ := List.getElem_of_mem hx
    exact h2 j hj hj) m.Row.length 0 0 k ⟨rfl, fun j _ h => by omega⟩ (by omega) (by omega)
 unfold haulageref20_Bag_find.f
 rcases h2 with ⟨rfl, h2⟩ | ⟨a, ha, h3, rfl⟩
 ·exact .inr ⟨h2, by rw [bind_eq h1]; rfl⟩
 ·exact .inl ⟨a, ha, h3, by rw [bind_eq h1]⟩
theorem rtake (m : Bg3) (hl : m.Row.length < 1000000000) (a : Nat) (ha : a < m.Row.length) : haulageref20_Bag_take.f (some m) a = some (m.Row[a], some ⟨m.Row.take a ++ m.Row.drop (a + 1), m.Next, m.Told⟩) := by
 unfold haulageref20_Bag_take.f
 rw [Option.bind_some, wrS a (by omega), Int.toNat_natCast, Int.toNat_natCast]
 have e1 : (m.Row.take a).length ≤ m.Row.length := by simp; omega
 rw [if_pos (by omega), if_pos (by omega), if_pos (by omega), if_pos (by omega), if_pos (by simp; omega), rd_eq ha]
 simp
theorem rtake' (R : List api_Letter) (N : Int) (T : api_Traffic) (hl : R.length < 1000000000) (a : Nat) (ha : a < R.length) : haulageref20_Bag_take.f (some ⟨R, N, T⟩) a = some (R[a], some ⟨R.take a ++ R.drop (a + 1), N, T⟩) := rtake ⟨R, N, T⟩ hl a ha
theorem rcopied (x : List Int) (h : x.length ≤ 140737488355328) : haulageref20_copied.f x = some x := by
 unfold haulageref20_copied.f
 rw [if_pos (by omega)]; rfl
theorem rput (m : Bg3) (hl : m.Row.length < 1000000000) (h0 : 0 ≤ m.Next) (h1 : m.Next ≤ 1000000000) (f t : Int) (x : List Int) (hx : x.length ≤ 140737488355328) : haulageref20_Bag_put.f (some m) f t x = some (m.Next, some ⟨m.Row ++ [⟨m.Next, f, t, x⟩], m.Next + 1, m.Told⟩) := by
 unfold haulageref20_Bag_put.f
 rw [Option.bind_some, bind_eq (rcopied x hx), if_pos (by simp; omega), wr (by omega) (by omega)]
theorem rput' (R : List api_Letter) (N : Int) (T : api_Traffic) (hl : R.length < 1000000000) (h0 : 0 ≤ N) (h1 : N ≤ 1000000000) (f t : Int) (x : List Int) (hx : x.length ≤ 140737488355328) : haulageref20_Bag_put.f (some ⟨R, N, T⟩) f t x = some (N, some ⟨R ++ [⟨N, f, t, x⟩], N + 1, T⟩) := rput ⟨R, N, T⟩ hl h0 h1 f t x hx
theorem rwaiting {k : Nat} (hk : Fuel k) (m : Bg3) (hl : m.Row.length < 1000000000) (hd : ∀ x ∈ m.Row, x.Data.length ≤ 1048576) : haulageref20_Bag_Waiting.f k (some m) = some m.Row := by
 have h24 : 1099511627776 ≤ k := hk
 unfold haulageref20_Bag_Waiting.f
 rw [if_neg (by simp)]
 obtain ⟨x, h1, h2⟩ := loop_run (f := fun (s_ : (List api_Letter) × Int) => haulageref20_Bag_Waiting.b1 (some m) s_.1 s_.2) (I := fun i s => s.1 = m.Row.take i ∧ s.2 = (i : Int)) (P := fun x => x = m.Row) (N := m.Row.length) (k := k) (s := ([], 0))
  (fun i s hi hI => by
   obtain ⟨l, z⟩ := s
   obtain ⟨g1, g2⟩ := hI
   have h1 : l = m.Row.take i := g1
   have h2 : z = (i : Int) := g2
   subst h2
   refine ⟨(m.Row.take (i + 1), ((i + 1 : Nat) : Int)), ?_, rfl, rfl⟩
   show haulageref20_Bag_Waiting.b1 (some m) l i = _
   unfold haulageref20_Bag_Waiting.b1
   have hll : l.length = i := by rw [h1]; simp; omega
   rw [Option.bind_some, if_pos (by omega), if_pos (by omega), rd_eq hi, bind_eq (rcopied _ (by have := hd _ (List.getElem_mem hi); omega)), if_pos (by simp [hll]; omega), wrS i (by omega), h1, List.take_succ_eq_append_getElem hi])
  (fun s hI => by
   obtain ⟨l, z⟩ := s
   obtain ⟨g1, g2⟩ := hI
   have h1 : l = m.Row.take m.Row.length := g1
   have h2 : z = (m.Row.length : Int) := g2
   subst h2
   refine ⟨l, ?_, by rw [h1, List.take_length]⟩
   show haulageref20_Bag_Waiting.b1 (some m) l _ = _
   unfold haulageref20_Bag_Waiting.b1
   rw [Option.bind_some, if_neg (by omega)]) ⟨rfl, rfl⟩ (by omega)
 rw [bind_eq h1, h2]; rfl
theorem rfor {k : Nat} (hk : Fuel k) (m : Bg3) (hl : m.Row.length < 1000000000) (t : Int) : haulageref20_Bag_For.f k (some m) t = some ((m.Row.filter fun x => decide (x.To = t)).map (·.Number)) := by
 have h24 : 1099511627776 ≤ k := hk
 unfold haulageref20_Bag_For.f
 rw [if_neg (by simp)]
 obtain ⟨x, h1, h2⟩ := loop_run (f := fun (s_ : (List Int) × Int) => haulageref20_Bag_For.b1 (some m) t s_.1 s_.2) (I := fun i s => s.1 = ((m.Row.take i).filter fun x => decide (x.To = t)).map (·.Number) ∧ s.2 = (i : Int)) (P := fun x => x = (m.Row.filter fun x => decide (x.To = t)).map (·.Number)) (N := m.Row.length) (k := k) (s := ([], 0))
  (fun i s hi hI => by
   obtain ⟨l, z⟩ := s
   obtain ⟨g1, g2⟩ := hI
   have h1 : l = ((m.Row.take i).filter fun x => decide (x.To = t)).map (·.Number) := g1
   have h2 : z = (i : Int) := g2
   subst h2
   refine ⟨(((m.Row.take (i + 1)).filter fun x => decide (x.To = t)).map (·.Number), ((i + 1 : Nat) : Int)), ?_, rfl, rfl⟩
   show haulageref20_Bag_For.b1 (some m) t l i = _
   unfold haulageref20_Bag_For.b1
   have hll : l.length ≤ i := by
    rw [h1, List.length_map]
    refine Nat.le_trans (List.length_filter_le _ _) ?_
    simp; omega
   rw [Option.bind_some, if_pos (by omega), if_pos (by omega), rd_eq hi, wrS i (by omega), List.take_succ_eq_append_getElem hi, List.filter_append, List.map_append, ← h1]
   by_cases c : (m.Row[i]).To = t
   ·rw [if_pos c, if_pos (by omega), if_pos (by simp; omega)]; simp [c]
   ·rw [if_neg c]; simp [c])
  (fun s hI => by
   obtain ⟨l, z⟩ := s
   obtain ⟨g1, g2⟩ := hI
   have h1 : l = ((m.Row.take m.Row.length).filter fun x => decide (x.To = t)).map (·.Number) := g1
   have h2 : z = (m.Row.length : Int) := g2
   subst h2
   refine ⟨l, ?_, by rw [h1, List.take_length]⟩
   show haulageref20_Bag_For.b1 (some m) t l _ = _
   unfold haulageref20_Bag_For.b1
   rw [Option.bind_some, if_neg (by omega)]) ⟨rfl, rfl⟩ (by omega)
 rw [bind_eq h1, h2]; rfl
section
variable {k : Nat} {b : Bag} {m : Bg3} {i : Nat}
theorem room_eq (h : SI b m i) : bag_Bag_room.f (some b) = if 65536 ≤ (m.Row.length : Int) then some (201, some ⟨b.under, b.next, ⟨m.Told.Sent, m.Told.Twice, m.Told.Delivered, m.Told.Dropped, IntKind.i64.wrap (m.Told.Lost + 1)⟩⟩) else some (0, some b) := by
 unfold bag_Bag_room.f
 rw [Option.bind_some, h.ln, h.tl]
theorem put_eq (h : SI b m i) (hi : i < 500000000) (t : api_Traffic) (l : api_Letter) (hd : l.Data.length ≤ 1048576) : bag_Bag_put.f (some ⟨b.under, b.next, t⟩) l = some (m.Next, some ⟨b.under.put b.next ⟨b.next, l.From, l.To, l.Data⟩, b.next + 1, t⟩) := by
 have h0 := h.n0; have h1 := h.ni; have h2 := h.un; have h3 := h.nx
 unfold bag_Bag_put.f
 rw [Option.bind_some, bind_eq (own_eq (by show l.Data.length ≤ _; omega))]
 simp only
 rw [if_pos ⟨wf64 (by omega) (by omega), by omega⟩, wr (by omega) (by omega), h3]
theorem find_eq (h : SI b m i) {n : Int} (hn : isI n) : bag_Bag_find.f (some b) n = some (match b.under.f n with | some x => (x, 0) | none => (⟨0, 0, 0, []⟩, 200)) := by
 unfold bag_Bag_find.f
 rw [if_neg (by simp), Option.bind_some, if_pos (wf64 hn.1 hn.2)]
 cases b.under.f n with
 | none => rfl
 | some x => rfl
theorem none_at (h : SI b m i) {n : Int} (hn : ∀ x ∈ m.Row, x.Number ≠ n) : b.under.f n = none := by
 cases e : b.under.f n with
 | none => rfl
 | some x => obtain ⟨a1, a2⟩ := h.f2 _ _ e; exact absurd a2 (hn x a1)
theorem send_two (h : SI b m i) (hi : i < 500000000) (f t : Int) (x : List Int) (hx : x.length ≤ 1048576) :
  ∃ n e b' m', haulageref20_Bag_Send.f (some m) f t x = some (n, e, some m') ∧ bag_Bag_Send.f (some b) f t x = some (n, e, some b') ∧ SI b' m' (i + 1) := by
 have h0 := h.n0; have h1 := h.ni; have h2 := h.un; have h3 := h.rl
 have bad1 : haulageref20_Bag_Send.j1 (some m) f t x true = some (0, 2, some m) := by unfold haulageref20_Bag_Send.j1; rw [if_pos rfl]
 have bad2 : bag_Bag_Send.j1 (some b) f t x true = some (0, 2, some b) := by unfold bag_Bag_Send.j1; rw [if_pos rfl]
 have main : ∃ n e b' m', haulageref20_Bag_Send.j1 (some m) f t x false = some (n, e, some m') ∧ bag_Bag_Send.j1 (some b) f t x false = some (n, e, some b') ∧ SI b' m' (i + 1) := by
  unfold haulageref20_Bag_Send.j1 bag_Bag_Send.j1
  have hf : ¬ (false = true) := by simp
  rw [if_neg hf, if_neg hf]
  by_cases c : 524288 < (x.length : Int)
  ·rw [if_pos c, if_pos c]; exact ⟨0, 3, b, m, rfl, rfl, h.mono (by omega)⟩
  ·rw [if_neg c, if_neg c, Option.bind_some, room_eq h]
   by_cases c2 : 65536 ≤ (m.Row.length : Int)
   ·rw [if_pos c2, if_pos c2, Option.bind_some, if_neg (show ¬ (201 : Int) = 0 by decide)]
    exact ⟨0, 201, _, _, rfl, rfl, (h.count _).mono (by omega)⟩
   ·rw [if_neg c2, if_neg c2, Option.bind_some, if_pos rfl, Option.bind_some]
    rw [bind_eq (rput' m.Row m.Next _ (by omega) h0 (by omega) f t x (by omega)), bind_eq (put_eq h hi _ ⟨0, f, t, x⟩ hx), h.tl]
    exact ⟨_, _, _, _, rfl, rfl, h.put _ f t x hx⟩
 unfold haulageref20_Bag_Send.f bag_Bag_Send.f
 rw [if_neg (show ¬ (Option.isNone (some m) = true) from fun q => Bool.noConfusion q), if_neg (show ¬ (Option.isNone (some b) = true) from fun q => Bool.noConfusion q)]
 by_cases c : f < 0
 ·rw [if_pos c, if_pos c, bad1, bad2]; exact ⟨0, 2, b, m, rfl, rfl, h.mono (by omega)⟩
 ·rw [if_neg c, if_neg c]
  by_cases c2 : t < 0
  ·rw [decide_eq_true c2, bad1, bad2]; exact ⟨0, 2, b, m, rfl, rfl, h.mono (by omega)⟩
  ·rw [decide_eq_false c2]; exact main
theorem deliver_two (hk : Fuel k) (h : SI b m i) (hi : i < 500000000) {n : Int} (hn : isI n) :
  ∃ l e b' m', haulageref20_Bag_Deliver.f k (some m) n = some (l, e, some m') ∧ bag_Bag_Deliver.f (some b) n = some (l, e, some b') ∧ SI b' m' (i + 1) ∧ l.Data.length ≤ 1048576 := by
 have h3 := h.rl
 unfold haulageref20_Bag_Deliver.f bag_Bag_Deliver.f
 rw [if_neg (by simp), bind_eq (find_eq h hn)]
 rcases rfind hk m (by omega) n with ⟨a, ha, e1, e2⟩ | ⟨e1, e2⟩
 ·subst e1
  rw [bind_eq e2, if_neg (by omega), Option.bind_some, h.f1 _ (List.getElem_mem ha)]
  simp only
  rw [bind_eq (rtake' m.Row m.Next _ (by omega) a ha), if_pos trivial, Option.bind_some, if_pos (wf64 hn.1 hn.2), h.tl]
  exact ⟨_, _, _, _, rfl, rfl, (h.del _ a ha).mono (by omega), (h.inr _ (List.getElem_mem ha)).2.2⟩
 ·rw [bind_eq e2, if_pos (by decide), none_at h e1]
  simp only
  rw [if_neg (by decide)]
  exact ⟨_, _, _, _, rfl, rfl, h.mono (by omega), by decide⟩
theorem drop_two (hk : Fuel k) (h : SI b m i) (hi : i < 500000000) {n : Int} (hn : isI n) :
  ∃ e b' m', haulageref20_Bag_Drop.f k (some m) n = some (e, some m') ∧ bag_Bag_Drop.f (some b) n = some (e, some b') ∧ SI b' m' (i + 1) := by
 have h3 := h.rl
 unfold haulageref20_Bag_Drop.f bag_Bag_Drop.f
 rw [if_neg (by simp), bind_eq (find_eq h hn)]
 rcases rfind hk m (by omega) n with ⟨a, ha, e1, e2⟩ | ⟨e1, e2⟩
 ·subst e1
  rw [bind_eq e2, if_neg (by omega), Option.bind_some, h.f1 _ (List.getElem_mem ha)]
  simp only
  rw [bind_eq (rtake' m.Row m.Next _ (by omega) a ha), if_pos trivial, Option.bind_some, if_pos (wf64 hn.1 hn.2), h.tl]
  exact ⟨_, _, _, rfl, rfl, (h.del _ a ha).mono (by omega)⟩
 ·rw [bind_eq e2, if_pos (by decide), none_at h e1]
  simp only
  rw [if_neg (by decide)]
  exact ⟨_, _, _, rfl, rfl, h.mono (by omega)⟩
theorem twice_two (hk : Fuel k) (h : SI b m i) (hi : i < 500000000) {n : Int} (hn : isI n) :
  ∃ z e b' m', haulageref20_Bag_Twice.f k (some m) n = some (z, e, some m') ∧ bag_Bag_Twice.f (some b) n = some (z, e, some b') ∧ SI b' m' (i + 1) := by
 have h0 := h.n0; have h1 := h.ni; have h3 := h.rl
 unfold haulageref20_Bag_Twice.f bag_Bag_Twice.f
 rw [if_neg (by simp), bind_eq (find_eq h hn)]
 rcases rfind hk m (by omega) n with ⟨a, ha, e1, e2⟩ | ⟨e1, e2⟩
 ·subst e1
  have hd := (h.inr _ (List.getElem_mem ha)).2.2
  rw [bind_eq e2, if_neg (by omega), Option.bind_some, h.f1 _ (List.getElem_mem ha)]
  simp only
  rw [if_pos trivial, room_eq h]
  by_cases c2 : 65536 ≤ (m.Row.length : Int)
  ·rw [if_pos c2, if_pos c2, Option.bind_some, if_neg (show ¬ (201 : Int) = 0 by decide)]
   exact ⟨_, _, _, _, rfl, rfl, (h.count _).mono (by omega)⟩
  ·rw [if_neg c2, if_neg c2, Option.bind_some, if_pos rfl, Option.bind_some, if_pos (by omega), rd_eq ha]
   rw [bind_eq (rput' m.Row m.Next _ (by omega) h0 (by omega) _ _ _ (Nat.le_trans hd (by decide))), bind_eq (put_eq h hi _ _ hd), h.tl]
   exact ⟨_, _, _, _, rfl, rfl, h.put _ _ _ _ hd⟩
 ·rw [bind_eq e2, if_pos (by decide), none_at h e1]
  simp only
  rw [if_neg (by decide)]
  exact ⟨_, _, _, _, rfl, rfl, h.mono (by omega)⟩
theorem told_loop (hk : Fuel k) (R : List api_Letter) (hl : R.length < 1000000000) (hd : ∀ x ∈ R, x.Data.length ≤ 1048576) :
  loop (fun (s_ : (List api_Letter) × Int) => haulagelaw20_told.b2 k R s_.1 s_.2) k (R, 0) = some (Sum.inl ()) := by
 have h24 : 1099511627776 ≤ k := hk
 obtain ⟨x, h1, h2⟩ := loop_run (f := fun (s_ : (List api_Letter) × Int) => haulagelaw20_told.b2 k R s_.1 s_.2) (I := fun i s => s.1.length = R.length ∧ s.1.drop i = R.drop i ∧ s.2 = (i : Int)) (P := fun x => x = Sum.inl ()) (N := R.length) (k := k) (s := (R, 0))
  (fun i s hi hI => by
   obtain ⟨l, z⟩ := s
   obtain ⟨g1, g2, g3⟩ := hI
   have h1 : l.length = R.length := g1
   have h2 : l.drop i = R.drop i := g2
   have h3 : z = (i : Int) := g3
   subst h3
   have hli : i < l.length := by omega
   rw [List.drop_eq_getElem_cons hi, List.drop_eq_getElem_cons hli] at h2
   have e1 := (List.cons.inj h2).1
   have e2 := (List.cons.inj h2).2
   have hdi := hd _ (List.getElem_mem hi)
   obtain ⟨q, hq⟩ := over_eq hk (R[i]).Data (by omega)
   refine ⟨(l.set i ⟨(R[i]).Number, (R[i]).From, (R[i]).To, q⟩, ((i + 1 : Nat) : Int)), ?_, ?_, ?_, rfl⟩
   ·show haulagelaw20_told.b2 k R l i = _
    unfold haulagelaw20_told.b2
    rw [if_pos (by omega), if_pos (by omega), if_pos (by omega), rd_eq hi, rd_eq hli, e1, bind_eq (alike_eq hk _ _ (.inl (by omega))), if_pos (by simp), if_pos (by omega), bind_eq hq, wrS i (by omega)]
    rfl
   ·show (l.set i _).length = _; simpa using h1
   ·show (l.set i _).drop (i + 1) = _
    rw [List.drop_set_of_lt (by omega)]; exact e2)
  (fun s hI => by
   obtain ⟨l, z⟩ := s
   obtain ⟨g1, g2, g3⟩ := hI
   have h1 : l.length = R.length := g1
   have h3 : z = (R.length : Int) := g3
   subst h3
   refine ⟨_, ?_, rfl⟩
   show haulagelaw20_told.b2 k R l _ = _
   unfold haulagelaw20_told.b2
   rw [if_neg (by omega)]) ⟨rfl, rfl, rfl⟩ (by omega)
 rw [h1, h2]
theorem told_some (hk : Fuel k) (h : SI b m i) (hi : i < 500000000) : haulagelaw20_told.f k (some b) (some m) = some true := by
 have h3 := h.rl
 have hd : ∀ x ∈ m.Row, x.Data.length ≤ 1048576 := fun x hx => (h.inr x hx).2.2
 have e1 : bag_Bag_Waiting.f (some b) = some m.Row := by
  show (if b.under.tidy b.next then _ else _) = _
  rw [if_pos (h.tidy (by omega)), h.all]
 have e2 : bag_Bag_Len.f (some b) = some (m.Row.length : Int) := by rw [← h.ln]; rfl
 have e3 : haulageref20_Bag_Len.f (some m) = some (m.Row.length : Int) := rfl
 have e4 : bag_Bag_Counts.f (some b) = some m.Told := by rw [← h.tl]; rfl
 have e5 : haulageref20_Bag_Counts.f (some m) = some m.Told := rfl
 unfold haulagelaw20_told.f
 rw [bind_eq e1, bind_eq (rwaiting hk m (by omega) hd), if_pos rfl, bind_eq e2, bind_eq e3, if_pos rfl, bind_eq e4, bind_eq e5]
 unfold haulagelaw20_told.j1
 rw [if_neg (by simp), bind_eq (told_loop hk m.Row (by omega) hd)]
 rfl
theorem told_none (hk : Fuel k) : haulagelaw20_told.f k none none = some true := by
 have e1 : bag_Bag_Waiting.f none = some [] := rfl
 have e2 : haulageref20_Bag_Waiting.f k none = some [] := rfl
 unfold haulagelaw20_told.f
 rw [bind_eq e1, bind_eq e2, if_pos rfl]
 have e3 : bag_Bag_Len.f none = some 0 := rfl
 have e4 : haulageref20_Bag_Len.f none = some 0 := rfl
 have e5 : bag_Bag_Counts.f none = some ⟨0, 0, 0, 0, 0⟩ := rfl
 have e6 : haulageref20_Bag_Counts.f none = some ⟨0, 0, 0, 0, 0⟩ := rfl
 rw [bind_eq e3, bind_eq e4, if_pos rfl, bind_eq e5, bind_eq e6]
 unfold haulagelaw20_told.j1
 rw [if_neg (by simp), bind_eq (told_loop hk [] (by decide) (fun x h => by cases h))]
 rfl
theorem j5_some (h : SI b m i) : haulagelaw20_step.j5 (some b) (some m) = some (true, some b, some m) := by
 unfold haulagelaw20_step.j5
 have e2 : bag_Bag_Len.f (some b) = some (m.Row.length : Int) := by rw [← h.ln]; rfl
 have e3 : haulageref20_Bag_Len.f (some m) = some (m.Row.length : Int) := rfl
 rw [bind_eq e2, bind_eq e3]; simp
theorem j5_none : haulagelaw20_step.j5 none none = some (true, none, none) := rfl
theorem step_none (hk : Fuel k) (o : haulagelaw20_Op) (hd : o.Data.length ≤ 1048576) : haulagelaw20_step.f k none none o = some (true, none, none) := by
 have h24 : 1099511627776 ≤ k := hk
 unfold haulagelaw20_step.f
 by_cases c0 : o.Kind = 0
 ·rw [if_pos c0]
  have e1 : haulageref20_Bag_Send.f none o.Number o.To o.Data = some (0, 1, none) := rfl
  have e2 : bag_Bag_Send.f none o.Number o.To o.Data = some (0, 1, none) := rfl
  have e3 : haulagelaw20_num.f 1 = some 1 := rfl
  rw [bind_eq e1, bind_eq (lent_eq _ hd), bind_eq e2, bind_eq e3, if_pos rfl, if_pos rfl, bind_eq (kept_eq hk _ hd)]
  unfold haulagelaw20_step.j1
  obtain ⟨q, hq⟩ := over_eq hk o.Data (by omega)
  rw [if_neg (by simp), bind_eq hq, j5_none]
 rw [if_neg c0]
 by_cases c1 : o.Kind = 1
 ·rw [if_pos c1]
  have e1 : haulageref20_Bag_Deliver.f k none o.Number = some (⟨0, 0, 0, []⟩, 1, none) := rfl
  have e2 : bag_Bag_Deliver.f none o.Number = some (⟨0, 0, 0, []⟩, 1, none) := rfl
  have e3 : haulagelaw20_num.f 1 = some 1 := rfl
  rw [bind_eq e1, bind_eq e2, bind_eq e3, if_pos rfl, bind_eq (alike_eq hk _ _ (.inl (by decide)))]
  unfold haulagelaw20_step.j2
  obtain ⟨q, hq⟩ := over_eq hk [] (by decide)
  rw [if_neg (by simp), bind_eq hq, j5_none]
 rw [if_neg c1]
 by_cases c2 : o.Kind = 2
 ·rw [if_pos c2]; rfl
 rw [if_neg c2]
 by_cases c3 : o.Kind = 3
 ·rw [if_pos c3]; rfl
 rw [if_neg c3]
 by_cases c4 : o.Kind = 4
 ·rw [if_pos c4, bind_eq (told_none hk)]
 rw [if_neg c4]
 by_cases c5 : o.Kind = 5
 ·rw [if_pos c5]
  have e1 : bag_Bag_For.f none o.To = some [] := rfl
  have e2 : haulageref20_Bag_For.f k none o.To = some [] := rfl
  rw [bind_eq e1, bind_eq e2, bind_eq (ints_eq hk [] [] (.inl (by decide))), if_pos (by simp)]
  obtain ⟨j, rfl⟩ : ∃ j, k = j + 1 := ⟨k - 1, by omega⟩
  rw [bind_eq (loop_done (x := ()) (by rfl))]
  exact j5_none
 rw [if_neg c5, j5_none]
theorem neg_loop (hk : Fuel k) (l : List Int) (hl : l.length < 1000000000) : loop (fun (s_ : (List Int) × Int) => haulagelaw20_step.b3 s_.1 s_.2) k (l, 0) = some () := by
 have h24 : 1099511627776 ≤ k := hk
 obtain ⟨x, h1, h2⟩ := loop_run (f := fun (s_ : (List Int) × Int) => haulagelaw20_step.b3 s_.1 s_.2) (I := fun i s => s.1.length = l.length ∧ s.2 = (i : Int)) (P := fun x => x = ()) (N := l.length) (k := k) (s := (l, 0))
  (fun i s hi hI => by
   obtain ⟨l', z⟩ := s
   obtain ⟨g1, g2⟩ := hI
   have h1 : l'.length = l.length := g1
   have h2 : z = (i : Int) := g2
   subst h2
   refine ⟨(l'.set i (-1), ((i + 1 : Nat) : Int)), ?_, ?_, rfl⟩
   ·show haulagelaw20_step.b3 l' i = _
    unfold haulagelaw20_step.b3
    rw [if_pos (by omega), if_pos (by omega), wrS i (by omega)]; rfl
   ·show (l'.set i _).length = _; simpa using h1)
  (fun s hI => by
   obtain ⟨l', z⟩ := s
   obtain ⟨g1, g2⟩ := hI
   have h1 : l'.length = l.length := g1
   have h2 : z = (l.length : Int) := g2
   subst h2
   refine ⟨_, ?_, rfl⟩
   show haulagelaw20_step.b3 l' _ = _
   unfold haulagelaw20_step.b3
   rw [if_neg (by omega)]) ⟨rfl, rfl⟩ (by omega)
 rw [h1, h2]
theorem step_some (hk : Fuel k) (h : SI b m i) (hi : i < 400000000) (o : haulagelaw20_Op) (ho : isI o.Number) (hd : o.Data.length ≤ 1048576) :
  ∃ b' m', haulagelaw20_step.f k (some b) (some m) o = some (true, some b', some m') ∧ SI b' m' (i + 1) := by
 have h3 := h.rl
 unfold haulagelaw20_step.f
 by_cases c0 : o.Kind = 0
 ·rw [if_pos c0]
  obtain ⟨n, e, b', m', e1, e2, h'⟩ := send_two h (by omega) o.Number o.To o.Data hd
  have e3 : haulagelaw20_num.f e = some e := rfl
  rw [bind_eq e1, bind_eq (lent_eq _ hd), bind_eq e2, bind_eq e3, if_pos rfl, if_pos rfl, bind_eq (kept_eq hk _ hd)]
  unfold haulagelaw20_step.j1
  obtain ⟨q, hq⟩ := over_eq hk o.Data (by omega)
  rw [if_neg (by simp), bind_eq hq, j5_some h']
  exact ⟨b', m', rfl, h'⟩
 rw [if_neg c0]
 by_cases c1 : o.Kind = 1
 ·rw [if_pos c1]
  obtain ⟨l, e, b', m', e1, e2, h', hl⟩ := deliver_two hk h (by omega) ho
  have e3 : haulagelaw20_num.f e = some e := rfl
  rw [bind_eq e1, bind_eq e2, bind_eq e3, if_pos rfl, bind_eq (alike_eq hk _ _ (.inl (by show l.Data.length < _; omega)))]
  unfold haulagelaw20_step.j2
  obtain ⟨q, hq⟩ := over_eq hk l.Data (by omega)
  rw [if_neg (by simp), bind_eq hq, j5_some h']
  exact ⟨b', m', rfl, h'⟩
 rw [if_neg c1]
 by_cases c2 : o.Kind = 2
 ·rw [if_pos c2]
  obtain ⟨e, b', m', e1, e2, h'⟩ := drop_two hk h (by omega) ho
  have e3 : haulagelaw20_num.f e = some e := rfl
  rw [bind_eq e1, bind_eq e2, bind_eq e3]
  exact ⟨b', m', by simp, h'⟩
 rw [if_neg c2]
 by_cases c3 : o.Kind = 3
 ·rw [if_pos c3]
  obtain ⟨z, e, b', m', e1, e2, h'⟩ := twice_two hk h (by omega) ho
  have e3 : haulagelaw20_num.f e = some e := rfl
  rw [bind_eq e1, bind_eq e2, bind_eq e3, if_pos rfl]
  exact ⟨b', m', by simp, h'⟩
 rw [if_neg c3]
 by_cases c4 : o.Kind = 4
 ·rw [if_pos c4, bind_eq (told_some hk h (by omega))]
  exact ⟨b, m, rfl, h.mono (by omega)⟩
 rw [if_neg c4]
 by_cases c5 : o.Kind = 5
 ·rw [if_pos c5]
  have e1 : bag_Bag_For.f (some b) o.To = some ((m.Row.filter fun x => decide (x.To = o.To)).map (·.Number)) := by
   show (if b.under.tidy b.next then _ else _) = _
   rw [if_pos (h.tidy (by omega)), h.keys, List.filter_map]
   congr 2
   refine List.filter_congr fun x hx => ?_
   show decide (((b.under.f x.Number).getD default).To = o.To) = _
   rw [h.f1 x hx]; rfl
  have hll : ((m.Row.filter fun x => decide (x.To = o.To)).map (·.Number)).length ≤ i := by
   rw [List.length_map]
   exact Nat.le_trans (List.length_filter_le _ _) h3
  rw [bind_eq e1, bind_eq (rfor hk m (by omega) o.To), bind_eq (ints_eq hk _ _ (.inl (by omega))), if_pos (by simp), bind_eq (neg_loop hk _ (by omega))]
  exact ⟨b, m, j5_some h, h.mono (by omega)⟩
 rw [if_neg c5, j5_some h]
 exact ⟨b, m, rfl, h.mono (by omega)⟩
def PI (o : Option Bag) (r : Option Bg3) (i : Nat) : Prop := (o = none ∧ r = none) ∨ ∃ b m, o = some b ∧ r = some m ∧ SI b m i
theorem PI.mono {o : Option Bag} {r : Option Bg3} {i j : Nat} (h : PI o r i) (hij : i ≤ j) : PI o r j := h.imp id fun ⟨b, m, e1, e2, h⟩ => ⟨b, m, e1, e2, h.mono hij⟩
theorem PI.told {o : Option Bag} {r : Option Bg3} {i : Nat} (hk : Fuel k) (h : PI o r i) (hi : i < 400000000) : haulagelaw20_told.f k o r = some true := by
 rcases h with ⟨rfl, rfl⟩ | ⟨b, m, rfl, rfl, h⟩
 ·exact told_none hk
 ·exact told_some hk h (by omega)
theorem PI.step {o : Option Bag} {r : Option Bg3} {i : Nat} (hk : Fuel k) (h : PI o r i) (hi : i < 400000000) (p : haulagelaw20_Op) (ho : isI p.Number) (hd : p.Data.length ≤ 1048576) : ∃ o' r', haulagelaw20_step.f k o r p = some (true, o', r') ∧ PI o' r' (i + 1) := by
 rcases h with ⟨rfl, rfl⟩ | ⟨b, m, rfl, rfl, h⟩
 ·exact ⟨none, none, step_none hk p hd, .inl ⟨rfl, rfl⟩⟩
 ·obtain ⟨b', m', e, h'⟩ := step_some hk h hi p ho hd
  exact ⟨_, _, e, .inr ⟨b', m', rfl, rfl, h'⟩⟩
def LI (l : List (Option Bag)) (r : List (Option Bg3)) (i : Nat) : Prop := l.length = 3 ∧ r.length = 3 ∧ ∀ q : Int, 0 ≤ q → q < 3 → PI (rd l q) (rd r q) i
theorem rd_set {α : Type} [Inhabited α] {xs : List α} {i j : Int} {y : α} (h0 : 0 ≤ i) (h1 : i < xs.length) (hj : 0 ≤ j) : rd (xs.set i.toNat y) j = if j = i then y else rd xs j := by
 unfold rd
 rw [List.getD_eq_getElem?_getD, List.getD_eq_getElem?_getD, List.getElem?_set]
 by_cases c : j = i
 ·subst c
  rw [if_pos rfl, if_pos rfl, if_pos (by omega)]; rfl
 ·rw [if_neg (by omega), if_neg c]
theorem BagScript_true (hk : Fuel k) {a1 : List haulagelaw20_Op} (hb : a1.length ≤ 1048576) (ho : ∀ o ∈ a1, isI o.Number ∧ o.Data.length ≤ 1048576) : haulagelaw20_BagScript.f k a1 = some true := by
 have h24 : 1099511627776 ≤ k := hk
 have n1 : bag_New.f = some (some ⟨⟨fun _ => none, 0, 0⟩, 0, ⟨0, 0, 0, 0, 0⟩⟩) := rfl
 have n2 : haulageref20_New.f = some (some ⟨[], 0, ⟨0, 0, 0, 0, 0⟩⟩) := rfl
 unfold haulagelaw20_BagScript.f
 rw [bind_eq n1, bind_eq n1, bind_eq n2, bind_eq n2, if_pos (by decide), if_neg (show ¬ (Option.isNone _ = true) from fun q => Bool.noConfusion q), if_pos (by decide)]
 show haulagelaw20_BagScript.j1 k a1 _ _ _ _ false = _
 unfold haulagelaw20_BagScript.j1
 rw [if_neg (by simp)]
 obtain ⟨x, l1, l2⟩ := loop_run (f := fun (s_ : (List (Option Bag)) × (List (Option Bg3)) × Int) => haulagelaw20_BagScript.b4 k a1 s_.1 s_.2.1 s_.2.2) (I := fun i s => ∃ l r, s = (l, r, (i : Int)) ∧ LI l r i) (P := fun x => ∃ l r, x = Sum.inl (l, r) ∧ LI l r a1.length) (N := a1.length) (k := k) (s := ([some ⟨⟨fun _ => none, 0, 0⟩, 0, ⟨0, 0, 0, 0, 0⟩⟩, some ⟨⟨fun _ => none, 0, 0⟩, 0, ⟨0, 0, 0, 0, 0⟩⟩, none], [some ⟨[], 0, ⟨0, 0, 0, 0, 0⟩⟩, some ⟨[], 0, ⟨0, 0, 0, 0, 0⟩⟩, none], 0))
  (fun i s hi hI => by
   obtain ⟨l, r, rfl, h1, h2, h3⟩ := hI
   obtain ⟨o1, o2⟩ := ho _ (List.getElem_mem hi)
   have skip : ∃ s', haulagelaw20_BagScript.j3 k a1 l r i true = some (.next s') ∧ ∃ l r, s' = (l, r, ((i + 1 : Nat) : Int)) ∧ LI l r (i + 1) := by
    unfold haulagelaw20_BagScript.j3
    rw [if_pos rfl, wrS i (by omega)]
    exact ⟨_, rfl, l, r, rfl, h1, h2, fun q a b => (h3 q a b).mono (by omega)⟩
   show ∃ s', haulagelaw20_BagScript.b4 k a1 l r i = _ ∧ _
   unfold haulagelaw20_BagScript.b4
   rw [if_pos (by omega), if_pos (by omega), rd_eq hi]
   by_cases c1 : (a1[i]).Who < 0
   ·rw [if_pos c1]; exact skip
   rw [if_neg c1]
   by_cases c2 : 2 < (a1[i]).Who
   ·rw [decide_eq_true c2]; exact skip
   rw [decide_eq_false c2]
   unfold haulagelaw20_BagScript.j3
   obtain ⟨o', r', e, h'⟩ := (h3 (a1[i]).Who (by omega) (by omega)).step hk (by omega) a1[i] o1 o2
   rw [if_neg (by simp), rd_eq hi, if_pos (by omega), if_pos (by omega), bind_eq e, if_pos rfl, wrS i (by omega)]
   refine ⟨_, rfl, _, _, rfl, by simpa using h1, by simpa using h2, fun q a b => ?_⟩
   rw [rd_set (by omega) (by omega) a, rd_set (by omega) (by omega) a]
   by_cases c : q = (a1[i]).Who
   ·rw [if_pos c, if_pos c]; exact h'
   ·rw [if_neg c, if_neg c]; exact (h3 q a b).mono (by omega))
  (fun s hI => by
   obtain ⟨l, r, rfl, h⟩ := hI
   refine ⟨_, ?_, l, r, rfl, h⟩
   show haulagelaw20_BagScript.b4 k a1 l r (a1.length : Int) = _
   unfold haulagelaw20_BagScript.b4
   rw [if_neg (by omega)]) ⟨_, _, rfl, rfl, rfl, fun q a b => by
    have : q = 0 ∨ q = 1 ∨ q = 2 := by omega
    rcases this with rfl | rfl | rfl
    ·exact .inr ⟨_, _, rfl, rfl, SI.new⟩
    ·exact .inr ⟨_, _, rfl, rfl, SI.new⟩
    ·exact .inl ⟨rfl, rfl⟩⟩ (by omega)
 obtain ⟨l, r, rfl, h1, h2, h3⟩ := l2
 rw [bind_eq l1]
 show haulagelaw20_BagScript.j5 k l r = _
 unfold haulagelaw20_BagScript.j5
 rw [if_pos (by omega), if_pos (by omega), if_pos (by omega), if_pos (by omega), if_pos (by omega), if_pos (by omega)]
 rw [bind_eq ((h3 0 (by omega) (by omega)).told hk (by omega)), if_pos rfl, bind_eq ((h3 1 (by omega) (by omega)).told hk (by omega)), if_pos rfl, bind_eq ((h3 2 (by omega) (by omega)).told hk (by omega))]
end
end Go.Proofs.Ytdlokohmdnkdoaa.G
namespace Go.Proofs.Ytdlokohmdnkdoaa.bagScript
open Go.ChangeShapes Go.WideShapes Go.ChangeAt Go.RowKit
set_option linter.unusedVariables false
set_option maxRecDepth 100000 in
theorem contract (H : Type) (enc : TypeId × Value → H) (W : World) (base : Nat) (args : Array Value) (ds gs : List (DataW H)) (before : List MemPlace)
  (hval : ∀ (j : Nat) t v, Try.f4.params[j]? = some t → args[j]? = some v → Value.okWide Try.prog W .any base t v)
  (hW : DataW.Whole enc Try.prog Try.f4.params.toList Rows.bagScriptSpec.vars false W args.toList ds gs before) (hk : Rows.uptoSmall H (ds ++ gs) = true) :
  Calls Try.prog 4 args W fun e W' => ∃ v, e = .returned v ∧ Rows.bagScriptSpec.post enc Try.prog Try.f4 false true false false W args v W' := by
 have hW' := hW
 obtain ⟨p, q, hA0, hV, rfl, hfz, hnd⟩ := hW
 have hA : DataW.TrodAll enc Try.prog W 0 (fun _ => true) true Try.f4.params.toList args.toList ds p := hA0
 rw [Try.params4] at hA hval
 obtain ⟨v0, vs0, d0, ds0, p0, q0, hargs, rfl, rfl, h0, r0⟩ := trodAll_cons hA
 obtain ⟨rfl, rfl, rfl⟩ := trodAll_nil r0
 obtain rfl : args = #[v0] := by cases args; simp_all
 obtain ⟨rfl, rfl⟩ := trodVars_none hV
 have k0 := h0
 have lt0 : ∀ x ∈ p0, x.block < W.heap.size := by obtain ⟨m, hm⟩ := k0; exact DataW.trod_lt m _ _ _ hm
 obtain ⟨A0, C0, a0, rfl, s0, b0, o0⟩ := G.arg_ops (okWide_slice Try.underlying47 (hval 0 47 v0 rfl rfl)) h0
 have l0 := G.len_sum G.wt_haulagelaw20_Op G.wt_haulagelaw20_Op_pos a0
 have hb : Rows.uptoBulkAll [d0] ≤ 1048576 := of_decide_eq_true hk
 simp only [Rows.uptoBulkAll] at hb
 refine (G.haulagelaw20_BagScript.calls 1099511627776 (m := 1) (c0 := G.c0) (w0 := W) (Nat.lt_succ_self 0) (fun _ _ => Nat.lt_succ_self 0) s0 true (G.BagScript_true (k := 1099511627776) (Nat.le_refl _) (by omega) (fun o ho => ⟨(o0 o ho).2.2.1.range, by have h1 := G.mem_sum G.wt_haulagelaw20_Op ho; have h2 : o.Data.length + 1 ≤ G.wt_haulagelaw20_Op o := Nat.le_refl _; omega⟩))).mono fun e W' ⟨c_, he, ev_, _⟩ => ?_
 subst he
 have bel : Below W.heap.size W W' := G.Ev.below ev_
 exact ⟨_, rfl, _, _, _, [], _, [], hW', trodAll_mk1 (shut_bool Try.underlying4 _), (trodAll_cons_mk (Below.trod G.row_laidOut (by kernel_rfl) (of_decide_eq_true (by kernel_rfl)) k0 bel lt0) trodAll_mk0), rfl, bel.frame _, fun h => by cases h⟩
set_option maxRecDepth 100000 in
theorem lifted (os : Os) (started : os.Started) (H : Type) (enc : TypeId × Value → H) (F : Stop.Interp) :
  ReturnsInHanded {} Try.checked os 4 .any ((Rows.OpenSpec.upto Rows.bagScriptSpec).pre6 enc Try.prog Try.f4 Rows.bagScriptUptoRow.domain false) (((Rows.OpenSpec.upto Rows.bagScriptSpec).at F).post enc Try.prog Try.f4 false true false false) := by
 refine returnsInHanded_of_cond (C := Try.checked) (s := Rows.OpenSpec.upto Rows.bagScriptSpec) (k := Rows.uptoSmall) rfl G.row_own started (by kernel_rfl) Try.func4
  (OpenSpec.witness (enc := enc) (C := Try.checked) (s := Rows.OpenSpec.upto Rows.bagScriptSpec) (k := Rows.uptoSmall) rfl false ⟨#[], #[.slice none 0 0], []⟩ 8 (by kernel_rfl) (by kernel_rfl) (by kernel_rfl)
   (x := ([.nil], [], [])) (by kernel_rfl) rfl (by kernel_rfl)) ?_
 intro W base args ds gs before hval hW _ hk _
 exact contract H enc W base args ds gs before hval hW hk
theorem over : Rows.bagScriptUptoRow.holds Try.pinned (Rows.OpenSpec.upto Rows.bagScriptSpec) :=
 OpenClaim.holds_of_cond 4 Try.f4 rfl rfl rfl rfl rfl rfl rfl ⟨rfl, rfl, rfl, rfl, rfl⟩ rfl rfl rfl rfl rfl (by kernel_rfl) Try.func4 (by kernel_rfl)
  (of_decide_eq_true (by kernel_rfl)) (by unfold Func.isWrapper; first | (rw [if_pos (by decide +kernel)]; kernel_rfl) | (rw [if_neg (by decide +kernel)]; exact ⟨rfl, rfl⟩))
  (fun os started H enc _ F => lifted os started H enc F)
theorem proved : Rows.BagScriptUptoSaid := over
end Go.Proofs.Ytdlokohmdnkdoaa.bagScript
namespace Go.Proofs.Ytdlokohmdnkdoaa
theorem bagScript_holds : Rows.BagScriptUptoSaid := bagScript.proved
end Go.Proofs.Ytdlokohmdnkdoaa