/- The row of 'MerkleRows', its '..UptoSaid': whatever the input of bulk at most 1048576, the law returns true and the input reads as it did; its condition: that bulk. -/
import Derived.Test.YtdnaoecfnjalgaaHMerkleRowsA
import Derived.Test.YtdnaoecfnjalgaaHMerkleRowsC
import Derived.Test.YtdnaoecfnjalgaaHMerkleRowsB
import Derived.Shelf.SlSortCmp.NoneTotal
import Derived.Ground.SlsfProg
import Derived.Shelf.SlGeneric
import Derived.Test.YtdnaoecfnjalgaaProg
import Derived.Laws.OwnMore
import Derived.Laws.Strings
import Derived.Test.YtdnaoecfnjalgaaRows
import Derived.Deep.Slices
import Derived.ChangeArms
import Derived.KernelRfl
import Derived.OpenShut
import Derived.WalkKit
import Derived.ProofKit
import Derived.JoinedCond
import Derived.Below
import Derived.ChangeOld
namespace Go.Proofs.Ytdnaoecfnjalgaa.G
open Go Go.RowKit
set_option linter.unusedVariables false
set_option linter.unusedSimpArgs false
set_option maxRecDepth 100000
set_option maxHeartbeats 40000000
theorem haulagelaw10_ofRow.calls (k : Nat) {m : Nat} {c0 : Nat → Nat} {w0 : World} {A2 : Option Addr} {C3 : Nat} {A5 : Option Addr} {C6 : Nat} {a1 : api_Row} {a8 : Int} (hm0 : 0 < m) (B0 : CB m c0 w0) (h4 : SL false (Kint .u8) 0 0 c0 w0 A2 C3 a1.Key) (h7 : SL false (Kint .u8) 0 0 c0 w0 A5 C6 a1.Value) (r : Int) (H : haulagelaw10_ofRow.f k a1 a8 = some r) : Calls Try.prog 43 #[.agg #[.slice A2 a1.Key.length C3, .slice A5 a1.Value.length C6, .int .i64 a1.Rev], .int .i64 a8] w0 (fun e w_ => ∃ (c_ : Nat → Nat), e = .returned (.int .u64 r) ∧ Ev (fun x => False) c0 w0 c_ w_ ∧ CB m c_ w_) := by
 unfold haulagelaw10_ofRow.f at H; have B := B0.mono (show m ≤ m + 4 by omega); have E : Ev (fun x => False ∨ m ≤ x) c0 w0 c0 w0 := Ev.refl; refine enter (N := 41) (l := [.agg #[.slice A2 a1.Key.length C3, .slice A5 a1.Value.length C6, .int .i64 a1.Rev], .int .i64 a8]) Try.func43 rfl rfl (nb rfl) fun a F => ?_; refine sr fun K9 hK9 => ?_; refine q_eff F rfl rfl (by decide) (e_box F (v := .agg #[.slice A2 a1.Key.length C3, .slice A5 a1.Value.length C6, .int .i64 a1.Rev]) rfl c0 (m + 1)) ?_; rintro v w11 a ⟨c10, qa12, rfl, E13, h14, B15⟩ F; replace B := B15 _ B lm; replace h4 := h4.ev E13; replace h7 := h7.ev E13; replace E := E.n E13; replace h14 : AT _ _ _ _ _ [.slice A2 a1.Key.length C3, .slice A5 a1.Value.length C6, .int .i64 a1.Rev] := h14; refine qa F fun a F => nil (hK9 _ _ ?_); refine sr fun K17 hK17 => qf F ff_36_0 fun a F => ?_; refine ql F ag_23 h14 fun a F => ?_; refine qv F (r_lensl F Try.underlying23 rfl) fun a F => ?_; refine qf F ff_36_1 fun a F => ?_; refine ql F ag_23 h14 fun a F => ?_; refine qv F (r_lensl F Try.underlying23 rfl) fun a F => ?_; refine qv F (r_add F rfl rfl) fun a F => ?_; refine qv F (r_add F rfl rfl) fun a F => ?_; obtain ⟨t18, q19, H⟩ := bind_some H; refine qc F Try.func47 (parcel_New.calls (m := m + 4) (pl hm0) B (m + 2) lm (m + 3) lm _ q19) ?_; rintro e w21 ⟨c20, p24, rfl, E22, B, h25⟩; refine rt fun a F => ?_; replace h4 := h4.ev E22; replace h7 := h7.ev E22; replace h14 := h14.ev E22; replace E := E.n E22; refine qa F fun a F => nil (hK17 _ _ ?_); replace F : Fr a 41 [(1, .int .i64 a8), (2, .pointer (some qa12)), (5, .pointer p24)] := F.sub ⟨rfl, rfl, rfl, trivial⟩; refine sr fun K27 hK27 => qm F fun a F => ?_; obtain ⟨t28, q29, H⟩ := bind_some H; refine qc F Try.func48 (parcel_Writer_Byte.calls (m := m + 4) (pl hm0) B h25 ⟨(pl hm0), lm⟩ ⟨(pl hm0), lm, mm⟩ _ q29) ?_; rintro e w31 ⟨c30, rfl, E32, B, h34⟩; refine rt fun a F => ?_; replace h4 := h4.ev E32 (nor ne_zm ne_zm) (nor ne_zm ne_zm); replace h7 := h7.ev E32 (nor ne_zm ne_zm) (nor ne_zm ne_zm); replace h14 := h14.ev E32 (nor mm mm); replace E := E.trans E32 lc2; refine nil (hK27 _ _ ?_); refine sr fun K36 hK36 => qm F fun a F => qf F ff_36_0 fun a F => ?_; refine ql F ag_23 h14 fun a F => ?_; obtain ⟨t37, q38, H⟩ := bind_some H; refine qc F Try.func63 (parcel_Writer_Text.calls k (m := m + 4) (pl hm0) B h34 h4 ⟨(pl hm0), lm⟩ ⟨(pl hm0), lm, mm⟩ _ q38) ?_; rintro e w40 ⟨c39, rfl, E41, B, h43⟩; refine rt fun a F => ?_; replace h7 := h7.ev E41 (nor ne_zm ne_zm) (nor ne_zm ne_zm); replace h14 := h14.ev E41 (nor mm mm); replace E := E.trans E41 lc2; refine nil (hK36 _ _ ?_); refine sr fun K45 hK45 => qm F fun a F => qf F ff_36_1 fun a F => ?_; refine ql F ag_23 h14 fun a F => ?_; obtain ⟨t46, q47, H⟩ := bind_some H; refine qc F Try.func63 (parcel_Writer_Text.calls k (m := m + 4) (pl hm0) B h43 h7 ⟨(pl hm0), lm⟩ ⟨(pl hm0), lm, mm⟩ _ q47) ?_; rintro e w49 ⟨c48, rfl, E50, B, h52⟩; refine rt fun a F => ?_; replace h14 := h14.ev E50 (nor mm mm); replace E := E.trans E50 lc2
 refine nil (hK45 _ _ ?_); replace F : Fr a 41 [(1, .int .i64 a8), (2, .pointer (some qa12)), (5, .pointer p24)] := F.sub ⟨rfl, rfl, rfl, trivial⟩; refine sr fun K54 hK54 => qm F fun a F => qf F ff_36_2 fun a F => ?_; refine ql F ag_3 h14 fun a F => ?_; obtain ⟨t55, q56, H⟩ := bind_some H; refine qc F Try.func64 (parcel_Writer_Int.calls k (m := m + 4) (pl hm0) B h52 ⟨(pl hm0), lm⟩ ⟨(pl hm0), lm, mm⟩ _ q56) ?_; rintro e w58 ⟨c57, rfl, E59, B, h61⟩; refine rt fun a F => ?_; replace E := E.trans E59 lc2; refine nil (hK54 _ _ ?_); refine sr fun K63 hK63 => qm F fun a F => ?_; obtain ⟨t64, q65, H⟩ := bind_some H; refine qc F Try.func50 (parcel_Writer_Done.calls (m := m + 4) (pl hm0) B h61 lm ⟨lm, mm⟩ 0 (pl hm0) _ q65) ?_; rintro e w67 ⟨c66, A70, C71, rfl, E68, B, h72⟩; refine rt fun a F => ?_; replace E := E.n E68; refine qm F fun a F => ?_; refine qx F fun a F => ?_; refine qx F fun a F => ?_; refine qa F fun a F => qa F fun a F => nil (hK63 _ _ ?_); replace F : Fr a 41 [(1, .int .i64 a8), (6, .slice A70 t64.1.length C71)] := F.sub ⟨rfl, rfl, trivial⟩; refine sr fun K74 hK74 => qm F fun a F => ?_; refine q_eff F rfl rfl (by decide) (e_buildSlice (n := 1) (e := 23) (c := c66) (k := (Kslice (Kint .u8))) (i := 0) F [(0, .slice A70 t64.1.length C71)] [.slice A70 t64.1.length C71] ([t64.1] : List (List Int)) (by exact ⟨rfl, rfl, trivial⟩) (fun w => by kernel_rfl) rfl (by decide) rfl ⟨⟨A70, C71, rfl, (SL.fl h72.r (fun q => q))⟩, trivial⟩ (fun q => q) 0) ?_; rintro v w76 a ⟨c75, A77, C78, rfl, E79, h80, B81⟩ F; replace B := B81 _ B (pl hm0); replace E := E.n E79; obtain ⟨t82, q83, H⟩ := bind_some H; refine qc F Try.func46 (seal_FNV.calls k (m := m + 4) (pl hm0) B h80.r (pl hm0) (pl hm0) _ q83) ?_; rintro e w85 ⟨c84, rfl, E86, B⟩; refine rt fun a F => ?_; replace E := E.n E86; refine qm F fun a F => ?_; obtain ⟨t89, q90, H⟩ := bind_some H; refine qc F Try.func51 (haulagelaw10_mask.calls (m := m + 4) (pl hm0) B _ q90) ?_; rintro e w92 ⟨c91, rfl, E93, B⟩; refine rt fun a F => ?_; replace E := E.n E93; refine qa F fun a F => nil (hK74 _ _ ?_); refine wp_ret ?_; obtain rfl := si H; refine out1 F rfl rfl ?_; exact ⟨cf (ct m) c91, rfl, E.lv B0, cfb⟩
theorem haulagelaw10_ofRows.calls (k : Nat) {m : Nat} {c0 : Nat → Nat} {w0 : World} {j5 : Nat} {A2 : Option Addr} {C3 : Nat} {a1 : List api_Row} {a6 : Int} (hm0 : 0 < m) (B0 : CB m c0 w0) (h4 : SL false K_api_Row j5 0 c0 w0 A2 C3 a1) (bj5 : j5 < m) (r : Int) (H : haulagelaw10_ofRows.f k a1 a6 = some r) : Calls Try.prog 22 #[.slice A2 a1.length C3, .int .i64 a6] w0 (fun e w_ => ∃ (c_ : Nat → Nat), e = .returned (.int .u64 r) ∧ Ev (fun x => False) c0 w0 c_ w_ ∧ CB m c_ w_) := by
 unfold haulagelaw10_ofRows.f at H; have B := B0.mono (show m ≤ m + 3 by omega); have E : Ev (fun x => False ∨ m ≤ x) c0 w0 c0 w0 := Ev.refl; refine enter (N := 40) (l := [.slice A2 a1.length C3, .int .i64 a6]) Try.func22 rfl rfl (nb rfl) fun a F => ?_; refine sr fun K7 hK7 => qa F fun a F => nil (hK7 _ _ ?_); refine sr fun K8 hK8 => qm F fun a F => ?_; refine qv F (r_lensl F Try.underlying27 rfl) fun a F => ?_; refine qv F (r_mul F rfl rfl) fun a F => ?_; refine qv F (r_add F rfl rfl) fun a F => ?_; obtain ⟨t9, q10, H⟩ := bind_some H; refine qc F Try.func47 (parcel_New.calls (m := m + 3) (pl hm0) B (m + 1) lm (m + 2) lm _ q10) ?_; rintro e w12 ⟨c11, p15, rfl, E13, B, h16⟩; refine rt fun a F => ?_; replace h4 := h4.ev E13; replace E := E.n E13; refine qa F fun a F => nil (hK8 _ _ ?_); refine sr fun K18 hK18 => qm F fun a F => ?_; obtain ⟨t19, q20, H⟩ := bind_some H; refine qc F Try.func48 (parcel_Writer_Byte.calls (m := m + 3) (pl hm0) B h16 ⟨(pl hm0), lm⟩ ⟨(pl hm0), lm, mm⟩ _ q20) ?_; rintro e w22 ⟨c21, rfl, E23, B, h25⟩; refine rt fun a F => ?_; replace h4 := h4.ev E23 (nor (ne_pm bj5) (ne_pm bj5)) (nor ne_zm ne_zm); replace E := E.trans E23 lc2; refine nil (hK18 _ _ ?_); replace F : Fr a 40 [(0, .slice A2 a1.length C3), (1, .int .i64 a6), (5, .pointer p15)] := F.sub ⟨rfl, rfl, rfl, trivial⟩; refine sq fun K27 hK27 => ?_; refine sr fun K28 hK28 => qa F fun a F => nil (hK28 _ _ ?_); refine wp_block ?_; obtain ⟨x86, HL, HR85⟩ := bind_some H; have J122 : ∀ (c123 : Nat → Nat) (w124 : World) (a : Act) (o121 : Option Wri), Fr a 40 [(1, .int .i64 a6), (5, .pointer p15)] → Ev (fun x => False ∨ m ≤ x) c0 w0 c123 w124 → CB (m + 3) c123 w124 → WR (m + 1) (m + 2) c123 w124 p15 o121 → haulagelaw10_ofRows.j2 k a6 o121 = some r → K27 a w124 := by
  intro c123 w124 a o121 F E B h120 H; unfold haulagelaw10_ofRows.j2 at H; refine hK27 _ _ ?_; refine sr fun K125 hK125 => qm F fun a F => ?_; obtain ⟨t126, q127, H⟩ := bind_some H; refine qc F Try.func50 (parcel_Writer_Done.calls (m := m + 3) (pl hm0) B h120 lm ⟨lm, mm⟩ 0 (pl hm0) _ q127) ?_; rintro e w129 ⟨c128, A132, C133, rfl, E130, B, h134⟩; refine rt fun a F => ?_; replace E := E.n E130; refine qm F fun a F => ?_; refine qx F fun a F => ?_; refine qx F fun a F => ?_; refine qa F fun a F => qa F fun a F => nil (hK125 _ _ ?_); refine sr fun K136 hK136 => qm F fun a F => ?_; refine q_eff F rfl rfl (by decide) (e_buildSlice (n := 1) (e := 23) (c := c128) (k := (Kslice (Kint .u8))) (i := 0) F [(0, .slice A132 t126.1.length C133)] [.slice A132 t126.1.length C133] ([t126.1] : List (List Int)) (by exact ⟨rfl, rfl, trivial⟩) (fun w => by kernel_rfl) rfl (by decide) rfl ⟨⟨A132, C133, rfl, (SL.fl h134.r (fun q => q))⟩, trivial⟩ (fun q => q) 0) ?_; rintro v w138 a ⟨c137, A139, C140, rfl, E141, h142, B143⟩ F; replace B := B143 _ B (pl hm0); replace E := E.n E141; obtain ⟨t144, q145, H⟩ := bind_some H; refine qc F Try.func46 (seal_FNV.calls k (m := m + 3) (pl hm0) B h142.r (pl hm0) (pl hm0) _ q145) ?_; rintro e w147 ⟨c146, rfl, E148, B⟩; refine rt fun a F => ?_; replace E := E.n E148; refine qm F fun a F => ?_; obtain ⟨t151, q152, H⟩ := bind_some H; refine qc F Try.func51 (haulagelaw10_mask.calls (m := m + 3) (pl hm0) B _ q152) ?_; rintro e w154 ⟨c153, rfl, E155, B⟩; refine rt fun a F => ?_; replace E := E.n E155; refine qa F fun a F => nil (hK136 _ _ ?_); replace F : Fr a 40 [(4, .int .u64 t151)] := F.sub ⟨rfl, trivial⟩; refine wp_ret ?_; obtain rfl := si H; refine out1 F rfl rfl ?_; exact ⟨cf (ct m) c153, rfl, E.lv B0, cfb⟩
 refine loop_fuel (I := fun n a w => ∃ (o75 : Option Wri) (i76 : Int) (c : Nat → Nat), Fr a 40 [(0, .slice A2 a1.length C3), (1, .int .i64 a6), (5, .pointer p15), (6, .int .i64 i76)] ∧ Ev (fun x => False ∨ m ≤ x) c0 w0 c w ∧ CB (m + 3) c w ∧ SL false K_api_Row j5 0 c w A2 C3 a1 ∧ WR (m + 1) (m + 2) c w p15 o75 ∧ loop (fun (s_ : (Option Wri) × Int) => haulagelaw10_ofRows.b1 k a1 a6 s_.1 s_.2) n (o75, i76) = some x86) (k := k) ⟨t19, 0, c21, F.sub ⟨rfl, rfl, rfl, rfl, trivial⟩, E, B, h4, h25, HL⟩ ?_; clear HL H E F B; intro n83 X79 hX79 a w78 ⟨o75, i76, c77, F, E, B, h4, h74, HL⟩; obtain ⟨n84, ctl82, rfl, HB, HN80, HD81⟩ := loop_some HL; have H : haulagelaw10_ofRows.b1 k a1 a6 o75 i76 = some ctl82 := HB; clear HB HL; unfold haulagelaw10_ofRows.b1 at H; refine sq fun K87 hK87 => ?_; refine sr fun K88 hK88 => qm F fun a F => qm F fun a F => ?_; refine qv F (r_lensl F Try.underlying27 rfl) fun a F => ?_; refine qv F (r_lss F rfl rfl) fun a F => ?_; refine nil (hK88 _ _ ?_)
 by_cases hb89 : i76 < (a1.length : Int)
 ·replace H := ip hb89 H; refine wct (fb F (dt hb89)) (wp_skip (hK87 _ _ ?_)); refine sq fun K90 hK90 => ?_; refine wp_block ?_; refine reg ?_; refine qm F fun a F => qm F fun a F => qm F fun a F => ?_; replace H := ifN H; obtain ⟨g91, H⟩ := H; obtain ⟨ad92, cs93, e94, h95, r96⟩ := SL.at h4 i76 g91.1 g91.2; obtain ⟨A97, C98, A100, C101, rfl, h99, h102⟩ := r96; replace h99 := SL.fl (i' := 0) h99 (fun q => q); replace h102 := SL.fl (i' := 0) h102 (fun q => q); obtain ⟨qa103, qqa103⟩ : ∃ q, q = (ad92.add (i76.toNat * 3)) := ⟨_, rfl⟩; have h95 : AT false j5 c77 w78 qa103 [.slice A97 ((rd a1 i76).Key).length C98, .slice A100 ((rd a1 i76).Value).length C101, .int .i64 ((rd a1 i76).Rev)] := by rw [qqa103]; exact h95
  refine qv F (r_indexAddr' F Try.underlying27 sz_36 rfl rfl g91.1 g91.2 e94 qqa103) fun a F => ?_; refine qv F (r_loads (cs := [.slice A97 ((rd a1 i76).Key).length C98, .slice A100 ((rd a1 i76).Value).length C101, .int .i64 ((rd a1 i76).Rev)]) F rfl ag_36 sz_36 h95) fun a F => ?_; refine qm F fun a F => ?_; obtain ⟨t58, q59, H⟩ := bind_some H; refine qc F Try.func43 (haulagelaw10_ofRow.calls k (m := m + 3) (pl hm0) B h99 h102 _ q59) ?_; rintro e w106 ⟨c105, rfl, E107, B⟩; refine rt fun a F => ?_; replace h4 := h4.ev E107; replace h74 := h74.ev E107; replace E := E.n E107; obtain ⟨t65, q66, H⟩ := bind_some H; refine qc F Try.func49 (parcel_Writer_Fixed.calls k (m := m + 3) (pl hm0) B h74 ⟨(pl hm0), lm⟩ ⟨(pl hm0), lm, mm⟩ _ q66) ?_; rintro e w111 ⟨c110, rfl, E112, B, h114⟩; refine rt fun a F => ?_; replace h4 := h4.ev E112 (nor (ne_pm bj5) (ne_pm bj5)) (nor ne_zm ne_zm); replace E := E.trans E112 lc2; refine nil (hK90 _ _ ?_); replace F : Fr a 40 [(0, .slice A2 a1.length C3), (1, .int .i64 a6), (5, .pointer p15), (6, .int .i64 i76)] := F.sub ⟨rfl, rfl, rfl, rfl, trivial⟩; refine reg ?_; refine qm F fun a F => ?_; refine qv F (r_add F rfl rfl) fun a F => ?_; refine qa F fun a F => nil ?_; replace H := HN80 _ (si H).symm; exact hX79 _ _ _ (Nat.lt_succ_self _) ⟨t65, (IntKind.i64.wrap (i76 + 1)), c110, F.sub ⟨rfl, rfl, rfl, rfl, trivial⟩, E, B, h4, h114, H⟩
 replace H := im hb89 H; refine wcf (fb F (dz hb89)) ?_; refine wp_exit ?_; refine thenE ?_; refine thenE ?_; refine inbE ?_; have hx_ := HD81 _ (si H).symm; have H := HR85; rw [← hx_] at H; exact J122 c77 w78 a o75 (F.sub ⟨rfl, rfl, trivial⟩) E B h74 H
theorem haulagelaw10_round.calls {m : Nat} {c0 : Nat → Nat} {w0 : World} {a1 : Int} {a2 : Int} (hm0 : 0 < m) (B0 : CB m c0 w0) (r : Int) (H : haulagelaw10_round.f a1 a2 = some r) : Calls Try.prog 8 #[.int .i64 a1, .int .i64 a2] w0 (fun e w_ => ∃ (c_ : Nat → Nat), e = .returned (.int .i64 r) ∧ Ev (fun x => False) c0 w0 c_ w_ ∧ CB m c_ w_) := by
 unfold haulagelaw10_round.f at H; have B := B0.mono (show m ≤ m + 1 by omega); have E : Ev (fun x => False ∨ m ≤ x) c0 w0 c0 w0 := Ev.refl; refine enter (N := 15) (l := [.int .i64 a1, .int .i64 a2]) Try.func8 rfl rfl (nb rfl) fun a F => ?_; refine sr fun K3 hK3 => qa F fun a F => nil (hK3 _ _ ?_); refine sr fun K4 hK4 => qm F fun a F => qm F fun a F => ?_; replace H := ifN H; obtain ⟨g5, H⟩ := H; refine qv F (r_rem F rfl rfl g5) fun a F => ?_; refine qa F fun a F => nil (hK4 _ _ ?_); refine sq fun K6 hK6 => ?_; refine sr fun K7 hK7 => qm F fun a F => ?_; refine qv F (r_lss F rfl rfl) fun a F => ?_; refine nil (hK7 _ _ ?_)
 by_cases hb8 : (Int.tmod a1 a2) < 0
 ·replace H := ip hb8 H; refine wct (fb F (dt hb8)) ?_; refine reg ?_; refine qm F fun a F => qm F fun a F => ?_; refine qv F (r_add F rfl rfl) fun a F => ?_; refine qa F fun a F => nil (hK6 _ _ ?_); replace F : Fr a 15 [(5, .int .i64 (IntKind.i64.wrap ((Int.tmod a1 a2) + a2)))] := F.sub ⟨rfl, trivial⟩; refine sr fun K9 hK9 => qm F fun a F => qa F fun a F => nil (hK9 _ _ ?_); refine wp_ret ?_; obtain rfl := si H; refine out1 F rfl rfl ?_; exact ⟨cf (ct m) c0, rfl, E.lv B0, cfb⟩
 replace H := im hb8 H; refine wcf (fb F (dz hb8)) (wp_skip (hK6 _ _ ?_)); replace F : Fr a 15 [(5, .int .i64 (Int.tmod a1 a2))] := F.sub ⟨rfl, trivial⟩; refine sr fun K10 hK10 => qm F fun a F => qa F fun a F => nil (hK10 _ _ ?_); refine wp_ret ?_; obtain rfl := si H; refine out1 F rfl rfl ?_; exact ⟨cf (ct m) c0, rfl, E.lv B0, cfb⟩
theorem haulagelaw10_sameRows.calls (k : Nat) {m : Nat} {c0 : Nat → Nat} {w0 : World} {j5 : Nat} {j10 : Nat} {A2 : Option Addr} {C3 : Nat} {A7 : Option Addr} {C8 : Nat} {a1 : List api_Row} {a6 : List api_Row} (hm0 : 0 < m) (B0 : CB m c0 w0) (h4 : SL false K_api_Row j5 0 c0 w0 A2 C3 a1) (h9 : SL false K_api_Row j10 0 c0 w0 A7 C8 a6) (bj5 : j5 < m) (bj10 : j10 < m) (r : Bool) (H : haulagelaw10_sameRows.f k a1 a6 = some r) : Calls Try.prog 18 #[.slice A2 a1.length C3, .slice A7 a6.length C8] w0 (fun e w_ => ∃ (c_ : Nat → Nat), e = .returned (.bool r) ∧ Ev (fun x => False) c0 w0 c_ w_ ∧ CB m c_ w_) := by
 unfold haulagelaw10_sameRows.f at H; have B := B0.mono (show m ≤ m + 1 by omega); have E : Ev (fun x => False ∨ m ≤ x) c0 w0 c0 w0 := Ev.refl; refine enter (N := 27) (l := [.slice A2 a1.length C3, .slice A7 a6.length C8]) Try.func18 rfl rfl (nb rfl) fun a F => ?_; refine sr fun K11 hK11 => qa F fun a F => nil (hK11 _ _ ?_); refine sq fun K12 hK12 => ?_; refine sr fun K13 hK13 => qm F fun a F => ?_; refine qv F (r_lensl F Try.underlying27 rfl) fun a F => ?_; refine qm F fun a F => ?_; refine qv F (r_lensl F Try.underlying27 rfl) fun a F => ?_; refine qv F (r_neq F rfl rfl) fun a F => ?_; refine nil (hK13 _ _ ?_)
 by_cases hb14 : (a1.length : Int) = (a6.length : Int)
 ·replace H := ip hb14 H; refine wcf (fb F (congrArg not (dt hb14))) (wp_skip (hK12 _ _ ?_)); refine sq fun K16 hK16 => ?_; refine sr fun K17 hK17 => qa F fun a F => nil (hK17 _ _ ?_); refine wp_block ?_; obtain ⟨x28, HL, HR27⟩ := bind_some H; have J74 : ∀ (c75 : Nat → Nat) (w76 : World) (a : Act), Fr a 27 [] → Ev (fun x => False ∨ m ≤ x) c0 w0 c75 w76 → CB (m + 1) c75 w76 → haulagelaw10_sameRows.j2 = some r → K16 a w76 := by
   intro c75 w76 a  F E B  H; unfold haulagelaw10_sameRows.j2 at H; refine hK16 _ _ ?_; refine sr fun K77 hK77 => qa F fun a F => nil (hK77 _ _ ?_); refine wp_ret ?_; obtain rfl := si H; refine out1 F rfl rfl ?_; exact ⟨cf (ct m) c75, rfl, E.lv B0, cfb⟩
  refine loop_fuel (I := fun n a w => ∃ (i18 : Int) (c : Nat → Nat), Fr a 27 [(0, .slice A2 a1.length C3), (1, .slice A7 a6.length C8), (5, .int .i64 i18)] ∧ Ev (fun x => False ∨ m ≤ x) c0 w0 c w ∧ CB (m + 1) c w ∧ SL false K_api_Row j5 0 c w A2 C3 a1 ∧ SL false K_api_Row j10 0 c w A7 C8 a6 ∧ loop (fun (s_ : Int) => haulagelaw10_sameRows.b1 k a1 a6 s_) n i18 = some x28) (k := k) ⟨0, c0, F.sub ⟨rfl, rfl, rfl, trivial⟩, E, B, h4, h9, HL⟩ ?_; clear HL H E F B; intro n25 X21 hX21 a w20 ⟨i18, c19, F, E, B, h4, h9, HL⟩; obtain ⟨n26, ctl24, rfl, HB, HN22, HD23⟩ := loop_some HL; have H : haulagelaw10_sameRows.b1 k a1 a6 i18 = some ctl24 := HB; clear HB HL; unfold haulagelaw10_sameRows.b1 at H; refine sq fun K29 hK29 => ?_; refine sr fun K30 hK30 => qm F fun a F => qm F fun a F => ?_; refine qv F (r_lensl F Try.underlying27 rfl) fun a F => ?_; refine qv F (r_lss F rfl rfl) fun a F => ?_; refine nil (hK30 _ _ ?_)
  by_cases hb31 : i18 < (a1.length : Int)
  ·replace H := ip hb31 H; refine wct (fb F (dt hb31)) (wp_skip (hK29 _ _ ?_)); refine sq fun K32 hK32 => ?_; refine wp_block ?_; refine sq fun K33 hK33 => ?_; refine regD (SB No c19 w20) 10 (.q 0 (.q 1 (.q 2 (.q 3 (.q 4 (.q 5 (.q 6 (.q 7 (.e 8 (.q 9 .nil)))))))))) Try_hm (by decide +kernel) ?_; intro w34 w1_ w2_ w3_ w4_; have E35 : Ev No c19 w20 c19 w34 := Ev.same w1_ w2_ w3_ w4_; replace B := B.same w1_; have zh4 := h4; have zh9 := h9; have ER : Ev No c19 w20 c19 w34 := Ev.same w1_ w2_ w3_ w4_; replace h4 := h4.ev E35; replace h9 := h9.ev E35; replace E := E.n E35; refine dm F ER.sb fun a F => ?_; refine dm F ER.sb fun a F => ?_; replace H := ifN H; obtain ⟨g36, H⟩ := H; obtain ⟨ad37, cs38, e39, h40, r41⟩ := SL.at zh4 i18 g36.1 g36.2; obtain ⟨A42, C43, A45, C46, rfl, h44, h47⟩ := r41; replace h44 := SL.fl (i' := 0) h44 (fun q => q); replace h47 := SL.fl (i' := 0) h47 (fun q => q); obtain ⟨qa48, qqa48⟩ : ∃ q, q = (ad37.add (i18.toNat * 3)) := ⟨_, rfl⟩; have h40 : AT false j5 c19 w20 qa48 [.slice A42 ((rd a1 i18).Key).length C43, .slice A45 ((rd a1 i18).Value).length C46, .int .i64 ((rd a1 i18).Rev)] := by rw [qqa48]; exact h40
   replace h44 := h44.ev ER nq nq; replace h47 := h47.ev ER nq nq; have zh40 := h40; refine dq F (fun wq hS => r_indexAddr' F Try.underlying27 sz_36 rfl rfl g36.1 g36.2 e39 qqa48) ER.sb fun a F => ?_; refine dq F (fun wq hS => r_loads (cs := [.slice A42 ((rd a1 i18).Key).length C43, .slice A45 ((rd a1 i18).Value).length C46, .int .i64 ((rd a1 i18).Rev)]) F rfl ag_36 sz_36 (AT.sb zh40 hS nq)) ER.sb fun a F => ?_; refine dm F ER.sb fun a F => ?_; refine dm F ER.sb fun a F => ?_; replace H := ifN H; obtain ⟨g50, H⟩ := H; obtain ⟨ad51, cs52, e53, h54, r55⟩ := SL.at zh9 i18 g50.1 g50.2; obtain ⟨A56, C57, A59, C60, rfl, h58, h61⟩ := r55; replace h58 := SL.fl (i' := 0) h58 (fun q => q); replace h61 := SL.fl (i' := 0) h61 (fun q => q); obtain ⟨qa62, qqa62⟩ : ∃ q, q = (ad51.add (i18.toNat * 3)) := ⟨_, rfl⟩; have h54 : AT false j10 c19 w20 qa62 [.slice A56 ((rd a6 i18).Key).length C57, .slice A59 ((rd a6 i18).Value).length C60, .int .i64 ((rd a6 i18).Rev)] := by rw [qqa62]; exact h54
   replace h58 := h58.ev ER nq nq; replace h61 := h61.ev ER nq nq; have zh54 := h54; refine dq F (fun wq hS => r_indexAddr' F Try.underlying27 sz_36 rfl rfl g50.1 g50.2 e53 qqa62) ER.sb fun a F => ?_; refine dq F (fun wq hS => r_loads (cs := [.slice A56 ((rd a6 i18).Key).length C57, .slice A59 ((rd a6 i18).Value).length C60, .int .i64 ((rd a6 i18).Rev)]) F rfl ag_36 sz_36 (AT.sb zh54 hS nq)) ER.sb fun a F => ?_; refine d_e ?_; obtain ⟨t64, q65, H⟩ := bind_some H; refine oc F Try.func14 (haulagelaw10_sameRow.calls k (m := m + 1) (pl hm0) B h44 h47 h58 h61 _ q65) ?_; rintro e w67 ⟨c66, rfl, E68, B⟩; refine rt fun a F => ?_; replace ER := ER.trans E68 nx; replace h4 := h4.ev E68; replace h9 := h9.ev E68; replace E := E.n E68; refine ⟨fun _ => ER.sb, ?_⟩; refine dq F (fun wq hS => r_not F rfl) ER.sb fun a F => ?_; refine d_nil ?_; refine hK33 _ _ ?_; replace F : Fr a 27 [(0, .slice A2 a1.length C3), (1, .slice A7 a6.length C8), (5, .int .i64 i18), (26, .bool (!t64))] := F.sub ⟨rfl, rfl, rfl, rfl, trivial⟩
   by_cases hb71 : t64 = true
   ·replace H := ip hb71 H; refine wcf (fb F (congrArg not hb71)) (wp_skip (hK32 _ _ ?_)); refine reg ?_; refine qm F fun a F => ?_; refine qv F (r_add F rfl rfl) fun a F => ?_; refine qa F fun a F => nil ?_; replace H := HN22 _ (si H).symm; exact hX21 _ _ _ (Nat.lt_succ_self _) ⟨(IntKind.i64.wrap (i18 + 1)), c66, F.sub ⟨rfl, rfl, rfl, trivial⟩, E, B, h4, h9, H⟩
   replace H := im hb71 H; refine wct (fb F (congrArg not (bfalse hb71))) ?_; refine sr fun K72 hK72 => qa F fun a F => nil (hK72 _ _ ?_); refine wp_ret ?_; refine inbR ?_; refine thenR ?_; refine thenR ?_; refine inbR ?_; refine thenR ?_; have hx_ := HD23 _ (si H).symm; have H := HR27; rw [← hx_] at H; replace H : some false = some r := H; obtain rfl := si H; refine out1 F rfl rfl ?_; exact ⟨cf (ct m) c66, rfl, E.lv B0, cfb⟩
  replace H := im hb31 H; refine wcf (fb F (dz hb31)) ?_; refine wp_exit ?_; refine thenE ?_; refine thenE ?_; refine inbE ?_; have hx_ := HD23 _ (si H).symm; have H := HR27; rw [← hx_] at H; exact J74 c19 w20 a  (F.sub trivial) E B  H
 replace H := im hb14 H; refine wct (fb F (congrArg not (dz hb14))) ?_; refine sr fun K15 hK15 => qa F fun a F => nil (hK15 _ _ ?_); refine wp_ret ?_; refine thenR ?_; obtain rfl := si H; refine out1 F rfl rfl ?_; exact ⟨cf (ct m) c0, rfl, E.lv B0, cfb⟩
theorem merkle_Tree_Get.calls (k : Nat) {m : Nat} {c0 : Nat → Nat} {w0 : World} {j4 : Nat} {j5 : Nat} {p2 : Option Addr} {A7 : Option Addr} {C8 : Nat} {a1 : Option Mer} {a6 : List Int} (hm0 : 0 < m) (B0 : CB m c0 w0) (h3 : ME j4 j5 c0 w0 p2 a1) (h9 : SL false (Kint .u8) 0 0 c0 w0 A7 C8 a6) (bj4 : j4 < m) (bj5 : j5 < m ∧ j5 ≠ j4) (r : api_Row × Bool) (H : merkle_Tree_Get.f k a1 a6 = some r) : Calls Try.prog 13 #[.pointer p2, .slice A7 a6.length C8] w0 (fun e w_ => ∃ (c_ : Nat → Nat) (A0_ : Option Addr) (C0_ : Nat) (A2_ : Option Addr) (C2_ : Nat), e = .returned (.tuple #[.agg #[.slice A0_ r.1.Key.length C0_, .slice A2_ r.1.Value.length C2_, .int .i64 r.1.Rev], .bool r.2]) ∧ Ev (fun x => False) c0 w0 c_ w_ ∧ CB m c_ w_ ∧ SL false (Kint .u8) 0 0 c_ w_ A0_ C0_ r.1.Key ∧ SL false (Kint .u8) 0 0 c_ w_ A2_ C2_ r.1.Value) := by
 unfold merkle_Tree_Get.f at H; have B := B0.mono (show m ≤ m + 2 by omega); have E : Ev (fun x => False ∨ m ≤ x) c0 w0 c0 w0 := Ev.refl; refine enter (N := 32) (l := [.pointer p2, .slice A7 a6.length C8]) Try.func13 rfl rfl (nb rfl) fun a F => ?_; refine sr fun K10 hK10 => ?_; refine q_eff F rfl rfl (by decide) (e_alloc F zv_36 c0 (m + 1)) ?_; rintro v w12 a ⟨c11, qa13, rfl, E14, h15, B16⟩ F; replace B := B16 _ B lm; replace h3 := h3.ev E14; replace h9 := h9.ev E14; replace E := E.n E14; replace h15 : AT _ _ _ _ _ [.slice none 0 0, .slice none 0 0, .int .i64 0] := h15; refine qa F fun a F => nil (hK10 _ _ ?_); refine sq fun K18 hK18 => ?_; refine sr fun K19 hK19 => qm F fun a F => ?_; refine qv F (r_peqlA F Try.underlying26 rfl rfl (ME.isNone h3)) fun a F => ?_; refine nil (hK19 _ _ ?_)
 by_cases hb20 : (Option.isNone a1) = true
 ·replace H := ip hb20 H; refine wct (fb F hb20) ?_; refine sr fun K21 hK21 => ?_; refine qv F (r_build (v := .agg #[.slice none 0 0, .slice none 0 0, .int .i64 0]) F [] (by exact trivial) (fun w => by kernel_rfl)) fun a F => ?_; refine q_eff0 F rfl rfl (e_storeN0 (us := [.slice none 0 0, .slice none 0 0, .int .i64 0]) F rfl rfl sz_36 h15 (nb rfl) (one_all rfl)) ?_; rintro w22 a ⟨E23, h15, Z24⟩ F; replace E := E.trans E23 lc1; replace h15 : AT _ _ _ _ _ [.slice none 0 0, .slice none 0 0, .int .i64 0] := h15; refine qa F fun a F => nil (hK21 _ _ ?_); refine wp_ret ?_; refine thenR ?_; obtain rfl := si H; refine outR2 F rfl ⟨_, rfl, lv_agg (cs := [.slice none 0 0, .slice none 0 0, .int .i64 0]) ag_36 sz_36 h15⟩ rfl ?_; exact ⟨cf (ct m) c11, none, 0, none, 0, rfl, E.lv B0, cfb, SL.nil, SL.nil⟩
 replace H := im hb20 H; refine wcf (fb F (bfalse hb20)) (wp_skip (hK18 _ _ ?_)); refine sr fun K25 hK25 => qm F fun a F => qm F fun a F => ?_; obtain ⟨t26, q27, H⟩ := bind_some H; refine qc F Try.func42 (merkle_Tree_at.calls k (m := m + 2) (pl hm0) B h3 h9 (Nat.lt_add_right _ bj4) ⟨(Nat.lt_add_right _ bj5.1), bj5.2⟩ _ q27) ?_; rintro e w29 ⟨c28, rfl, E30, B⟩; refine rt fun a F => ?_; replace h3 := h3.ev E30; replace h15 := h15.ev E30; replace E := E.n E30; refine qm F fun a F => ?_; refine qx F fun a F => ?_; refine qx F fun a F => ?_; refine qx F fun a F => ?_; refine qa F fun a F => qa F fun a F => qa F fun a F => nil (hK25 _ _ ?_); replace F : Fr a 32 [(0, .pointer p2), (4, .pointer (some qa13)), (6, .int .i64 t26.1), (7, .int .i64 t26.2.1), (8, .bool t26.2.2)] := F.sub ⟨rfl, rfl, rfl, rfl, rfl, trivial⟩; refine sq fun K33 hK33 => ?_; refine sr fun K34 hK34 => qm F fun a F => ?_; refine qv F (r_not F rfl) fun a F => ?_; refine nil (hK34 _ _ ?_)
 by_cases hb35 : t26.2.2 = true
 ·replace H := ip hb35 H; refine wcf (fb F (congrArg not hb35)) (wp_skip (hK33 _ _ ?_)); refine sr fun K40 hK40 => qm F fun a F => qm F fun a F => ?_; obtain ⟨ob41, e42, H⟩ := bind_some H; have z43 := h3; rw [e42] at z43; obtain ⟨ad44, cs46, cs48, rfl, hat45, h47, h49⟩ := ME.some z43; refine qi F fun a F => ?_; refine qf F ff_75_2 fun a F => ?_; replace H := ifN H; obtain ⟨g51, H⟩ := H; obtain ⟨cs53, h54, r55⟩ := ARO.at (off := 513) (AT.eqv (ds := (([.int .i64 ob41.bits] : List Value) ++ (cs46 ++ (([] : List Value)))) ++ (cs48 ++ (([.int .i64 ob41.many] : List Value)))) hat45 (by simp only [List.append_assoc])) (by have l0_ : cs46.length = 512 := (h47.1 : cs46.length = 512); simp only [List.length_append, List.length_cons, List.length_nil] <;> omega) h49 t26.1 g51.1 (by have g_ := g51.2; omega); obtain ⟨A57, C58, rfl, h59⟩ := r55; obtain ⟨qa56, qqa56⟩ : ∃ q, q = (ad44.add (513 + t26.1.toNat * 1)) := ⟨_, rfl⟩; have h54 : AT true j4 c28 w29 qa56 [.slice A57 (rd ob41.rows t26.1).length C58] := by rw [qqa56]; exact h54
  refine qv F (r_indexArr3 F ua_73 sz_27 rfl rfl g51.1 (by have g_ := g51.2; omega) hat45 qqa56) fun a F => ?_; refine qv F (r_load F rfl ag_27 (AT.cell0 h54 rfl)) fun a F => ?_; refine qm F fun a F => ?_; replace H := ifN H; obtain ⟨g61, H⟩ := H; obtain ⟨ad62, cs63, e64, h65, r66⟩ := SL.at h59 t26.2.1 g61.1 g61.2; obtain ⟨A67, C68, A70, C71, rfl, h69, h72⟩ := r66; replace h69 := SL.fl (i' := 0) h69 (fun q => q); replace h72 := SL.fl (i' := 0) h72 (fun q => q); obtain ⟨qa73, qqa73⟩ : ∃ q, q = (ad62.add (t26.2.1.toNat * 3)) := ⟨_, rfl⟩; have h65 : AT true j5 c28 w29 qa73 [.slice A67 ((rd (rd ob41.rows t26.1) t26.2.1).Key).length C68, .slice A70 ((rd (rd ob41.rows t26.1) t26.2.1).Value).length C71, .int .i64 ((rd (rd ob41.rows t26.1) t26.2.1).Rev)] := by rw [qqa73]; exact h65
  refine qv F (r_indexAddr' F Try.underlying27 sz_36 rfl rfl g61.1 g61.2 e64 qqa73) fun a F => ?_; refine qv F (r_loads (cs := [.slice A67 ((rd (rd ob41.rows t26.1) t26.2.1).Key).length C68, .slice A70 ((rd (rd ob41.rows t26.1) t26.2.1).Value).length C71, .int .i64 ((rd (rd ob41.rows t26.1) t26.2.1).Rev)]) F rfl ag_36 sz_36 h65) fun a F => ?_; obtain ⟨t75, q76, H⟩ := bind_some H; refine qc F Try.func41 (merkle_own.calls (m := m + 2) (pl hm0) B h69 h72 _ q76) ?_; rintro e w78 ⟨c77, A81, C82, A84, C85, rfl, E79, B, h83, h86⟩; refine rt fun a F => ?_; replace h15 := h15.ev E79; replace E := E.n E79; refine q_eff0 F rfl rfl (e_storeN0 (us := [.slice A81 t75.Key.length C82, .slice A84 t75.Value.length C85, .int .i64 t75.Rev]) F rfl rfl sz_36 h15 (nb rfl) (one_all rfl)) ?_; rintro w88 a ⟨E89, h15, Z90⟩ F; replace h83 := h83.ev E89; replace h86 := h86.ev E89; replace E := E.trans E89 lc1; replace h15 : AT _ _ _ _ _ [.slice A81 t75.Key.length C82, .slice A84 t75.Value.length C85, .int .i64 t75.Rev] := h15; refine qa F fun a F => nil (hK40 _ _ ?_); replace F : Fr a 32 [(4, .pointer (some qa13)), (5, .bool true)] := F.sub ⟨rfl, rfl, trivial⟩; refine wp_ret ?_; obtain rfl := si H; refine outR2 F rfl ⟨_, rfl, lv_agg (cs := [.slice A81 t75.Key.length C82, .slice A84 t75.Value.length C85, .int .i64 t75.Rev]) ag_36 sz_36 h15⟩ rfl ?_; exact ⟨cf (ct m) c77, A81, C82, A84, C85, rfl, E.lv B0, cfb, SL.rc h83 cfk cfk, SL.rc h86 cfk cfk⟩
 replace H := im hb35 H; refine wct (fb F (congrArg not (bfalse hb35))) ?_; refine sr fun K36 hK36 => ?_; refine qv F (r_build (v := .agg #[.slice none 0 0, .slice none 0 0, .int .i64 0]) F [] (by exact trivial) (fun w => by kernel_rfl)) fun a F => ?_; refine q_eff0 F rfl rfl (e_storeN0 (us := [.slice none 0 0, .slice none 0 0, .int .i64 0]) F rfl rfl sz_36 h15 (nb rfl) (one_all rfl)) ?_; rintro w37 a ⟨E38, h15, Z39⟩ F; replace E := E.trans E38 lc1; replace h15 : AT _ _ _ _ _ [.slice none 0 0, .slice none 0 0, .int .i64 0] := h15; refine qa F fun a F => nil (hK36 _ _ ?_); refine wp_ret ?_; refine thenR ?_; obtain rfl := si H; refine outR2 F rfl ⟨_, rfl, lv_agg (cs := [.slice none 0 0, .slice none 0 0, .int .i64 0]) ag_36 sz_36 h15⟩ rfl ?_; exact ⟨cf (ct m) c28, none, 0, none, 0, rfl, E.lv B0, cfb, SL.nil, SL.nil⟩
theorem merkle_Tree_Len.calls {m : Nat} {c0 : Nat → Nat} {w0 : World} {j4 : Nat} {j5 : Nat} {p2 : Option Addr} {a1 : Option Mer} (hm0 : 0 < m) (B0 : CB m c0 w0) (h3 : ME j4 j5 c0 w0 p2 a1) (bj4 : j4 < m) (bj5 : j5 < m ∧ j5 ≠ j4) (r : Int) (H : merkle_Tree_Len.f a1 = some r) : Calls Try.prog 20 #[.pointer p2] w0 (fun e w_ => ∃ (c_ : Nat → Nat), e = .returned (.int .i64 r) ∧ Ev (fun x => False) c0 w0 c_ w_ ∧ CB m c_ w_) := by
 unfold merkle_Tree_Len.f at H; have B := B0.mono (show m ≤ m + 1 by omega); have E : Ev (fun x => False ∨ m ≤ x) c0 w0 c0 w0 := Ev.refl; refine enter (N := 9) (l := [.pointer p2]) Try.func20 rfl rfl (nb rfl) fun a F => ?_; refine sr fun K6 hK6 => qa F fun a F => nil (hK6 _ _ ?_); refine sq fun K7 hK7 => ?_; refine sr fun K8 hK8 => qm F fun a F => ?_; refine qv F (r_peqlA F Try.underlying26 rfl rfl (ME.isNone h3)) fun a F => ?_; refine nil (hK8 _ _ ?_)
 by_cases hb9 : (Option.isNone a1) = true
 ·replace H := ip hb9 H; refine wct (fb F hb9) ?_; refine sr fun K10 hK10 => qa F fun a F => nil (hK10 _ _ ?_); refine wp_ret ?_; refine thenR ?_; obtain rfl := si H; refine out1 F rfl rfl ?_; exact ⟨cf (ct m) c0, rfl, E.lv B0, cfb⟩
 replace H := im hb9 H; refine wcf (fb F (bfalse hb9)) (wp_skip (hK7 _ _ ?_)); refine sr fun K11 hK11 => qm F fun a F => ?_; obtain ⟨ob12, e13, H⟩ := bind_some H; have z14 := h3; rw [e13] at z14; obtain ⟨ad15, cs17, cs19, rfl, hat16, h18, h20⟩ := ME.some z14; refine qi F fun a F => ?_; refine qf F ff_75_3 fun a F => ?_; refine qv F (r_load F rfl ag_3 (AT.cell hat16 ((get_app (n := 1) (k := 768) rfl).trans ((get_app (n := 512) (k := 256) (h18.1 : cs17.length = 512)).trans ((get_app (n := 0) (k := 256) rfl).trans ((get_app (n := 256) (k := 0) (ARO.len h20 : cs19.length = 256)).trans rfl)))))) fun a F => ?_; refine qa F fun a F => nil (hK11 _ _ ?_); refine wp_ret ?_; obtain rfl := si H; refine out1 F rfl rfl ?_; exact ⟨cf (ct m) c0, rfl, E.lv B0, cfb⟩
end Go.Proofs.Ytdnaoecfnjalgaa.G
namespace Go.Proofs
open Go.Shelf
end Go.Proofs
namespace Go.Proofs.Ytdnaoecfnjalgaa.G
open Go
set_option linter.unusedVariables false
set_option linter.unusedSimpArgs false
theorem wr {n : Int} (h0 : -1000000000000000000 ≤ n) (h1 : n ≤ 1000000000000000000) : IntKind.i64.wrap n = n := by rw [IntKind.wrap_i64]; omega
theorem loop_next {S X : Type} {f : S → Option (Ctl S X)} {n : Nat} {s s' : S} (h : f s = some (.next s')) : loop f (n + 1) s = loop f n s' := by
 show (f s).bind _ = _; rw [h]; rfl
theorem loop_done {S X : Type} {f : S → Option (Ctl S X)} {n : Nat} {s : S} {x : X} (h : f s = some (.done x)) : loop f (n + 1) s = some x := by
 show (f s).bind _ = _; rw [h]; rfl
abbrev Fuel (k : Nat) : Prop := 1099511627776 ≤ k
theorem bind_eq {α β : Type} {x : Option α} {f : α → Option β} {a : α} (h : x = some a) : x.bind f = f a := by rw [h]; rfl
theorem shr7u (n : Nat) : shr .u64 (n : Int) 7 = ((n / 128 : Nat) : Int) := by
 unfold shr
 have : (2 : Int) ^ (min (7 : Int).toNat IntKind.u64.bits) = 128 := by decide
 rw [this, Int.fdiv_eq_ediv_of_nonneg _ (by omega)]
 omega
def nmF : Nat → Nat → Nat
 | 0, _ => 0
 | f + 1, n => if n ≤ 127 then 0 else nmF f (n / 128) + 1
theorem nmF_le : ∀ f n, nmF f n ≤ f
 | 0, _ => Nat.le_refl _
 | f + 1, n => by
  have := nmF_le f (n / 128)
  unfold nmF; split <;> omega
theorem rd_eq {α : Type} [Inhabited α] {xs : List α} {i : Nat} (h : i < xs.length) : rd xs (i : Int) = xs[i] := by
 unfold rd
 rw [Int.toNat_natCast, List.getD_eq_getElem?_getD, List.getElem?_eq_getElem h]
 rfl
theorem take_one {α : Type} {xs : List α} {i : Nat} (h : i < xs.length) : xs.take (i + 1) = xs.take i ++ [xs[i]] := by
 rw [List.take_add_one, List.getElem?_eq_getElem h]; rfl
theorem wrS (i : Nat) (h : i < 1000000000000) : IntKind.i64.wrap ((i : Int) + 1) = ((i + 1 : Nat) : Int) := by rw [wr (by omega) (by omega)]; omega
theorem loop_inv {S X : Type} {f : S → Option (Ctl S X)} {I : Nat → S → Prop} {P : X → Prop} {N : Nat}
  (step : ∀ i s, i < N → I i s → (∃ s', f s = some (.next s') ∧ I (i + 1) s') ∨ (∃ x, f s = some (.done x) ∧ P x))
  (last : ∀ s, I N s → ∃ x, f s = some (.done x) ∧ P x) : ∀ (n i : Nat) (s : S) (m : Nat), I i s → i + n = N → n < m → ∃ x, loop f m s = some x ∧ P x
 | _, _, _, 0, _, _, h => absurd h (by omega)
 | 0, i, s, m + 1, hI, hN, _ => by
  obtain rfl : i = N := by omega
  obtain ⟨x, h1, h2⟩ := last s hI
  exact ⟨x, loop_done h1, h2⟩
 | n + 1, i, s, m + 1, hI, hN, hm => by
  rcases step i s (by omega) hI with ⟨s', h1, h2⟩ | ⟨x, h1, h2⟩
  ·rw [loop_next h1]
   exact loop_inv step last n (i + 1) s' m h2 (by omega) (by omega)
  ·exact ⟨x, loop_done h1, h2⟩
def fmP : Nat → Nat → List Int
 | 0, _ => []
 | f + 1, n => if n ≤ 127 then [] else bor .u8 (IntKind.u8.wrap n) 128 :: fmP f (n / 128)
def fmL : Nat → Nat → Nat
 | 0, n => n
 | f + 1, n => if n ≤ 127 then n else fmL f (n / 128)
theorem fmP_len : ∀ f n, (fmP f n).length = nmF f n
 | 0, _ => rfl
 | f + 1, n => by
  unfold fmP nmF
  split
  ·rfl
  ·rw [List.length_cons, fmP_len f]
theorem form_loop : ∀ (f n k : Nat) (l : List Int), n < 128 ^ f → f < k → l.length + f < 1000 → loop (fun (s_ : Int × List Int) => parcel_form.b1 s_.1 s_.2) k ((n : Int), l) = some ((fmL f n : Int), l ++ fmP f n)
 | _, _, 0, _, _, h, _ => absurd h (by omega)
 | 0, n, k + 1, l, h, _, _ => by
  have : n = 0 := by simpa using h
  subst this
  rw [loop_done (x := ((0 : Int), l))]
  ·simp [fmP, fmL]
  ·simp [parcel_form.b1]
 | f + 1, n, k + 1, l, h, hk, hs => by
  by_cases c : n ≤ 127
  ·rw [loop_done (x := ((n : Int), l))]
   ·simp [fmP, fmL, c]
   ·unfold parcel_form.b1; rw [if_neg (by omega)]
  ·have hd : n / 128 < 128 ^ f := by rw [Nat.pow_succ] at h; omega
   rw [loop_next (s' := (((n / 128 : Nat) : Int), l ++ [bor .u8 (IntKind.u8.wrap n) 128]))]
   ·rw [form_loop f (n / 128) k _ hd (by omega) (by simp; omega)]
    simp [fmP, fmL, c]
   ·unfold parcel_form.b1
    rw [if_pos (by omega), if_pos (by simp; omega), shr7u]
theorem wru {n : Int} (h0 : 0 ≤ n) (h1 : n < 9223372036854775808) : IntKind.u64.wrap n = n := by
 simp only [IntKind.wrap, IntKind.bits, IntKind.signed]; simp; omega
abbrev W (room : Int) (b : List Int) : Option Wri := some ⟨room, b, [], 0⟩
theorem lay_eq {room : Int} {b a : List Int} (h1 : (b.length + a.length : Nat) ≤ room) (h2 : room ≤ 1000000000000) : parcel_Writer_lay.f (W room b) a = some (W room (b ++ a)) := by
 unfold parcel_Writer_lay.f parcel_Writer_whole.f
 simp only [Option.isNone_some, Bool.false_eq_true, if_false, Option.bind_some, decide_true, if_true]
 rw [wr (by omega) (by omega), if_neg (by omega), if_pos (by omega)]
theorem concat_eq {k : Nat} (hk : Fuel k) {x y : List Int} (h : x.length + y.length < 2000000000000) : slices_Concat.f k [x, y] = some (x ++ y) := by
 have h24 : 1099511627776 ≤ k := hk
 obtain ⟨q, rfl⟩ : ∃ q, k = q + 1 + 1 + 1 := ⟨k - 3, by omega⟩
 unfold slices_Concat.f
 have e1 : loop (fun (s_ : Int × Int) => slices_Concat.b1 [x, y] s_.1 s_.2) (q + 1 + 1 + 1) (0, 0) = some ((x.length + y.length : Nat) : Int) := by
  rw [loop_next (s' := ((x.length : Int), (1 : Int)))]
  ·rw [loop_next (s' := (((x.length + y.length : Nat) : Int), (2 : Int)))]
   ·refine loop_done ?_
    simp [slices_Concat.b1]
   ·have r1 : rd [x, y] 1 = y := rfl
    have w1 : IntKind.i64.wrap ((x.length : Int) + (y.length : Int)) = ((x.length + y.length : Nat) : Int) := by rw [wr (by omega) (by omega)]; omega
    unfold slices_Concat.b1
    simp only [r1, w1]
    rw [if_pos (by simp), if_pos (by simp), if_neg (by omega)]
    rfl
  ·have r1 : rd [x, y] 0 = x := rfl
   have w1 : IntKind.i64.wrap (0 + (x.length : Int)) = (x.length : Int) := by rw [wr (by omega) (by omega)]; omega
   unfold slices_Concat.b1
   simp only [r1, w1]
   rw [if_pos (by simp), if_pos (by simp), if_neg (by omega)]
   rfl
 rw [bind_eq e1]
 unfold slices_Concat.j2
 have e2 : slices_Grow.f [] ((x.length + y.length : Nat) : Int) = some [] := by
  unfold slices_Grow.f; rw [if_pos ⟨by omega, by omega, rfl⟩]
 rw [bind_eq e2]
 have e3 : loop (fun (s_ : (List Int) × Int) => slices_Concat.b3 [x, y] s_.1 s_.2) (q + 1 + 1 + 1) ([], 0) = some (x ++ y) := by
  rw [loop_next (s' := (x, (1 : Int)))]
  ·rw [loop_next (s' := (x ++ y, (2 : Int)))]
   ·refine loop_done ?_
    simp [slices_Concat.b3]
   ·have r1 : rd [x, y] 1 = y := rfl
    unfold slices_Concat.b3
    simp only [r1]
    rw [if_pos (by simp), if_pos (by simp), if_pos (by omega)]
    rfl
  ·have r1 : rd [x, y] 0 = x := rfl
   unfold slices_Concat.b3
   simp only [r1]
   rw [if_pos (by simp), if_pos (by simp), if_pos (by simp; omega)]
   rfl
 rw [bind_eq e3]
 rfl
theorem done_eq {room : Int} {b : List Int} (h : b.length ≤ 1000000000000) : parcel_Writer_Done.f (W room b) = some (b, 0) := by
 unfold parcel_Writer_Done.f
 simp only [Option.isNone_some, Bool.false_eq_true, if_false, Option.bind_some, if_true, List.length_nil]
 rw [if_neg (by omega), if_pos (by omega)]
 simp
theorem u64_range (x : Int) : ∃ n : Nat, IntKind.u64.wrap x = (n : Int) ∧ n < 18446744073709551616 := by
 refine ⟨(IntKind.u64.wrap x).toNat, ?_, ?_⟩ <;> simp only [IntKind.wrap, IntKind.bits, IntKind.signed] <;> simp <;> omega
theorem down_tot {k : Nat} (hk : Fuel k) (x : Int) : ∃ l, parcel_downuint64.f k (List.replicate 8 (0 : Int)) x = some l ∧ l.length = 8 := by
 have h24 : 1099511627776 ≤ k := hk
 unfold parcel_downuint64.f
 have L := loop_inv (f := fun (s_ : (List Int) × Int × Int) => parcel_downuint64.b1 (List.replicate 8 (0 : Int)) s_.1 s_.2.1 s_.2.2) (I := fun i s => s.1.length = 8 ∧ s.2.2 = (i : Int)) (P := fun l => l.length = 8) (N := 8) ?_ ?_ 8 0 (List.replicate 8 (0 : Int), x, 0) k ⟨rfl, rfl⟩ rfl (by omega)
 ·obtain ⟨l, e, h⟩ := L
  rw [bind_eq e]
  exact ⟨l, by unfold parcel_downuint64.j2; rw [if_pos (by rw [h]; rfl)], h⟩
 ·rintro i ⟨l, y, j⟩ hi ⟨hl, hj⟩
  left
  simp only at hj hl; subst hj
  simp only [parcel_downuint64.b1]
  rw [if_pos (by simp; omega), if_pos (by omega), wrS i (by omega)]
  exact ⟨_, rfl, by simpa using hl, rfl⟩
 ·rintro ⟨l, y, j⟩ ⟨hl, hj⟩
  simp only at hj hl; subst hj
  simp only [parcel_downuint64.b1]
  rw [if_neg (by simp)]
  exact ⟨_, rfl, hl⟩
def brange (xs : List Int) : Prop := ∀ n ∈ xs, 0 ≤ n ∧ n ≤ 255
theorem comes_loop (a b : List Int) (ha : a.length < 4000000) : ∀ (n i m : Nat), i + n = a.length → n < m → i ≤ b.length →
  (∃ x, loop (fun (s_ : Int) => haulagelaw10_comes.b2 a b s_) m (i : Int) = some x ∧ (match x with | .inl _ => haulagelaw10_comes.j3 a b | .inr q => some q) = some (cm (a.drop i) (b.drop i)))
 | _, _, 0, _, h, _ => absurd h (by omega)
 | 0, i, m + 1, h, _, hb => by
  refine ⟨Sum.inl (), loop_done ?_, ?_⟩
  ·unfold haulagelaw10_comes.b2 haulagelaw10_comes.j1
   rw [if_neg (by omega), if_neg (by simp)]
  ·show haulagelaw10_comes.j3 a b = _
   unfold haulagelaw10_comes.j3
   rw [List.drop_of_length_le (by omega)]
   congr 1
   by_cases c : i < b.length
   ·rw [List.drop_eq_getElem_cons c, decide_eq_true (by omega)]; rfl
   ·rw [List.drop_of_length_le (by omega), decide_eq_false (by omega)]; rfl
 | n + 1, i, m + 1, h, hm, hb => by
  have hi : i < a.length := by omega
  rw [List.drop_eq_getElem_cons hi]
  by_cases c : i < b.length
  ·rw [List.drop_eq_getElem_cons c]
   by_cases e : a[i] = b[i]
   ·rw [loop_next (s' := ((i + 1 : Nat) : Int))]
    ·have := comes_loop a b ha n (i + 1) m (by omega) (by omega) (by omega)
     simp only [cm, e, if_true]
     exact this
    ·unfold haulagelaw10_comes.b2 haulagelaw10_comes.j1
     rw [if_pos (by omega), if_pos (by simp; omega), if_pos (by omega), if_pos (by omega), rd_eq hi, rd_eq c, if_pos e, wrS i (by omega)]
   ·refine ⟨Sum.inr (decide (a[i] < b[i])), loop_done ?_, ?_⟩
    ·unfold haulagelaw10_comes.b2 haulagelaw10_comes.j1
     rw [if_pos (by omega), if_pos (by simp; omega), if_pos (by omega), if_pos (by omega), rd_eq hi, rd_eq c, if_neg e, if_pos (by omega), if_pos (by omega)]
    ·simp only [cm, if_neg e]
  ·refine ⟨Sum.inl (), loop_done ?_, ?_⟩
   ·unfold haulagelaw10_comes.b2 haulagelaw10_comes.j1
    rw [if_pos (by omega), if_neg (by simp; omega)]
   ·show haulagelaw10_comes.j3 a b = _
    unfold haulagelaw10_comes.j3
    rw [List.drop_of_length_le (show b.length ≤ i by omega)]
    congr 1
    rw [decide_eq_false (by omega)]; rfl
theorem comes_eq {k : Nat} (hk : Fuel k) (a b : List Int) (ha : a.length < 4000000) : haulagelaw10_comes.f k a b = some (cm a b) := by
 have h24 : 1099511627776 ≤ k := hk
 obtain ⟨x, e, h⟩ := comes_loop a b ha a.length 0 k (by omega) (by omega) (Nat.zero_le _)
 unfold haulagelaw10_comes.f
 rw [show (0 : Int) = ((0 : Nat) : Int) from rfl, bind_eq e]
 rw [List.drop_zero, List.drop_zero] at h
 cases x <;> exact h
theorem same_loop (a b : List Int) (hl : a.length = b.length) : ∀ (n i m : Nat), i + n = a.length → n < m → a.length < 4000000000 →
  loop (fun (s_ : Int) => haulagelaw10_same.b1 a b s_) m (i : Int) = some (if a.drop i = b.drop i then Sum.inl () else Sum.inr false)
 | _, _, 0, _, h, _ => absurd h (by omega)
 | 0, i, m + 1, h, _, _ => by
  refine loop_done ?_
  unfold haulagelaw10_same.b1
  rw [if_neg (by omega), if_pos]
  rw [List.drop_of_length_le (by omega), List.drop_of_length_le (by omega)]
 | n + 1, i, m + 1, h, hm, hb => by
  have hi : i < a.length := by omega
  have hj : i < b.length := by omega
  rw [List.drop_eq_getElem_cons hi, List.drop_eq_getElem_cons hj]
  by_cases c : a[i] = b[i]
  ·rw [loop_next (s' := ((i + 1 : Nat) : Int)), same_loop a b hl n (i + 1) m (by omega) (by omega) hb]
   ·simp only [c, List.cons.injEq, true_and]
   ·unfold haulagelaw10_same.b1
    rw [if_pos (by omega), if_pos (by omega), if_pos (by omega), rd_eq hi, rd_eq hj, if_pos c, wrS i (by omega)]
  ·rw [if_neg (by simp only [List.cons.injEq, c, false_and, not_false_eq_true])]
   refine loop_done ?_
   unfold haulagelaw10_same.b1
   rw [if_pos (by omega), if_pos (by omega), if_pos (by omega), rd_eq hi, rd_eq hj, if_neg c]
theorem same_eq {k : Nat} (hk : Fuel k) (a b : List Int) (h : a.length < 4000000000 ∨ b.length < 4000000000) : haulagelaw10_same.f k a b = some (decide (a = b)) := by
 have h24 : 1099511627776 ≤ k := hk
 unfold haulagelaw10_same.f
 by_cases c : a.length = b.length
 ·rw [if_pos (by omega), show (0 : Int) = ((0 : Nat) : Int) from rfl, bind_eq (same_loop a b c a.length 0 k (by omega) (by omega) (by omega))]
  simp only [List.drop_zero]
  by_cases e : a = b
  ·simp [e, haulagelaw10_same.j2]
  ·simp [e]
 ·rw [if_neg (by omega), decide_eq_false (fun e => c (by rw [e]))]
theorem cm_irr : ∀ a : List Int, cm a a = false
 | [] => rfl
 | a :: x => by simp only [cm, if_true]; exact cm_irr x
theorem cm_tr : ∀ {a b c : List Int}, cm a b = true → cm b c = true → cm a c = true
 | [], [], _, h, _ => by cases h
 | [], _ :: _, [], _, h => by simp [cm] at h
 | [], _ :: _, _ :: _, _, _ => rfl
 | _ :: _, [], _, h, _ => by simp [cm] at h
 | _ :: _, _ :: _, [], _, h => by simp [cm] at h
 | a :: x, b :: y, c :: z, h1, h2 => by
  simp only [cm] at h1 h2 ⊢
  by_cases e1 : a = b
  ·subst e1
   rw [if_pos rfl] at h1
   by_cases e2 : a = c
   ·subst e2
    rw [if_pos rfl] at h2 ⊢
    exact cm_tr h1 h2
   ·rw [if_neg e2] at h2 ⊢; exact h2
  ·rw [if_neg e1] at h1
   by_cases e2 : b = c
   ·subst e2; rw [if_neg e1]; exact h1
   ·rw [if_neg e2] at h2
    simp only [decide_eq_true_eq] at h1 h2
    rw [if_neg (by omega)]
    simp only [decide_eq_true_eq]; omega
theorem cm_tri : ∀ {a b : List Int}, cm a b = false → cm b a = false → a = b
 | [], [], _, _ => rfl
 | [], _ :: _, h, _ => by simp [cm] at h
 | _ :: _, [], _, h => by simp [cm] at h
 | a :: x, b :: y, h1, h2 => by
  simp only [cm] at h1 h2
  by_cases e : a = b
  ·subst e
   rw [if_pos rfl] at h1 h2
   rw [cm_tri h1 h2]
  ·rw [if_neg e] at h1
   rw [if_neg (fun q => e q.symm)] at h2
   simp only [decide_eq_false_iff_not] at h1 h2
   omega
theorem cm_asym {a b : List Int} (h : cm a b = true) : cm b a = false := by
 cases e : cm b a with
 | false => rfl
 | true => have := cm_tr h e; rw [cm_irr] at this; cases this
theorem cm_ne {a b : List Int} (h : cm a b = true) : a ≠ b := by rintro rfl; rw [cm_irr] at h; cases h
theorem cm_first : ∀ (a b : List Int) (i : Nat) (ha : i < a.length) (hb : i < b.length), (∀ j (h1 : j < i), a[j] = b[j]) → a[i] ≠ b[i] → cm a b = decide (a[i] < b[i])
 | [], _, i, ha, _, _, _ => absurd ha (by simp)
 | _ :: _, [], i, _, hb, _, _ => absurd hb (by simp)
 | a :: x, b :: y, 0, _, _, _, h => by
  simp only [List.getElem_cons_zero] at h ⊢
  simp only [cm, if_neg h]
 | a :: x, b :: y, i + 1, ha, hb, h1, h => by
  have h0 := h1 0 (by omega)
  simp only [List.getElem_cons_zero] at h0
  simp only [List.getElem_cons_succ] at h ⊢
  simp only [cm, if_pos h0]
  exact cm_first x y i (by simpa using ha) (by simpa using hb) (fun j hj => by have := h1 (j + 1) (by omega); simpa using this) h
theorem cm_none : ∀ (a b : List Int), (∀ j (h1 : j < a.length) (h2 : j < b.length), a[j] = b[j]) → cm a b = decide (a.length < b.length) ∧ (a.length = b.length → a = b)
 | [], [], _ => ⟨rfl, fun _ => rfl⟩
 | [], _ :: _, _ => ⟨by simp [cm], fun h => by simp at h⟩
 | _ :: _, [], _ => ⟨by simp [cm], fun h => by simp at h⟩
 | a :: x, b :: y, h => by
  have h0 := h 0 (by simp) (by simp)
  simp only [List.getElem_cons_zero] at h0
  obtain ⟨h1, h2⟩ := cm_none x y (fun j a b => by have := h (j + 1) (by simpa using a) (by simpa using b); simpa using this)
  refine ⟨?_, fun e => ?_⟩
  ·simp only [cm, if_pos h0, h1, List.length_cons]
   exact decide_eq_decide.2 (by omega)
  ·rw [h0, h2 (by simpa using e)]
theorem bs_get {l : List Int} (h : brange l) {i : Nat} (hi : i < l.length) : (bs l)[i]! = UInt8.ofNat l[i].toNat := by
 have hs : (bs l).size = l.length := by simp [bs, ByteArray.size]
 rw [getElem!_pos (bs l) i (by omega)]
 show (bs l).data[i]'(by simp [bs]; omega) = _
 simp [bs]
theorem bs_size (l : List Int) : (bs l).size = l.length := by simp [bs, ByteArray.size]
theorem u8_lt {x y : Int} (hx : 0 ≤ x ∧ x ≤ 255) (hy : 0 ≤ y ∧ y ≤ 255) : (UInt8.ofNat x.toNat < UInt8.ofNat y.toNat) ↔ x < y := by
 rw [UInt8.lt_iff_toNat_lt]
 simp only [UInt8.toNat_ofNat']
 omega
theorem u8_eq {x y : Int} (hx : 0 ≤ x ∧ x ≤ 255) (hy : 0 ≤ y ∧ y ≤ 255) : (UInt8.ofNat x.toNat = UInt8.ofNat y.toNat) ↔ x = y := by
 rw [← UInt8.toNat_inj]
 simp only [UInt8.toNat_ofNat']
 omega
theorem cmp_eq {a b : List Int} (ha : brange a) (hb : brange b) : Extern.BytealgCompare.cmp (bs a) (bs b) = if cm a b = true then -1 else if a = b then 0 else 1 := by
 unfold Extern.BytealgCompare.cmp
 rw [bs_size, bs_size]
 have hA : ∀ i (h : i < a.length), 0 ≤ a[i] ∧ a[i] ≤ 255 := fun i h => ha _ (List.getElem_mem h)
 have hB : ∀ i (h : i < b.length), 0 ≤ b[i] ∧ b[i] ≤ 255 := fun i h => hb _ (List.getElem_mem h)
 have key : ∀ i, i < min a.length b.length → (((bs a)[i]! != (bs b)[i]!) = true ↔ ∃ (h1 : i < a.length) (h2 : i < b.length), a[i] ≠ b[i]) := by
  intro i hi
  rw [bs_get ha (by omega), bs_get hb (by omega)]
  simp only [bne_iff_ne, ne_eq]
  rw [u8_eq (hA i (by omega)) (hB i (by omega))]
  exact ⟨fun h => ⟨by omega, by omega, h⟩, fun ⟨_, _, h⟩ => h⟩
 cases hf : (List.range (min a.length b.length)).find? fun i => (bs a)[i]! != (bs b)[i]! with
 | some i =>
  rw [List.find?_range_eq_some] at hf
  obtain ⟨h1, h2, h3⟩ := hf
  have hi : i < min a.length b.length := by simpa using h2
  obtain ⟨g1, g2, g3⟩ := (key i hi).1 h1
  have hc := cm_first a b i g1 g2 (fun j hj => by
   have := h3 j hj
   have hj' : j < min a.length b.length := by omega
   have h4 : ¬ ((bs a)[j]! != (bs b)[j]!) = true := by simpa using this
   rw [key j hj'] at h4
   have h1 : j < a.length := by omega
   have h2 : j < b.length := by omega
   exact Decidable.byContradiction fun q => h4 ⟨h1, h2, q⟩) g3
  simp only
  rw [bs_get ha g1, bs_get hb g2]
  by_cases c : a[i] < b[i]
  ·rw [if_pos ((u8_lt (hA i g1) (hB i g2)).2 c), if_pos (by rw [hc]; simpa using c)]
  ·rw [if_neg (fun q => c ((u8_lt (hA i g1) (hB i g2)).1 q)), if_neg (by rw [hc]; simpa using c), if_neg (fun e => g3 (by subst e; rfl))]
 | none =>
  rw [List.find?_eq_none] at hf
  obtain ⟨h1, h2⟩ := cm_none a b (fun j g1 g2 => by
   have hj' : j < min a.length b.length := by omega
   have h4 := hf j (List.mem_range.2 hj')
   rw [key j hj'] at h4
   exact Decidable.byContradiction fun q => h4 ⟨g1, g2, q⟩)
  simp only
  rw [h1]
  rcases Nat.lt_trichotomy a.length b.length with c | c | c
  ·have n1 : ¬ b.length < a.length := by omega
   simp [c, n1]
  ·have e := h2 c
   subst e
   simp
  ·have n1 : ¬ a.length < b.length := by omega
   have ne : a ≠ b := fun q => by rw [q] at c; omega
   simp [c, n1, ne]
theorem byKey_eq {r s : api_Row} (h1 : brange r.Key) (h2 : brange s.Key) : merkle_byKey.f r s = some (if cm r.Key s.Key = true then -1 else if r.Key = s.Key then 0 else 1) := by
 unfold merkle_byKey.f bytes_Compare.f
 rw [Option.bind_some, cmp_eq h1 h2]
theorem sameRow_eq {k : Nat} (hk : Fuel k) (r s : api_Row) (h1 : r.Key.length < 4000000000) (h2 : r.Value.length < 4000000000) : haulagelaw10_sameRow.f k r s = some (decide (r = s)) := by
 unfold haulagelaw10_sameRow.f
 rw [bind_eq (same_eq hk _ _ (.inl h1))]
 obtain ⟨a, b, c⟩ := r
 obtain ⟨a', b', c'⟩ := s
 simp only [api_Row.mk.injEq]
 by_cases e1 : a = a'
 ·rw [if_pos (by simpa using e1), bind_eq (same_eq hk _ _ (.inl h2))]
  by_cases e2 : b = b'
  ·rw [if_pos (by simpa using e2)]; simp [e1, e2]
  ·rw [if_neg (by simpa using e2)]; simp [e2]
 ·rw [if_neg (by simpa using e1)]; simp [e1]
end Go.Proofs.Ytdnaoecfnjalgaa.G
namespace Go.Proofs.Ytdnaoecfnjalgaa.G
open Go
set_option linter.unusedVariables false
section
variable {α : Type} {key : α → List Int}
theorem insK_perm (r : α) : ∀ l : List α, (insK key r l).Perm (r :: l)
 | [] => .refl _
 | x :: l => by
  unfold insK
  split
  ·exact .refl _
  ·exact ((insK_perm r l).cons x).trans (List.Perm.swap r x l)
theorem srtK_perm : ∀ l : List α, (srtK key l).Perm l
 | [] => .refl _
 | x :: l => (insK_perm x (srtK key l)).trans ((srtK_perm l).cons x)
def SrtK (key : α → List Int) (l : List α) : Prop := l.Pairwise fun a b => cm (key a) (key b) = true
theorem insK_srt (r : α) : ∀ l : List α, SrtK key l → (∀ x ∈ l, key x ≠ key r) → SrtK key (insK key r l)
 | [], _, _ => by simp [insK, SrtK]
 | x :: l, h, hn => by
  unfold insK
  obtain ⟨h1, h2⟩ := List.pairwise_cons.1 h
  split
  ·rename_i c
   refine List.pairwise_cons.2 ⟨fun y hy => ?_, h⟩
   rcases List.mem_cons.1 hy with rfl | hy
   ·exact c
   ·exact cm_tr c (h1 y hy)
  ·rename_i c
   refine List.pairwise_cons.2 ⟨fun y hy => ?_, insK_srt r l h2 fun z hz => hn z (List.mem_cons_of_mem _ hz)⟩
   have hc : cm (key x) (key r) = true := by
    cases e : cm (key x) (key r) with
    | true => rfl
    | false => exact absurd (cm_tri e (by simpa using c)) (hn x (List.mem_cons_self ..))
   rcases List.mem_cons.1 ((insK_perm r l).mem_iff.1 hy) with rfl | hy
   ·exact hc
   ·exact h1 y hy
theorem srtK_srt : ∀ l : List α, (l.map key).Nodup → SrtK key (srtK key l)
 | [], _ => .nil
 | x :: l, h => by
  rw [List.map_cons, List.nodup_cons] at h
  exact insK_srt x _ (srtK_srt l h.2) fun y hy e => h.1 (List.mem_map.2 ⟨y, (srtK_perm l).mem_iff.1 hy, e⟩)
theorem srt_uniq : ∀ {l l' : List α}, SrtK key l → SrtK key l' → l.Perm l' → l = l'
 | [], l', _, _, h => (List.nil_perm.1 h).symm
 | a :: t, [], _, _, h => absurd h.symm (by intro q; exact absurd (List.nil_perm.1 q) (by simp))
 | a :: t, b :: t', h1, h2, h => by
  obtain ⟨g1, g2⟩ := List.pairwise_cons.1 h1
  obtain ⟨k1, k2⟩ := List.pairwise_cons.1 h2
  have e : a = b := by
   rcases List.mem_cons.1 (h.mem_iff.1 (List.mem_cons_self ..)) with e | e
   ·exact e
   ·rcases List.mem_cons.1 (h.mem_iff.2 (List.mem_cons_self ..)) with e2 | e2
    ·exact e2.symm
    ·have := cm_asym (k1 a e); rw [g1 b e2] at this; cases this
  subst e
  rw [srt_uniq g2 k2 (h.cons_inv)]
theorem srtK_eq {l ys : List α} (hn : (l.map key).Nodup) (hp : ys.Perm l) (hs : SrtK key ys) : ys = srtK key l :=
 srt_uniq hs (srtK_srt l hn) (hp.trans (srtK_perm l).symm)
end
end Go.Proofs.Ytdnaoecfnjalgaa.G
namespace Go.Proofs.Ytdnaoecfnjalgaa.G
open Go Go.RowKit Go.Shelf Go.Sort Go.Lib
set_option linter.unusedVariables false
set_option linter.unusedSimpArgs false
namespace slices_SortRow
end slices_SortRow
theorem slices_SortRow.calls {m : Nat} {c0 : Nat → Nat} {w0 : World} {j1 : Nat} {A2 : Option Addr} {C3 : Nat} {a1 : List api_Row} (hm0 : 0 < m) (B0 : CB m c0 w0) (h4 : SL true K_api_Row j1 0 c0 w0 A2 C3 a1) (bj1 : 0 < j1 ∧ j1 < m) (r : List api_Row) (H : slices_SortRow.f a1 = some r) :
  Calls Try.prog 45 #[.slice A2 a1.length C3, .func (.func 40) #[] #[]] w0 (fun e w_ => ∃ (c_ : Nat → Nat), e = .returned (.tuple #[]) ∧ Ev (fun x => x = j1) c0 w0 c_ w_ ∧ CB m c_ w_ ∧ SL true K_api_Row j1 0 c_ w_ A2 C3 r ∧ r.length = a1.length) := by
 unfold slices_SortRow.f at H
 obtain ⟨⟨g0, g1, g2⟩, H⟩ := ifN H
 have H := Option.some.inj H
 refine (slices_SortRow.sort_keyed B0 h4 bj1 g2 (fun x hx n hn => g0 x hx n hn) g1).mono ?_
 rintro e w' ⟨c_, ys, rfl, E, B, h, hp, hs⟩
 have := srtK_eq g1 hp hs
 rw [H] at this
 subst this
 exact ⟨c_, rfl, E, B, h, hp.length_eq⟩
end Go.Proofs.Ytdnaoecfnjalgaa.G
namespace Go.Proofs.Ytdnaoecfnjalgaa.G
open Go Go.RowKit
set_option linter.unusedVariables false
set_option linter.unusedSimpArgs false
set_option maxHeartbeats 1000000 in
theorem slices_GrowRow.calls {m : Nat} {c0 : Nat → Nat} {w0 : World} {n : Int} (hm0 : 0 < m) (B0 : CB m c0 w0) (h1 : SL false K_api_Row 0 0 c0 w0 none 0 ([] : List api_Row)) (jr : Nat) (bjr : jr < m) (r : List api_Row) (H : slices_GrowRow.f [] n = some r) :
  Calls Try.prog 65 #[.slice none 0 0, .int .i64 n] w0 (fun e w_ => ∃ (c_ : Nat → Nat) (A0_ : Option Addr) (C0_ : Nat), e = .returned (.slice A0_ r.length C0_) ∧ Ev (fun x => False) c0 w0 c_ w_ ∧ CB m c_ w_ ∧ SL true K_api_Row jr 0 c_ w_ A0_ C0_ r) := by
 unfold slices_GrowRow.f at H
 obtain ⟨⟨g0, g1, _⟩, H⟩ := ifN H
 have H := Option.some.inj H
 subst H
 have B := B0.mono (show m ≤ m + 2 by omega)
 have E : Ev (fun x => False ∨ m ≤ x) c0 w0 c0 w0 := Ev.refl
 refine enter (N := 27) (l := [.slice none 0 0, .int .i64 n]) Try.func65 rfl rfl (Nat.le_of_ble_eq_true rfl) fun a F => ?_
 refine wp_seq_k fun K1 hK1 => ?_
 refine reg ?_
 refine q_val F rfl rfl (by decide) (r_assign F rfl) fun a F => ?_
 refine nil ?_
 refine hK1 _ _ ?_
 refine wp_seq_k fun K2 hK2 => ?_
 refine wp_seq_k fun K3 hK3 => ?_
 refine reg ?_
 refine q_val F rfl rfl (by decide) (r_move F rfl) fun a F => ?_
 refine q_val F rfl rfl (by decide) (r_lss F rfl rfl) fun a F => ?_
 refine nil ?_
 refine hK3 _ _ ?_
 refine wp_cond_false ((F.ev rfl).trans (congrArg Value.bool (decide_eq_false (by omega)))) ?_
 refine wp_skip ?_
 refine hK2 _ _ ?_
 refine wp_seq_k fun K5 hK5 => ?_
 refine wp_seq_k fun K4 hK4 => ?_
 refine reg ?_
 refine q_val F rfl rfl (by decide) (r_move F rfl) fun a F => ?_
 refine q_val F rfl rfl (by decide) (r_move F rfl) fun a F => ?_
 refine q_val F rfl rfl (by decide) (r_capsl F Try.underlying27 rfl) fun a F => ?_
 refine q_val F rfl rfl (by decide) (r_move F rfl) fun a F => ?_
 refine q_val F rfl rfl (by decide) (r_lensl F Try.underlying27 rfl) fun a F => ?_
 refine q_val F rfl rfl (by decide) (r_sub F rfl rfl) fun a F => ?_
 refine q_val F rfl rfl (by decide) (r_sub F rfl rfl) fun a F => ?_
 have hw : IntKind.i64.wrap (n - IntKind.i64.wrap (((0 : Nat) : Int) - ((0 : Nat) : Int))) = n := by simp only [IntKind.wrap_i64]; omega
 rw [hw] at F
 refine q_val F rfl rfl (by decide) (r_assign F rfl) fun a F => ?_
 refine nil ?_
 refine hK4 _ _ ?_
 refine wp_seq_k fun K6 hK6 => ?_
 refine reg ?_
 refine q_val F rfl rfl (by decide) (r_move F rfl) fun a F => ?_
 refine q_val F rfl rfl (by decide) (r_gtr F rfl rfl) fun a F => ?_
 refine nil ?_
 refine hK6 _ _ ?_
 by_cases hn : 0 < n
 ·refine wp_cond_true ((F.ev rfl).trans (congrArg Value.bool (decide_eq_true hn))) ?_
  obtain ⟨k, rfl⟩ := Int.eq_ofNat_of_zero_le g0
  refine reg ?_
  refine q_val F rfl rfl (by decide) (r_move F rfl) fun a F => ?_
  refine q_val F rfl rfl (by decide) (r_move F rfl) fun a F => ?_
  refine q_val F rfl rfl (by decide) (r_capsl F Try.underlying27 rfl) fun a F => ?_
  refine q_val F rfl rfl (by decide) (r_slice (A := none) (xs := ([] : List api_Row)) (cap := 0) (vl := none) (vh := some (.int .i64 ((0 : Nat) : Int))) (vm := none) F rfl rfl rfl rfl (v := .slice none 0 0) (fun w => by kernel_rfl)) fun a F => ?_
  refine q_val F rfl rfl (by decide) (r_move F rfl) fun a F => ?_
  refine q_eff F rfl rfl (by decide) (e_growz (k := K_api_Row) (x0 := api_Row.mk [] [] 0) (n := k) F et_27 Try.underlying3 rfl rfl (fun _ _ _ => ⟨none, 0, none, 0, rfl, SL.nil, SL.nil⟩) (by omega) (by omega) (by unfold maxLen; omega) c0 (m + 1) 0) ?_
  rintro v w1 a ⟨c1, A1, C1, rfl, E1, h2, B1⟩ F
  have B := B1 _ B (by omega)
  have E := E.trans E1 (fun x q => q.elim)
  refine q_val F rfl rfl (by decide) (r_move F rfl) fun a F => ?_
  refine q_val F rfl rfl (by decide) (r_lensl F Try.underlying27 rfl) fun a F => ?_
  obtain ⟨A2, C2, hr, h3⟩ := cut_h (kh := .i64) Try.underlying27 sz_36 h2 (h := ((0 : Nat) : Int)) ⟨by omega, by omega⟩
  refine q_val F rfl rfl (by decide) (r_slice (vl := none) (vh := some (.int .i64 ((0 : Nat) : Int))) (vm := none) F rfl rfl rfl rfl hr) fun a F => ?_
  refine q_val F rfl rfl (by decide) (r_assign F rfl) fun a F => ?_
  refine nil ?_
  refine hK5 _ _ ?_
  refine wp_seq_k fun K7 hK7 => ?_
  refine reg ?_
  refine q_val F rfl rfl (by decide) (r_move F rfl) fun a F => ?_
  refine q_val F rfl rfl (by decide) (r_assign F rfl) fun a F => ?_
  refine nil ?_
  refine hK7 _ _ ?_
  refine wp_ret ?_
  refine out1 F rfl rfl ?_
  exact ⟨fun b_ => (fun x_ => if x_ = m + 1 then jr else if x_ < m then x_ else 0) (c1 b_), A2, C2, rfl, E.leave B0 (fun x_ => if x_ = m + 1 then jr else if x_ < m then x_ else 0) (by intro x_ hx_; show (if x_ = m + 1 then jr else if x_ < m then x_ else 0) = x_; ((repeat' split) <;> omega)), (fun b_ hb_ => by show (if (c1 b_) = m + 1 then jr else if (c1 b_) < m then (c1 b_) else 0) < m; ((repeat' split) <;> omega)),
   SL.rc h3 (fun k_ hk_ => by show (if (c1 k_) = m + 1 then jr else if (c1 k_) < m then (c1 k_) else 0) = _; rw [hk_]; ((repeat' split) <;> omega)) (fun k_ hk_ => by show (if (c1 k_) = m + 1 then jr else if (c1 k_) < m then (c1 k_) else 0) = _; rw [hk_]; ((repeat' split) <;> omega))⟩
 ·refine wp_cond_false ((F.ev rfl).trans (congrArg Value.bool (decide_eq_false hn))) ?_
  refine wp_skip ?_
  refine hK5 _ _ ?_
  refine wp_seq_k fun K7 hK7 => ?_
  refine reg ?_
  refine q_val F rfl rfl (by decide) (r_move F rfl) fun a F => ?_
  refine q_val F rfl rfl (by decide) (r_assign F rfl) fun a F => ?_
  refine nil ?_
  refine hK7 _ _ ?_
  refine wp_ret ?_
  refine out1 F rfl rfl ?_
  exact ⟨c0, none, 0, rfl, Ev.refl, B0, SL.nil⟩
end Go.Proofs.Ytdnaoecfnjalgaa.G
namespace Go.Proofs.Ytdnaoecfnjalgaa.G
open Go Go.RowKit
set_option linter.unusedVariables false
set_option linter.unusedSimpArgs false
set_option maxRecDepth 100000
set_option maxHeartbeats 40000000
theorem slices_ConcathaulageapiRowhaulageapiRow.calls (k : Nat) {m : Nat} {c0 : Nat → Nat} {w0 : World} {j5 : Nat} {j6 : Nat} {A2 : Option Addr} {C3 : Nat} {a1 : List (List api_Row)} (hm0 : 0 < m) (B0 : CB m c0 w0) (h4 : SLV K_api_Row j5 j6 c0 w0 A2 a1) (bj5 : j5 < m) (bj6 : j6 < m) (jr112 : Nat) (bjr112 : jr112 < m) (r : (List api_Row)) (H : slices_ConcathaulageapiRowhaulageapiRow.f k a1 = some r) : Calls Try.prog 44 #[.slice A2 a1.length C3] w0 (fun e w_ => ∃ (c_ : Nat → Nat) (A0_ : Option Addr) (C0_ : Nat), e = .returned (.slice A0_ r.length C0_) ∧ Ev (fun x => False) c0 w0 c_ w_ ∧ CB m c_ w_ ∧ SL true K_api_Row jr112 0 c_ w_ A0_ C0_ r) := by
 unfold slices_ConcathaulageapiRowhaulageapiRow.f at H; have B := B0.mono (show m ≤ m + 2 by omega); have E : Ev (fun x => False ∨ m ≤ x) c0 w0 c0 w0 := Ev.refl; refine enter (N := 36) (l := [.slice A2 a1.length C3]) Try.func44 rfl rfl (nb rfl) fun a F => ?_; refine sr fun K7 hK7 => qa F fun a F => nil (hK7 _ _ ?_); refine sr fun K8 hK8 => qa F fun a F => nil (hK8 _ _ ?_); refine sq fun K9 hK9 => ?_; refine sr fun K10 hK10 => qm F fun a F => ?_; refine qv F (r_lensl F Try.underlying88 rfl) fun a F => ?_; refine qm F fun a F => nil (hK10 _ _ ?_); refine wp_block ?_; obtain ⟨x22, HL, HR21⟩ := bind_some H; have J44 : ∀ (c45 : Nat → Nat) (w46 : World) (a : Act) (i43 : Int), Fr a 36 [(0, .slice A2 a1.length C3), (3, .int .i64 i43)] → Ev (fun x => False ∨ m ≤ x) c0 w0 c45 w46 → CB (m + 2) c45 w46 → SLV K_api_Row j5 j6 c45 w46 A2 a1 → slices_ConcathaulageapiRowhaulageapiRow.j2 k a1 i43 = some r → K9 a w46 := by
  intro c45 w46 a i43 F E B h4 H; unfold slices_ConcathaulageapiRowhaulageapiRow.j2 at H; refine hK9 _ _ ?_; refine sr fun K47 hK47 => qm F fun a F => ?_; obtain ⟨t48, q49, H⟩ := bind_some H; refine qc F Try.func65 (slices_GrowRow.calls (m := m + 2) (pl hm0) B SL.nil (m + 1) lm _ q49) ?_; rintro e w51 ⟨c50, A54, C55, rfl, E52, B, h56⟩; refine rt fun a F => ?_; replace h4 := h4.ev E52; replace E := E.n E52; refine qa F fun a F => nil (hK47 _ _ ?_); refine sq fun K58 hK58 => ?_; refine sr fun K59 hK59 => qm F fun a F => ?_; refine qv F (r_lensl F Try.underlying88 rfl) fun a F => ?_; refine qm F fun a F => nil (hK59 _ _ ?_); refine wp_block ?_; obtain ⟨x75, HL, HR74⟩ := bind_some H; have J108 : ∀ (c109 : Nat → Nat) (w110 : World) (a : Act) (l105 : List api_Row) (A106 : Option Addr) (C107 : Nat), Fr a 36 [(6, .slice A106 l105.length C107)] → Ev (fun x => False ∨ m ≤ x) c0 w0 c109 w110 → CB (m + 2) c109 w110 → SL true K_api_Row (m + 1) 0 c109 w110 A106 C107 l105 → slices_ConcathaulageapiRowhaulageapiRow.j4 l105 = some r → K58 a w110 := by
   intro c109 w110 a l105 A106 C107 F E B h104 H; unfold slices_ConcathaulageapiRowhaulageapiRow.j4 at H; refine hK58 _ _ ?_; refine sr fun K111 hK111 => qm F fun a F => qa F fun a F => nil (hK111 _ _ ?_); refine wp_ret ?_; obtain rfl := si H; refine out1 F rfl rfl ?_; exact ⟨cf (fun x_ => if x_ = m + 1 then jr112 else if x_ < m then x_ else 0) c109, A106, C107, rfl, E.lv B0, cfb, SL.rc h104 cfk cfk⟩
  refine loop_fuel (I := fun n a w => ∃ (l60 : List api_Row) (A61 : Option Addr) (C62 : Nat) (i65 : Int) (c : Nat → Nat), Fr a 36 [(6, .slice A61 l60.length C62), (25, .slice A2 a1.length C3), (26, .int .i64 (a1.length : Int)), (27, .int .i64 i65)] ∧ Ev (fun x => False ∨ m ≤ x) c0 w0 c w ∧ CB (m + 2) c w ∧ SLV K_api_Row j5 j6 c w A2 a1 ∧ SL true K_api_Row (m + 1) 0 c w A61 C62 l60 ∧ loop (fun (s_ : (List api_Row) × Int) => slices_ConcathaulageapiRowhaulageapiRow.b3 a1 s_.1 s_.2) n (l60, i65) = some x75) (k := k) ⟨t48, A54, C55, 0, c50, F.sub ⟨rfl, rfl, rfl, rfl, trivial⟩, E, B, h4, h56, HL⟩ ?_; clear HL H E F B; intro n72 X68 hX68 a w67 ⟨l60, A61, C62, i65, c66, F, E, B, h4, h63, HL⟩; obtain ⟨n73, ctl71, rfl, HB, HN69, HD70⟩ := loop_some HL; have H : slices_ConcathaulageapiRowhaulageapiRow.b3 a1 l60 i65 = some ctl71 := HB; clear HB HL; unfold slices_ConcathaulageapiRowhaulageapiRow.b3 at H; refine sr fun K76 hK76 => ?_; refine qv F (r_lss F rfl rfl) fun a F => ?_; refine nil (hK76 _ _ ?_); refine sq fun K77 hK77 => ?_
  by_cases hb78 : i65 < (a1.length : Int)
  ·replace H := ip hb78 H; refine wct (fb F (dt hb78)) (wp_skip (hK77 _ _ ?_)); refine sq fun K79 hK79 => ?_; refine wp_block ?_; refine sr fun K80 hK80 => ?_; replace H := ifN H; obtain ⟨g81, H⟩ := H; obtain ⟨ad82, cs83, e84, h85, A86, C87, rfl, h88⟩ := SLV.at h4 i65 g81.1 g81.2; obtain ⟨qa89, qqa89⟩ : ∃ q, q = (ad82.add (i65.toNat * 1)) := ⟨_, rfl⟩; have h85 : AT false j5 c66 w67 qa89 [.slice A86 (rd a1 i65).length C87] := by rw [qqa89]; exact h85
   refine qv F (r_indexAddr' F Try.underlying88 sz_27 rfl rfl g81.1 g81.2 e84 qqa89) fun a F => ?_; refine qv F (r_load F rfl ag_27 (AT.cell0 h85 rfl)) fun a F => ?_; refine qa F fun a F => nil (hK80 _ _ ?_); refine reg ?_; refine qm F fun a F => qm F fun a F => ?_; replace H := ifN H; obtain ⟨g91, H⟩ := H; refine q_eff F rfl rfl (by decide) (e_append (k := K_api_Row) (xs := l60) (ys := (rd a1 i65)) (c := c66) (j := (m + 1)) (i := 0) F et_27 rfl rfl h63 h88 g91 (len_ok g91) ne_zm) ?_; rintro v w93 a ⟨c92, A94, C95, rfl, E96, h97, B98⟩ F; replace B := B98 _ B lm; replace h4 := h4.ev E96 (ne_pm bj5) (ne_pm bj6) ne_zm; replace E := E.trans E96 lc1; refine qa F fun a F => nil (hK79 _ _ ?_); refine reg ?_; refine qv F (r_add F rfl rfl) fun a F => ?_; refine qm F fun a F => nil ?_; replace H := HN69 _ (si H).symm; exact hX68 _ _ _ (Nat.lt_succ_self _) ⟨(l60 ++ (rd a1 i65)), A94, C95, (IntKind.i64.wrap (i65 + 1)), c92, F.sub ⟨rfl, rfl, rfl, rfl, trivial⟩, E, B, h4, h97, H⟩
  replace H := im hb78 H; refine wcf (fb F (dz hb78)) ?_; refine wp_exit ?_; refine thenE ?_; refine thenE ?_; refine inbE ?_; have hx_ := HD70 _ (si H).symm; have H := HR74; rw [← hx_] at H; exact J108 c66 w67 a l60 A61 C62 (F.sub ⟨rfl, trivial⟩) E B h63 H
 refine loop_fuel (I := fun n a w => ∃ (i11 : Int) (i12 : Int) (c : Nat → Nat), Fr a 36 [(0, .slice A2 a1.length C3), (3, .int .i64 i11), (9, .slice A2 a1.length C3), (10, .int .i64 (a1.length : Int)), (11, .int .i64 i12)] ∧ Ev (fun x => False ∨ m ≤ x) c0 w0 c w ∧ CB (m + 2) c w ∧ SLV K_api_Row j5 j6 c w A2 a1 ∧ loop (fun (s_ : Int × Int) => slices_ConcathaulageapiRowhaulageapiRow.b1 a1 s_.1 s_.2) n (i11, i12) = some x22) (k := k) ⟨0, 0, c0, F.sub ⟨rfl, rfl, rfl, rfl, rfl, trivial⟩, E, B, h4, HL⟩ ?_; clear HL H E F B; intro n19 X15 hX15 a w14 ⟨i11, i12, c13, F, E, B, h4, HL⟩; obtain ⟨n20, ctl18, rfl, HB, HN16, HD17⟩ := loop_some HL; have H : slices_ConcathaulageapiRowhaulageapiRow.b1 a1 i11 i12 = some ctl18 := HB; clear HB HL; unfold slices_ConcathaulageapiRowhaulageapiRow.b1 at H; refine sr fun K23 hK23 => ?_; refine qv F (r_lss F rfl rfl) fun a F => ?_; refine nil (hK23 _ _ ?_); refine sq fun K24 hK24 => ?_
 by_cases hb25 : i12 < (a1.length : Int)
 ·replace H := ip hb25 H; refine wct (fb F (dt hb25)) (wp_skip (hK24 _ _ ?_)); refine sq fun K26 hK26 => ?_; refine wp_block ?_; refine sr fun K27 hK27 => ?_; replace H := ifN H; obtain ⟨g28, H⟩ := H; obtain ⟨ad29, cs30, e31, h32, A33, C34, rfl, h35⟩ := SLV.at h4 i12 g28.1 g28.2; obtain ⟨qa36, qqa36⟩ : ∃ q, q = (ad29.add (i12.toNat * 1)) := ⟨_, rfl⟩; have h32 : AT false j5 c13 w14 qa36 [.slice A33 (rd a1 i12).length C34] := by rw [qqa36]; exact h32
  refine qv F (r_indexAddr' F Try.underlying88 sz_27 rfl rfl g28.1 g28.2 e31 qqa36) fun a F => ?_; refine qv F (r_load F rfl ag_27 (AT.cell0 h32 rfl)) fun a F => ?_; refine qa F fun a F => nil (hK27 _ _ ?_); refine sr fun K38 hK38 => qm F fun a F => qm F fun a F => ?_; refine qv F (r_lensl F Try.underlying27 rfl) fun a F => ?_; refine qv F (r_add F rfl rfl) fun a F => ?_; refine qa F fun a F => nil (hK38 _ _ ?_); replace F : Fr a 36 [(0, .slice A2 a1.length C3), (3, .int .i64 (IntKind.i64.wrap (i11 + ((rd a1 i12).length : Int)))), (9, .slice A2 a1.length C3), (10, .int .i64 (a1.length : Int)), (11, .int .i64 i12)] := F.sub ⟨rfl, rfl, rfl, rfl, rfl, trivial⟩; refine sr fun K39 hK39 => qm F fun a F => ?_; refine qv F (r_lss F rfl rfl) fun a F => ?_; refine nil (hK39 _ _ ?_)
  by_cases hb40 : (IntKind.i64.wrap (i11 + ((rd a1 i12).length : Int))) < 0
  ·replace H := ip hb40 H; refine wct (fb F (dt hb40)) ?_; refine reg ?_
   cases H
  replace H := im hb40 H; refine wcf (fb F (dz hb40)) (wp_skip (hK26 _ _ ?_)); refine reg ?_; refine qv F (r_add F rfl rfl) fun a F => ?_; refine qm F fun a F => nil ?_; replace H := HN16 _ (si H).symm; exact hX15 _ _ _ (Nat.lt_succ_self _) ⟨(IntKind.i64.wrap (i11 + ((rd a1 i12).length : Int))), (IntKind.i64.wrap (i12 + 1)), c13, F.sub ⟨rfl, rfl, rfl, rfl, rfl, trivial⟩, E, B, h4, H⟩
 replace H := im hb25 H; refine wcf (fb F (dz hb25)) ?_; refine wp_exit ?_; refine thenE ?_; refine thenE ?_; refine inbE ?_; have hx_ := HD17 _ (si H).symm; have H := HR21; rw [← hx_] at H; exact J44 c13 w14 a i11 (F.sub ⟨rfl, rfl, trivial⟩) E B h4 H
theorem merkle_Tree_Rows.calls (k : Nat) {m : Nat} {c0 : Nat → Nat} {w0 : World} {j4 : Nat} {j5 : Nat} {p2 : Option Addr} {a1 : Option Mer} (hm0 : 0 < m) (B0 : CB m c0 w0) (h3 : ME j4 j5 c0 w0 p2 a1) (bj4 : j4 < m) (bj5 : j5 < m ∧ j5 ≠ j4) (jr55 : Nat) (bjr55 : jr55 < m) (r : (List api_Row)) (H : merkle_Tree_Rows.f k a1 = some r) : Calls Try.prog 19 #[.pointer p2] w0 (fun e w_ => ∃ (c_ : Nat → Nat) (A0_ : Option Addr) (C0_ : Nat), e = .returned (.slice A0_ r.length C0_) ∧ Ev (fun x => False) c0 w0 c_ w_ ∧ CB m c_ w_ ∧ SL true K_api_Row jr55 0 c_ w_ A0_ C0_ r) := by
 unfold merkle_Tree_Rows.f at H; have B := B0.mono (show m ≤ m + 2 by omega); have E : Ev (fun x => False ∨ m ≤ x) c0 w0 c0 w0 := Ev.refl; refine enter (N := 15) (l := [.pointer p2]) Try.func19 rfl rfl (nb rfl) fun a F => ?_; refine sr fun K6 hK6 => qa F fun a F => nil (hK6 _ _ ?_); refine sq fun K7 hK7 => ?_; refine sr fun K8 hK8 => qm F fun a F => ?_; refine qv F (r_peqlA F Try.underlying26 rfl rfl (ME.isNone h3)) fun a F => ?_; refine nil (hK8 _ _ ?_)
 by_cases hb9 : (Option.isNone a1) = true
 ·replace H := ip hb9 H; refine wct (fb F hb9) ?_; refine sr fun K10 hK10 => qa F fun a F => nil (hK10 _ _ ?_); refine wp_ret ?_; refine thenR ?_; obtain rfl := si H; refine out1 F rfl rfl ?_; exact ⟨cf (fun x_ => if x_ = m + 1 then jr55 else if x_ < m then x_ else 0) c0, none, 0, rfl, E.lv B0, cfb, SL.nil⟩
 replace H := im hb9 H; refine wcf (fb F (bfalse hb9)) (wp_skip (hK7 _ _ ?_)); refine sr fun K11 hK11 => qm F fun a F => ?_; obtain ⟨ob12, e13, H⟩ := bind_some H; have z14 := h3; rw [e13] at z14; obtain ⟨ad15, cs17, cs19, rfl, hat16, h18, h20⟩ := ME.some z14; refine qi F fun a F => ?_; refine qf F ff_75_2 fun a F => ?_; have h22 : SLV K_api_Row j4 j5 c0 w0 (some (ad15.add 513)) ob12.rows := SLV.of (off := 513) (AT.eqv (ds := (([.int .i64 ob12.bits] : List Value) ++ (cs17 ++ (([] : List Value)))) ++ (cs19 ++ (([.int .i64 ob12.many] : List Value)))) hat16 (by simp only [List.append_assoc])) (by have l0_ : cs17.length = 512 := (h18.1 : cs17.length = 512); simp only [List.length_append, List.length_cons, List.length_nil] <;> omega) h20 (by decide); have hx23 : ob12.rows.length = 256 := ARO.xl h20; refine qv F (r_sliceArr F ua_73 sz_27 rfl hx23 (by decide)) fun a F => ?_; obtain ⟨t24, q25, H⟩ := bind_some H; refine qc F Try.func44 (slices_ConcathaulageapiRowhaulageapiRow.calls k (m := m + 2) (pl hm0) B h22 (Nat.lt_add_right _ bj4) (Nat.lt_add_right _ bj5.1) 0 (pl hm0) _ q25) ?_; rintro e w27 ⟨c26, A30, C31, rfl, E28, B, h32⟩; refine rt fun a F => ?_; replace E := E.n E28; obtain ⟨t34, q35, H⟩ := bind_some H; refine qc F Try.func33 (merkle_owned.calls k (m := m + 2) (pl hm0) B h32.r (pl hm0) (m + 1) lm _ q35) ?_; rintro e w37 ⟨c36, A40, C41, rfl, E38, B, h42⟩; refine rt fun a F => ?_; replace E := E.n E38; refine qa F fun a F => nil (hK11 _ _ ?_); replace F : Fr a 15 [(3, .slice A40 t34.length C41)] := F.sub ⟨rfl, trivial⟩; refine sr fun K44 hK44 => qm F fun a F => ?_; obtain ⟨t45, q46, H⟩ := bind_some H; refine qc F Try.func45 (slices_SortRow.calls (m := m + 2) (pl hm0) B h42 (by omega) _ q46) ?_; rintro e w48 ⟨c47, rfl, E49, B, h51, hl52⟩; refine rt fun a F => ?_; replace E := E.trans E49 lc1; replace hl52 := hl52.symm; replace F := F.sub (L' := [(3, .slice A40 t45.length C41), (12, .slice A40 t45.length C41)]) ⟨(by rw [← hl52]; rfl), (by rw [← hl52]; rfl), trivial⟩; refine nil (hK44 _ _ ?_); refine sr fun K54 hK54 => qm F fun a F => qa F fun a F => nil (hK54 _ _ ?_); refine wp_ret ?_; obtain rfl := si H; refine out1 F rfl rfl ?_; exact ⟨cf (fun x_ => if x_ = m + 1 then jr55 else if x_ < m then x_ else 0) c47, A40, C41, rfl, E.lv B0, cfb, SL.rc h51 cfk cfk⟩
theorem haulagelaw10_MerkleRows.calls (k : Nat) {m : Nat} {c0 : Nat → Nat} {w0 : World} {A2 : Option Addr} {C3 : Nat} {a1 : List haulagelaw10_Change} {a5 : Int} (hm0 : 0 < m) (B0 : CB m c0 w0) (h4 : SL false K_haulagelaw10_Change 0 0 c0 w0 A2 C3 a1) (r : Bool) (H : haulagelaw10_MerkleRows.f k a1 a5 = some r) : Calls Try.prog 5 #[.slice A2 a1.length C3, .int .i64 a5] w0 (fun e w_ => ∃ (c_ : Nat → Nat), e = .returned (.bool r) ∧ Ev (fun x => False) c0 w0 c_ w_ ∧ CB m c_ w_) := by
 unfold haulagelaw10_MerkleRows.f at H; have B := B0.mono (show m ≤ m + 9 by omega); have E : Ev (fun x => False ∨ m ≤ x) c0 w0 c0 w0 := Ev.refl; refine enter (N := 156) (l := [.slice A2 a1.length C3, .int .i64 a5]) Try.func5 rfl rfl (nb rfl) fun a F => ?_; refine sr fun K6 hK6 => qa F fun a F => nil (hK6 _ _ ?_); refine sq fun K7 hK7 => ?_; refine sr fun K8 hK8 => ?_; obtain ⟨t9, q10, H⟩ := bind_some H; refine qc F Try.func7 (haulagelaw10_awake.calls k (m := m + 9) (pl hm0) B _ q10) ?_; rintro e w12 ⟨c11, rfl, E13, B⟩; refine rt fun a F => ?_; replace h4 := h4.ev E13; replace E := E.n E13; refine qv F (r_not F rfl) fun a F => ?_; refine nil (hK8 _ _ ?_)
 by_cases hb16 : t9 = true
 ·replace H := ip hb16 H; refine wcf (fb F (congrArg not hb16)) (wp_skip (hK7 _ _ ?_)); refine sr fun K18 hK18 => qm F fun a F => ?_; obtain ⟨t19, q20, H⟩ := bind_some H; refine qc F Try.func8 (haulagelaw10_round.calls (m := m + 9) (pl hm0) B _ q20) ?_; rintro e w22 ⟨c21, rfl, E23, B⟩
  as_aux_lemma =>
  refine rt fun a F => ?_; replace h4 := h4.ev E23; replace E := E.n E23; refine qv F (r_add F rfl rfl) fun a F => ?_; refine qa F fun a F => nil (hK18 _ _ ?_); refine sr fun K26 hK26 => qm F fun a F => qm F fun a F => ?_; obtain ⟨t27, q28, H⟩ := bind_some H; refine qc F Try.func9 (haulagelaw10_grown.calls k (m := m + 9) (pl hm0) B h4 (pl hm0) (m + 1) ⟨(pl hm0), lm⟩ (m + 2) ⟨(pl hm0), lm⟩ 0 (pl hm0) _ q28) ?_; rintro e w30 ⟨c29, p33, A35, C36, rfl, E31, B, h34, h37⟩; refine rt fun a F => ?_; replace E := E.n E31; refine qm F fun a F => ?_; refine qx F fun a F => ?_; refine qx F fun a F => ?_; refine qa F fun a F => qa F fun a F => nil (hK26 _ _ ?_); replace F : Fr a 156 [(5, .int .i64 (IntKind.i64.wrap (1 + t19))), (6, .pointer p33), (7, .slice A35 t27.2.length C36)] := F.sub ⟨rfl, rfl, rfl, trivial⟩; refine sq fun K39 hK39 => ?_; refine sr fun K40 hK40 => qm F fun a F => ?_; refine qv F (r_peqlA F Try.underlying26 rfl rfl (ME.isNone h34)) fun a F => ?_; refine nil (hK40 _ _ ?_)
  by_cases hb41 : (Option.isNone t27.1) = true
  ·replace H := ip hb41 H; refine wct (fb F hb41) ?_
   as_aux_lemma =>
   refine sr fun K42 hK42 => qa F fun a F => nil (hK42 _ _ ?_); refine wp_ret ?_; refine thenR ?_; obtain rfl := si H; refine out1 F rfl rfl ?_; exact ⟨cf (ct m) c29, rfl, E.lv B0, cfb⟩
  replace H := im hb41 H; refine wcf (fb F (bfalse hb41)) (wp_skip (hK39 _ _ ?_)); refine sr fun K43 hK43 => qm F fun a F => qm F fun a F => ?_; obtain ⟨t44, q45, H⟩ := bind_some H; refine qc F Try.func17 (merkle_New.calls k (m := m + 9) (pl hm0) B h37.r (m + 3) ⟨(pl hm0), lm⟩ (m + 4) ⟨(pl hm0), lm⟩ _ q45) ?_; rintro e w47 ⟨c46, p50, rfl, E48, B, h51⟩; refine rt fun a F => ?_; replace h34 := h34.ev E48; replace h37 := h37.ev E48; replace E := E.n E48; refine qm F fun a F => ?_; refine qx F fun a F => ?_; refine qx F fun a F => ?_; refine qa F fun a F => qa F fun a F => nil (hK43 _ _ ?_); replace F : Fr a 156 [(5, .int .i64 (IntKind.i64.wrap (1 + t19))), (6, .pointer p33), (7, .slice A35 t27.2.length C36), (8, .pointer p50), (9, .int .i64 t44.2)] := F.sub ⟨rfl, rfl, rfl, rfl, rfl, trivial⟩; refine sq fun K53 hK53 => ?_
  as_aux_lemma =>
  refine sq fun K54 hK54 => ?_; have J101 : ∀ (c102 : Nat → Nat) (w103 : World) (a : Act) (b100 : Bool), Fr a 156 [(5, .int .i64 (IntKind.i64.wrap (1 + t19))), (6, .pointer p33), (7, .slice A35 t27.2.length C36), (8, .pointer p50), (62, .bool b100)] → Ev (fun x => False ∨ m ≤ x) c0 w0 c102 w103 → CB (m + 9) c102 w103 → ME (m + 1) (m + 2) c102 w103 p33 t27.1 → SL true K_api_Row 0 0 c102 w103 A35 C36 t27.2 → ME (m + 3) (m + 4) c102 w103 p50 t44.1 → haulagelaw10_MerkleRows.j1 k t19 t27 t44 b100 = some r → K54 a w103 := by
   intro c102 w103 a b100 F E B h34 h37 h51 H; unfold haulagelaw10_MerkleRows.j1 at H; refine hK54 _ _ ?_
   by_cases hb104 : b100 = true
   ·replace H := ip hb104 H; refine wct (fb F hb104) ?_; refine sr fun K105 hK105 => qa F fun a F => nil (hK105 _ _ ?_); refine wp_ret ?_; refine thenR ?_; obtain rfl := si H; refine out1 F rfl rfl ?_; exact ⟨cf (ct m) c102, rfl, E.lv B0, cfb⟩
   replace H := im hb104 H; refine wcf (fb F (bfalse hb104)) (wp_skip (hK53 _ _ ?_)); refine sr fun K106 hK106 => ?_; have h113 : ARO (KOsl K_api_Row) (m + 6) c102 w103 ((List.replicate 512 ([.slice none 0 0] : List Value)).flatten) 512 (List.replicate 512 ([] : List api_Row)) noHole := ARO.zero (e := (KOsl K_api_Row)) (pl hm0) (fun γ c => ⟨none, 0, rfl, SL.nil⟩) 512; refine q_eff F rfl rfl (by decide) (e_alloc F zv_53 c102 (m + 5)) ?_; rintro v w108 a ⟨c107, qa109, rfl, E110, h111, B112⟩ F; replace B := B112 _ B lm; replace h34 := h34.ev E110; replace h37 := h37.ev E110
   as_aux_lemma =>
   replace h51 := h51.ev E110; replace h113 := h113.ev E110; replace E := E.n E110; replace h111 : AT _ _ _ _ _ (([] : List Value) ++ (((List.replicate 512 ([.slice none 0 0] : List Value)).flatten) ++ (([] : List Value)))) := h111; refine nil (hK106 _ _ ?_); refine sq fun K115 hK115 => ?_; refine sr fun K116 hK116 => qa F fun a F => nil (hK116 _ _ ?_); refine wp_block ?_; obtain ⟨x286, HL, HR285⟩ := bind_some H; have J429 : ∀ (c430 : Nat → Nat) (w431 : World) (a : Act) (l427 : List (List api_Row)) (cs428 : List Value), Fr a 156 [(5, .int .i64 (IntKind.i64.wrap (1 + t19))), (6, .pointer p33), (8, .pointer p50), (10, .pointer (some qa109))] → Ev (fun x => False ∨ m ≤ x) c0 w0 c430 w431 → CB (m + 9) c430 w431 → AT true (m + 5) c430 w431 qa109 (([] : List Value) ++ (cs428 ++ (([] : List Value)))) → ME (m + 1) (m + 2) c430 w431 p33 t27.1 → ME (m + 3) (m + 4) c430 w431 p50 t44.1 → ARO (KOsl K_api_Row) (m + 6) c430 w431 cs428 512 l427 noHole → haulagelaw10_MerkleRows.j5 k t19 t27 t44 l427 = some r → K115 a w431 := by
    intro c430 w431 a l427 cs428 F E B h111 h34 h51 h426 H; unfold haulagelaw10_MerkleRows.j5 at H; refine hK115 _ _ ?_; refine sq fun K432 hK432 => ?_; refine sr fun K433 hK433 => qa F fun a F => nil (hK433 _ _ ?_); refine wp_block ?_; obtain ⟨x444, HL, HR443⟩ := bind_some H; have J518 : ∀ (c519 : Nat → Nat) (w520 : World) (a : Act), Fr a 156 [(6, .pointer p33)] → Ev (fun x => False ∨ m ≤ x) c0 w0 c519 w520 → CB (m + 9) c519 w520 → ME (m + 1) (m + 2) c519 w520 p33 t27.1 → haulagelaw10_MerkleRows.j9 t27 = some r → K432 a w520 := by
     intro c519 w520 a  F E B h34 H; unfold haulagelaw10_MerkleRows.j9 at H; refine hK432 _ _ ?_; refine sr fun K521 hK521 => qm F fun a F => ?_; obtain ⟨t522, q523, H⟩ := bind_some H
     as_aux_lemma =>
     refine qc F Try.func12 (merkle_Tree_Root.calls (m := m + 9) (pl hm0) B h34 lm ⟨lm, mm⟩ _ q523) ?_; rintro e w525 ⟨c524, rfl, E526, B⟩; refine rt fun a F => ?_; replace h34 := h34.ev E526; replace E := E.n E526; refine qm F fun a F => ?_; obtain ⟨t529, q530, H⟩ := bind_some H; refine qc F Try.func24 (merkle_Tree_Digest.calls (m := m + 9) (pl hm0) B h34 lm ⟨lm, mm⟩ _ q530) ?_; rintro e w532 ⟨c531, rfl, E533, B⟩; refine rt fun a F => ?_; replace h34 := h34.ev E533; replace E := E.n E533; refine qv F (r_eql F rfl rfl) fun a F => ?_; refine qm F fun a F => ?_
     by_cases hb536 : t522 = t529
     ·replace H := ip hb536 H; refine qy F (dt hb536) ?_; refine qm F fun a F => ?_; obtain ⟨t537, q538, H⟩ := bind_some H; refine qy F (dt hb536) ?_; refine qc F Try.func24 (merkle_Tree_Digest.calls (m := m + 9) (pl hm0) B h34 lm ⟨lm, mm⟩ _ q538) ?_; rintro e w540 ⟨c539, rfl, E541, B⟩; refine rt fun a F => ?_
      as_aux_lemma =>
      replace h34 := h34.ev E541; replace E := E.n E541; refine qy F (dt hb536) ?_; refine qv F (r_eql F rfl rfl) fun a F => ?_; refine qv F (r_pick_t F rfl (dt hb536) rfl) fun a F => ?_; refine qm F fun a F => ?_
      by_cases hb544 : t537 = 0
      ·replace H := ip hb544 H; refine qy F (dt hb544) ?_; refine qm F fun a F => ?_; obtain ⟨t545, q546, H⟩ := bind_some H; refine qy F (dt hb544) ?_; refine qc F Try.func24 (merkle_Tree_Digest.calls (m := m + 9) (pl hm0) B h34 lm ⟨lm, mm⟩ _ q546) ?_; rintro e w548 ⟨c547, rfl, E549, B⟩; refine rt fun a F => ?_; replace E := E.n E549; refine qy F (dt hb544) ?_; refine qv F (r_eql F rfl rfl) fun a F => ?_; refine qv F (r_pick_t F rfl (dt hb544) rfl) fun a F => ?_; refine qa F fun a F => nil (hK521 _ _ ?_); replace F : Fr a 156 [(4, .bool (decide (t545 = 0)))] := F.sub ⟨rfl, trivial⟩; refine wp_ret ?_; obtain rfl := si H
       as_aux_lemma =>
       refine out1 F rfl rfl ?_; exact ⟨cf (ct m) c547, rfl, E.lv B0, cfb⟩
      replace H := im hb544 H; refine qn F (dz hb544) fun a F => qn F (dz hb544) fun a F => qn F (dz hb544) fun a F => ?_; refine qv F (r_pick_f F rfl (dz hb544) rfl) fun a F => ?_; refine qa F fun a F => nil (hK521 _ _ ?_); replace F : Fr a 156 [(4, .bool false)] := F.sub ⟨rfl, trivial⟩; refine wp_ret ?_; obtain rfl := si H; refine out1 F rfl rfl ?_; exact ⟨cf (ct m) c539, rfl, E.lv B0, cfb⟩
     replace H := im hb536 H; refine qn F (dz hb536) fun a F => qn F (dz hb536) fun a F => qn F (dz hb536) fun a F => ?_; refine qv F (r_pick_f F rfl (dz hb536) rfl) fun a F => ?_; refine qm F fun a F => qn F rfl fun a F => qn F rfl fun a F => qn F rfl fun a F => ?_; refine qp F fun a F => ?_; refine qa F fun a F => nil (hK521 _ _ ?_); replace F : Fr a 156 [(4, .bool false)] := F.sub ⟨rfl, trivial⟩; refine wp_ret ?_; obtain rfl := si H; refine out1 F rfl rfl ?_; exact ⟨cf (ct m) c531, rfl, E.lv B0, cfb⟩
    refine loop_fuel (I := fun n a w => ∃ (i434 : Int) (c : Nat → Nat), Fr a 156 [(5, .int .i64 (IntKind.i64.wrap (1 + t19))), (6, .pointer p33), (8, .pointer p50), (10, .pointer (some qa109)), (15, .int .i64 i434)] ∧ Ev (fun x => False ∨ m ≤ x) c0 w0 c w ∧ CB (m + 9) c w ∧ AT true (m + 5) c w qa109 (([] : List Value) ++ (cs428 ++ (([] : List Value)))) ∧ ME (m + 1) (m + 2) c w p33 t27.1 ∧ ME (m + 3) (m + 4) c w p50 t44.1 ∧ ARO (KOsl K_api_Row) (m + 6) c w cs428 512 l427 noHole ∧ loop (fun (s_ : Int) => haulagelaw10_MerkleRows.b8 k t19 t27 t44 l427 s_) n i434 = some x444) (k := k) ⟨1, c430, F.sub ⟨rfl, rfl, rfl, rfl, rfl, trivial⟩, E, B, h111, h34, h51, h426, HL⟩ ?_; clear HL H E F B; intro n441 X437 hX437 a w436 ⟨i434, c435, F, E, B, h111, h34, h51, h426, HL⟩; obtain ⟨n442, ctl440, rfl, HB, HN438, HD439⟩ := loop_some HL; have H : haulagelaw10_MerkleRows.b8 k t19 t27 t44 l427 i434 = some ctl440 := HB; clear HB HL; unfold haulagelaw10_MerkleRows.b8 at H
    as_aux_lemma =>
    refine sq fun K445 hK445 => ?_; refine sr fun K446 hK446 => qm F fun a F => ?_; refine qv F (r_lss F rfl rfl) fun a F => ?_; refine nil (hK446 _ _ ?_)
    by_cases hb447 : i434 < 512
    ·replace H := ip hb447 H; refine wct (fb F (dt hb447)) (wp_skip (hK445 _ _ ?_)); refine sq fun K448 hK448 => ?_; refine wp_block ?_; refine sr fun K449 hK449 => qa F fun a F => nil (hK449 _ _ ?_); refine sq fun K450 hK450 => ?_; have J492 : ∀ (c493 : Nat → Nat) (w494 : World) (a : Act) (i491 : Int), Fr a 156 [(5, .int .i64 (IntKind.i64.wrap (1 + t19))), (6, .pointer p33), (8, .pointer p50), (10, .pointer (some qa109)), (15, .int .i64 i434), (16, .int .u64 i491)] → Ev (fun x => False ∨ m ≤ x) c0 w0 c493 w494 → CB (m + 9) c493 w494 → AT true (m + 5) c493 w494 qa109 (([] : List Value) ++ (cs428 ++ (([] : List Value)))) → ME (m + 1) (m + 2) c493 w494 p33 t27.1 → ME (m + 3) (m + 4) c493 w494 p50 t44.1 → ARO (KOsl K_api_Row) (m + 6) c493 w494 cs428 512 l427 noHole → haulagelaw10_MerkleRows.j6 t27 t44 i434 i491 = some ctl440 → K450 a w494 := by
      intro c493 w494 a i491 F E B h111 h34 h51 h426 H; unfold haulagelaw10_MerkleRows.j6 at H; refine hK450 _ _ ?_; refine sq fun K495 hK495 => ?_; have J512 : ∀ (c513 : Nat → Nat) (w514 : World) (a : Act) (b511 : Bool), Fr a 156 [(5, .int .i64 (IntKind.i64.wrap (1 + t19))), (6, .pointer p33), (8, .pointer p50), (10, .pointer (some qa109)), (15, .int .i64 i434), (140, .bool b511)] → Ev (fun x => False ∨ m ≤ x) c0 w0 c513 w514 → CB (m + 9) c513 w514 → AT true (m + 5) c513 w514 qa109 (([] : List Value) ++ (cs428 ++ (([] : List Value)))) → ME (m + 1) (m + 2) c513 w514 p33 t27.1 → ME (m + 3) (m + 4) c513 w514 p50 t44.1 → ARO (KOsl K_api_Row) (m + 6) c513 w514 cs428 512 l427 noHole → haulagelaw10_MerkleRows.j7 i434 b511 = some ctl440 → K495 a w514 := by
       intro c513 w514 a b511 F E B h111 h34 h51 h426 H; unfold haulagelaw10_MerkleRows.j7 at H; refine hK495 _ _ ?_
       by_cases hb515 : b511 = true
       ·replace H := ip hb515 H; refine wct (fb F hb515) ?_; refine sr fun K516 hK516 => qa F fun a F => nil (hK516 _ _ ?_)
        as_aux_lemma =>
        refine wp_ret ?_; refine inbR ?_; refine thenR ?_; refine thenR ?_; refine inbR ?_; refine thenR ?_; have hx_ := HD439 _ (si H).symm; have H := HR443; rw [← hx_] at H; replace H : some false = some r := H; obtain rfl := si H; refine out1 F rfl rfl ?_; exact ⟨cf (ct m) c513, rfl, E.lv B0, cfb⟩
       replace H := im hb515 H; refine wcf (fb F (bfalse hb515)) (wp_skip (hK448 _ _ ?_)); refine reg ?_; refine qm F fun a F => ?_; refine qv F (r_add F rfl rfl) fun a F => ?_; refine qa F fun a F => nil ?_; replace H := HN438 _ (si H).symm; exact hX437 _ _ _ (Nat.lt_succ_self _) ⟨(IntKind.i64.wrap (i434 + 1)), c513, F.sub ⟨rfl, rfl, rfl, rfl, rfl, trivial⟩, E, B, h111, h34, h51, h426, H⟩
      refine reg ?_
      as_aux_lemma =>
      refine qm F fun a F => qm F fun a F => ?_; obtain ⟨t496, q497, H⟩ := bind_some H; refine qc F Try.func24 (merkle_Tree_Digest.calls (m := m + 9) (pl hm0) B h34 lm ⟨lm, mm⟩ _ q497) ?_; rintro e w499 ⟨c498, rfl, E500, B⟩; refine rt fun a F => ?_; replace h111 := h111.ev E500; replace h34 := h34.ev E500; replace h51 := h51.ev E500; replace h426 := h426.ev E500; replace E := E.n E500; refine qm F fun a F => ?_; refine qv F (r_neq F rfl rfl) fun a F => ?_; refine qm F fun a F => ?_
      by_cases hb503 : t496 = i491
      ·replace H := ip hb503 H; refine qy F (congrArg not (dt hb503)) ?_; refine qm F fun a F => ?_; refine qy F (congrArg not (dt hb503)) ?_; refine qm F fun a F => ?_; obtain ⟨t504, q505, H⟩ := bind_some H; refine qy F (congrArg not (dt hb503)) ?_; refine qc F Try.func24 (merkle_Tree_Digest.calls (m := m + 9) (pl hm0) B h51 lm ⟨lm, mm⟩ _ q505) ?_; rintro e w507 ⟨c506, rfl, E508, B⟩
       as_aux_lemma =>
       refine rt fun a F => ?_; replace h111 := h111.ev E508; replace h34 := h34.ev E508; replace h51 := h51.ev E508; replace h426 := h426.ev E508; replace E := E.n E508; refine qy F (congrArg not (dt hb503)) ?_; refine qm F fun a F => ?_; refine qy F (congrArg not (dt hb503)) ?_; refine qv F (r_neq F rfl rfl) fun a F => ?_; refine qv F (r_pick_f F rfl (congrArg not (dt hb503)) rfl) fun a F => ?_; refine nil ?_; exact J512 c506 w507 a (!decide (t504 = i491)) (F.sub ⟨rfl, rfl, rfl, rfl, rfl, rfl, trivial⟩) E B h111 h34 h51 h426 H
      replace H := im hb503 H; refine qn F (congrArg not (dz hb503)) fun a F => qn F (congrArg not (dz hb503)) fun a F => qn F (congrArg not (dz hb503)) fun a F => qn F (congrArg not (dz hb503)) fun a F => qn F (congrArg not (dz hb503)) fun a F => ?_; refine qv F (r_pick_t F rfl (congrArg not (dz hb503)) rfl) fun a F => ?_; refine nil ?_; exact J512 c498 w499 a true (F.sub ⟨rfl, rfl, rfl, rfl, rfl, rfl, trivial⟩) E B h111 h34 h51 h426 H
     refine sr fun K451 hK451 => qm F fun a F => ?_; refine qv F (r_geq F rfl rfl) fun a F => ?_; refine nil (hK451 _ _ ?_)
     by_cases hb452 : 256 ≤ i434
     ·replace H := ip hb452 H
      as_aux_lemma =>
      refine wct (fb F (dt hb452)) ?_; refine reg ?_; refine qm F fun a F => ?_; replace H := ifN H; obtain ⟨g453, H⟩ := H; obtain ⟨cs455, h456, r457⟩ := ARO.at (off := 0) h111 rfl h426 i434 g453.1 (by have g_ := g453.2; omega); obtain ⟨A459, C460, rfl, h461⟩ := r457; obtain ⟨qa458, qqa458⟩ : ∃ q, q = (qa109.add (0 + i434.toNat * 1)) := ⟨_, rfl⟩; have h456 : AT true (m + 5) c435 w436 qa458 [.slice A459 (rd l427 i434).length C460] := by rw [qqa458]; exact h456
      refine qv F (r_indexArr0 F ua_53 sz_27 rfl rfl g453.1 (by have g_ := g453.2; omega) qqa458) fun a F => ?_; refine qv F (r_load F rfl ag_27 (AT.cell0 h456 rfl)) fun a F => ?_; refine qm F fun a F => ?_; obtain ⟨t463, q464, H⟩ := bind_some H; refine qc F Try.func22 (haulagelaw10_ofRows.calls k (m := m + 9) (pl hm0) B h461.r lm _ q464) ?_; rintro e w466 ⟨c465, rfl, E467, B⟩; refine rt fun a F => ?_; replace h111 := h111.ev E467; replace h34 := h34.ev E467; replace h51 := h51.ev E467; replace h426 := h426.ev E467; replace E := E.n E467; refine qa F fun a F => nil ?_; exact J492 c465 w466 a t463 (F.sub ⟨rfl, rfl, rfl, rfl, rfl, rfl, trivial⟩) E B h111 h34 h51 h426 H
     as_aux_lemma =>
     replace H := im hb452 H; refine wcf (fb F (dz hb452)) ?_; refine reg ?_; refine qm F fun a F => qm F fun a F => ?_; refine qv F (r_mul F rfl rfl) fun a F => ?_; obtain ⟨t470, q471, H⟩ := bind_some H; refine qc F Try.func24 (merkle_Tree_Digest.calls (m := m + 9) (pl hm0) B h34 lm ⟨lm, mm⟩ _ q471) ?_; rintro e w473 ⟨c472, rfl, E474, B⟩; refine rt fun a F => ?_; replace h111 := h111.ev E474; replace h34 := h34.ev E474; replace h51 := h51.ev E474; replace h426 := h426.ev E474; replace E := E.n E474; refine qm F fun a F => qm F fun a F => ?_; refine qv F (r_mul F rfl rfl) fun a F => ?_; refine qv F (r_add F rfl rfl) fun a F => ?_; obtain ⟨t477, q478, H⟩ := bind_some H; refine qc F Try.func24 (merkle_Tree_Digest.calls (m := m + 9) (pl hm0) B h34 lm ⟨lm, mm⟩ _ q478) ?_; rintro e w480 ⟨c479, rfl, E481, B⟩; refine rt fun a F => ?_; replace h111 := h111.ev E481
     as_aux_lemma =>
     replace h34 := h34.ev E481; replace h51 := h51.ev E481; replace h426 := h426.ev E481; replace E := E.n E481; refine qm F fun a F => ?_; obtain ⟨t484, q485, H⟩ := bind_some H; refine qc F Try.func23 (haulagelaw10_ofPair.calls k (m := m + 9) (pl hm0) B _ q485) ?_; rintro e w487 ⟨c486, rfl, E488, B⟩; refine rt fun a F => ?_; replace h111 := h111.ev E488; replace h34 := h34.ev E488; replace h51 := h51.ev E488; replace h426 := h426.ev E488; replace E := E.n E488; refine qa F fun a F => nil ?_; exact J492 c486 w487 a t484 (F.sub ⟨rfl, rfl, rfl, rfl, rfl, rfl, trivial⟩) E B h111 h34 h51 h426 H
    replace H := im hb447 H; refine wcf (fb F (dz hb447)) ?_; refine wp_exit ?_; refine thenE ?_; refine thenE ?_; refine inbE ?_; have hx_ := HD439 _ (si H).symm; have H := HR443; rw [← hx_] at H; exact J518 c435 w436 a  (F.sub ⟨rfl, trivial⟩) E B h34 H
   refine loop_fuel (I := fun n a w => ∃ (i273 : Int) (l276 : List (List api_Row)) (cs274 : List Value) (c : Nat → Nat), Fr a 156 [(5, .int .i64 (IntKind.i64.wrap (1 + t19))), (6, .pointer p33), (7, .slice A35 t27.2.length C36), (8, .pointer p50), (10, .pointer (some qa109)), (11, .int .i64 i273)] ∧ Ev (fun x => False ∨ m ≤ x) c0 w0 c w ∧ CB (m + 9) c w ∧ AT true (m + 5) c w qa109 (([] : List Value) ++ (cs274 ++ (([] : List Value)))) ∧ ME (m + 1) (m + 2) c w p33 t27.1 ∧ SL true K_api_Row 0 0 c w A35 C36 t27.2 ∧ ME (m + 3) (m + 4) c w p50 t44.1 ∧ ARO (KOsl K_api_Row) (m + 6) c w cs274 512 l276 noHole ∧ loop (fun (s_ : Int × (List (List api_Row))) => haulagelaw10_MerkleRows.b4 k t27 s_.1 s_.2) n (i273, l276) = some x286) (k := k) ⟨0, (List.replicate 512 ([] : List api_Row)), ((List.replicate 512 ([.slice none 0 0] : List Value)).flatten), c107, F.sub ⟨rfl, rfl, rfl, rfl, rfl, rfl, trivial⟩, E, B, h111, h34, h37, h51, h113, HL⟩ ?_; clear HL H E F B; intro n283 X279 hX279 a w278 ⟨i273, l276, cs274, c277, F, E, B, h111, h34, h37, h51, h275, HL⟩; obtain ⟨n284, ctl282, rfl, HB, HN280, HD281⟩ := loop_some HL; have H : haulagelaw10_MerkleRows.b4 k t27 i273 l276 = some ctl282 := HB; clear HB HL; unfold haulagelaw10_MerkleRows.b4 at H
   as_aux_lemma =>
   refine sq fun K287 hK287 => ?_; refine sr fun K288 hK288 => qm F fun a F => qm F fun a F => ?_; refine qv F (r_lensl F Try.underlying27 rfl) fun a F => ?_; refine qv F (r_lss F rfl rfl) fun a F => ?_; refine nil (hK288 _ _ ?_)
   by_cases hb289 : i273 < (t27.2.length : Int)
   ·replace H := ip hb289 H; refine wct (fb F (dt hb289)) (wp_skip (hK287 _ _ ?_)); refine sq fun K290 hK290 => ?_; refine wp_block ?_; refine sr fun K291 hK291 => qm F fun a F => qm F fun a F => ?_; replace H := ifN H; obtain ⟨g292, H⟩ := H; obtain ⟨ad293, cs294, e295, h296, r297⟩ := SL.at h37 i273 g292.1 g292.2; obtain ⟨A298, C299, A301, C302, rfl, h300, h303⟩ := r297; replace h300 := SL.fl (i' := 0) h300 (fun q => q); obtain ⟨qa304, qqa304⟩ : ∃ q, q = (ad293.add (i273.toNat * 3)) := ⟨_, rfl⟩; have h296 : AT true 0 c277 w278 qa304 [.slice A298 ((rd t27.2 i273).Key).length C299, .slice A301 ((rd t27.2 i273).Value).length C302, .int .i64 ((rd t27.2 i273).Rev)] := by rw [qqa304]; exact h296
    refine qv F (r_indexAddr' F Try.underlying27 sz_36 rfl rfl g292.1 g292.2 e295 qqa304) fun a F => ?_; refine qf F ff_36_0 fun a F => ?_; refine ql F ag_23 h296 fun a F => ?_; obtain ⟨t147, q148, H⟩ := bind_some H; refine qc F Try.func21 (haulagelaw10_bucket.calls k (m := m + 9) (pl hm0) B h300 _ q148) ?_; rintro e w307 ⟨c306, rfl, E308, B⟩
    as_aux_lemma =>
    refine rt fun a F => ?_; replace h111 := h111.ev E308; replace h34 := h34.ev E308; replace h37 := h37.ev E308; replace h51 := h51.ev E308; replace h275 := h275.ev E308; replace E := E.n E308; refine qa F fun a F => nil (hK291 _ _ ?_); replace F : Fr a 156 [(5, .int .i64 (IntKind.i64.wrap (1 + t19))), (6, .pointer p33), (7, .slice A35 t27.2.length C36), (8, .pointer p50), (10, .pointer (some qa109)), (11, .int .i64 i273), (12, .int .i64 t147)] := F.sub ⟨rfl, rfl, rfl, rfl, rfl, rfl, rfl, trivial⟩; refine sq fun K311 hK311 => ?_; replace H := ifN H; obtain ⟨g312, H⟩ := H; obtain ⟨c313, e314, e315, A316, C317, h318, h319, h275⟩ := ARO.lend (off := 0) (z := m + 7) h111 rfl h275 t147 g312.1 (by have g_ := g312.2; omega) ⟨mm, (pl hm0)⟩; obtain ⟨qa320, qqa320⟩ : ∃ q, q = (qa109.add (0 + t147.toNat * 1)) := ⟨_, rfl⟩; have h318 : AT true (m + 5) c306 w307 qa320 [.slice A316 (rd l276 t147).length C317] := by rw [qqa320]; exact h318
    replace h111 := AT.rc (c' := c313) (j' := m + 5) h111 (fun k_ hk_ => (e314 k_ (by rw [hk_]; exact mm)).trans hk_); replace h34 := ME.rc (c' := c313) (j' := m + 1) (i' := m + 2) h34 (fun k_ hk_ => (e314 k_ (by rw [hk_]; exact mm)).trans hk_) (fun k_ hk_ => (e314 k_ (by rw [hk_]; exact mm)).trans hk_) (fun k_ hk_ => (e314 k_ (by rw [hk_]; exact ne_zm)).trans hk_) (pl hm0); replace h37 := SL.rc (c' := c313) (j' := 0) (i' := 0) h37 (fun k_ hk_ => (e314 k_ (by rw [hk_]; exact ne_zm)).trans hk_) (fun k_ hk_ => (e314 k_ (by rw [hk_]; exact ne_zm)).trans hk_); replace h51 := ME.rc (c' := c313) (j' := m + 3) (i' := m + 4) h51 (fun k_ hk_ => (e314 k_ (by rw [hk_]; exact mm)).trans hk_) (fun k_ hk_ => (e314 k_ (by rw [hk_]; exact mm)).trans hk_) (fun k_ hk_ => (e314 k_ (by rw [hk_]; exact ne_zm)).trans hk_) (pl hm0); replace h318 := AT.rc (c' := c313) (j' := m + 5) h318 (fun k_ hk_ => (e314 k_ (by rw [hk_]; exact mm)).trans hk_); replace E : Ev (fun x => False ∨ m ≤ x) c0 w0 c313 w307 := E.recol B0 (fun b_ hb_ => e314 b_ (by omega)); replace B : CB (m + 9) c313 w307 := B.recol (fun b_ => (e315 b_).imp id (fun q_ => by rw [q_]; exact lm))
    as_aux_lemma =>
    refine regD (SB (fun x => x = m + 7) c313 w307) 11 (.q 0 (.q 1 (.q 2 (.q 3 (.q 4 (.q 5 (.q 6 (.q 7 (.e 8 (.e 9 (.q 10 (.e 11 .nil)))))))))))) Try_hm (by decide +kernel) ?_; intro w322 w1_ w2_ w3_ w4_; have E323 : Ev No c313 w307 c313 w322 := Ev.same w1_ w2_ w3_ w4_; replace B := B.same w1_; have zh37 := h37; have zh318 := h318; have ER : Ev (fun x => x = m + 7) c313 w307 c313 w322 := Ev.same w1_ w2_ w3_ w4_; replace h111 := h111.ev E323; replace h34 := h34.ev E323; replace h37 := h37.ev E323; replace h51 := h51.ev E323; replace h275 := h275.ev E323; replace h318 := h318.ev E323; replace h319 := h319.ev E323; replace E := E.n E323; refine dm F ER.sb fun a F => ?_; refine dm F ER.sb fun a F => ?_; refine dq F (fun wq hS => r_indexArr0 F ua_53 sz_27 rfl rfl g312.1 (by have g_ := g312.2; omega) qqa320) ER.sb fun a F => ?_; refine dq F (fun wq hS => r_load F rfl ag_27 (AT.cell0 (AT.sb zh318 hS mm) rfl)) ER.sb fun a F => ?_; refine dm F ER.sb fun a F => ?_; refine dm F ER.sb fun a F => ?_; replace H := ifN H; obtain ⟨g324, H⟩ := H; obtain ⟨ad325, cs326, e327, h328, r329⟩ := SL.at zh37 i273 g324.1 g324.2; obtain ⟨A330, C331, A333, C334, rfl, h332, h335⟩ := r329
    as_aux_lemma =>
    replace h332 := SL.fl (i' := 0) h332 (fun q => q); replace h335 := SL.fl (i' := 0) h335 (fun q => q); obtain ⟨qa336, qqa336⟩ : ∃ q, q = (ad325.add (i273.toNat * 3)) := ⟨_, rfl⟩; have h328 : AT true 0 c313 w307 qa336 [.slice A330 ((rd t27.2 i273).Key).length C331, .slice A333 ((rd t27.2 i273).Value).length C334, .int .i64 ((rd t27.2 i273).Rev)] := by rw [qqa336]; exact h328
    replace h332 := h332.ev ER ne_zm ne_zm; replace h335 := h335.ev ER ne_zm ne_zm; have zh328 := h328; refine dq F (fun wq hS => r_indexAddr' F Try.underlying27 sz_36 rfl rfl g324.1 g324.2 e327 qqa336) ER.sb fun a F => ?_; refine dq F (fun wq hS => r_loads (cs := [.slice A330 ((rd t27.2 i273).Key).length C331, .slice A333 ((rd t27.2 i273).Value).length C334, .int .i64 ((rd t27.2 i273).Rev)]) F rfl ag_36 sz_36 (AT.sb zh328 hS ne_zm)) ER.sb fun a F => ?_; refine d_e ?_; refine o_eff F rfl rfl rfl (by decide) (e_buildSlice (n := 1) (e := 36) (c := c313) (k := K_api_Row) (i := 0) F [(0, .agg #[.slice A330 ((rd t27.2 i273).Key).length C331, .slice A333 ((rd t27.2 i273).Value).length C334, .int .i64 ((rd t27.2 i273).Rev)])] [.slice A330 ((rd t27.2 i273).Key).length C331, .slice A333 ((rd t27.2 i273).Value).length C334, .int .i64 ((rd t27.2 i273).Rev)] ([(rd t27.2 i273)] : List api_Row) (by exact ⟨rfl, rfl, trivial⟩) (fun w => by kernel_rfl) rfl (by decide) rfl ⟨⟨A330, C331, A333, C334, rfl, (SL.fl h332 (fun q => q)), (SL.fl h335 (fun q => q))⟩, trivial⟩ (fun q => q) 0) ?_; rintro v w339 a ⟨c338, A340, C341, rfl, E342, h343, B344⟩ F; replace B := B344 _ B (pl hm0); replace ER := ER.trans E342 nx; replace h111 := h111.ev E342; replace h34 := h34.ev E342; replace h37 := h37.ev E342; replace h51 := h51.ev E342; replace h275 := h275.ev E342; replace h318 := h318.ev E342; replace h319 := h319.ev E342; replace E := E.n E342
    as_aux_lemma =>
    refine ⟨fun _ => ER.sb, ?_⟩; refine d_e ?_; replace H := ifN H; obtain ⟨g188, H⟩ := H; refine o_eff F rfl rfl rfl (by decide) (e_append (k := K_api_Row) (xs := (rd l276 t147)) (ys := [(rd t27.2 i273)]) (c := c338) (j := (m + 7)) (i := 0) F et_27 rfl rfl h319 h343 g188 (len_ok g188) ne_zm) ?_; rintro v w346 a ⟨c345, A347, C348, rfl, E349, h350, B351⟩ F; replace B := B351 _ B lm; replace ER := ER.trans E349 (fun x q => by replace q : x = m + 7 := q; show x = m + 7; omega); replace h111 := h111.ev E349; replace h34 := h34.ev E349; replace h37 := h37.ev E349; replace h51 := h51.ev E349; replace h275 := h275.ev E349; replace h318 := h318.ev E349; replace E := E.trans E349 lc1; refine ⟨fun _ => ER.sb, ?_⟩; refine dq F (fun wq hS => r_indexArr0 F ua_53 sz_27 rfl rfl g312.1 (by have g_ := g312.2; omega) qqa320) ER.sb fun a F => ?_; refine d_e ?_; refine o_eff0 F rfl rfl rfl (e_storearH F rfl rfl sz_27 h111 rfl h275 (m := t147.toNat) (by have g_ := g312; omega) qqa320 rfl mm (pl hm0)) ?_; rintro w352 a ⟨cs355, E353, h111, h275, h318, Z354⟩ F; replace B := B.size Z354; replace h34 := h34.ev E353
    as_aux_lemma =>
    replace h37 := h37.ev E353; replace h51 := h51.ev E353; replace h350 := h350.ev E353; replace E := E.trans E353 lc1; replace h111 : AT _ _ _ _ _ (([] : List Value) ++ (cs355 ++ (([] : List Value)))) := h111; refine ⟨fun q => absurd rfl q, ?_⟩; refine d_nil ?_; obtain ⟨c356, e357, e358, h275⟩ := ARO.back (off := 0) (z := m + 7) (k := t147) h111 rfl h275 g312.1 (by have g_ := g312.2; omega) (by rw [← qqa320]; exact h318) h350 ⟨mm, (pl hm0)⟩; replace h111 := AT.rc (c' := c356) (j' := m + 5) h111 (fun k_ hk_ => (e357 k_ (by rw [hk_]; exact mm)).trans hk_); replace h34 := ME.rc (c' := c356) (j' := m + 1) (i' := m + 2) h34 (fun k_ hk_ => (e357 k_ (by rw [hk_]; exact mm)).trans hk_) (fun k_ hk_ => (e357 k_ (by rw [hk_]; exact mm)).trans hk_) (fun k_ hk_ => (e357 k_ (by rw [hk_]; exact ne_zm)).trans hk_) (pl hm0); replace h37 := SL.rc (c' := c356) (j' := 0) (i' := 0) h37 (fun k_ hk_ => (e357 k_ (by rw [hk_]; exact ne_zm)).trans hk_) (fun k_ hk_ => (e357 k_ (by rw [hk_]; exact ne_zm)).trans hk_); replace h51 := ME.rc (c' := c356) (j' := m + 3) (i' := m + 4) h51 (fun k_ hk_ => (e357 k_ (by rw [hk_]; exact mm)).trans hk_) (fun k_ hk_ => (e357 k_ (by rw [hk_]; exact mm)).trans hk_) (fun k_ hk_ => (e357 k_ (by rw [hk_]; exact ne_zm)).trans hk_) (pl hm0); replace E : Ev (fun x => False ∨ m ≤ x) c0 w0 c356 w352 := E.recol B0 (fun b_ hb_ => e357 b_ (by omega)); replace B : CB (m + 9) c356 w352 := B.recol (fun b_ => (e358 b_).imp id (fun q_ => by rw [q_]; exact lm)); refine hK311 _ _ ?_; replace F : Fr a 156 [(5, .int .i64 (IntKind.i64.wrap (1 + t19))), (6, .pointer p33), (7, .slice A35 t27.2.length C36), (8, .pointer p50), (10, .pointer (some qa109)), (11, .int .i64 i273)] := F.sub ⟨rfl, rfl, rfl, rfl, rfl, rfl, trivial⟩; refine sr fun K360 hK360 => qm F fun a F => qm F fun a F => qm F fun a F => ?_; replace H := ifN H; obtain ⟨g361, H⟩ := H; obtain ⟨ad362, cs363, e364, h365, r366⟩ := SL.at h37 i273 g361.1 g361.2; obtain ⟨A367, C368, A370, C371, rfl, h369, h372⟩ := r366; replace h369 := SL.fl (i' := 0) h369 (fun q => q); obtain ⟨qa373, qqa373⟩ : ∃ q, q = (ad362.add (i273.toNat * 3)) := ⟨_, rfl⟩; have h365 : AT true 0 c356 w352 qa373 [.slice A367 ((rd t27.2 i273).Key).length C368, .slice A370 ((rd t27.2 i273).Value).length C371, .int .i64 ((rd t27.2 i273).Rev)] := by rw [qqa373]; exact h365
    as_aux_lemma =>
    refine qv F (r_indexAddr' F Try.underlying27 sz_36 rfl rfl g361.1 g361.2 e364 qqa373) fun a F => ?_; refine qf F ff_36_0 fun a F => ?_; refine ql F ag_23 h365 fun a F => ?_; obtain ⟨t219, q220, H⟩ := bind_some H; refine qc F Try.func13 (merkle_Tree_Get.calls k (m := m + 9) (pl hm0) B h34 h369 lm ⟨lm, mm⟩ _ q220) ?_; rintro e w376 ⟨c375, A379, C380, A382, C383, rfl, E377, B, h381, h384⟩; refine rt fun a F => ?_; replace h111 := h111.ev E377; replace h34 := h34.ev E377; replace h37 := h37.ev E377; replace h51 := h51.ev E377; replace h275 := h275.ev E377; replace E := E.n E377; refine qm F fun a F => ?_; refine qx F fun a F => ?_; refine qx F fun a F => ?_; refine q_eff F rfl rfl (by decide) (e_alloc F zv_36 c375 (m + 8)) ?_; rintro v w387 a ⟨c386, qa234, rfl, E388, h236, B389⟩ F; replace B := B389 _ B lm; replace h111 := h111.ev E388; replace h34 := h34.ev E388; replace h37 := h37.ev E388
    as_aux_lemma =>
    replace h51 := h51.ev E388; replace h275 := h275.ev E388; replace h381 := h381.ev E388; replace h384 := h384.ev E388; replace E := E.n E388; replace h236 : AT _ _ _ _ _ [.slice none 0 0, .slice none 0 0, .int .i64 0] := h236; refine q_eff0 F rfl rfl (e_storeN0 (us := [.slice A379 t219.1.Key.length C380, .slice A382 t219.1.Value.length C383, .int .i64 t219.1.Rev]) F rfl rfl sz_36 h236 (nb rfl) (one_all rfl)) ?_; rintro w390 a ⟨E391, h236, Z392⟩ F; replace B := B.size Z392; replace h111 := h111.ev E391; replace h34 := h34.ev E391; replace h37 := h37.ev E391; replace h51 := h51.ev E391; replace h275 := h275.ev E391; replace h381 := h381.ev E391; replace h384 := h384.ev E391; replace E := E.trans E391 lc1; replace h236 : AT _ _ _ _ _ [.slice A379 t219.1.Key.length C380, .slice A382 t219.1.Value.length C383, .int .i64 t219.1.Rev] := h236; refine qa F fun a F => nil (hK360 _ _ ?_); replace F : Fr a 156 [(5, .int .i64 (IntKind.i64.wrap (1 + t19))), (6, .pointer p33), (7, .slice A35 t27.2.length C36), (8, .pointer p50), (10, .pointer (some qa109)), (11, .int .i64 i273), (13, .pointer (some qa234)), (14, .bool t219.2)] := F.sub ⟨rfl, rfl, rfl, rfl, rfl, rfl, rfl, rfl, trivial⟩; refine sq fun K393 hK393 => ?_; have J417 : ∀ (c418 : Nat → Nat) (w419 : World) (a : Act) (b416 : Bool), Fr a 156 [(5, .int .i64 (IntKind.i64.wrap (1 + t19))), (6, .pointer p33), (7, .slice A35 t27.2.length C36), (8, .pointer p50), (10, .pointer (some qa109)), (11, .int .i64 i273), (106, .bool b416)] → Ev (fun x => False ∨ m ≤ x) c0 w0 c418 w419 → CB (m + 9) c418 w419 → AT true (m + 5) c418 w419 qa109 (([] : List Value) ++ (cs355 ++ (([] : List Value)))) → ME (m + 1) (m + 2) c418 w419 p33 t27.1 → SL true K_api_Row 0 0 c418 w419 A35 C36 t27.2 → ME (m + 3) (m + 4) c418 w419 p50 t44.1 → ARO (KOsl K_api_Row) (m + 6) c418 w419 cs355 512 (l276.set t147.toNat ((rd l276 t147) ++ [(rd t27.2 i273)])) noHole → haulagelaw10_MerkleRows.j3 t27 t147 i273 l276 b416 = some ctl282 → K393 a w419 := by
     intro c418 w419 a b416 F E B h111 h34 h37 h51 h275 H; unfold haulagelaw10_MerkleRows.j3 at H
     as_aux_lemma =>
     refine hK393 _ _ ?_
     by_cases hb420 : b416 = true
     ·replace H := ip hb420 H; refine wct (fb F hb420) ?_; refine sr fun K421 hK421 => qa F fun a F => nil (hK421 _ _ ?_); refine wp_ret ?_; refine inbR ?_; refine thenR ?_; refine thenR ?_; refine inbR ?_; refine thenR ?_; have hx_ := HD281 _ (si H).symm; have H := HR285; rw [← hx_] at H; replace H : some false = some r := H; obtain rfl := si H; refine out1 F rfl rfl ?_; exact ⟨cf (ct m) c418, rfl, E.lv B0, cfb⟩
     replace H := im hb420 H; refine wcf (fb F (bfalse hb420)) (wp_skip (hK290 _ _ ?_)); refine reg ?_; refine qm F fun a F => ?_; refine qv F (r_add F rfl rfl) fun a F => ?_
     as_aux_lemma =>
     refine qa F fun a F => nil ?_; replace H := HN280 _ (si H).symm; exact hX279 _ _ _ (Nat.lt_succ_self _) ⟨(IntKind.i64.wrap (i273 + 1)), (l276.set t147.toNat ((rd l276 t147) ++ [(rd t27.2 i273)])), cs355, c418, F.sub ⟨rfl, rfl, rfl, rfl, rfl, rfl, trivial⟩, E, B, h111, h34, h37, h51, h275, H⟩
    refine regD (SB No c386 w390) 11 (.q 0 (.q 1 (.q 2 (.q 3 (.q 4 (.q 5 (.q 6 (.q 7 (.e 8 (.q 9 (.q 10 .nil))))))))))) Try_hm (by decide +kernel) ?_; intro w394 w1_ w2_ w3_ w4_; have E395 : Ev No c386 w390 c386 w394 := Ev.same w1_ w2_ w3_ w4_; replace B := B.same w1_; have zh37 := h37; have zh236 := h236; have ER : Ev No c386 w390 c386 w394 := Ev.same w1_ w2_ w3_ w4_; replace h111 := h111.ev E395; replace h34 := h34.ev E395; replace h37 := h37.ev E395; replace h51 := h51.ev E395; replace h275 := h275.ev E395; replace h381 := h381.ev E395; replace h384 := h384.ev E395; replace E := E.n E395; refine dm F ER.sb fun a F => ?_; refine dq F (fun wq hS => r_not F rfl) ER.sb fun a F => ?_; refine dm F ER.sb fun a F => ?_
    by_cases hb396 : t219.2 = true
    ·replace H := ip hb396 H
     as_aux_lemma =>
     refine dy F (congrArg not hb396) (fun wq hS => r_loads (cs := [.slice A379 t219.1.Key.length C380, .slice A382 t219.1.Value.length C383, .int .i64 t219.1.Rev]) F rfl ag_36 sz_36 (AT.sb zh236 hS nq)) ER.sb fun a F => ?_; refine dy F (congrArg not hb396) (fun wq hS => r_move F rfl) ER.sb fun a F => ?_; refine dy F (congrArg not hb396) (fun wq hS => r_move F rfl) ER.sb fun a F => ?_; replace H := ifN H; obtain ⟨g397, H⟩ := H; obtain ⟨ad398, cs399, e400, h401, r402⟩ := SL.at zh37 i273 g397.1 g397.2; obtain ⟨A403, C404, A406, C407, rfl, h405, h408⟩ := r402; replace h405 := SL.fl (i' := 0) h405 (fun q => q); replace h408 := SL.fl (i' := 0) h408 (fun q => q); obtain ⟨qa409, qqa409⟩ : ∃ q, q = (ad398.add (i273.toNat * 3)) := ⟨_, rfl⟩; have h401 : AT true 0 c386 w390 qa409 [.slice A403 ((rd t27.2 i273).Key).length C404, .slice A406 ((rd t27.2 i273).Value).length C407, .int .i64 ((rd t27.2 i273).Rev)] := by rw [qqa409]; exact h401
     replace h405 := h405.ev ER nq nq; replace h408 := h408.ev ER nq nq; have zh401 := h401; refine dy F (congrArg not hb396) (fun wq hS => r_indexAddr' F Try.underlying27 sz_36 rfl rfl g397.1 g397.2 e400 qqa409) ER.sb fun a F => ?_; refine dy F (congrArg not hb396) (fun wq hS => r_loads (cs := [.slice A403 ((rd t27.2 i273).Key).length C404, .slice A406 ((rd t27.2 i273).Value).length C407, .int .i64 ((rd t27.2 i273).Rev)]) F rfl ag_36 sz_36 (AT.sb zh401 hS nq)) ER.sb fun a F => ?_; refine d_e ?_; obtain ⟨t260, q261, H⟩ := bind_some H; refine o_call F rfl (wanted_yes F rfl rfl (by decide) rfl (congrArg not hb396)) rfl (by decide) (r_call F Try.func14 rfl (by kernel_rfl) rfl) (haulagelaw10_sameRow.calls k (m := m + 9) (pl hm0) B h381 h384 h405 h408 _ q261) ?_; rintro e w412 ⟨c411, rfl, E413, B⟩; refine rt fun a F => ?_; replace ER := ER.trans E413 nx
     as_aux_lemma =>
     replace h111 := h111.ev E413; replace h34 := h34.ev E413; replace h37 := h37.ev E413; replace h51 := h51.ev E413; replace h275 := h275.ev E413; replace E := E.n E413; refine ⟨fun _ => ER.sb, ?_⟩; refine dy F (congrArg not hb396) (fun wq hS => r_not F rfl) ER.sb fun a F => ?_; refine dq F (fun wq hS => r_pick_f F rfl (congrArg not hb396) rfl) ER.sb fun a F => ?_; refine d_nil ?_; exact J417 c411 w412 a (!t260) (F.sub ⟨rfl, rfl, rfl, rfl, rfl, rfl, rfl, trivial⟩) E B h111 h34 h37 h51 h275 H
    replace H := im hb396 H; refine dn F (congrArg not (bfalse hb396)) ER.sb fun a F => ?_; refine dn F (congrArg not (bfalse hb396)) ER.sb fun a F => ?_; refine dn F (congrArg not (bfalse hb396)) ER.sb fun a F => ?_; refine dn F (congrArg not (bfalse hb396)) ER.sb fun a F => ?_; refine dn F (congrArg not (bfalse hb396)) ER.sb fun a F => ?_; refine d_e ?_; refine o_no F rfl rfl rfl (by decide) rfl (congrArg not (bfalse hb396)) rfl (by decide) fun a F => ?_; refine ⟨fun _ => ER.sb, ?_⟩; refine dn F (congrArg not (bfalse hb396)) ER.sb fun a F => ?_; refine dq F (fun wq hS => r_pick_t F rfl (congrArg not (bfalse hb396)) rfl) ER.sb fun a F => ?_
    as_aux_lemma =>
    refine d_nil ?_; exact J417 c386 w394 a true (F.sub ⟨rfl, rfl, rfl, rfl, rfl, rfl, rfl, trivial⟩) E B h111 h34 h37 h51 h275 H
   replace H := im hb289 H; refine wcf (fb F (dz hb289)) ?_; refine wp_exit ?_; refine thenE ?_; refine thenE ?_; refine inbE ?_; have hx_ := HD281 _ (si H).symm; have H := HR285; rw [← hx_] at H; exact J429 c277 w278 a l276 cs274 (F.sub ⟨rfl, rfl, rfl, rfl, trivial⟩) E B h111 h34 h51 h275 H
  refine reg ?_; refine qm F fun a F => ?_; refine qv F (r_neq F rfl rfl) fun a F => ?_; refine qm F fun a F => ?_
  by_cases hb55 : t44.2 = 0
  ·replace H := ip hb55 H; refine qy F (congrArg not (dt hb55)) ?_; refine qm F fun a F => ?_; refine qy F (congrArg not (dt hb55)) ?_; refine qv F (r_peqlA F Try.underlying26 rfl rfl (ME.isNone h51)) fun a F => ?_; refine qv F (r_pick_f F rfl (congrArg not (dt hb55)) rfl) fun a F => ?_
   as_aux_lemma =>
   refine qm F fun a F => ?_
   by_cases hb56 : (Option.isNone t44.1) = true
   ·replace H := ip hb56 H; refine qn F hb56 fun a F => qn F hb56 fun a F => qn F hb56 fun a F => qn F hb56 fun a F => qn F hb56 fun a F => ?_; refine qv F (r_pick_t F rfl hb56 rfl) fun a F => ?_; refine qm F fun a F => qn F rfl fun a F => qn F rfl fun a F => qn F rfl fun a F => qn F rfl fun a F => qn F rfl fun a F => ?_; refine qt F fun a F => ?_; refine qm F fun a F => qn F rfl fun a F => qn F rfl fun a F => qn F rfl fun a F => qn F rfl fun a F => qn F rfl fun a F => ?_; refine qt F fun a F => ?_; refine nil ?_; exact J101 c46 w47 a true (F.sub ⟨rfl, rfl, rfl, rfl, rfl, trivial⟩) E B h34 h37 h51 H
   replace H := im hb56 H; refine qy F (bfalse hb56) ?_; refine qm F fun a F => ?_; obtain ⟨t57, q58, H⟩ := bind_some H; refine qy F (bfalse hb56) ?_; refine qc F Try.func19 (merkle_Tree_Rows.calls k (m := m + 9) (pl hm0) B h34 lm ⟨lm, mm⟩ 0 (pl hm0) _ q58) ?_; rintro e w60 ⟨c59, A63, C64, rfl, E61, B, h65⟩; refine rt fun a F => ?_; replace h34 := h34.ev E61; replace h37 := h37.ev E61; replace h51 := h51.ev E61; replace E := E.n E61
   as_aux_lemma =>
   refine qy F (bfalse hb56) ?_; refine qm F fun a F => ?_; obtain ⟨t67, q68, H⟩ := bind_some H; refine qy F (bfalse hb56) ?_; refine qc F Try.func18 (haulagelaw10_sameRows.calls k (m := m + 9) (pl hm0) B h65.r h37.r (pl hm0) (pl hm0) _ q68) ?_; rintro e w70 ⟨c69, rfl, E71, B⟩; refine rt fun a F => ?_; replace h34 := h34.ev E71; replace h37 := h37.ev E71; replace h51 := h51.ev E71; replace E := E.n E71; refine qy F (bfalse hb56) ?_; refine qv F (r_not F rfl) fun a F => ?_; refine qv F (r_pick_f F rfl (bfalse hb56) rfl) fun a F => ?_; refine qm F fun a F => ?_
   by_cases hb74 : t67 = true
   ·replace H := ip hb74 H; refine qy F (congrArg not hb74) ?_; refine qm F fun a F => ?_; obtain ⟨t75, q76, H⟩ := bind_some H; refine qy F (congrArg not hb74) ?_; refine qc F Try.func19 (merkle_Tree_Rows.calls k (m := m + 9) (pl hm0) B h51 lm ⟨lm, mm⟩ 0 (pl hm0) _ q76) ?_; rintro e w78 ⟨c77, A81, C82, rfl, E79, B, h83⟩
    as_aux_lemma =>
    refine rt fun a F => ?_; replace h34 := h34.ev E79; replace h37 := h37.ev E79; replace h51 := h51.ev E79; replace E := E.n E79; refine qy F (congrArg not hb74) ?_; refine qm F fun a F => ?_; obtain ⟨t85, q86, H⟩ := bind_some H; refine qy F (congrArg not hb74) ?_; refine qc F Try.func18 (haulagelaw10_sameRows.calls k (m := m + 9) (pl hm0) B h83.r h37.r (pl hm0) (pl hm0) _ q86) ?_; rintro e w88 ⟨c87, rfl, E89, B⟩; refine rt fun a F => ?_; replace h34 := h34.ev E89; replace h37 := h37.ev E89; replace h51 := h51.ev E89; replace E := E.n E89; refine qy F (congrArg not hb74) ?_; refine qv F (r_not F rfl) fun a F => ?_; refine qv F (r_pick_f F rfl (congrArg not hb74) rfl) fun a F => ?_; refine qm F fun a F => ?_
    by_cases hb92 : t85 = true
    ·replace H := ip hb92 H; refine qy F (congrArg not hb92) ?_
     as_aux_lemma =>
     refine qm F fun a F => ?_; obtain ⟨t93, q94, H⟩ := bind_some H; refine qy F (congrArg not hb92) ?_; refine qc F Try.func20 (merkle_Tree_Len.calls (m := m + 9) (pl hm0) B h34 lm ⟨lm, mm⟩ _ q94) ?_; rintro e w96 ⟨c95, rfl, E97, B⟩; refine rt fun a F => ?_; replace h34 := h34.ev E97; replace h37 := h37.ev E97; replace h51 := h51.ev E97; replace E := E.n E97; refine qy F (congrArg not hb92) ?_; refine qm F fun a F => ?_; refine qy F (congrArg not hb92) ?_; refine qv F (r_lensl F Try.underlying27 rfl) fun a F => ?_; refine qy F (congrArg not hb92) ?_; refine qv F (r_neq F rfl rfl) fun a F => ?_; refine qv F (r_pick_f F rfl (congrArg not hb92) rfl) fun a F => ?_; refine nil ?_; exact J101 c95 w96 a (!decide (t93 = (t27.2.length : Int))) (F.sub ⟨rfl, rfl, rfl, rfl, rfl, trivial⟩) E B h34 h37 h51 H
    replace H := im hb92 H; refine qn F (congrArg not (bfalse hb92)) fun a F => qn F (congrArg not (bfalse hb92)) fun a F => qn F (congrArg not (bfalse hb92)) fun a F => qn F (congrArg not (bfalse hb92)) fun a F => qn F (congrArg not (bfalse hb92)) fun a F => ?_; refine qv F (r_pick_t F rfl (congrArg not (bfalse hb92)) rfl) fun a F => ?_
    as_aux_lemma =>
    refine nil ?_; exact J101 c87 w88 a true (F.sub ⟨rfl, rfl, rfl, rfl, rfl, trivial⟩) E B h34 h37 h51 H
   replace H := im hb74 H; refine qn F (congrArg not (bfalse hb74)) fun a F => qn F (congrArg not (bfalse hb74)) fun a F => qn F (congrArg not (bfalse hb74)) fun a F => qn F (congrArg not (bfalse hb74)) fun a F => qn F (congrArg not (bfalse hb74)) fun a F => ?_; refine qv F (r_pick_t F rfl (congrArg not (bfalse hb74)) rfl) fun a F => ?_; refine qm F fun a F => qn F rfl fun a F => qn F rfl fun a F => qn F rfl fun a F => qn F rfl fun a F => qn F rfl fun a F => ?_; refine qt F fun a F => ?_; refine nil ?_; exact J101 c69 w70 a true (F.sub ⟨rfl, rfl, rfl, rfl, rfl, trivial⟩) E B h34 h37 h51 H
  replace H := im hb55 H; refine qn F (congrArg not (dz hb55)) fun a F => qn F (congrArg not (dz hb55)) fun a F => ?_; refine qv F (r_pick_t F rfl (congrArg not (dz hb55)) rfl) fun a F => ?_; refine qm F fun a F => qn F rfl fun a F => qn F rfl fun a F => qn F rfl fun a F => qn F rfl fun a F => qn F rfl fun a F => ?_; refine qt F fun a F => ?_; refine qm F fun a F => qn F rfl fun a F => qn F rfl fun a F => qn F rfl fun a F => qn F rfl fun a F => qn F rfl fun a F => ?_; refine qt F fun a F => ?_; refine qm F fun a F => qn F rfl fun a F => qn F rfl fun a F => qn F rfl fun a F => qn F rfl fun a F => qn F rfl fun a F => ?_; refine qt F fun a F => ?_; refine nil ?_; exact J101 c46 w47 a true (F.sub ⟨rfl, rfl, rfl, rfl, rfl, trivial⟩) E B h34 h37 h51 H
 replace H := im hb16 H; refine wct (fb F (congrArg not (bfalse hb16))) ?_
 as_aux_lemma =>
 refine sr fun K17 hK17 => qa F fun a F => nil (hK17 _ _ ?_); refine wp_ret ?_; refine thenR ?_; obtain rfl := si H; refine out1 F rfl rfl ?_; exact ⟨cf (ct m) c11, rfl, E.lv B0, cfb⟩
end Go.Proofs.Ytdnaoecfnjalgaa.G
namespace Go.Proofs.Ytdnaoecfnjalgaa.G
open Go Go.ChangeShapes Go.WideShapes
set_option linter.unusedVariables false
set_option linter.unusedSimpArgs false
theorem bulk_one {H : Type} (d : DataW H) : 1 ≤ Rows.uptoBulk d := by
 cases d with
 | lit l => cases l <;> simp [Rows.uptoBulk]
 | nil => simp [Rows.uptoBulk]
 | ptr d => simp [Rows.uptoBulk]
 | slice elems spare => simp [Rows.uptoBulk]
 | agg parts => simp [Rows.uptoBulk]
 | iface t d => simp [Rows.uptoBulk]
 | map entries => simp [Rows.uptoBulk]
 | held h => simp [Rows.uptoBulk]
theorem bulk_slice {H : Type} (elems spare : List (DataW H)) : Rows.uptoBulkAll elems + 1 ≤ Rows.uptoBulk (.slice elems spare) := by
 simp only [Rows.uptoBulk]
 omega
theorem bulk_agg {H : Type} (parts : List (DataW H)) : Rows.uptoBulkAll parts + 1 ≤ Rows.uptoBulk (.agg parts) := by
 simp only [Rows.uptoBulk]
 omega
theorem bulk_all {H : Type} : ∀ l : List (DataW H), Rows.uptoBulkAll l = (l.map Rows.uptoBulk).sum
 | [] => by simp [Rows.uptoBulkAll]
 | d :: l => by simp [Rows.uptoBulkAll, bulk_all l]
def c0 : Nat → Nat := fun _ => 0
def Opens {α : Type} (P : Program) (w : World) (t : TypeId) (e : K α) (wt : α → Nat) (ok : α → Prop) : Prop :=
 ∀ (H : Type) (enc : TypeId × Value → H) (fuel : Nat) (cs : List Value) (x : DataW H × List MemPlace), DataW.trod enc P w 0 (fun _ => true) true fuel t cs = some x → ∃ y, e.rep 0 c0 w cs y ∧ wt y ≤ Rows.uptoBulk x.1 ∧ ok y
section
variable {α : Type} {P : Program} {w : World} {t u : TypeId} {e : K α} {wt : α → Nat} {ok : α → Prop}
theorem opens_int {k : IntKind} (ht : P.underlying t = some (.int k)) : Opens P w t (Kint k) (fun _ => 1) (fun n => (Lit.int k n).wf = true) := by
 intro H enc fuel cs x h
 obtain ⟨n, rfl, rfl, hw⟩ := DataW.trod_int ht h
 exact ⟨n, rfl, bulk_one _, hw⟩
theorem opens_bool (ht : P.underlying t = some .bool) : Opens P w t Kbool (fun _ => 1) (fun _ => True) := by
 intro H enc fuel cs x h
 obtain ⟨n, rfl, rfl⟩ := DataW.trod_bool ht h
 exact ⟨n, rfl, bulk_one _, trivial⟩
theorem at_cell {p : Addr} {v : Value} (h : w.cell? p = some v) : p = ⟨p.block, p.off, none⟩ ∧ ∃ cur ty fz, w.heap[p.block]? = some (.cells cur ty fz) ∧ cur[p.off]? = some v := by
 obtain ⟨b, off, spot⟩ := p
 simp only [World.cell?] at h
 split at h
 ·rename_i c ty fz hb
  cases spot with
  | some s => simp at h
  | none => exact ⟨rfl, c, ty, fz, hb, by simpa using h⟩
 ·cases h
theorem at_cells {p : Addr} {n : Nat} {cs : List Value} (hn : cs.length = n) (hp : 0 < n) (h : ∀ i, i < n → w.cell? (p.add i) = cs[i]?) : AT false 0 c0 w p cs := by
 have h0 := h 0 hp
 have e0 : p.add 0 = p := by simp [Addr.add]
 rw [e0, List.getElem?_eq_getElem (by omega)] at h0
 obtain ⟨ep, cur, ty, fz, hb, hc⟩ := at_cell h0
 refine ⟨p.block, p.off, cur, ty, fz, ep, hb, rfl, fun k hk => ?_, fun q => by cases q⟩
 have hk' := h k (by omega)
 rw [ep, add_eq] at hk'
 simp only [World.cell?, hb] at hk'
 simpa using hk'
theorem sum_le {β γ : Type} (f : β → Nat) (g : γ → Nat) : ∀ (l : List β) (m : List γ), l.length = m.length → (∀ i (h : i < l.length) (h' : i < m.length), f l[i] ≤ g m[i]) → (l.map f).sum ≤ (m.map g).sum
 | [], [], _, _ => Nat.le_refl _
 | [], _ :: _, h, _ => by simp at h
 | _ :: _, [], h, _ => by simp at h
 | a :: l, b :: m, h, hh => by
  simp only [List.map_cons, List.sum_cons]
  have h0 := hh 0 (by simp) (by simp)
  simp only [List.getElem_cons_zero] at h0
  have := sum_le f g l m (by simpa using h) (fun i h1 h2 => by
   have := hh (i + 1) (by simp; omega) (by simp; omega)
   simpa using this)
  omega
theorem open_sl [Inhabited α] (ht : P.underlying t = some (.slice u)) (hc : P.cellsOf u = e.sz) (hu : Opens P w u e wt ok) {H : Type} {enc : TypeId × Value → H} {fuel : Nat} {cs : List Value} {x : DataW H × List MemPlace}
  (h : DataW.trod enc P w 0 (fun _ => true) true fuel t cs = some x) :
  ∃ A cap xs, cs = [.slice A xs.length cap] ∧ SL false e 0 0 c0 w A cap xs ∧ (xs.map wt).sum + 1 ≤ Rows.uptoBulk x.1 ∧ ∀ y ∈ xs, ok y := by
 rcases Deep.open_slice ht h with ⟨rfl, rfl⟩ | ⟨a, len, cap, m, n, D, Pl, rfl, _, hl, hm, hmm, rfl, hx⟩
 ·exact ⟨none, 0, [], rfl, SL.nil, by simp [Rows.uptoBulk], fun y hy => by cases hy⟩
 simp only [if_true] at hmm
 subst hmm
 have hp := e.pos
 rw [hc] at hx
 have each : ∀ i, i < m → ∃ y : List Value × α, (y.1.length = e.sz ∧ ∀ k, k < e.sz → w.cell? ((a.add (i * e.sz)).add k) = y.1[k]?) ∧ e.rep 0 c0 w y.1 y.2 ∧ wt y.2 ≤ Rows.uptoBulk (D i) ∧ ok y.2 := by
  intro i hi
  obtain ⟨cs', h1, h2⟩ := hx i hi
  obtain ⟨_, g1, g2⟩ := World.cells?_some h1
  obtain ⟨y, g3, g4, g5⟩ := hu H enc n cs' _ h2
  exact ⟨(cs', y), ⟨g1, g2⟩, g3, g4, g5⟩
 obtain ⟨y, hy⟩ := Deep.choose_lt each
 let V : Nat → Value := fun q => (y (q / e.sz)).1.getD (q % e.sz) default
 have hV : ∀ i k, k < e.sz → V (i * e.sz + k) = (y i).1.getD k default := by
  intro i k hk
  show (y ((i * e.sz + k) / e.sz)).1.getD ((i * e.sz + k) % e.sz) default = _
  rw [Nat.mul_comm, Nat.mul_add_div hp, Nat.div_eq_of_lt hk, Nat.add_zero, Nat.mul_add_mod, Nat.mod_eq_of_lt hk]
 let cs := (List.range (m * e.sz)).map V
 have hcs : cs.length = m * e.sz := by simp [cs]
 have hcell : ∀ q, q < m * e.sz → w.cell? (a.add q) = cs[q]? := by
  intro q hq
  have hi : q / e.sz < m := (Nat.div_lt_iff_lt_mul hp).2 hq
  have hk : q % e.sz < e.sz := Nat.mod_lt _ hp
  obtain ⟨⟨g1, g2⟩, _⟩ := hy _ hi
  have g := g2 _ hk
  have e1 : (a.add (q / e.sz * e.sz)).add (q % e.sz) = a.add q := by
   have e2 : q / e.sz * e.sz + q % e.sz = q := Nat.div_add_mod' q e.sz
   obtain ⟨b, off, s⟩ := a
   simp only [Addr.add]
   split <;> split <;> split <;> simp_all <;> omega
  rw [e1] at g
  rw [g]
  simp only [cs, List.getElem?_map, List.getElem?_range hq, Option.map_some]
  show _ = some ((y (q / e.sz)).1.getD (q % e.sz) default)
  rw [List.getD_eq_getElem?_getD, List.getElem?_eq_getElem (by omega)]
  rfl
 refine ⟨some a, m, (List.range len).map fun i => (y i).2, by simp, ⟨cs, by simpa using hl, hm, hcs, ?_, fun n hn => ?_⟩, ?_, ?_⟩
 ·rcases Nat.eq_zero_or_pos (m * e.sz) with q | q
  ·left; exact List.length_eq_zero_iff.1 (by omega)
  ·right; exact ⟨a, rfl, at_cells hcs q hcell⟩
 ·simp only [List.length_map, List.length_range] at hn
  obtain ⟨⟨g1, _⟩, g3, _, _⟩ := hy n (by omega)
  have e1 : (cs.drop (n * e.sz)).take e.sz = (y n).1 := by
   apply List.ext_getElem?
   intro k
   by_cases hk : k < e.sz
   ·have hq : n * e.sz + k < m * e.sz := by
     have : (n + 1) * e.sz ≤ m * e.sz := Nat.mul_le_mul_right _ (by omega)
     rw [Nat.succ_mul] at this; omega
    rw [List.getElem?_take_of_lt hk, List.getElem?_drop]
    simp only [cs, List.getElem?_map, List.getElem?_range hq, Option.map_some]
    rw [hV n k hk, List.getD_eq_getElem?_getD, List.getElem?_eq_getElem (by omega)]
    rfl
   ·rw [List.getElem?_eq_none (by simp; omega), List.getElem?_eq_none (by omega)]
  rw [e1]
  simpa using g3
 ·refine Nat.le_trans (Nat.succ_le_succ ?_) (bulk_slice _ _)
  rw [bulk_all]
  rw [List.map_map, List.map_map]
  have := sum_le (fun i => wt (y i).2) (fun i => Rows.uptoBulk (D i)) (List.range len) (List.range len) rfl (fun i h1 h2 => by
   simp only [List.length_range] at h1
   simp only [List.getElem_range]
   exact (hy i (by omega)).2.2.1)
  exact this
 ·intro z hz
  obtain ⟨i, hi, rfl⟩ := List.mem_map.1 hz
  exact (hy i (by have := List.mem_range.1 hi; omega)).2.2.2
theorem opens_slice [Inhabited α] (ht : P.underlying t = some (.slice u)) (hc : P.cellsOf u = e.sz) (hu : Opens P w u e wt ok) : Opens P w t (Kslice e) (fun xs => (xs.map wt).sum + 1) (fun xs => ∀ y ∈ xs, ok y) := by
 intro H enc fuel cs x h
 obtain ⟨A, cap, xs, h1, h2, h3, h4⟩ := open_sl ht hc hu h
 exact ⟨xs, ⟨A, cap, h1, h2⟩, h3, h4⟩
end
end Go.Proofs.Ytdnaoecfnjalgaa.G
namespace Go.Proofs.Ytdnaoecfnjalgaa.G
open Go Go.ChangeShapes Go.WideShapes
set_option linter.unusedVariables false
theorem row_own : ownKnob Try.prog.godebug = none := by kernel_rfl
theorem row_laidOut : laidOutB Try.prog = true := by kernel_rfl
def intok (n : Int) : Prop := (Lit.int .i64 n).wf = true
def byteok (n : Int) : Prop := (Lit.int .u8 n).wf = true
def bytesok (xs : List Int) : Prop := ∀ n ∈ xs, byteok n
theorem byteok.range {n : Int} (h : byteok n) : 0 ≤ n ∧ n ≤ 255 := by simpa [byteok, Lit.wf, IntKind.min, IntKind.max, IntKind.signed, IntKind.bits] using h
theorem sum_one {α : Type} (xs : List α) : (xs.map fun _ => 1).sum = xs.length := by
 induction xs with
 | nil => rfl
 | cons x xs ih => simp [ih]; omega
theorem mem_sum {α : Type} (f : α → Nat) : ∀ {xs : List α} {x : α}, x ∈ xs → f x ≤ (xs.map f).sum
 | y :: xs, x, h => by
  rcases List.mem_cons.1 h with e | h
  ·subst e; simp
  ·have := mem_sum f h; simp only [List.map_cons, List.sum_cons]; omega
theorem len_sum {α : Type} (f : α → Nat) (hf : ∀ x, 1 ≤ f x) : ∀ xs : List α, xs.length ≤ (xs.map f).sum
 | [] => Nat.le_refl _
 | x :: xs => by have := len_sum f hf xs; have := hf x; simp only [List.map_cons, List.sum_cons, List.length_cons]; omega
theorem cells_3 : Try.prog.cellsOf 3 = 1 := by kernel_rfl
theorem cells_4 : Try.prog.cellsOf 4 = 1 := by kernel_rfl
theorem cells_5 : Try.prog.cellsOf 5 = 1 := by kernel_rfl
theorem cells_23 : Try.prog.cellsOf 23 = 1 := by kernel_rfl
theorem cells_36 : Try.prog.cellsOf 36 = 3 := by kernel_rfl
theorem cells_69 : Try.prog.cellsOf 69 = 4 := by kernel_rfl
theorem opens_bytes {w : World} : Opens Try.prog w 23 (Kslice (Kint .u8)) (fun xs => xs.length + 1) bytesok := by
 intro H enc fuel cs x h
 obtain ⟨y, h1, h2, h3⟩ := opens_slice (e := Kint .u8) Try.underlying23 cells_5 (opens_int Try.underlying5) H enc fuel cs x h
 have h2' : (y.map fun _ => 1).sum + 1 ≤ Rows.uptoBulk x.1 := h2
 rw [sum_one] at h2'
 exact ⟨y, h1, h2', h3⟩
abbrev wt_api_Row (o : api_Row) : Nat := o.Key.length + o.Value.length + 1
def ok_api_Row (o : api_Row) : Prop := bytesok o.Key ∧ bytesok o.Value ∧ intok o.Rev
set_option maxRecDepth 100000 in
theorem opens_api_Row {w : World} : Opens Try.prog w 36 K_api_Row wt_api_Row ok_api_Row := by
 intro H enc fuel cs x h
 obtain ⟨xs, n, rfl, rfl, hl, hxl, hf⟩ := DataW.trod_struct Try.underlying36 h
 rw [cells_36] at hl
 match cs, hl with
 | [v0, v1, v2], _ =>
  match xs, hxl with
  | [x0, x1, x2], _ =>
   have g0 : DataW.trod enc Try.prog w 0 (fun _ => true) true n 23 (([v0, v1, v2].drop 0).take (Try.prog.cellsOf 23)) = some x0 := hf 0 _ rfl
   rw [cells_23] at g0
   replace g0 : DataW.trod enc Try.prog w 0 (fun _ => true) true n 23 [v0] = some x0 := g0
   obtain ⟨y0, ⟨A0, C0, e0, s0⟩, b0, k0⟩ := opens_bytes (w := w) H enc n _ _ g0
   have g1 : DataW.trod enc Try.prog w 0 (fun _ => true) true n 23 (([v0, v1, v2].drop 1).take (Try.prog.cellsOf 23)) = some x1 := hf 1 _ rfl
   rw [cells_23] at g1
   replace g1 : DataW.trod enc Try.prog w 0 (fun _ => true) true n 23 [v1] = some x1 := g1
   obtain ⟨y1, ⟨A1, C1, e1, s1⟩, b1, k1⟩ := opens_bytes (w := w) H enc n _ _ g1
   have g2 : DataW.trod enc Try.prog w 0 (fun _ => true) true n 3 (([v0, v1, v2].drop 2).take (Try.prog.cellsOf 3)) = some x2 := hf 2 _ rfl
   rw [cells_3] at g2
   replace g2 : DataW.trod enc Try.prog w 0 (fun _ => true) true n 3 [v2] = some x2 := g2
   obtain ⟨y2, r2, -, k2⟩ := opens_int (w := w) Try.underlying3 H enc n _ _ g2
   obtain rfl := List.head_eq_of_cons_eq e0
   obtain rfl := List.head_eq_of_cons_eq e1
   obtain rfl : v2 = .int .i64 y2 := List.head_eq_of_cons_eq r2
   refine ⟨⟨y0, y1, y2⟩, ⟨A0, C0, A1, C1, rfl, s0, s1⟩, ?_, ⟨k0, k1, k2⟩⟩
   refine Nat.le_trans ?_ (bulk_agg _)
   simp only [List.map_cons, List.map_nil, Rows.uptoBulkAll]
   have q0 : y0.length + 1 ≤ Rows.uptoBulk x0.1 := b0
   have q1 : y1.length + 1 ≤ Rows.uptoBulk x1.1 := b1
   have q2 := bulk_one x2.1
   show y0.length + y1.length + 1 ≤ _
   omega
abbrev wt_haulagelaw10_Change (o : haulagelaw10_Change) : Nat := wt_api_Row o.Row + 1
def ok_haulagelaw10_Change (o : haulagelaw10_Change) : Prop := ok_api_Row o.Row
set_option maxRecDepth 100000 in
theorem opens_haulagelaw10_Change {w : World} : Opens Try.prog w 69 K_haulagelaw10_Change wt_haulagelaw10_Change ok_haulagelaw10_Change := by
 intro H enc fuel cs x h
 obtain ⟨xs, n, rfl, rfl, hl, hxl, hf⟩ := DataW.trod_struct Try.underlying69 h
 rw [cells_69] at hl
 match cs, hl with
 | [v0, v1, v2, v3], _ =>
  match xs, hxl with
  | [x0, x1], _ =>
   have g0 : DataW.trod enc Try.prog w 0 (fun _ => true) true n 36 (([v0, v1, v2, v3].drop 0).take (Try.prog.cellsOf 36)) = some x0 := hf 0 _ rfl
   rw [cells_36] at g0
   replace g0 : DataW.trod enc Try.prog w 0 (fun _ => true) true n 36 [v0, v1, v2] = some x0 := g0
   obtain ⟨y0, ⟨m0_0, m0_1, m0_2, m0_3, e0, s0_0, s0_1⟩, b0, k0⟩ := opens_api_Row (w := w) H enc n _ _ g0
   have g1 : DataW.trod enc Try.prog w 0 (fun _ => true) true n 4 (([v0, v1, v2, v3].drop 3).take (Try.prog.cellsOf 4)) = some x1 := hf 1 _ rfl
   rw [cells_4] at g1
   replace g1 : DataW.trod enc Try.prog w 0 (fun _ => true) true n 4 [v3] = some x1 := g1
   obtain ⟨y1, r1, -, -⟩ := opens_bool (w := w) Try.underlying4 H enc n _ _ g1
   simp only [List.cons.injEq, and_true] at e0
   obtain ⟨rfl, rfl, rfl⟩ := e0
   obtain rfl : v3 = .bool y1 := List.head_eq_of_cons_eq r1
   refine ⟨⟨y0, y1⟩, ⟨m0_0, m0_1, m0_2, m0_3, rfl, s0_0, s0_1⟩, ?_, k0⟩
   refine Nat.le_trans ?_ (bulk_agg _)
   simp only [List.map_cons, List.map_nil, Rows.uptoBulkAll]
   have q0 : wt_api_Row y0 ≤ Rows.uptoBulk x0.1 := b0
   have q1 := bulk_one x1.1
   show wt_api_Row y0 + 1 ≤ _
   omega
theorem wt_haulagelaw10_Change_pos (o : haulagelaw10_Change) : 1 ≤ wt_haulagelaw10_Change o := by unfold wt_haulagelaw10_Change; omega
theorem arg_changes {H : Type} {enc : TypeId × Value → H} {w : World} {v : Value} {d : DataW H} {p : List MemPlace} (hv : ∃ a len cap, v = .slice a len cap) (h : DataW.Trod enc Try.prog w 0 (fun _ => true) true 22 v d p) :
  ∃ A C xs, v = .slice A xs.length C ∧ SL false K_haulagelaw10_Change 0 0 c0 w A C xs ∧ (xs.map wt_haulagelaw10_Change).sum + 1 ≤ Rows.uptoBulk d ∧ ∀ o ∈ xs, ok_haulagelaw10_Change o := by
 obtain ⟨a, len, cap, rfl⟩ := hv
 obtain ⟨fuel, hf⟩ := h
 obtain ⟨A, C, xs, e, h1, h2, h3⟩ := open_sl (e := K_haulagelaw10_Change) Try.underlying22 cells_69 opens_haulagelaw10_Change hf
 refine ⟨A, C, xs, ?_, h1, h2, h3⟩
 have e' : [Value.slice a len cap] = [.slice A xs.length C] := e
 exact List.head_eq_of_cons_eq e'
end Go.Proofs.Ytdnaoecfnjalgaa.G
namespace Go.Proofs.Ytdnaoecfnjalgaa.G
open Go
set_option linter.unusedVariables false
set_option linter.unusedSimpArgs false
theorem nmF_small : ∀ (f j n : Nat), n < 128 ^ (j + 1) → nmF f n ≤ j
 | 0, _, _, _ => Nat.zero_le _
 | f + 1, 0, n, h => by
  have : n < 128 := by simpa using h
  unfold nmF
  rw [if_pos (by omega)]
  exact Nat.le_refl _
 | f + 1, j + 1, n, h => by
  unfold nmF
  split
  ·omega
  ·have h2 : n / 128 < 128 ^ (j + 1) := by rw [Nat.pow_succ] at h; omega
   have := nmF_small f j (n / 128) h2
   omega
def fx (n : Nat) : List Int := fmP 10 n ++ [IntKind.u8.wrap (fmL 10 n)]
theorem fx_len (n : Nat) : (fx n).length = nmF 10 n + 1 := by unfold fx; rw [List.length_append, fmP_len]; rfl
theorem form_fx {k n : Nat} (hk : Fuel k) (hn : n < 18446744073709551616) : parcel_form.f k (n : Int) = some (fx n) := by
 have h24 : 1099511627776 ≤ k := hk
 have := nmF_le 10 n
 unfold parcel_form.f
 rw [if_pos (by decide), bind_eq (form_loop 10 n k _ (by omega) (by omega) (by simp))]
 unfold parcel_form.j2
 simp only [Int.toNat_zero, List.replicate_zero, List.nil_append]
 rw [if_pos (by rw [fmP_len]; simp; omega)]
 rfl
theorem Byte_eq {room : Int} {b : List Int} {x : Int} (h0 : 0 ≤ x) (h1 : x ≤ 255) (h2 : ((b.length + 1 : Nat) : Int) ≤ room) (h3 : room ≤ 1000000000000) : parcel_Writer_Byte.f (W room b) x = some (W room (b ++ [IntKind.u8.wrap x])) := by
 unfold parcel_Writer_Byte.f parcel_Writer_Byte.j1
 rw [if_neg (by omega), decide_eq_false (by omega), if_neg (by simp), bind_eq (lay_eq (by simpa using h2) h3)]
theorem Text_fx {k : Nat} (hk : Fuel k) {room : Int} {b a : List Int} (h1 : ((b.length + (fx a.length).length + a.length : Nat) : Int) ≤ room) (h2 : room ≤ 1000000000000) :
  parcel_Writer_Text.f k (W room b) a = some (W room (b ++ (fx a.length ++ a))) := by
 have hl := fx_len a.length
 have hn := nmF_le 10 a.length
 have e : ((b.length + (fx a.length ++ a).length : Nat) : Int) ≤ room := by rw [List.length_append]; omega
 unfold parcel_Writer_Text.f
 rw [wru (by omega) (by omega), bind_eq (form_fx hk (by omega)), bind_eq (concat_eq hk (by omega)), bind_eq (lay_eq e h2)]
def zz (x : Int) : Nat := (bxor .u64 (shl .u64 (IntKind.u64.wrap x) 1) (IntKind.u64.wrap (shr .i64 x 63))).toNat
theorem zz_eq (x : Int) : bxor .u64 (shl .u64 (IntKind.u64.wrap x) 1) (IntKind.u64.wrap (shr .i64 x 63)) = (zz x : Int) ∧ zz x < 18446744073709551616 := by
 obtain ⟨n, e, hn⟩ := u64_range (BitVec.ofInt 64 (shl .u64 (IntKind.u64.wrap x) 1) ^^^ BitVec.ofInt 64 (IntKind.u64.wrap (shr .i64 x 63))).toNat
 have e2 : bxor .u64 (shl .u64 (IntKind.u64.wrap x) 1) (IntKind.u64.wrap (shr .i64 x 63)) = (n : Int) := e
 unfold zz
 rw [e2]
 exact ⟨by simp, by simpa using hn⟩
theorem Int_eq {k : Nat} (hk : Fuel k) {room : Int} {b : List Int} (x : Int) (h1 : ((b.length + (fx (zz x)).length : Nat) : Int) ≤ room) (h2 : room ≤ 1000000000000) : parcel_Writer_Int.f k (W room b) x = some (W room (b ++ fx (zz x))) := by
 obtain ⟨e, h⟩ := zz_eq x
 unfold parcel_Writer_Int.f parcel_Writer_Num.f
 rw [e, bind_eq (form_fx hk h), bind_eq (lay_eq h1 h2)]
 rfl
def fnS (h b : Int) : Int := IntKind.u64.wrap ((bxor .u64 h (IntKind.u64.wrap b)) * 1099511628211)
def FN (l : List Int) : Int := l.foldl fnS 14695981039346656037
theorem fnS_range (h b : Int) : 0 ≤ fnS h b ∧ fnS h b < 18446744073709551616 := by
 obtain ⟨n, e, hn⟩ := u64_range ((bxor .u64 h (IntKind.u64.wrap b)) * 1099511628211)
 unfold fnS
 rw [e]; omega
theorem FN_range (l : List Int) : 0 ≤ FN l ∧ FN l < 18446744073709551616 := by
 have key : ∀ (l : List Int) (h : Int), 0 ≤ h ∧ h < 18446744073709551616 → 0 ≤ l.foldl fnS h ∧ l.foldl fnS h < 18446744073709551616 := by
  intro l
  induction l with
  | nil => intro h hh; exact hh
  | cons b l ih => intro h hh; exact ih _ (fnS_range h b)
 exact key l _ (by omega)
theorem fnv_eq {k : Nat} (hk : Fuel k) (p : List Int) (hp : p.length ≤ 1000000000) : seal_FNV.f k [p] = some (FN p) := by
 have h24 : 1099511627776 ≤ k := hk
 unfold seal_FNV.f
 have L := loop_inv (f := fun (s_ : Int × Int) => seal_FNV.b3 k [p] s_.1 s_.2) (I := fun i s => s.2 = (i : Int) ∧ s.1 = if i = 0 then 14695981039346656037 else FN p) (P := fun x => x = FN p) (N := 1) ?_ ?_ 1 0 (14695981039346656037, 0) k ⟨rfl, rfl⟩ rfl (by omega)
 ·obtain ⟨x, e, rfl⟩ := L
  rw [bind_eq e]; rfl
 ·rintro i ⟨h, j⟩ hi ⟨hj, hh⟩
  left
  simp only at hj hh; subst hj
  obtain rfl : i = 0 := by omega
  rw [if_pos rfl] at hh
  subst hh
  have e0 : rd [p] ((0 : Nat) : Int) = p := rfl
  have M := loop_inv (f := fun (s_ : Int × Int) => seal_FNV.b1 [p] ((0 : Nat) : Int) s_.1 s_.2) (I := fun i s => s.2 = (i : Int) ∧ s.1 = (p.take i).foldl fnS 14695981039346656037) (P := fun x => x = FN p) (N := p.length) ?_ ?_ p.length 0 (14695981039346656037, 0) k ⟨rfl, rfl⟩ (by omega) (by omega)
  ·obtain ⟨x, e, rfl⟩ := M
   simp only [seal_FNV.b3]
   rw [if_pos (by simp), if_pos (by simp), bind_eq e]
   exact ⟨_, rfl, rfl, rfl⟩
  ·rintro i ⟨h, j⟩ hi ⟨hj, hh⟩
   left
   simp only at hj hh; subst hj
   simp only [seal_FNV.b1]
   rw [e0, if_pos (by omega), if_pos (by omega), wrS i (by omega), rd_eq hi]
   refine ⟨_, rfl, rfl, ?_⟩
   rw [take_one hi, List.foldl_append, ← hh]; rfl
  ·rintro ⟨h, j⟩ ⟨hj, hh⟩
   simp only at hj hh; subst hj
   simp only [seal_FNV.b1]
   rw [e0, if_neg (by omega)]
   rw [List.take_length] at hh
   exact ⟨_, rfl, hh⟩
 ·rintro ⟨h, j⟩ ⟨hj, hh⟩
  simp only at hj hh; subst hj
  simp only [seal_FNV.b3]
  rw [if_neg (by simp)]
  exact ⟨_, rfl, hh⟩
def mk (bits n : Int) : Int := n % 2 ^ bits.toNat
theorem cut_eq {bits n : Int} (h1 : 1 ≤ bits) (h2 : bits ≤ 64) (h0 : 0 ≤ n) (hn : n < 18446744073709551616) : shr .u64 (shl .u64 n (IntKind.i64.wrap (64 - bits))) (IntKind.i64.wrap (64 - bits)) = mk bits n := by
 obtain ⟨n, rfl⟩ := Int.eq_ofNat_of_zero_le h0
 obtain ⟨s, hs⟩ : ∃ s : Nat, (s : Int) = 64 - bits := ⟨(64 - bits).toNat, by omega⟩
 have hb : bits.toNat = 64 - s := by omega
 rw [wr (by omega) (by omega), ← hs]
 unfold shl shr mk
 have hm : min s 64 = s := by omega
 simp only [Int.toNat_natCast, IntKind.bits, hm, hb]
 have e1 : IntKind.u64.wrap ((n : Int) * 2 ^ s) = ((n * 2 ^ s % 2 ^ 64 : Nat) : Int) := by
  simp only [IntKind.wrap, IntKind.bits, IntKind.signed]
  simp
 rw [e1]
 have e2 : (2 : Int) ^ s = ((2 ^ s : Nat) : Int) := by simp
 have e3 : (2 : Int) ^ (64 - s) = ((2 ^ (64 - s) : Nat) : Int) := by simp
 rw [e2, e3, Int.fdiv_eq_ediv_of_nonneg _ (Int.natCast_nonneg _)]
 have hp : 2 ^ 64 = 2 ^ (64 - s) * 2 ^ s := by rw [← Nat.pow_add]; congr 1; omega
 rw [hp, Nat.mul_mod_mul_right]
 rw [← Int.natCast_ediv, Nat.mul_div_cancel _ (Nat.two_pow_pos s), ← Int.natCast_emod]
theorem band_mask {n : Nat} {b : Nat} (hb : b ≤ 63) (hn : n < 18446744073709551616) : band .u64 (n : Int) ((2 ^ b - 1 : Nat) : Int) = ((n % 2 ^ b : Nat) : Int) := by
 have hlt : 2 ^ b < 2 ^ 64 := Nat.pow_lt_pow_right (by decide) (by omega)
 have hp := Nat.two_pow_pos b
 have hmod : n % 2 ^ b < 2 ^ b := Nat.mod_lt _ hp
 have e0 : (18446744073709551616 : Nat) = 2 ^ 64 := by decide
 unfold band
 have e1 : (BitVec.ofInt IntKind.u64.bits (n : Int) &&& BitVec.ofInt IntKind.u64.bits ((2 ^ b - 1 : Nat) : Int)).toNat = n % 2 ^ b := by
  rw [BitVec.toNat_and]
  simp only [BitVec.ofInt_natCast, BitVec.toNat_ofNat, IntKind.bits]
  rw [Nat.mod_eq_of_lt (by omega), Nat.mod_eq_of_lt (by omega), Nat.and_two_pow_sub_one_eq_mod]
 rw [e1]
 simp only [IntKind.wrap, IntKind.bits, IntKind.signed]
 simp
 have h2 : ((n % 2 ^ b : Nat) : Int) < 18446744073709551616 := by omega
 have h3 : ((n % 2 ^ b : Nat) : Int) = (n : Int) % 2 ^ b := by simp
 rw [← h3]
 exact Int.emod_eq_of_lt (by omega) h2
theorem mask_eq {bits n : Int} (h1 : 1 ≤ bits) (h2 : bits ≤ 64) (h0 : 0 ≤ n) (hn : n < 18446744073709551616) : haulagelaw10_mask.f n bits = some (mk bits n) := by
 obtain ⟨n, rfl⟩ := Int.eq_ofNat_of_zero_le h0
 unfold haulagelaw10_mask.f mk
 by_cases c : 64 ≤ bits
 ·obtain rfl : bits = 64 := by omega
  rw [if_pos c, Int.emod_eq_of_lt h0 (by simpa using hn)]
 ·obtain ⟨b, rfl⟩ := Int.eq_ofNat_of_zero_le (show 0 ≤ bits by omega)
  have e1 : IntKind.u64.wrap (b : Int) = b := wru (by omega) (by omega)
  have hb : b ≤ 63 := by omega
  have hlt : 2 ^ b < 2 ^ 64 := Nat.pow_lt_pow_right (by decide) (by omega)
  have hp := Nat.two_pow_pos b
  have e2 : shl .u64 1 (b : Int) = ((2 ^ b : Nat) : Int) := by
   unfold shl
   have hm : min b 64 = b := by omega
   simp only [Int.toNat_natCast, IntKind.bits, hm, Int.one_mul]
   have e3 : (2 : Int) ^ b = ((2 ^ b : Nat) : Int) := by simp
   rw [e3]
   simp only [IntKind.wrap, IntKind.bits, IntKind.signed]
   simp only [Bool.false_eq_true, if_false, false_and, Bool.and_false, Bool.false_and]
   have e0 : (2 : Int) ^ 64 = ((2 ^ 64 : Nat) : Int) := by simp
   first
    | exact Int.emod_eq_of_lt (by omega) (by omega)
    | (simp; exact Int.emod_eq_of_lt (by omega) (by omega))
  have e4 : IntKind.u64.wrap (((2 ^ b : Nat) : Int) - 1) = ((2 ^ b - 1 : Nat) : Int) := by
   have e5 : ((2 ^ b : Nat) : Int) - 1 = ((2 ^ b - 1 : Nat) : Int) := by omega
   have hm : ((2 ^ b : Nat) : Int) < 18446744073709551616 := by
    have : (18446744073709551616 : Nat) = 2 ^ 64 := by decide
    omega
   rw [e5]
   simp only [IntKind.wrap, IntKind.bits, IntKind.signed]
   simp only [Bool.false_eq_true, if_false, false_and, Bool.and_false, Bool.false_and]
   first
    | exact Int.emod_eq_of_lt (by omega) (by omega)
    | (simp; exact Int.emod_eq_of_lt (by omega) (by omega))
  rw [if_neg c, e1, if_pos (by omega), e2, e4, band_mask hb (by omega)]
  simp
def dk (k : Nat) (x : Int) : List Int := (parcel_downuint64.f k (List.replicate 8 (0 : Int)) x).getD []
theorem dk_eq {k : Nat} (hk : Fuel k) (x : Int) : parcel_downuint64.f k (List.replicate 8 (0 : Int)) x = some (dk k x) ∧ (dk k x).length = 8 := by
 obtain ⟨l, e, h⟩ := down_tot hk x
 unfold dk
 rw [e]
 exact ⟨rfl, h⟩
theorem Fixed_eq {k : Nat} (hk : Fuel k) {room : Int} {b : List Int} (x : Int) (h2 : ((b.length + 8 : Nat) : Int) ≤ room) (h3 : room ≤ 1000000000000) : parcel_Writer_Fixed.f k (W room b) x 8 = some (W room (b ++ dk k x)) := by
 obtain ⟨e, h⟩ := dk_eq hk x
 unfold parcel_Writer_Fixed.f parcel_Writer_Fixed.j1
 rw [if_neg (by omega), decide_eq_false (by omega), if_neg (by simp), if_pos (by omega), if_neg (by omega), if_neg (by omega), if_neg (by omega)]
 have e8 : (8 : Int).toNat = 8 := rfl
 rw [e8, bind_eq e, bind_eq (lay_eq (by rw [h]; exact h2) h3)]
def rowB (r : api_Row) : List Int := [IntKind.u8.wrap 1] ++ (fx r.Key.length ++ r.Key) ++ (fx r.Value.length ++ r.Value) ++ fx (zz r.Rev)
def hRow (bits : Int) (r : api_Row) : Int := mk bits (FN (rowB r))
def hPair (k : Nat) (bits a b : Int) : Int := mk bits (FN ([IntKind.u8.wrap 3] ++ dk k a ++ dk k b))
def bkB (k : Nat) (bits : Int) (R : List api_Row) : List Int := [IntKind.u8.wrap 2] ++ R.flatMap fun r => dk k (hRow bits r)
def hBk (k : Nat) (bits : Int) (R : List api_Row) : Int := mk bits (FN (bkB k bits R))
abbrev okb (bits : Int) : Prop := 1 ≤ bits ∧ bits ≤ 64
def RB (r : api_Row) : Prop := r.Key.length ≤ 2097152 ∧ r.Value.length ≤ 2097152 ∧ brange r.Key
theorem cutW {k : Nat} (hk : Fuel k) {bits room : Int} (hb : okb bits) {l : List Int} (hl : l.length ≤ 1000000000) : merkle_cut.f k (W room l) bits = some (mk bits (FN l)) := by
 obtain ⟨h0, h1⟩ := FN_range l
 unfold merkle_cut.f
 rw [bind_eq (done_eq (by omega)), bind_eq (fnv_eq hk l hl), if_pos (by rw [wr (by omega) (by omega)]; omega), if_pos (by rw [wr (by omega) (by omega)]; omega), cut_eq hb.1 hb.2 h0 h1]
theorem row_writes {k : Nat} (hk : Fuel k) {r : api_Row} (h : RB r) {x : Int} (hx : (r.Key.length : Int) + r.Value.length + 31 ≤ x) (hx2 : x ≤ 1000000000000) :
  ∃ w1 w2 w3, parcel_New.f x = some (W x []) ∧ parcel_Writer_Byte.f (W x []) 1 = some w1 ∧ parcel_Writer_Text.f k w1 r.Key = some w2 ∧ parcel_Writer_Text.f k w2 r.Value = some w3 ∧ parcel_Writer_Int.f k w3 r.Rev = some (W x (rowB r)) ∧ (rowB r).length ≤ 1000000000 := by
 obtain ⟨h1, h2, _⟩ := h
 have l1 := fx_len r.Key.length; have l2 := fx_len r.Value.length; have l3 := fx_len (zz r.Rev)
 have n1 := nmF_small 10 3 r.Key.length (by omega)
 have n2 := nmF_small 10 3 r.Value.length (by omega)
 have n3 := nmF_le 10 (zz r.Rev)
 refine ⟨_, _, _, ?_, Byte_eq (by omega) (by omega) (by simp; omega) hx2, Text_fx hk (by simp; omega) hx2, Text_fx hk (by simp; omega) hx2, ?_, ?_⟩
 ·unfold parcel_New.f
  rw [Int.max_eq_left (by omega)]
 ·rw [Int_eq hk r.Rev (by simp; omega) hx2]
  rfl
 ·unfold rowB
  simp only [List.length_append, List.length_singleton]
  omega
theorem ofRow_eq {k : Nat} (hk : Fuel k) {bits : Int} (hb : okb bits) {r : api_Row} (h : RB r) : merkle_ofRow.f k r bits = some (hRow bits r) := by
 have h1 := h.1; have h2 := h.2.1
 have e : IntKind.i64.wrap ((IntKind.i64.wrap ((r.Key.length : Int) + (r.Value.length : Int))) + 31) = (r.Key.length : Int) + r.Value.length + 31 := by
  rw [wr (n := (r.Key.length : Int) + (r.Value.length : Int)) (by omega) (by omega), wr (by omega) (by omega)]
 obtain ⟨w1, w2, w3, e0, e1, e2, e3, e4, hl⟩ := row_writes hk h (x := (r.Key.length : Int) + r.Value.length + 31) (by omega) (by omega)
 unfold merkle_ofRow.f
 rw [e, bind_eq e0, bind_eq e1, bind_eq e2, bind_eq e3, bind_eq e4, bind_eq (cutW hk hb hl)]
 rfl
theorem ofRow_law {k : Nat} (hk : Fuel k) {bits : Int} (hb : okb bits) {r : api_Row} (h : RB r) : haulagelaw10_ofRow.f k r bits = some (hRow bits r) := by
 have h1 := h.1; have h2 := h.2.1
 have e : IntKind.i64.wrap ((IntKind.i64.wrap ((r.Key.length : Int) + (r.Value.length : Int))) + 40) = (r.Key.length : Int) + r.Value.length + 40 := by
  rw [wr (n := (r.Key.length : Int) + (r.Value.length : Int)) (by omega) (by omega), wr (by omega) (by omega)]
 obtain ⟨w1, w2, w3, e0, e1, e2, e3, e4, hl⟩ := row_writes hk h (x := (r.Key.length : Int) + r.Value.length + 40) (by omega) (by omega)
 obtain ⟨g0, g1⟩ := FN_range (rowB r)
 unfold haulagelaw10_ofRow.f
 rw [e, bind_eq e0, bind_eq e1, bind_eq e2, bind_eq e3, bind_eq e4, bind_eq (done_eq (by omega)), bind_eq (fnv_eq hk _ hl), bind_eq (mask_eq hb.1 hb.2 g0 g1)]
 rfl
theorem pair_writes {k : Nat} (hk : Fuel k) (a b : Int) : ∃ w1 w2, parcel_New.f 17 = some (W 17 []) ∧ parcel_Writer_Byte.f (W 17 []) 3 = some w1 ∧ parcel_Writer_Fixed.f k w1 a 8 = some w2 ∧ parcel_Writer_Fixed.f k w2 b 8 = some (W 17 ([IntKind.u8.wrap 3] ++ dk k a ++ dk k b)) ∧ ([IntKind.u8.wrap 3] ++ dk k a ++ dk k b).length ≤ 1000000000 := by
 have l1 := (dk_eq hk a).2; have l2 := (dk_eq hk b).2
 refine ⟨_, _, ?_, Byte_eq (by omega) (by omega) (by simp) (by omega), Fixed_eq hk a (by simp) (by omega), ?_, ?_⟩
 ·unfold parcel_New.f
  rw [Int.max_eq_left (by omega)]
 ·rw [Fixed_eq hk b (by simp [l1]) (by omega)]
  rfl
 ·simp only [List.length_append, List.length_singleton]; omega
theorem ofPair_eq {k : Nat} (hk : Fuel k) {bits : Int} (hb : okb bits) (a b : Int) : merkle_ofPair.f k a b bits = some (hPair k bits a b) := by
 obtain ⟨w1, w2, e0, e1, e2, e3, hl⟩ := pair_writes hk a b
 unfold merkle_ofPair.f
 rw [bind_eq e0, bind_eq e1, bind_eq e2, bind_eq e3, bind_eq (cutW hk hb hl)]
 rfl
theorem ofPair_law {k : Nat} (hk : Fuel k) {bits : Int} (hb : okb bits) (a b : Int) : haulagelaw10_ofPair.f k a b bits = some (hPair k bits a b) := by
 obtain ⟨w1, w2, e0, e1, e2, e3, hl⟩ := pair_writes hk a b
 obtain ⟨g0, g1⟩ := FN_range ([IntKind.u8.wrap 3] ++ dk k a ++ dk k b)
 unfold haulagelaw10_ofPair.f
 rw [bind_eq e0, bind_eq e1, bind_eq e2, bind_eq e3, bind_eq (done_eq (by omega)), bind_eq (fnv_eq hk _ hl), bind_eq (mask_eq hb.1 hb.2 g0 g1)]
 rfl
theorem flat8 {k : Nat} (hk : Fuel k) (bits : Int) : ∀ R : List api_Row, (R.flatMap fun r => dk k (hRow bits r)).length = 8 * R.length
 | [] => rfl
 | r :: R => by
  rw [List.flatMap_cons, List.length_append, flat8 hk bits R, (dk_eq hk _).2, List.length_cons]; omega
theorem bkB_len {k : Nat} (hk : Fuel k) (bits : Int) (R : List api_Row) : (bkB k bits R).length = 8 * R.length + 1 := by
 unfold bkB
 rw [List.length_append, flat8 hk, List.length_singleton]; omega
abbrev RL (R : List api_Row) : Prop := R.length ≤ 4194304 ∧ ∀ r ∈ R, RB r
theorem ofBucket_eq {k : Nat} (hk : Fuel k) {bits : Int} (hb : okb bits) {R : List api_Row} (hR : RL R) : merkle_ofBucket.f k R bits = some (hBk k bits R) := by
 have h24 : 1099511627776 ≤ k := hk
 obtain ⟨hl, hR⟩ := hR
 have ex : IntKind.i64.wrap (1 + (IntKind.i64.wrap (8 * (R.length : Int)))) = 1 + 8 * (R.length : Int) := by rw [wr (n := 8 * (R.length : Int)) (by omega) (by omega), wr (by omega) (by omega)]
 have e0 : parcel_New.f (1 + 8 * (R.length : Int)) = some (W (1 + 8 * (R.length : Int)) []) := by
  unfold parcel_New.f
  rw [Int.max_eq_left (by omega)]
 unfold merkle_ofBucket.f
 rw [ex, bind_eq e0, bind_eq (Byte_eq (x := 2) (by omega) (by omega) (by simp; omega) (by omega))]
 have L := loop_inv (f := fun (s_ : (Option Wri) × Int) => merkle_ofBucket.b1 k R bits s_.1 s_.2) (I := fun i s => s.1 = W (1 + 8 * (R.length : Int)) (bkB k bits (R.take i)) ∧ s.2 = (i : Int)) (P := fun w => w = W (1 + 8 * (R.length : Int)) (bkB k bits R)) (N := R.length) ?_ ?_ R.length 0 (W (1 + 8 * (R.length : Int)) ([] ++ [IntKind.u8.wrap 2]), 0) k ⟨rfl, rfl⟩ (by omega) (by omega)
 ·obtain ⟨w, e, rfl⟩ := L
  rw [bind_eq e]
  unfold merkle_ofBucket.j2
  rw [bind_eq (cutW (l := bkB k bits R) hk hb (by rw [bkB_len hk]; omega))]
  rfl
 ·rintro i ⟨w, j⟩ hi ⟨hw, hj⟩
  left
  simp only at hj hw; subst hj hw
  have hlen : (R.take i).length = i := by simp; omega
  simp only [merkle_ofBucket.b1]
  rw [if_pos (by omega), if_pos (by omega), rd_eq hi, bind_eq (ofRow_eq hk hb (hR _ (List.getElem_mem hi))), bind_eq (Fixed_eq hk _ (by rw [bkB_len hk, hlen]; omega) (by omega)), wrS i (by omega)]
  refine ⟨_, rfl, ?_, rfl⟩
  simp only [bkB]
  rw [take_one hi, List.flatMap_append, List.append_assoc]
  simp
 ·rintro ⟨w, j⟩ ⟨hw, hj⟩
  simp only at hj hw; subst hj hw
  simp only [merkle_ofBucket.b1]
  rw [if_neg (by omega), List.take_length]
  exact ⟨_, rfl, rfl⟩
theorem ofRows_law {k : Nat} (hk : Fuel k) {bits : Int} (hb : okb bits) {R : List api_Row} (hR : RL R) : haulagelaw10_ofRows.f k R bits = some (hBk k bits R) := by
 have h24 : 1099511627776 ≤ k := hk
 obtain ⟨hl, hR⟩ := hR
 have ex : IntKind.i64.wrap ((IntKind.i64.wrap (8 * (R.length : Int))) + 1) = 1 + 8 * (R.length : Int) := by rw [wr (n := 8 * (R.length : Int)) (by omega) (by omega), wr (by omega) (by omega)]; omega
 have e0 : parcel_New.f (1 + 8 * (R.length : Int)) = some (W (1 + 8 * (R.length : Int)) []) := by
  unfold parcel_New.f
  rw [Int.max_eq_left (by omega)]
 obtain ⟨g0, g1⟩ := FN_range (bkB k bits R)
 have hbl := bkB_len hk bits R
 unfold haulagelaw10_ofRows.f
 rw [ex, bind_eq e0, bind_eq (Byte_eq (x := 2) (by omega) (by omega) (by simp; omega) (by omega))]
 have L := loop_inv (f := fun (s_ : (Option Wri) × Int) => haulagelaw10_ofRows.b1 k R bits s_.1 s_.2) (I := fun i s => s.1 = W (1 + 8 * (R.length : Int)) (bkB k bits (R.take i)) ∧ s.2 = (i : Int)) (P := fun w => w = W (1 + 8 * (R.length : Int)) (bkB k bits R)) (N := R.length) ?_ ?_ R.length 0 (W (1 + 8 * (R.length : Int)) ([] ++ [IntKind.u8.wrap 2]), 0) k ⟨rfl, rfl⟩ (by omega) (by omega)
 ·obtain ⟨w, e, rfl⟩ := L
  rw [bind_eq e]
  unfold haulagelaw10_ofRows.j2
  rw [bind_eq (done_eq (b := bkB k bits R) (by omega)), bind_eq (fnv_eq hk (bkB k bits R) (by omega)), bind_eq (mask_eq hb.1 hb.2 g0 g1)]
  rfl
 ·rintro i ⟨w, j⟩ hi ⟨hw, hj⟩
  left
  simp only at hj hw; subst hj hw
  have hlen : (R.take i).length = i := by simp; omega
  simp only [haulagelaw10_ofRows.b1]
  rw [if_pos (by omega), if_pos (by omega), rd_eq hi, bind_eq (ofRow_law hk hb (hR _ (List.getElem_mem hi))), bind_eq (Fixed_eq hk _ (by rw [bkB_len hk, hlen]; omega) (by omega)), wrS i (by omega)]
  refine ⟨_, rfl, ?_, rfl⟩
  simp only [bkB]
  rw [take_one hi, List.flatMap_append, List.append_assoc]
  simp
 ·rintro ⟨w, j⟩ ⟨hw, hj⟩
  simp only at hj hw; subst hj hw
  simp only [haulagelaw10_ofRows.b1]
  rw [if_neg (by omega), List.take_length]
  exact ⟨_, rfl, rfl⟩
def bkt (p : List Int) : Nat := (FN p % 256).toNat
theorem bkt_lt (p : List Int) : bkt p < 256 := by unfold bkt; omega
theorem bucket_eq {k : Nat} (hk : Fuel k) {p : List Int} (hp : p.length ≤ 1000000000) : merkle_bucket.f k p = some (bkt p : Int) := by
 obtain ⟨h0, h1⟩ := FN_range p
 have e : IntKind.u8.wrap (FN p) = (bkt p : Int) := by
  unfold bkt
  simp only [IntKind.wrap, IntKind.bits, IntKind.signed]
  simp
  omega
 have := bkt_lt p
 unfold merkle_bucket.f
 rw [bind_eq (fnv_eq hk p hp), e, wr (by omega) (by omega)]
theorem bucket_law {k : Nat} (hk : Fuel k) {p : List Int} (hp : p.length ≤ 1000000000) : haulagelaw10_bucket.f k p = some (256 + (bkt p : Int)) := by
 obtain ⟨h0, h1⟩ := FN_range p
 obtain ⟨n, hn⟩ := Int.eq_ofNat_of_zero_le h0
 have e : band .u64 (FN p) 255 = (bkt p : Int) := by
  have h2 := band_mask (n := n) (b := 8) (by omega) (by omega)
  rw [hn]
  have e1 : ((2 ^ 8 - 1 : Nat) : Int) = 255 := by decide
  rw [e1] at h2
  rw [h2]
  unfold bkt
  rw [hn]
  omega
 have := bkt_lt p
 unfold haulagelaw10_bucket.f
 rw [bind_eq (fnv_eq hk p hp), e, wr (n := (bkt p : Int)) (by omega) (by omega), wr (by omega) (by omega)]
def Srt (R : List api_Row) : Prop := R.Pairwise fun a b => cm a.Key b.Key = true
def lo (key : List Int) (R : List api_Row) : List api_Row := R.filter fun r => cm r.Key key
def hi (key : List Int) (R : List api_Row) : List api_Row := R.filter fun r => cm key r.Key
def md (key : List Int) (R : List api_Row) : List api_Row := R.filter fun r => decide (r.Key = key)
def putL (r : api_Row) (R : List api_Row) : List api_Row := lo r.Key R ++ r :: hi r.Key R
def delL (key : List Int) (R : List api_Row) : List api_Row := R.filter fun r => !decide (r.Key = key)
theorem filter_none {α : Type} {p : α → Bool} {l : List α} (h : ∀ x ∈ l, p x = false) : l.filter p = [] := by
 rw [List.filter_eq_nil_iff]; intro x hx; rw [h x hx]; exact Bool.false_ne_true
theorem filter_all {α : Type} {p : α → Bool} {l : List α} (h : ∀ x ∈ l, p x = true) : l.filter p = l := List.filter_eq_self.2 h
theorem Srt.split (key : List Int) : ∀ {R : List api_Row}, Srt R → R = lo key R ++ (md key R ++ hi key R) ∧ (md key R = [] ∨ ∃ x, md key R = [x] ∧ x.Key = key)
 | [], _ => ⟨rfl, .inl rfl⟩
 | r :: R, h => by
  have hr : ∀ x ∈ R, cm r.Key x.Key = true := (List.pairwise_cons.1 h).1
  have hR : Srt R := (List.pairwise_cons.1 h).2
  obtain ⟨h1, h2⟩ := Srt.split key hR
  cases c : cm r.Key key with
  | true =>
   have e1 : lo key (r :: R) = r :: lo key R := by simp [lo, c]
   have e2 : md key (r :: R) = md key R := by simp [md, cm_ne c]
   have e3 : hi key (r :: R) = hi key R := by simp [hi, cm_asym c]
   rw [e1, e2, e3]
   exact ⟨by rw [List.cons_append, ← h1], h2⟩
  | false =>
   have e1 : lo key (r :: R) = [] := by
    apply filter_none
    intro x hx
    rcases List.mem_cons.1 hx with rfl | hx
    ·exact c
    ·cases e : cm x.Key key with
     | false => rfl
     | true => have := cm_tr (hr x hx) e; rw [c] at this; cases this
   rw [e1, List.nil_append]
   by_cases e : r.Key = key
   ·have g : ∀ x ∈ R, cm key x.Key = true := fun x hx => e ▸ hr x hx
    have e2 : md key (r :: R) = [r] := by
     unfold md
     rw [List.filter_cons_of_pos (by simpa using e), filter_none]
     intro x hx
     have := cm_ne (g x hx)
     simpa using fun q => this q.symm
    have e3 : hi key (r :: R) = R := by
     unfold hi
     rw [List.filter_cons_of_neg (by rw [e, cm_irr]; exact Bool.false_ne_true), filter_all g]
    rw [e2, e3]
    exact ⟨rfl, .inr ⟨r, rfl, e⟩⟩
   ·have g0 : cm key r.Key = true := by
     cases q : cm key r.Key with
     | true => rfl
     | false => exact absurd (cm_tri c q) e
    have g : ∀ x ∈ r :: R, cm key x.Key = true := by
     intro x hx
     rcases List.mem_cons.1 hx with rfl | hx
     ·exact g0
     ·exact cm_tr g0 (hr x hx)
    have e2 : md key (r :: R) = [] := by
     apply filter_none
     intro x hx
     have := cm_ne (g x hx)
     simpa using fun q => this q.symm
    have e3 : hi key (r :: R) = r :: R := filter_all g
    rw [e2, e3]
    exact ⟨rfl, .inl rfl⟩
theorem lo_mem {key : List Int} {R : List api_Row} {x : api_Row} : x ∈ lo key R ↔ x ∈ R ∧ cm x.Key key = true := by simp [lo]
theorem hi_mem {key : List Int} {R : List api_Row} {x : api_Row} : x ∈ hi key R ↔ x ∈ R ∧ cm key x.Key = true := by simp [hi]
theorem Srt.filter {R : List api_Row} (h : Srt R) (p : api_Row → Bool) : Srt (R.filter p) := List.Pairwise.filter p h
theorem putL_srt {r : api_Row} {R : List api_Row} (h : Srt R) : Srt (putL r R) := by
 unfold putL
 refine List.pairwise_append.2 ⟨h.filter _, List.pairwise_cons.2 ⟨fun x hx => (hi_mem.1 hx).2, h.filter _⟩, fun a ha b hb => ?_⟩
 have h1 := (lo_mem.1 ha).2
 rcases List.mem_cons.1 hb with rfl | hb
 ·exact h1
 ·exact cm_tr h1 (hi_mem.1 hb).2
theorem putL_mem {r x : api_Row} {R : List api_Row} (h : x ∈ putL r R) : x = r ∨ x ∈ R := by
 rcases List.mem_append.1 h with h | h
 ·exact .inr (lo_mem.1 h).1
 ·rcases List.mem_cons.1 h with h | h
  ·exact .inl h
  ·exact .inr (hi_mem.1 h).1
theorem delL_eq {key : List Int} {R : List api_Row} (h : Srt R) : delL key R = lo key R ++ hi key R := by
 obtain ⟨h1, h2⟩ := h.split key
 have e1 : ∀ l : List api_Row, (∀ x ∈ l, x.Key ≠ key) → delL key l = l := fun l hl => filter_all fun x hx => by simpa using hl x hx
 have e2 : ∀ a b : List api_Row, delL key (a ++ b) = delL key a ++ delL key b := fun a b => List.filter_append ..
 have e3 : delL key R = delL key (lo key R ++ (md key R ++ hi key R)) := congrArg _ h1
 rw [e3, e2, e2, e1 _ (fun x hx => cm_ne (lo_mem.1 hx).2), e1 (hi key R) (fun x hx q => cm_ne (hi_mem.1 hx).2 q.symm)]
 congr 1
 have : delL key (md key R) = [] := filter_none fun x hx => by
  have : x.Key = key := by simpa using (List.mem_filter.1 hx).2
  simp [this]
 rw [this, List.nil_append]
theorem lo_len {key : List Int} {R : List api_Row} (h : Srt R) : (lo key R).length + (md key R).length + (hi key R).length = R.length := by
 have := congrArg List.length (h.split key).1
 simp only [List.length_append] at this
 omega
theorem idx_lt {key : List Int} {R : List api_Row} (h : Srt R) {q : Nat} (hq : q < R.length) : cm R[q].Key key = decide (q < (lo key R).length) := by
 obtain ⟨h1, h2⟩ := h.split key
 have e : R[q]? = (lo key R ++ (md key R ++ hi key R))[q]? := congrArg (fun l => l[q]?) h1
 rw [List.getElem?_eq_getElem hq] at e
 by_cases c : q < (lo key R).length
 ·rw [List.getElem?_append_left c, List.getElem?_eq_getElem c] at e
  rw [Option.some.inj e, (lo_mem.1 (List.getElem_mem c)).2, decide_eq_true c]
 ·rw [List.getElem?_append_right (by omega)] at e
  have hm : R[q] ∈ md key R ++ hi key R := List.mem_of_getElem? e.symm
  rw [decide_eq_false c]
  rcases List.mem_append.1 hm with hm | hm
  ·have : R[q].Key = key := by simpa using (List.mem_filter.1 hm).2
   rw [this, cm_irr]
  ·exact cm_asym (hi_mem.1 hm).2
theorem at_lo {key : List Int} {R : List api_Row} (h : Srt R) :
  (md key R = [] ∧ R = lo key R ++ hi key R ∧ ∀ (q : (lo key R).length < R.length), R[(lo key R).length].Key ≠ key) ∨
  (∃ x, md key R = [x] ∧ x.Key = key ∧ R = lo key R ++ x :: hi key R ∧ ∃ (q : (lo key R).length < R.length), R[(lo key R).length] = x) := by
 obtain ⟨h1, h2⟩ := h.split key
 rcases h2 with h2 | ⟨x, h2, hx⟩
 ·refine .inl ⟨h2, by rw [h2, List.nil_append] at h1; exact h1, fun q e => ?_⟩
  have hm : R[(lo key R).length] ∈ md key R := List.mem_filter.2 ⟨List.getElem_mem q, by simpa using e⟩
  rw [h2] at hm; cases hm
 ·rw [h2] at h1
  have hl := congrArg List.length h1
  simp only [List.length_append, List.length_cons, List.length_nil] at hl
  refine .inr ⟨x, h2, hx, h1, by omega, ?_⟩
  have e : R[(lo key R).length]? = (lo key R ++ ([x] ++ hi key R))[(lo key R).length]? := congrArg (fun l => l[(lo key R).length]?) h1
  rw [List.getElem?_eq_getElem (by omega), List.getElem?_append_right (by omega)] at e
  simpa using e
theorem mid_eq {i j : Nat} (h : i + j < 1000000000000) : IntKind.i64.wrap (shr .u64 (IntKind.u64.wrap (IntKind.i64.wrap ((i : Int) + (j : Int)))) 1) = (((i + j) / 2 : Nat) : Int) := by
 rw [wr (n := (i : Int) + (j : Int)) (by omega) (by omega), wru (by omega) (by omega)]
 unfold shr
 have : (2 : Int) ^ (min (1 : Int).toNat IntKind.u64.bits) = 2 := by decide
 rw [this, Int.fdiv_eq_ediv_of_nonneg _ (by omega), wr (by omega) (by omega)]
 omega
theorem search_loop {R : List api_Row} (hl : R.length ≤ 100000000000) (hs : Srt R) (hb : ∀ r ∈ R, brange r.Key) {t : api_Row} (ht : brange t.Key) : ∀ (n i j m : Nat), j - i ≤ n → n < m → i ≤ (lo t.Key R).length → (lo t.Key R).length ≤ j → j ≤ R.length →
  loop (fun (s_ : Int × Int) => slices_BinarySearchFunc.b1 R t s_.1 s_.2) m ((i : Int), (j : Int)) = some ((lo t.Key R).length : Int)
 | _, _, _, 0, _, h, _, _, _ => absurd h (by omega)
 | n, i, j, m + 1, hn, hm, h1, h2, h3 => by
  by_cases c : i < j
  ·obtain ⟨n, rfl⟩ : ∃ n', n = n' + 1 := ⟨n - 1, by omega⟩
   have hq : (i + j) / 2 < R.length := by omega
   have e0 := mid_eq (i := i) (j := j) (by omega)
   have ek := byKey_eq (hb _ (List.getElem_mem hq)) ht
   rw [idx_lt hs hq] at ek
   by_cases d : (i + j) / 2 < (lo t.Key R).length
   ·rw [loop_next (s' := ((((i + j) / 2 + 1 : Nat) : Int), (j : Int)))]
    ·exact search_loop hl hs hb ht n _ j m (by omega) (by omega) (by omega) h2 h3
    ·unfold slices_BinarySearchFunc.b1
     simp only
     rw [if_pos (by omega), e0, if_pos (by omega), rd_eq hq, bind_eq ek, if_pos (by rw [if_pos (by simpa using d)]; omega), wrS _ (by omega)]
   ·rw [loop_next (s' := ((i : Int), (((i + j) / 2 : Nat) : Int)))]
    ·exact search_loop hl hs hb ht n i _ m (by omega) (by omega) h1 (by omega) (by omega)
    ·unfold slices_BinarySearchFunc.b1
     simp only
     rw [if_pos (by omega), e0, if_pos (by omega), rd_eq hq, bind_eq ek, if_neg (by rw [if_neg (by simpa using d)]; split <;> omega)]
  ·have e : i = (lo t.Key R).length := by omega
   refine loop_done ?_
   unfold slices_BinarySearchFunc.b1
   simp only
   rw [if_neg (by omega), e]
def has (key : List Int) (R : List api_Row) : Bool := !(md key R).isEmpty
theorem search_eq {k : Nat} (hk : Fuel k) {R : List api_Row} (hl : R.length ≤ 100000000000) (hs : Srt R) (hb : ∀ r ∈ R, brange r.Key) {t : api_Row} (ht : brange t.Key) : slices_BinarySearchFunc.f k R t = some (((lo t.Key R).length : Int), has t.Key R) := by
 have h24 : 1099511627776 ≤ k := hk
 have hlen := lo_len (key := t.Key) hs
 unfold slices_BinarySearchFunc.f
 rw [show ((0 : Int), (R.length : Int)) = (((0 : Nat) : Int), (R.length : Int)) from rfl, bind_eq (search_loop hl hs hb ht R.length 0 R.length k (by omega) (by omega) (Nat.zero_le _) (by omega) (Nat.le_refl _))]
 unfold slices_BinarySearchFunc.j2 has
 rcases at_lo (key := t.Key) hs with ⟨h1, h2, h3⟩ | ⟨x, h1, hx, h2, q, h3⟩
 ·rw [h1]
  by_cases c : (lo t.Key R).length < R.length
  ·have ek := byKey_eq (hb _ (List.getElem_mem c)) ht
   rw [if_pos (by omega), if_pos (by omega), rd_eq c, bind_eq ek, if_neg (h3 c)]
   split <;> simp
  ·rw [if_neg (by omega)]; rfl
 ·rw [h1]
  have ek := byKey_eq (hb _ (List.getElem_mem q)) ht
  rw [if_pos (by omega), if_pos (by omega), rd_eq q, bind_eq ek, h3, hx, cm_irr]
  simp
theorem rising_eq {k : Nat} (hk : Fuel k) {R : List api_Row} (hl : R.length ≤ 100000000000) (hb : ∀ r ∈ R, brange r.Key) : ∃ b, merkle_rising.f k R = some b ∧ (b = true ↔ Srt R) := by
 have h24 : 1099511627776 ≤ k := hk
 unfold merkle_rising.f
 have L := loop_inv (f := fun (s_ : Int) => merkle_rising.b1 R s_) (I := fun i s => s = ((i + 1 : Nat) : Int) ∧ ∀ q (h : q + 1 < R.length), q < i → cm R[q].Key R[q + 1].Key = true) (P := fun x => (x = .inl () ∧ Srt R) ∨ (x = .inr false ∧ ¬ Srt R)) (N := R.length) ?_ ?_ R.length 0 1 k ⟨rfl, fun q _ h => absurd h (by omega)⟩ (by omega) (by omega)
 ·obtain ⟨x, e, ⟨rfl, h⟩ | ⟨rfl, h⟩⟩ := L
  ·rw [bind_eq e]; exact ⟨true, rfl, by simp [h]⟩
  ·rw [bind_eq e]; exact ⟨false, rfl, by simp [h]⟩
 ·rintro i _ hi ⟨rfl, hq⟩
  simp only [merkle_rising.b1]
  by_cases c : i + 1 < R.length
  ·have ek := byKey_eq (hb _ (List.getElem_mem (show i < R.length by omega))) (hb _ (List.getElem_mem c))
   have e1 : IntKind.i64.wrap (((i + 1 : Nat) : Int) - 1) = ((i : Nat) : Int) := by rw [wr (by omega) (by omega)]; omega
   rw [if_pos (by omega), e1, if_pos (by omega), if_pos (by omega), rd_eq (by omega : i < R.length), rd_eq c, bind_eq ek]
   cases d : cm R[i].Key R[i + 1].Key with
   | true =>
    rw [if_pos rfl, if_neg (by omega), wrS (i + 1) (by omega)]
    refine .inl ⟨_, rfl, rfl, fun q h hqi => ?_⟩
    rcases Nat.lt_or_ge q i with g | g
    ·exact hq q h g
    ·obtain rfl : q = i := by omega
     exact d
   | false =>
    rw [if_pos (by rw [if_neg (by simp)]; split <;> omega)]
    refine .inr ⟨_, rfl, .inr ⟨rfl, fun h => ?_⟩⟩
    have := List.pairwise_iff_getElem.1 h i (i + 1) (by omega) c (by omega)
    rw [d] at this; cases this
  ·rw [if_neg (by omega)]
   refine .inr ⟨_, rfl, .inl ⟨rfl, ?_⟩⟩
   refine List.pairwise_iff_getElem.2 fun a b ha hb hab => ?_
   have key : ∀ d (h : a + d + 1 < R.length), cm R[a].Key R[a + d + 1].Key = true := by
    intro d
    induction d with
    | zero => intro h; exact hq a h (by omega)
    | succ d ih => intro h; exact cm_tr (ih (by omega)) (hq (a + d + 1) h (by omega))
   obtain ⟨d, rfl⟩ : ∃ d, b = a + d + 1 := ⟨b - a - 1, by omega⟩
   exact key d hb
 ·rintro _ ⟨rfl, hq⟩
  simp only [merkle_rising.b1]
  rw [if_neg (by omega)]
  refine ⟨_, rfl, .inl ⟨rfl, ?_⟩⟩
  refine List.pairwise_iff_getElem.2 fun a b ha hb hab => ?_
  have key : ∀ d (h : a + d + 1 < R.length), cm R[a].Key R[a + d + 1].Key = true := by
   intro d
   induction d with
   | zero => intro h; exact hq a h (by omega)
   | succ d ih => intro h; exact cm_tr (ih (by omega)) (hq (a + d + 1) h (by omega))
  obtain ⟨d, rfl⟩ : ∃ d, b = a + d + 1 := ⟨b - a - 1, by omega⟩
  exact key d hb
def fbk (b : Nat) (R : List api_Row) : List api_Row := R.filter fun r => decide (bkt r.Key = b)
theorem flt_comm {α : Type} (p q : α → Bool) (l : List α) : (l.filter p).filter q = (l.filter q).filter p := by
 rw [List.filter_filter, List.filter_filter]
 congr 1
 funext x
 exact Bool.and_comm ..
theorem lo_fb (key : List Int) (b : Nat) (R : List api_Row) : lo key (fbk b R) = fbk b (lo key R) := flt_comm ..
theorem hi_fb (key : List Int) (b : Nat) (R : List api_Row) : hi key (fbk b R) = fbk b (hi key R) := flt_comm ..
theorem md_fb (key : List Int) (R : List api_Row) : md key (fbk (bkt key) R) = md key R := by
 unfold md fbk
 rw [flt_comm]
 apply filter_all
 intro x hx
 have : x.Key = key := by simpa using (List.mem_filter.1 hx).2
 rw [this]; simp
theorem fb_app (b : Nat) (l m : List api_Row) : fbk b (l ++ m) = fbk b l ++ fbk b m := List.filter_append ..
theorem fb_put (r : api_Row) (R : List api_Row) : fbk (bkt r.Key) (putL r R) = putL r (fbk (bkt r.Key) R) := by
 unfold putL
 rw [fb_app, lo_fb, hi_fb]
 congr 1
 unfold fbk
 rw [List.filter_cons_of_pos (by simp)]
theorem fb_put_ne {r : api_Row} {R : List api_Row} (h : Srt R) {b : Nat} (hb : b ≠ bkt r.Key) : fbk b (putL r R) = fbk b R := by
 obtain ⟨h1, h2⟩ := h.split r.Key
 have e1 : fbk b R = fbk b (lo r.Key R ++ (md r.Key R ++ hi r.Key R)) := congrArg _ h1
 have e2 : fbk b (md r.Key R) = [] := filter_none fun x hx => by
  have : x.Key = r.Key := by simpa using (List.mem_filter.1 hx).2
  rw [this]; simpa using fun q => hb q.symm
 rw [e1, fb_app, fb_app, e2, List.nil_append]
 unfold putL
 rw [fb_app]
 congr 1
 unfold fbk
 rw [List.filter_cons_of_neg (by simpa using fun q => hb q.symm)]
theorem fb_del (key : List Int) (b : Nat) (R : List api_Row) : fbk b (delL key R) = delL key (fbk b R) := flt_comm ..
theorem fb_del_ne {key : List Int} {b : Nat} (hb : b ≠ bkt key) (R : List api_Row) : fbk b (delL key R) = fbk b R := by
 rw [fb_del]
 apply filter_all
 intro x hx
 have h1 : bkt x.Key = b := by simpa [fbk] using (List.mem_filter.1 hx).2
 have : x.Key ≠ key := fun q => hb (by rw [← h1, q])
 simpa using this
theorem fb_len (b : Nat) (R : List api_Row) : (fbk b R).length ≤ R.length := List.length_filter_le ..
theorem fb_mem {b : Nat} {R : List api_Row} {x : api_Row} (h : x ∈ fbk b R) : x ∈ R := (List.mem_filter.1 h).1
theorem RL.fbk {R : List api_Row} (h : RL R) (b : Nat) : RL (fbk b R) := ⟨Nat.le_trans (fb_len b R) h.1, fun r hr => h.2 r (fb_mem hr)⟩
theorem RL.br {R : List api_Row} (h : RL R) : ∀ r ∈ R, brange r.Key := fun r hr => (h.2 r hr).2.2
theorem td {α : Type} {R l m : List α} (h : R = l ++ m) : R.take l.length = l ∧ R.drop l.length = m := by subst h; simp
theorem sx {α : Type} {R l m : List α} {x : α} (h : R = l ++ x :: m) (r : α) : R.set l.length r = l ++ r :: m ∧ R.take l.length = l ∧ R.drop (l.length + 1) = m := by
 subst h
 refine ⟨by simp, by simp, ?_⟩
 rw [← List.drop_drop, List.drop_left]; rfl
theorem own_eq {r : api_Row} (h1 : r.Key.length ≤ 1000000000) (h2 : r.Value.length ≤ 1000000000) : merkle_own.f r = some r := by
 unfold merkle_own.f bytes_Clone.f
 rw [if_pos (by omega), Option.bind_some, if_pos (by omega), Option.bind_some]
theorem own_RB {r : api_Row} (h : RB r) : merkle_own.f r = some r := own_eq (by have := h.1; omega) (by have := h.2.1; omega)
theorem rd_set {α : Type} [Inhabited α] (l : List α) (i n : Nat) (v : α) (hi : i < l.length) : rd (l.set i v) (n : Int) = if n = i then v else rd l (n : Int) := by
 unfold rd
 simp only [Int.toNat_natCast, List.getD_eq_getElem?_getD, List.getElem?_set]
 by_cases e : n = i
 ·subst e; simp [hi]
 ·rw [if_neg (fun q => e q.symm), if_neg e]
theorem tdiv2 (i : Nat) : Int.tdiv (i : Int) 2 = ((i / 2 : Nat) : Int) := (Int.ofNat_tdiv i 2).symm
def nodeOk (k : Nat) (bits : Int) (D : List Int) (n : Nat) : Prop := rd D (n : Int) = hPair k bits (rd D ((2 * n : Nat) : Int)) (rd D ((2 * n + 1 : Nat) : Int))
def offPath (i n : Nat) : Prop := ∀ s, n ≠ i / 2 ^ s
theorem offPath.half {i n : Nat} (h : offPath (i / 2) n) (hn : n ≠ i) : offPath i n := fun s => by
 cases s with
 | zero => simpa using hn
 | succ s =>
  have := h s
  rwa [Nat.div_div_eq_div_mul, Nat.mul_comm, ← Nat.pow_succ] at this
theorem climb {k : Nat} (hk : Fuel k) {bits : Int} (hb : okb bits) {ob : Mer} (ho : ob.bits = bits) : ∀ (s i m : Nat) (D : List Int), i < 2 ^ s → s < m → D.length = 512 → i < 256 → (∀ n : Nat, 1 ≤ n → n < 256 → offPath i n → nodeOk k bits D n) →
  ∃ D', loop (fun (s_ : Int × (List Int)) => merkle_Tree_changed.b2 k ob s_.1 s_.2) m ((i : Int), D) = some D' ∧ D'.length = 512 ∧ (∀ n : Nat, 1 ≤ n → n < 256 → nodeOk k bits D' n) ∧ ∀ n : Nat, 256 ≤ n → rd D' (n : Int) = rd D (n : Int)
 | _, _, 0, _, _, h, _, _, _ => absurd h (by omega)
 | s, 0, m + 1, D, hs, hm, hD, hi, hO => by
  refine ⟨D, loop_done ?_, hD, fun n h1 h2 => hO n h1 h2 (fun s => by rw [Nat.zero_div]; omega), fun _ _ => rfl⟩
  unfold merkle_Tree_changed.b2
  rw [if_neg (by simp)]
 | 0, i + 1, _ + 1, _, hs, _, _, _, _ => absurd hs (by simp)
 | s + 1, i + 1, m + 1, D, hs, hm, hD, hi, hO => by
  obtain ⟨q, hq⟩ : ∃ q, q = i + 1 := ⟨_, rfl⟩
  rw [← hq] at hs hi hO ⊢
  have hlt : q / 2 < 2 ^ s := by rw [Nat.pow_succ] at hs; omega
  have hv := ofPair_eq hk hb (rd D ((2 * q : Nat) : Int)) (rd D ((2 * q + 1 : Nat) : Int))
  obtain ⟨D', e, g1, g2, g3⟩ := climb hk hb ho s (q / 2) m (D.set q (hPair k bits (rd D ((2 * q : Nat) : Int)) (rd D ((2 * q + 1 : Nat) : Int)))) hlt (by omega) (by simpa using hD) (by omega) (fun n h1 h2 h3 => by
   have hql : q < D.length := by omega
   unfold nodeOk
   have n1 : ¬ (2 * n = q) := fun e => h3 0 (by simp; omega)
   have n2 : ¬ (2 * n + 1 = q) := fun e => h3 0 (by simp; omega)
   rw [rd_set D q n _ hql, rd_set D q (2 * n) _ hql, rd_set D q (2 * n + 1) _ hql, if_neg n1, if_neg n2]
   by_cases c : n = q
   ·rw [if_pos c, c]
   ·rw [if_neg c]; exact hO n h1 h2 (h3.half c))
  refine ⟨D', ?_, g1, g2, fun n hn => by rw [g3 n hn, rd_set D q n _ (by omega), if_neg (by omega)]⟩
  rw [loop_next (s' := (((q / 2 : Nat) : Int), D.set q (hPair k bits (rd D ((2 * q : Nat) : Int)) (rd D ((2 * q + 1 : Nat) : Int))))), e]
  have w1 : IntKind.i64.wrap (2 * (q : Int)) = ((2 * q : Nat) : Int) := by rw [wr (by omega) (by omega)]; omega
  have w2 : IntKind.i64.wrap (((2 * q : Nat) : Int) + 1) = ((2 * q + 1 : Nat) : Int) := by rw [wr (by omega) (by omega)]; omega
  have w3 : IntKind.i64.wrap (Int.tdiv (q : Int) 2) = ((q / 2 : Nat) : Int) := by rw [tdiv2, wr (by omega) (by omega)]
  unfold merkle_Tree_changed.b2
  simp only
  rw [if_pos (by omega), w1, w2, ho, if_pos (by omega), if_pos (by omega), bind_eq hv, if_pos (by omega), w3, Int.toNat_natCast]
structure MI (k : Nat) (bits : Int) (t : Mer) (R : List api_Row) : Prop where
 hbits : t.bits = bits
 many : t.many = (R.length : Int)
 rl : t.rows.length = 256
 rows : ∀ b : Nat, b < 256 → rd t.rows (b : Int) = fbk b R
 dl : t.digests.length = 512
 leaf : ∀ b : Nat, b < 256 → rd t.digests ((256 + b : Nat) : Int) = hBk k bits (fbk b R)
 node : ∀ n : Nat, 1 ≤ n → n < 256 → nodeOk k bits t.digests n
theorem changed_eq {k : Nat} (hk : Fuel k) {bits : Int} (hb : okb bits) {t : Mer} {R : List api_Row} {b : Nat} (hbl : b < 256) (h1 : t.bits = bits) (h2 : t.many = (R.length : Int)) (h3 : t.rows.length = 256) (h4 : ∀ b : Nat, b < 256 → rd t.rows (b : Int) = fbk b R) (h5 : t.digests.length = 512)
  (h6 : ∀ b' : Nat, b' < 256 → b' ≠ b → rd t.digests ((256 + b' : Nat) : Int) = hBk k bits (fbk b' R)) (h7 : ∀ n : Nat, 1 ≤ n → n < 256 → nodeOk k bits t.digests n) (hR : RL R) :
  ∃ t', merkle_Tree_changed.f k (some t) (b : Int) = some (some t') ∧ MI k bits t' R := by
 have h24 : 1099511627776 ≤ k := hk
 have ev : merkle_ofBucket.f k (rd t.rows (b : Int)) t.bits = some (hBk k bits (fbk b R)) := by rw [h4 b hbl, h1]; exact ofBucket_eq hk hb (hR.fbk b)
 have w1 : IntKind.i64.wrap (256 + (b : Int)) = ((256 + b : Nat) : Int) := by rw [wr (by omega) (by omega)]; omega
 have w2 : IntKind.i64.wrap (Int.tdiv ((256 + b : Nat) : Int) 2) = (((256 + b) / 2 : Nat) : Int) := by rw [tdiv2, wr (by omega) (by omega)]
 have hql : 256 + b < t.digests.length := by omega
 obtain ⟨D', e, g1, g2, g3⟩ := climb hk hb (ob := t) h1 8 ((256 + b) / 2) k (t.digests.set (256 + b) (hBk k bits (fbk b R))) (show (256 + b) / 2 < 256 by omega) (by omega) (by simpa using h5) (by omega) (fun n n1 n2 n3 => by
  have q0 := n3 0
  simp only [Nat.pow_zero, Nat.div_one] at q0
  unfold nodeOk
  rw [rd_set _ _ n _ hql, rd_set _ _ (2 * n) _ hql, rd_set _ _ (2 * n + 1) _ hql, if_neg (by omega), if_neg (by omega), if_neg (by omega)]
  exact h7 n n1 n2)
 refine ⟨Mer.mk t.bits D' t.rows t.many, ?_, h1, h2, h3, h4, g1, fun b' hb' => ?_, g2⟩
 ·unfold merkle_Tree_changed.f merkle_Tree_changed.j1
  rw [Option.bind_some, if_pos (by omega), bind_eq ev, w1, if_pos (by omega), w2, Int.toNat_natCast, bind_eq e]
  rfl
 ·show rd D' ((256 + b' : Nat) : Int) = _
  rw [g3 _ (by omega), rd_set _ _ _ _ hql]
  by_cases c : b' = b
  ·rw [if_pos (by omega), c]
  ·rw [if_neg (by omega)]; exact h6 b' hb' c
theorem at_eq {k : Nat} (hk : Fuel k) {bits : Int} {t : Mer} {R : List api_Row} (h : MI k bits t R) (hR : RL R) (hs : Srt R) {key : List Int} (hkl : key.length ≤ 1000000000) (hkb : brange key) :
  merkle_Tree_at.f k (some t) key = some ((bkt key : Int), ((lo key (fbk (bkt key) R)).length : Int), has key R) := by
 have hl := bkt_lt key
 have hf := hR.fbk (bkt key)
 have es : slices_BinarySearchFunc.f k (fbk (bkt key) R) (api_Row.mk key [] 0) = some (((lo key (fbk (bkt key) R)).length : Int), has key (fbk (bkt key) R)) := search_eq hk (R := fbk (bkt key) R) (by have := hf.1; omega) (hs.filter _) hf.br (t := api_Row.mk key [] 0) hkb
 unfold merkle_Tree_at.f
 rw [bind_eq (bucket_eq hk hkl), Option.bind_some, if_pos (by omega), h.rows (bkt key) hl, bind_eq es]
 simp only [has, md_fb]
theorem Get_eq {k : Nat} (hk : Fuel k) {bits : Int} {t : Mer} {R : List api_Row} (h : MI k bits t R) (hR : RL R) (hs : Srt R) {key : List Int} (hkl : key.length ≤ 1000000000) (hkb : brange key) :
  merkle_Tree_Get.f k (some t) key = some (match md key R with | [] => (api_Row.mk [] [] 0, false) | x :: _ => (x, true)) := by
 have hl := bkt_lt key
 unfold merkle_Tree_Get.f
 rw [if_neg (by simp), bind_eq (at_eq hk h hR hs hkl hkb)]
 dsimp only
 rcases at_lo (key := key) (hs.filter fun r => decide (bkt r.Key = bkt key)) with ⟨h1, h2, h3⟩ | ⟨x, h1, hx, h2, q, h3⟩
 ·have h1 : md key (fbk (bkt key) R) = [] := h1
  rw [md_fb] at h1
  have hh : ¬ has key R = true := by unfold has; rw [h1]; simp
  rw [if_neg hh, h1]
 ·have h1 : md key (fbk (bkt key) R) = [x] := h1
  have q : (lo key (fbk (bkt key) R)).length < (fbk (bkt key) R).length := q
  have h3 : (fbk (bkt key) R)[(lo key (fbk (bkt key) R)).length] = x := h3
  rw [md_fb] at h1
  have hm : x ∈ R := by
   have : x ∈ md key R := by rw [h1]; exact List.mem_singleton.2 rfl
   exact (List.mem_filter.1 this).1
  have hh : has key R = true := by unfold has; rw [h1]; simp
  rw [if_pos hh, h1, Option.bind_some, if_pos (by omega), h.rows (bkt key) hl, if_pos (by omega), rd_eq q, h3, bind_eq (own_RB (hR.2 x hm))]
theorem Digest_eq {t : Mer} {n : Nat} (h0 : 1 ≤ n) (h1 : n < 512) : merkle_Tree_Digest.f (some t) (n : Int) = some (rd t.digests (n : Int)) := by
 unfold merkle_Tree_Digest.f merkle_Tree_Digest.j1
 rw [if_neg (by simp), if_neg (by omega), decide_eq_false (by omega), if_neg (by simp), Option.bind_some, if_pos (by omega)]
theorem Root_eq {t : Mer} : merkle_Tree_Root.f (some t) = some (rd t.digests 1) := by
 unfold merkle_Tree_Root.f
 have := Digest_eq (t := t) (n := 1) (by omega) (by omega)
 have e1 : ((1 : Nat) : Int) = 1 := rfl
 rw [e1] at this
 rw [bind_eq this]
theorem put_len_has {r x : api_Row} {R : List api_Row} (hs : Srt R) (h : md r.Key R = [x]) : (putL r R).length = R.length := by
 have := lo_len (key := r.Key) hs
 rw [h] at this
 simp only [putL, List.length_append, List.length_cons, List.length_nil] at this ⊢
 omega
theorem put_len_new {r : api_Row} {R : List api_Row} (hs : Srt R) (h : md r.Key R = []) : (putL r R).length = R.length + 1 := by
 have := lo_len (key := r.Key) hs
 rw [h] at this
 simp only [putL, List.length_append, List.length_cons, List.length_nil] at this ⊢
 omega
theorem rd_rows {k : Nat} {bits : Int} {t : Mer} {R : List api_Row} (h : MI k bits t R) (b b' : Nat) (v : List api_Row) (hb : b < 256) : rd (t.rows.set b v) (b' : Int) = if b' = b then v else rd t.rows (b' : Int) := rd_set _ _ _ _ (by rw [h.rl]; exact hb)
theorem Put_eq {k : Nat} (hk : Fuel k) {bits : Int} (hb : okb bits) {t : Mer} {R : List api_Row} (h : MI k bits t R) (hR : RL R) (hR' : R.length + 1 ≤ 4194304) (hs : Srt R) {r : api_Row} (hr : RB r) :
  ∃ t', merkle_Tree_Put.f k (some t) r = some (some t') ∧ MI k bits t' (putL r R) ∧ RL (putL r R) ∧ Srt (putL r R) := by
 have hl := bkt_lt r.Key
 have hf := hR.fbk (bkt r.Key)
 have hkl : r.Key.length ≤ 1000000000 := by have := hr.1; omega
 have hRP : RL (putL r R) := by
  refine ⟨?_, fun x hx => ?_⟩
  ·rcases (hs.split r.Key).2 with q | ⟨x, q, _⟩
   ·rw [put_len_new hs q]; exact hR'
   ·rw [put_len_has hs q]; exact hR.1
  ·rcases putL_mem hx with rfl | hx
   ·exact hr
   ·exact hR.2 x hx
 have hrows : ∀ (v : List api_Row), v = putL r (fbk (bkt r.Key) R) → ∀ b : Nat, b < 256 → rd (t.rows.set (bkt r.Key) v) (b : Int) = fbk b (putL r R) := fun v hv b hb => by
  rw [rd_rows h _ _ _ hl]
  by_cases c : b = bkt r.Key
  ·rw [if_pos c, hv, c, fb_put]
  ·rw [if_neg c, h.rows b hb, fb_put_ne hs c]
 have hleaf : ∀ b' : Nat, b' < 256 → b' ≠ bkt r.Key → rd t.digests ((256 + b' : Nat) : Int) = hBk k bits (fbk b' (putL r R)) := fun b' hb' c => by rw [h.leaf b' hb', fb_put_ne hs c]
 unfold merkle_Tree_Put.f
 rw [if_neg (by simp), bind_eq (at_eq hk h hR hs hkl hr.2.2)]
 dsimp only
 rcases at_lo (key := r.Key) (hs.filter fun x => decide (bkt x.Key = bkt r.Key)) with ⟨h1, h2, h3⟩ | ⟨x, h1, hx, h2, q, h3⟩
 ·have h1 : md r.Key (fbk (bkt r.Key) R) = [] := h1
  have h2 : fbk (bkt r.Key) R = lo r.Key (fbk (bkt r.Key) R) ++ hi r.Key (fbk (bkt r.Key) R) := h2
  rw [md_fb] at h1
  have hlen := congrArg List.length h2
  rw [List.length_append] at hlen
  have hi1 := hf.1
  have ei : slices_Insert.f (fbk (bkt r.Key) R) ((lo r.Key (fbk (bkt r.Key) R)).length : Int) [r] = some (putL r (fbk (bkt r.Key) R)) := by
   unfold slices_Insert.f
   rw [if_pos ⟨by omega, by omega, rfl, by omega⟩]
   congr 1
   rw [Int.toNat_natCast]
   rw [(td h2).1, (td h2).2]
   unfold putL
   simp
  have hmany : IntKind.i64.wrap (t.many + 1) = ((putL r R).length : Int) := by rw [h.many, put_len_new hs h1, wr (by omega) (by omega)]; omega
  obtain ⟨t', e, g⟩ := changed_eq hk hb (t := Mer.mk t.bits t.digests (t.rows.set (bkt r.Key) (putL r (fbk (bkt r.Key) R))) ((putL r R).length : Int)) (R := putL r R) hl h.hbits rfl (by simpa using h.rl) (hrows _ rfl) h.dl hleaf h.node hRP
  refine ⟨t', ?_, g, hRP, putL_srt hs⟩
  have hh : ¬ has r.Key R = true := by unfold has; rw [h1]; simp
  rw [if_neg hh, Option.bind_some, if_pos (by omega), bind_eq (own_RB hr), h.rows (bkt r.Key) hl, bind_eq ei]
  unfold merkle_Tree_Put.j1
  simp only [Int.toNat_natCast]
  rw [hmany, bind_eq e]
 ·have h1 : md r.Key (fbk (bkt r.Key) R) = [x] := h1
  have h2 : fbk (bkt r.Key) R = lo r.Key (fbk (bkt r.Key) R) ++ x :: hi r.Key (fbk (bkt r.Key) R) := h2
  have q : (lo r.Key (fbk (bkt r.Key) R)).length < (fbk (bkt r.Key) R).length := q
  rw [md_fb] at h1
  have ei : (fbk (bkt r.Key) R).set (lo r.Key (fbk (bkt r.Key) R)).length r = putL r (fbk (bkt r.Key) R) := by
   exact (sx h2 r).1
  have hmany : t.many = ((putL r R).length : Int) := by rw [h.many, put_len_has hs h1]
  obtain ⟨t', e, g⟩ := changed_eq hk hb (t := Mer.mk t.bits t.digests (t.rows.set (bkt r.Key) (putL r (fbk (bkt r.Key) R))) t.many) (R := putL r R) hl h.hbits hmany (by simpa using h.rl) (hrows _ rfl) h.dl hleaf h.node hRP
  refine ⟨t', ?_, g, hRP, putL_srt hs⟩
  have hh : has r.Key R = true := by unfold has; rw [h1]; simp
  rw [if_pos hh, Option.bind_some, if_pos (by omega), bind_eq (own_RB hr), h.rows (bkt r.Key) hl, if_pos (by omega)]
  simp only [Int.toNat_natCast]
  rw [ei, bind_eq e]
theorem Delete_eq {k : Nat} (hk : Fuel k) {bits : Int} (hb : okb bits) {t : Mer} {R : List api_Row} (h : MI k bits t R) (hR : RL R) (hs : Srt R) {key : List Int} (hkl : key.length ≤ 1000000000) (hkb : brange key) :
  ∃ t', merkle_Tree_Delete.f k (some t) key = some (has key R, some t') ∧ MI k bits t' (delL key R) ∧ RL (delL key R) ∧ Srt (delL key R) := by
 have hl := bkt_lt key
 have hf := hR.fbk (bkt key)
 have hRD : RL (delL key R) := ⟨Nat.le_trans (List.length_filter_le ..) hR.1, fun x hx => hR.2 x (List.mem_filter.1 hx).1⟩
 have hSD : Srt (delL key R) := hs.filter _
 unfold merkle_Tree_Delete.f
 rw [if_neg (by simp), bind_eq (at_eq hk h hR hs hkl hkb)]
 dsimp only
 rcases at_lo (key := key) (hs.filter fun x => decide (bkt x.Key = bkt key)) with ⟨h1, h2, h3⟩ | ⟨x, h1, hx, h2, q, h3⟩
 ·have h1 : md key (fbk (bkt key) R) = [] := h1
  rw [md_fb] at h1
  have e : delL key R = R := filter_all fun x hx => by
   cases c : decide (x.Key = key) with
   | false => rfl
   | true =>
    have : x ∈ md key R := List.mem_filter.2 ⟨hx, c⟩
    rw [h1] at this; cases this
  have hh : ¬ has key R = true := by unfold has; rw [h1]; simp
  rw [if_neg hh, e]
  exact ⟨t, rfl, h, hR, hs⟩
 ·have h1 : md key (fbk (bkt key) R) = [x] := h1
  have h2 : fbk (bkt key) R = lo key (fbk (bkt key) R) ++ x :: hi key (fbk (bkt key) R) := h2
  have q : (lo key (fbk (bkt key) R)).length < (fbk (bkt key) R).length := q
  rw [md_fb] at h1
  have hf1 := hf.1
  have ed : slices_Delete.f (fbk (bkt key) R) ((lo key (fbk (bkt key) R)).length : Int) (IntKind.i64.wrap (((lo key (fbk (bkt key) R)).length : Int) + 1)) = some (delL key (fbk (bkt key) R)) := by
   rw [wrS _ (by omega)]
   unfold slices_Delete.f
   rw [if_pos ⟨by omega, by omega, by omega⟩, delL_eq (R := fbk (bkt key) R) (hs.filter _)]
   congr 1
   simp only [Int.toNat_natCast]
   rw [(sx h2 x).2.1, (sx h2 x).2.2]
  have hlen : R.length = (delL key R).length + 1 := by
   have := lo_len (key := key) hs
   rw [delL_eq hs, List.length_append]
   rw [h1] at this
   simp only [List.length_cons, List.length_nil] at this
   omega
  have hmany : IntKind.i64.wrap (t.many - 1) = ((delL key R).length : Int) := by
   have := hR.1
   rw [h.many, wr (by omega) (by omega)]; omega
  have hrows : ∀ b : Nat, b < 256 → rd (t.rows.set (bkt key) (delL key (fbk (bkt key) R))) (b : Int) = fbk b (delL key R) := fun b hb => by
   rw [rd_rows h _ _ _ hl]
   by_cases c : b = bkt key
   ·rw [if_pos c, c, fb_del]
   ·rw [if_neg c, h.rows b hb, fb_del_ne c]
  obtain ⟨t', e, g⟩ := changed_eq hk hb (t := Mer.mk t.bits t.digests (t.rows.set (bkt key) (delL key (fbk (bkt key) R))) ((delL key R).length : Int)) (R := delL key R) hl h.hbits rfl (by simpa using h.rl) hrows h.dl (fun b' hb' c => by rw [fb_del_ne c]; exact h.leaf b' hb') h.node hRD
  refine ⟨t', ?_, g, hRD, hSD⟩
  have hh : has key R = true := by unfold has; rw [h1]; simp
  rw [if_pos hh, Option.bind_some, if_pos (by omega), h.rows (bkt key) hl, bind_eq ed]
  unfold merkle_Tree_Delete.j1
  simp only [Int.toNat_natCast]
  rw [hmany, bind_eq e]
theorem fb_snoc (b : Nat) (l : List api_Row) (r : api_Row) : fbk b (l ++ [r]) = if bkt r.Key = b then fbk b l ++ [r] else fbk b l := by
 rw [fb_app]
 by_cases c : bkt r.Key = b
 ·rw [if_pos c]; congr 1; unfold fbk; rw [List.filter_cons_of_pos (by simpa using c)]; rfl
 ·rw [if_neg c]
  have : fbk b [r] = [] := by unfold fbk; rw [List.filter_cons_of_neg (by simpa using c)]; rfl
  rw [this, List.append_nil]
theorem New_eq {k : Nat} (hk : Fuel k) {bits : Int} (hb : okb bits) {R : List api_Row} (hR : RL R) (hs : Srt R) : ∃ t, merkle_New.f k R bits = some (some t, 0) ∧ MI k bits t R := by
 have h24 : 1099511627776 ≤ k := hk
 obtain ⟨b, eb, hbr⟩ := rising_eq hk (by have := hR.1; omega) hR.br
 have ht := hbr.2 hs
 subst ht
 have hRl := hR.1
 unfold merkle_New.f merkle_New.j1
 rw [if_neg (by omega), decide_eq_false (by omega), if_neg (by simp), bind_eq eb, if_pos rfl]
 have L := loop_inv (f := fun (s_ : Int × (List (List api_Row))) => merkle_New.b2 k R s_.1 s_.2) (I := fun i s => s.1 = (i : Int) ∧ s.2.length = 256 ∧ ∀ b : Nat, b < 256 → rd s.2 (b : Int) = fbk b (R.take i)) (P := fun x => x.length = 256 ∧ ∀ b : Nat, b < 256 → rd x (b : Int) = fbk b R) (N := R.length) ?_ ?_ R.length 0 (0, List.replicate 256 []) k ⟨rfl, List.length_replicate .., fun b hb => ?_⟩ (by omega) (by omega)
 ·obtain ⟨S, eS, hS, hB⟩ := L
  rw [bind_eq eS]
  unfold merkle_New.j3
  have M := loop_inv (f := fun (s_ : Int × (List Int)) => merkle_New.b4 k bits S s_.1 s_.2) (I := fun i s => s.1 = (i : Int) ∧ s.2.length = 512 ∧ ∀ b : Nat, b < i → rd s.2 ((256 + b : Nat) : Int) = hBk k bits (fbk b R)) (P := fun x => x.length = 512 ∧ ∀ b : Nat, b < 256 → rd x ((256 + b : Nat) : Int) = hBk k bits (fbk b R)) (N := 256) ?_ ?_ 256 0 (0, List.replicate 512 (0 : Int)) k ⟨rfl, List.length_replicate .., fun b h => absurd h (by omega)⟩ (by omega) (by omega)
  ·obtain ⟨D, eD, hD, hDl⟩ := M
   rw [bind_eq eD]
   unfold merkle_New.j5
   have O := loop_inv (f := fun (s_ : Int × (List Int)) => merkle_New.b6 k bits s_.1 s_.2) (I := fun i s => s.1 = 255 - (i : Int) ∧ s.2.length = 512 ∧ (∀ b : Nat, b < 256 → rd s.2 ((256 + b : Nat) : Int) = hBk k bits (fbk b R)) ∧ ∀ n : Nat, 255 - i < n → n < 256 → nodeOk k bits s.2 n) (P := fun x => x.length = 512 ∧ (∀ b : Nat, b < 256 → rd x ((256 + b : Nat) : Int) = hBk k bits (fbk b R)) ∧ ∀ n : Nat, 1 ≤ n → n < 256 → nodeOk k bits x n) (N := 255) ?_ ?_ 255 0 (255, D) k ⟨rfl, hD, hDl, fun n h h2 => absurd h (by omega)⟩ (by omega) (by omega)
   ·obtain ⟨D', eD', g1, g2, g3⟩ := O
    rw [bind_eq eD']
    exact ⟨_, rfl, rfl, rfl, hS, hB, g1, g2, g3⟩
   ·rintro i ⟨j, l⟩ hi ⟨hj, hl, hlf, hn⟩
    left
    simp only at hj hl hlf hn
    obtain ⟨q, hq⟩ : ∃ q : Nat, q = 255 - i := ⟨_, rfl⟩
    have hjq : j = (q : Int) := by omega
    subst hjq
    have w1 : IntKind.i64.wrap (2 * (q : Int)) = ((2 * q : Nat) : Int) := by rw [wr (by omega) (by omega)]; omega
    have w2 : IntKind.i64.wrap (((2 * q : Nat) : Int) + 1) = ((2 * q + 1 : Nat) : Int) := by rw [wr (by omega) (by omega)]; omega
    have en := ofPair_eq hk hb (rd l ((2 * q : Nat) : Int)) (rd l ((2 * q + 1 : Nat) : Int))
    have hql : q < l.length := by omega
    simp only [merkle_New.b6]
    rw [w1, w2, if_pos (by omega), if_pos (by omega), if_pos (by omega), bind_eq en, if_pos (by omega), wr (by omega) (by omega)]
    refine ⟨_, rfl, by simp only; omega, by simpa using hl, fun b hb => ?_, fun n h1 h2 => ?_⟩
    ·simp only [Int.toNat_natCast]
     rw [rd_set _ _ _ _ hql, if_neg (by omega)]; exact hlf b hb
    ·simp only [Int.toNat_natCast]
     unfold nodeOk
     rw [rd_set _ _ _ _ hql, rd_set _ _ _ _ hql, rd_set _ _ _ _ hql, if_neg (by omega : ¬ 2 * n = q), if_neg (by omega : ¬ 2 * n + 1 = q)]
     by_cases c : n = q
     ·rw [if_pos c, c]
     ·rw [if_neg c]; exact hn n (by omega) h2
   ·rintro ⟨j, l⟩ ⟨hj, hl, hlf, hn⟩
    simp only at hj hl hlf hn; subst hj
    simp only [merkle_New.b6]
    rw [if_neg (by omega)]
    exact ⟨_, rfl, hl, hlf, fun n h1 h2 => hn n (by omega) h2⟩
  ·rintro i ⟨j, l⟩ hi ⟨hj, hl, hlf⟩
   left
   simp only at hj hl hlf; subst hj
   have en : merkle_ofBucket.f k (rd S (i : Int)) bits = some (hBk k bits (fbk i R)) := by rw [hB i hi]; exact ofBucket_eq hk hb (hR.fbk i)
   have w1 : IntKind.i64.wrap (256 + (i : Int)) = ((256 + i : Nat) : Int) := by rw [wr (by omega) (by omega)]; omega
   simp only [merkle_New.b4]
   rw [if_pos (by omega), if_pos (by omega), bind_eq en, w1, if_pos (by omega), wrS i (by omega)]
   refine ⟨_, rfl, rfl, by simpa using hl, fun b hb => ?_⟩
   simp only [Int.toNat_natCast]
   rw [rd_set _ _ _ _ (by omega)]
   by_cases c : b = i
   ·rw [if_pos (by omega), c]
   ·rw [if_neg (by omega)]; exact hlf b (by omega)
  ·rintro ⟨j, l⟩ ⟨hj, hl, hlf⟩
   simp only at hj hl hlf; subst hj
   simp only [merkle_New.b4]
   rw [if_neg (by omega)]
   exact ⟨_, rfl, hl, hlf⟩
 ·rintro i ⟨j, S⟩ hi ⟨hj, hS, hB⟩
  left
  simp only at hj hS hB; subst hj
  have hr := hR.2 _ (List.getElem_mem hi)
  have hkl : R[i].Key.length ≤ 1000000000 := by have := hr.1; omega
  have hl := bkt_lt R[i].Key
  have hlen : (rd S ((bkt R[i].Key : Nat) : Int)).length ≤ 4194304 := by rw [hB _ hl]; have := fb_len (bkt R[i].Key) (R.take i); simp only [List.length_take] at this; omega
  simp only [merkle_New.b2]
  rw [if_pos (by omega), if_pos (by omega), rd_eq hi, bind_eq (bucket_eq hk hkl), if_pos (by omega), bind_eq (own_RB hr), if_pos (by simp only [List.length_singleton]; omega), wrS i (by omega)]
  refine ⟨_, rfl, rfl, by simpa using hS, fun b hb => ?_⟩
  simp only [Int.toNat_natCast]
  rw [rd_set _ _ _ _ (by omega), take_one hi, fb_snoc]
  by_cases c : b = bkt R[i].Key
  ·rw [if_pos c, if_pos c.symm, hB _ hl, c]
  ·rw [if_neg c, if_neg (fun q => c q.symm)]; exact hB b hb
 ·rintro ⟨j, S⟩ ⟨hj, hS, hB⟩
  simp only at hj hS hB; subst hj
  simp only [merkle_New.b2]
  rw [if_neg (by omega)]
  rw [List.take_length] at hB
  exact ⟨_, rfl, hS, hB⟩
 ·unfold rd
  simp only [Int.toNat_natCast, List.take_zero]
  rw [List.getD_eq_getElem?_getD, List.getElem?_replicate, if_pos hb]; rfl
theorem put_snoc {r : api_Row} {R : List api_Row} (h : ∀ x ∈ R, cm x.Key r.Key = true) : putL r R = R ++ [r] := by
 unfold putL
 have e1 : lo r.Key R = R := filter_all h
 have e2 : hi r.Key R = [] := filter_none fun x hx => cm_asym (h x hx)
 rw [e1, e2]
def sortL (X : List api_Row) : List api_Row := X.foldl (fun o r => putL r o) []
theorem sortL_snoc (X : List api_Row) (r : api_Row) : sortL (X ++ [r]) = putL r (sortL X) := by simp [sortL]
theorem sortL_take {R : List api_Row} (h : Srt R) : ∀ n, n ≤ R.length → sortL (R.take n) = R.take n
 | 0, _ => rfl
 | n + 1, hn => by
  rw [take_one (by omega), sortL_snoc, sortL_take h n (by omega)]
  apply put_snoc
  intro x hx
  obtain ⟨q, hq, rfl⟩ := List.getElem_of_mem hx
  have hq' : q < n := by simp at hq; omega
  rw [List.getElem_take]
  exact List.pairwise_iff_getElem.1 h q n (by omega) (by omega) hq'
theorem sortL_self {R : List api_Row} (h : Srt R) : sortL R = R := by
 have := sortL_take h R.length (Nat.le_refl _)
 rwa [List.take_length] at this
theorem sortL_srt : ∀ X : List api_Row, Srt (sortL X) := by
 intro X
 have key : ∀ (X o : List api_Row), Srt o → Srt (X.foldl (fun o r => putL r o) o) := by
  intro X
  induction X with
  | nil => intro o h; exact h
  | cons r X ih => intro o h; exact ih _ (putL_srt h)
 exact key X [] List.Pairwise.nil
theorem put_len_le {r : api_Row} {R : List api_Row} (hs : Srt R) : (putL r R).length ≤ R.length + 1 := by
 rcases (hs.split r.Key).2 with q | ⟨x, q, _⟩
 ·rw [put_len_new hs q]; omega
 ·rw [put_len_has hs q]; omega
theorem sortL_rl {X : List api_Row} (h : RL X) : (sortL X).length ≤ X.length ∧ ∀ r ∈ sortL X, RB r := by
 have key : ∀ (X o : List api_Row), Srt o → (∀ r ∈ X, RB r) → (∀ r ∈ o, RB r) → (X.foldl (fun o r => putL r o) o).length ≤ o.length + X.length ∧ ∀ r ∈ X.foldl (fun o r => putL r o) o, RB r := by
  intro X
  induction X with
  | nil => intro o _ _ h; exact ⟨Nat.le_refl _, h⟩
  | cons r X ih =>
   intro o hs h1 h2
   obtain ⟨g1, g2⟩ := ih (putL r o) (putL_srt hs) (fun x hx => h1 x (List.mem_cons_of_mem _ hx)) (fun x hx => by
    rcases putL_mem hx with rfl | hx
    ·exact h1 x (by simp)
    ·exact h2 x hx)
   have := put_len_le (r := r) hs
   exact ⟨by rw [List.foldl_cons, List.length_cons]; omega, g2⟩
 have := key X [] List.Pairwise.nil h.2 (fun r hr => by cases hr)
 simp only [List.length_nil, Nat.zero_add] at this
 exact this
theorem place_eq {k : Nat} (hk : Fuel k) {X out : List api_Row} (hX : RL X) (ho : Srt out) (hol : out.length ≤ 4194304) (hob : ∀ r ∈ out, RB r) {i : Nat} (hi : i < X.length) :
  loop (fun (s_ : Int) => haulagelaw10_sorted.b4 k X out (i : Int) s_) k 0 = some ((lo X[i].Key out).length : Int) := by
 have h24 : 1099511627776 ≤ k := hk
 have hXl := hX.1
 have hlen := lo_len (key := X[i].Key) ho
 have L := loop_inv (f := fun (s_ : Int) => haulagelaw10_sorted.b4 k X out (i : Int) s_) (I := fun q s => s = (q : Int)) (P := fun x => x = ((lo X[i].Key out).length : Int)) (N := (lo X[i].Key out).length) ?_ ?_ (lo X[i].Key out).length 0 0 k rfl (by omega) (by omega)
 ·obtain ⟨x, e, rfl⟩ := L
  exact e
 ·rintro q _ hq rfl
  left
  have hqo : q < out.length := by omega
  have ec := comes_eq hk out[q].Key X[i].Key (by have := (hob _ (List.getElem_mem hqo)).1; omega)
  rw [idx_lt ho hqo, decide_eq_true hq] at ec
  simp only [haulagelaw10_sorted.b4]
  rw [if_pos (by omega), if_pos (by omega), if_pos (by omega), rd_eq hqo, rd_eq hi, bind_eq ec]
  unfold haulagelaw10_sorted.j3
  rw [if_pos rfl, wrS q (by omega)]
  exact ⟨_, rfl, rfl⟩
 ·rintro _ rfl
  simp only [haulagelaw10_sorted.b4]
  by_cases c : (lo X[i].Key out).length < out.length
  ·have ec := comes_eq hk out[(lo X[i].Key out).length].Key X[i].Key (by have := (hob _ (List.getElem_mem c)).1; omega)
   rw [idx_lt ho c, decide_eq_false (by omega)] at ec
   rw [if_pos (by omega), if_pos (by omega), if_pos (by omega), rd_eq c, rd_eq hi, bind_eq ec]
   unfold haulagelaw10_sorted.j3
   rw [if_neg (by simp)]
   exact ⟨_, rfl, rfl⟩
  ·rw [if_neg (by omega)]
   unfold haulagelaw10_sorted.j3
   rw [if_neg (by simp)]
   exact ⟨_, rfl, rfl⟩
theorem sorted_eq {k : Nat} (hk : Fuel k) {X : List api_Row} (hX : RL X) : haulagelaw10_sorted.f k X = some (sortL X) := by
 have h24 : 1099511627776 ≤ k := hk
 have hXl := hX.1
 unfold haulagelaw10_sorted.f
 have L := loop_inv (f := fun (s_ : (List api_Row) × Int) => haulagelaw10_sorted.b7 k X s_.1 s_.2) (I := fun i s => s.1 = sortL (X.take i) ∧ s.2 = (i : Int)) (P := fun x => x = sortL X) (N := X.length) ?_ ?_ X.length 0 ([], 0) k ⟨rfl, rfl⟩ (by omega) (by omega)
 ·obtain ⟨x, e, rfl⟩ := L
  rw [bind_eq e]; rfl
 ·rintro i ⟨out, j⟩ hi ⟨ho, hj⟩
  left
  simp only at ho hj; subst hj
  have hTk : RL (X.take i) := ⟨by simp; omega, fun r hr => hX.2 r (List.mem_of_mem_take hr)⟩
  have hso : Srt out := by rw [ho]; exact sortL_srt _
  obtain ⟨hol, hob⟩ := sortL_rl hTk
  rw [← ho] at hol hob
  have hol' : out.length ≤ 4194304 := by have := hTk.1; omega
  have hlen := lo_len (key := X[i].Key) hso
  have hn : sortL (X.take (i + 1)) = putL X[i] out := by rw [take_one hi, sortL_snoc, ← ho]
  simp only [haulagelaw10_sorted.b7]
  rw [if_pos (by omega), bind_eq (place_eq hk hX hso hol' hob hi)]
  unfold haulagelaw10_sorted.j5
  have fin : (haulagelaw10_sorted.j6 X out (i : Int) ((lo X[i].Key out).length : Int) (has X[i].Key out)) = some (.next (putL X[i] out, ((i + 1 : Nat) : Int))) := by
   unfold haulagelaw10_sorted.j6
   rcases at_lo (key := X[i].Key) hso with ⟨h1, h2, h3⟩ | ⟨x, h1, hx, h2, q, h3⟩
   ·have hh : ¬ has X[i].Key out = true := by unfold has; rw [h1]; simp
    have ll := congrArg List.length h2
    simp only [List.length_append] at ll
    rw [if_neg hh, if_pos (by omega), if_pos (by simp only [List.length_take]; omega), if_pos (by omega), if_pos (by simp only [List.length_append, List.length_take, List.length_nil, List.length_singleton]; omega), if_pos (by omega), if_pos (by simp only [List.length_append, List.length_take, List.length_drop, List.length_nil, List.length_singleton, Int.toNat_natCast]; omega), wrS i (by omega), rd_eq hi]
    simp only [Int.toNat_natCast]
    rw [(td h2).1, (td h2).2]
    unfold putL
    simp
   ·have hh : has X[i].Key out = true := by unfold has; rw [h1]; simp
    rw [if_pos hh, if_pos (by omega), if_pos (by omega), wrS i (by omega), rd_eq hi]
    simp only [Int.toNat_natCast]
    rw [(sx h2 _).1]
    rfl
  by_cases c : (lo X[i].Key out).length < out.length
  ·have es := same_eq hk out[(lo X[i].Key out).length].Key X[i].Key (.inl (by have := (hob _ (List.getElem_mem c)).1; omega))
   have hsame : decide (out[(lo X[i].Key out).length].Key = X[i].Key) = has X[i].Key out := by
    unfold has
    rcases at_lo (key := X[i].Key) hso with ⟨h1, h2, h3⟩ | ⟨x, h1, hx, h2, q, h3⟩
    ·rw [h1]; simpa using h3 c
    ·rw [h1, h3]; simpa using hx
   rw [hsame] at es
   rw [if_pos (by omega), if_pos (by omega), if_pos (by omega), rd_eq c, rd_eq hi, bind_eq es, fin]
   exact ⟨_, rfl, hn.symm, rfl⟩
  ·have hh : has X[i].Key out = false := by
    unfold has
    rcases at_lo (key := X[i].Key) hso with ⟨h1, h2, h3⟩ | ⟨x, h1, hx, h2, q, h3⟩
    ·rw [h1]; rfl
    ·omega
   rw [hh] at fin
   rw [if_neg (by omega), fin]
   exact ⟨_, rfl, hn.symm, rfl⟩
 ·rintro ⟨out, j⟩ ⟨ho, hj⟩
  simp only at ho hj; subst hj
  simp only [haulagelaw10_sorted.b7]
  rw [if_neg (by omega)]
  rw [List.take_length] at ho
  exact ⟨_, rfl, ho⟩
abbrev CL (C : List haulagelaw10_Change) : Prop := C.length ≤ 2097152 ∧ ∀ c ∈ C, RB c.Row
def stepR (R : List api_Row) (c : haulagelaw10_Change) : List api_Row := if c.Goes = true then delL c.Row.Key R else putL c.Row R
def runR (C : List haulagelaw10_Change) : List api_Row := C.foldl stepR []
theorem has_len {key : List Int} {R : List api_Row} (hs : Srt R) : has key R = decide (((delL key R).length : Int) < (R.length : Int)) := by
 have h := lo_len (key := key) hs
 rw [delL_eq hs, List.length_append]
 unfold has
 rcases (hs.split key).2 with q | ⟨x, q, _⟩
 ·rw [q] at h ⊢
  simp only [List.length_nil] at h
  rw [decide_eq_false (by omega)]; rfl
 ·rw [q] at h ⊢
  simp only [List.length_cons, List.length_nil] at h
  rw [decide_eq_true (by omega)]; rfl
theorem left_eq {k : Nat} (hk : Fuel k) {C : List haulagelaw10_Change} (hC : CL C) {i : Nat} (hi : i < C.length) {R : List api_Row} (hR : RL R) :
  loop (fun (s_ : (List api_Row) × Int) => haulagelaw10_grown.b4 k C R (i : Int) s_.1 s_.2) k ([], 0) = some (delL C[i].Row.Key R) := by
 have h24 : 1099511627776 ≤ k := hk
 have hRl := hR.1
 have L := loop_inv (f := fun (s_ : (List api_Row) × Int) => haulagelaw10_grown.b4 k C R (i : Int) s_.1 s_.2) (I := fun q s => s.1 = delL C[i].Row.Key (R.take q) ∧ s.2 = (q : Int)) (P := fun x => x = delL C[i].Row.Key R) (N := R.length) ?_ ?_ R.length 0 ([], 0) k ⟨rfl, rfl⟩ (by omega) (by omega)
 ·obtain ⟨x, e, rfl⟩ := L
  exact e
 ·rintro q ⟨l, j⟩ hq ⟨hl, hj⟩
  left
  simp only at hl hj; subst hj
  have es := same_eq hk R[q].Key C[i].Row.Key (.inl (by have := (hR.2 _ (List.getElem_mem hq)).1; omega))
  have hll : l.length ≤ q := by
   rw [hl]
   refine Nat.le_trans (List.length_filter_le ..) ?_
   simp; omega
  have e2 : delL C[i].Row.Key (R.take (q + 1)) = if R[q].Key = C[i].Row.Key then l else l ++ [R[q]] := by
   rw [take_one hq, hl]
   unfold delL
   rw [List.filter_append]
   by_cases c : R[q].Key = C[i].Row.Key
   ·rw [if_pos c, List.filter_cons_of_neg (by simpa using c)]; simp
   ·rw [if_neg c, List.filter_cons_of_pos (by simpa using c)]; rfl
  simp only [haulagelaw10_grown.b4]
  rw [if_pos (by omega), if_pos (by omega), rd_eq hq, rd_eq hi, bind_eq es]
  by_cases c : R[q].Key = C[i].Row.Key
  ·rw [if_pos (by simpa using c), wrS q (by omega)]
   exact ⟨_, rfl, by rw [e2, if_pos c], rfl⟩
  ·rw [if_neg (by simpa using c), if_pos (by omega), if_pos (by simp only [List.length_singleton]; omega), wrS q (by omega)]
   exact ⟨_, rfl, by rw [e2, if_neg c], rfl⟩
 ·rintro ⟨l, j⟩ ⟨hl, hj⟩
  simp only at hl hj; subst hj
  simp only [haulagelaw10_grown.b4]
  rw [if_neg (by omega)]
  rw [List.take_length] at hl
  exact ⟨_, rfl, hl⟩
theorem grown_eq {k : Nat} (hk : Fuel k) {bits : Int} (hb : okb bits) {C : List haulagelaw10_Change} (hC : CL C) : ∃ t, haulagelaw10_grown.f k C bits = some (some t, runR C) ∧ MI k bits t (runR C) ∧ RL (runR C) ∧ Srt (runR C) ∧ (runR C).length ≤ C.length := by
 have h24 : 1099511627776 ≤ k := hk
 have hCl := hC.1
 obtain ⟨t0, e0, M0⟩ := New_eq hk hb (R := []) ⟨by simp, fun r hr => by cases hr⟩ List.Pairwise.nil
 unfold haulagelaw10_grown.f haulagelaw10_grown.j1
 rw [bind_eq e0]
 dsimp only
 rw [if_pos rfl, if_neg (by simp)]
 have L := loop_inv (f := fun (s_ : (Option Mer) × (List api_Row) × Int) => haulagelaw10_grown.b6 k C s_.1 s_.2.1 s_.2.2) (I := fun i s => s.2.1 = runR (C.take i) ∧ s.2.2 = (i : Int) ∧ (∃ t, s.1 = some t ∧ MI k bits t s.2.1) ∧ RL s.2.1 ∧ Srt s.2.1 ∧ s.2.1.length ≤ i) (P := fun x => ∃ t, x = .inl (some t, runR C) ∧ MI k bits t (runR C) ∧ RL (runR C) ∧ Srt (runR C) ∧ (runR C).length ≤ C.length) (N := C.length) ?_ ?_ C.length 0 (some t0, [], 0) k ⟨rfl, rfl, ⟨t0, rfl, M0⟩, ⟨by simp, fun r hr => by cases hr⟩, List.Pairwise.nil, Nat.le_refl _⟩ (by omega) (by omega)
 ·obtain ⟨x, e, t, rfl, h⟩ := L
  rw [bind_eq e]
  exact ⟨t, rfl, h⟩
 ·rintro i ⟨ot, R, j⟩ hi ⟨hr, hj, ⟨t, ht, hM⟩, hR, hs, hl⟩
  left
  simp only at hr hj ht hM hR hs hl; subst hj ht
  have hc := hC.2 _ (List.getElem_mem hi)
  have hkl : C[i].Row.Key.length ≤ 1000000000 := by have := hc.1; omega
  have hn : runR (C.take (i + 1)) = stepR R C[i] := by rw [hr]; unfold runR; rw [take_one hi, List.foldl_append]; rfl
  simp only [haulagelaw10_grown.b6]
  rw [if_pos (by omega), if_pos (by omega), rd_eq hi]
  by_cases c : C[i].Goes = true
  ·have hst : stepR R C[i] = delL C[i].Row.Key R := by unfold stepR; rw [if_pos c]
   obtain ⟨t', et, hM', hR', hs'⟩ := Delete_eq hk hb hM hR hs hkl hc.2.2
   rw [if_pos c, bind_eq (left_eq hk hC hi hR)]
   unfold haulagelaw10_grown.j5
   rw [rd_eq hi, bind_eq et]
   dsimp only
   rw [if_pos (by rw [has_len hs]; simp), wrS i (by omega)]
   exact ⟨_, rfl, by rw [hn, hst], rfl, ⟨t', rfl, hM'⟩, hR', hs', Nat.le_trans (List.length_filter_le ..) (by omega)⟩
  ·have hst : stepR R C[i] = putL C[i].Row R := by unfold stepR; rw [if_neg c]
   obtain ⟨t', et, hM', hR', hs'⟩ := Put_eq hk hb hM hR (by omega) hs hc
   have hRX : RL (R ++ [C[i].Row]) := ⟨by simp; omega, fun x hx => by
    rcases List.mem_append.1 hx with hx | hx
    ·exact hR.2 x hx
    ·rw [List.mem_singleton.1 hx]; exact hc⟩
   have eS : haulagelaw10_sorted.f k (R ++ [C[i].Row]) = some (putL C[i].Row R) := by rw [sorted_eq hk hRX, sortL_snoc, sortL_self hs]
   rw [if_neg c, bind_eq et, if_pos (by simp only [List.length_singleton]; omega), bind_eq eS, wrS i (by omega)]
   have := put_len_le (r := C[i].Row) hs
   exact ⟨_, rfl, by rw [hn, hst], rfl, ⟨t', rfl, hM'⟩, hR', hs', by show (putL C[i].Row R).length ≤ _; omega⟩
 ·rintro ⟨ot, R, j⟩ ⟨hr, hj, ⟨t, ht, hM⟩, hR, hs, hl⟩
  simp only at hr hj ht hM hR hs hl; subst hj ht
  rw [List.take_length] at hr
  simp only [haulagelaw10_grown.b6]
  rw [if_neg (by omega), hr]
  rw [hr] at hM hR hs hl
  exact ⟨_, rfl, t, rfl, hM, hR, hs, hl⟩
theorem owned_eq {k : Nat} (hk : Fuel k) {R : List api_Row} (hR : RL R) : merkle_owned.f k R = some R := by
 have h24 : 1099511627776 ≤ k := hk
 have hRl := hR.1
 unfold merkle_owned.f
 have L := loop_inv (f := fun (s_ : (List api_Row) × Int) => merkle_owned.b1 R s_.1 s_.2) (I := fun q s => s.1 = R.take q ∧ s.2 = (q : Int)) (P := fun x => x = R) (N := R.length) ?_ ?_ R.length 0 ([], 0) k ⟨rfl, rfl⟩ (by omega) (by omega)
 ·obtain ⟨x, e, rfl⟩ := L
  rw [bind_eq e]; rfl
 ·rintro q ⟨l, j⟩ hq ⟨hl, hj⟩
  left
  simp only at hl hj; subst hj
  have hll : l.length = q := by rw [hl]; simp; omega
  simp only [merkle_owned.b1]
  rw [if_pos (by omega), if_pos (by omega), rd_eq hq, bind_eq (own_RB (hR.2 _ (List.getElem_mem hq))), if_pos (by simp only [List.length_singleton]; omega), wrS q (by omega)]
  exact ⟨_, rfl, by rw [take_one hq, hl], rfl⟩
 ·rintro ⟨l, j⟩ ⟨hl, hj⟩
  simp only at hl hj; subst hj
  simp only [merkle_owned.b1]
  rw [if_neg (by omega)]
  rw [List.take_length] at hl
  exact ⟨_, rfl, hl⟩
structure PathOk (D : List Int) (b : Nat) (L : List Int) : Prop where
 len : L.length = 8
 at_ : ∀ j : Nat, j < 8 → rd L (j : Int) = rd D ((sib ((256 + b) / 2 ^ j) : Nat) : Int)
def zeroR : api_Row := api_Row.mk [] [] 0
def told (key : List Int) (R : List api_Row) : api_Row × Bool := match md key R with | [] => (zeroR, false) | x :: _ => (x, true)
theorem Get_told {k : Nat} (hk : Fuel k) {bits : Int} {t : Mer} {R : List api_Row} (h : MI k bits t R) (hR : RL R) (hs : Srt R) {key : List Int} (hkl : key.length ≤ 1000000000) (hkb : brange key) :
  merkle_Tree_Get.f k (some t) key = some (told key R) := by
 rw [Get_eq hk h hR hs hkl hkb]
 unfold told
 cases md key R <;> rfl
end Go.Proofs.Ytdnaoecfnjalgaa.G
namespace Go.Proofs.Ytdnaoecfnjalgaa.G
open Go
set_option maxRecDepth 100000 in
theorem awake_true : haulagelaw10_awake.f 1099511627776 = some true := by kernel_rfl
end Go.Proofs.Ytdnaoecfnjalgaa.G
namespace Go.Proofs.Ytdnaoecfnjalgaa.G
open Go
set_option linter.unusedVariables false
set_option linter.unusedSimpArgs false
theorem round_eq (w : Int) : ∃ n, haulagelaw10_round.f w 64 = some n ∧ 0 ≤ n ∧ n < 64 := by
 have h1 := Int.tmod_lt_of_pos w (show (0 : Int) < 64 by decide)
 have h2 : -64 < Int.tmod w 64 := Int.lt_tmod_of_pos w (by decide)
 unfold haulagelaw10_round.f
 rw [if_pos (by decide)]
 split
 ·exact ⟨_, rfl, by rw [wr (by omega) (by omega)]; omega, by rw [wr (by omega) (by omega)]; omega⟩
 ·exact ⟨_, rfl, by omega, h1⟩
theorem bits_eq (w : Int) : ∃ n, haulagelaw10_round.f w 64 = some n ∧ okb (IntKind.i64.wrap (1 + n)) := by
 obtain ⟨n, e, h0, h1⟩ := round_eq w
 exact ⟨n, e, by rw [wr (by omega) (by omega)]; omega, by rw [wr (by omega) (by omega)]; omega⟩
theorem told_cases (key : List Int) {R : List api_Row} (hR : RL R) (hs : Srt R) : (told key R = (zeroR, false) ∧ has key R = false ∧ ∀ r ∈ R, r.Key ≠ key) ∨ ∃ x, told key R = (x, true) ∧ has key R = true ∧ x ∈ R ∧ x.Key = key ∧ ∀ r ∈ R, r.Key = key → r = x := by
 rcases (hs.split key).2 with q | ⟨x, q, hx⟩
 ·refine .inl ⟨by unfold told; rw [q], by unfold has; rw [q]; rfl, fun r hr e => ?_⟩
  have : r ∈ md key R := List.mem_filter.2 ⟨hr, by simpa using e⟩
  rw [q] at this; cases this
 ·have hm : x ∈ md key R := by rw [q]; exact List.mem_singleton.2 rfl
  refine .inr ⟨x, by unfold told; rw [q], by unfold has; rw [q]; rfl, (List.mem_filter.1 hm).1, hx, fun r hr e => ?_⟩
  have : r ∈ md key R := List.mem_filter.2 ⟨hr, by simpa using e⟩
  rw [q] at this
  exact List.mem_singleton.1 this
end Go.Proofs.Ytdnaoecfnjalgaa.G
namespace Go.Proofs.Ytdnaoecfnjalgaa.G
open Go Go.ChangeShapes Go.WideShapes
set_option linter.unusedVariables false
theorem key_br {xs : List Int} (h : ∀ n ∈ xs, (Lit.int .u8 n).wf = true) : brange xs := fun n hn => byteok.range (h n hn)
theorem row_RB {r : api_Row} {s : Nat} (hs : wt_api_Row r ≤ s) (hb : s ≤ 1048576) (h : ok_api_Row r) : RB r := by
 have h1 : r.Key.length + r.Value.length + 1 ≤ s := hs
 exact ⟨by omega, by omega, key_br h.1⟩
theorem arg_CL {C : List haulagelaw10_Change} (hs : (C.map wt_haulagelaw10_Change).sum ≤ 1048576) (h : ∀ o ∈ C, ok_haulagelaw10_Change o) : CL C := by
 have hl := len_sum wt_haulagelaw10_Change wt_haulagelaw10_Change_pos C
 refine ⟨by omega, fun c hc => ?_⟩
 have h1 := mem_sum wt_haulagelaw10_Change hc
 have h2 : wt_api_Row c.Row + 1 ≤ (C.map wt_haulagelaw10_Change).sum := h1
 exact row_RB (s := (C.map wt_haulagelaw10_Change).sum) (by omega) hs (h c hc)
end Go.Proofs.Ytdnaoecfnjalgaa.G
namespace Go.Proofs.Ytdnaoecfnjalgaa.G
open Go
set_option linter.unusedVariables false
set_option linter.unusedSimpArgs false
theorem flt_or {α : Type} (p q : α → Bool) : ∀ l : List α, (∀ x ∈ l, p x = true → q x = false) → (l.filter p ++ l.filter q).Perm (l.filter fun x => p x || q x)
 | [], _ => .refl _
 | x :: l, h => by
  have ih := flt_or p q l fun y hy => h y (List.mem_cons_of_mem _ hy)
  have hx := h x (List.mem_cons_self ..)
  simp only [List.filter_cons]
  cases hp : p x with
  | true =>
   rw [hx hp]
   simpa using ih.cons x
  | false =>
   cases hq : q x with
   | false => simpa using ih
   | true =>
    simp only [Bool.or_true, if_true]
    exact (List.perm_middle).trans (ih.cons x)
theorem fbk_perm (R : List api_Row) : ∀ n, ((List.range n).flatMap fun b => fbk b R).Perm (R.filter fun r => decide (bkt r.Key < n))
 | 0 => by simp
 | n + 1 => by
  rw [List.range_succ, List.flatMap_append, List.flatMap_singleton]
  refine ((fbk_perm R n).append_right _).trans ?_
  refine (flt_or _ _ R fun x _ h => ?_).trans (List.Perm.of_eq ?_)
  ·simp only [decide_eq_true_eq] at h
   simp only [decide_eq_false_iff_not]; omega
  ·congr 1
   funext x
   rw [← Bool.decide_or]
   exact decide_eq_decide.2 (by omega)
theorem rows_map {S : List (List api_Row)} {R : List api_Row} (h : S.length = 256) (hB : ∀ b : Nat, b < 256 → rd S (b : Int) = fbk b R) : S = (List.range 256).map fun b => fbk b R := by
 apply List.ext_getElem
 ·simp [h]
 ·intro n h1 h2
  have := hB n (by omega)
  rw [rd_eq h1] at this
  simpa using this
theorem rows_perm {S : List (List api_Row)} {R : List api_Row} (h : S.length = 256) (hB : ∀ b : Nat, b < 256 → rd S (b : Int) = fbk b R) : S.flatten.Perm R := by
 rw [rows_map h hB, ← List.flatMap_def]
 refine (fbk_perm R 256).trans (List.Perm.of_eq (filter_all fun x _ => ?_))
 have := bkt_lt x.Key
 simpa using this
theorem flen_le {S : List (List api_Row)} (h : ∀ x ∈ S, x.length ≤ 4194304) : ∀ n, (S.take n).flatten.length ≤ n * 4194304 := by
 intro n
 induction n with
 | zero => simp
 | succ n ih =>
  by_cases c : n < S.length
  ·rw [take_one c, List.flatten_append, List.length_append]
   have := h _ (List.getElem_mem c)
   simp only [List.flatten_cons, List.flatten_nil, List.append_nil]
   omega
  ·rw [List.take_of_length_le (by omega)] at ih ⊢; exact Nat.le_trans ih (Nat.mul_le_mul_right _ (Nat.le_succ n))
theorem Concat_eq {k : Nat} (hk : Fuel k) {S : List (List api_Row)} (h1 : S.length ≤ 1000) (h2 : ∀ x ∈ S, x.length ≤ 4194304) : slices_ConcathaulageapiRowhaulageapiRow.f k S = some S.flatten := by
 have h24 : 1099511627776 ≤ k := hk
 unfold slices_ConcathaulageapiRowhaulageapiRow.f
 have L := loop_inv (f := fun (s_ : Int × Int) => slices_ConcathaulageapiRowhaulageapiRow.b1 S s_.1 s_.2) (I := fun q s => s.1 = ((S.take q).flatten.length : Int) ∧ s.2 = (q : Int)) (P := fun x => x = (S.flatten.length : Int)) (N := S.length) ?_ ?_ S.length 0 (0, 0) k ⟨rfl, rfl⟩ (by omega) (by omega)
 ·obtain ⟨x, e, rfl⟩ := L
  have hF := flen_le h2 S.length
  rw [List.take_length] at hF
  rw [bind_eq e]
  unfold slices_ConcathaulageapiRowhaulageapiRow.j2 slices_GrowRow.f
  rw [if_pos ⟨by omega, by omega, rfl⟩, Option.bind_some]
  have M := loop_inv (f := fun (s_ : (List api_Row) × Int) => slices_ConcathaulageapiRowhaulageapiRow.b3 S s_.1 s_.2) (I := fun q s => s.1 = (S.take q).flatten ∧ s.2 = (q : Int)) (P := fun x => x = S.flatten) (N := S.length) ?_ ?_ S.length 0 ([], 0) k ⟨rfl, rfl⟩ (by omega) (by omega)
  ·obtain ⟨x, e, rfl⟩ := M
   rw [bind_eq e]; rfl
  ·rintro q ⟨l, j⟩ hq ⟨hl, hj⟩
   left
   simp only at hl hj; subst hj
   have hll := flen_le h2 q
   rw [← hl] at hll
   have hx := h2 _ (List.getElem_mem hq)
   simp only [slices_ConcathaulageapiRowhaulageapiRow.b3]
   rw [if_pos (by omega), if_pos (by omega), rd_eq hq, if_pos (by omega), wrS q (by omega)]
   exact ⟨_, rfl, by rw [take_one hq, List.flatten_append, hl]; simp, rfl⟩
  ·rintro ⟨l, j⟩ ⟨hl, hj⟩
   simp only at hl hj; subst hj
   simp only [slices_ConcathaulageapiRowhaulageapiRow.b3]
   rw [if_neg (by omega)]
   rw [List.take_length] at hl
   exact ⟨_, rfl, hl⟩
 ·rintro q ⟨l, j⟩ hq ⟨hl, hj⟩
  left
  simp only at hl hj; subst hj
  have hll := flen_le h2 q
  have hx := h2 _ (List.getElem_mem hq)
  have hw : IntKind.i64.wrap (l + (S[q].length : Int)) = ((S.take (q + 1)).flatten.length : Int) := by
   rw [wr (by omega) (by omega), take_one hq, List.flatten_append, List.length_append, hl]; simp
  simp only [slices_ConcathaulageapiRowhaulageapiRow.b1]
  rw [if_pos (by omega), if_pos (by omega), rd_eq hq, hw, if_neg (by omega), wrS q (by omega)]
  exact ⟨_, rfl, rfl, rfl⟩
 ·rintro ⟨l, j⟩ ⟨hl, hj⟩
  simp only at hl hj; subst hj
  simp only [slices_ConcathaulageapiRowhaulageapiRow.b1]
  rw [if_neg (by omega)]
  rw [List.take_length] at hl
  exact ⟨_, rfl, hl⟩
theorem Srt.nodup {R : List api_Row} (h : Srt R) : (R.map (·.Key)).Nodup := by
 unfold List.Nodup
 rw [List.pairwise_map]
 exact h.imp fun {a b} h => cm_ne h
theorem Rows_eq {k : Nat} (hk : Fuel k) {bits : Int} {t : Mer} {R : List api_Row} (h : MI k bits t R) (hR : RL R) (hs : Srt R) : merkle_Tree_Rows.f k (some t) = some R := by
 have hp := rows_perm h.rl h.rows
 have hF : RL t.rows.flatten := ⟨by rw [hp.length_eq]; exact hR.1, fun r hr => hR.2 r (hp.mem_iff.1 hr)⟩
 have hn : (t.rows.flatten.map (·.Key)).Nodup := (hp.map _).nodup_iff.2 hs.nodup
 have hx : ∀ x ∈ t.rows, x.length ≤ 4194304 := fun x hx => by
  rw [rows_map h.rl h.rows, List.mem_map] at hx
  obtain ⟨b, _, rfl⟩ := hx
  exact Nat.le_trans (fb_len b R) hR.1
 unfold merkle_Tree_Rows.f
 rw [if_neg (by simp), Option.bind_some, bind_eq (Concat_eq hk (by rw [h.rl]; decide) hx), bind_eq (owned_eq hk hF)]
 unfold slices_SortRow.f
 rw [if_pos ⟨fun r hr => hF.br r hr, hn, by have := hF.1; omega⟩, Option.bind_some, ← srtK_eq hn hp.symm hs]
theorem sameRows_eq {k : Nat} (hk : Fuel k) {R : List api_Row} (hR : RL R) : haulagelaw10_sameRows.f k R R = some true := by
 have h24 : 1099511627776 ≤ k := hk
 have hRl := hR.1
 unfold haulagelaw10_sameRows.f
 rw [if_pos rfl]
 have L := loop_inv (f := fun (s_ : Int) => haulagelaw10_sameRows.b1 k R R s_) (I := fun q s => s = (q : Int)) (P := fun x => x = .inl ()) (N := R.length) ?_ ?_ R.length 0 0 k rfl (by omega) (by omega)
 ·obtain ⟨x, e, rfl⟩ := L
  rw [bind_eq e]; rfl
 ·rintro q j hq hj
  left
  subst hj
  have hr := hR.2 _ (List.getElem_mem hq)
  simp only [haulagelaw10_sameRows.b1]
  rw [if_pos (by omega), if_pos (by omega), if_pos (by omega), rd_eq hq, bind_eq (sameRow_eq hk _ _ (by have := hr.1; omega) (by have := hr.2.1; omega)), if_pos (by simp), wrS q (by omega)]
  exact ⟨_, rfl, rfl⟩
 ·rintro j hj
  subst hj
  simp only [haulagelaw10_sameRows.b1]
  rw [if_neg (by omega)]
  exact ⟨_, rfl, rfl⟩
theorem Digest_zero {t : Mer} {n : Int} (h : n < 1 ∨ 512 ≤ n) : merkle_Tree_Digest.f (some t) n = some 0 := by
 unfold merkle_Tree_Digest.f merkle_Tree_Digest.j1
 rw [if_neg (by simp)]
 by_cases c : n < 1
 ·rw [if_pos c]; rfl
 ·rw [if_neg c, decide_eq_true (by omega)]; rfl
theorem told_at {R : List api_Row} (hR : RL R) (hs : Srt R) {i : Nat} (hi : i < R.length) : told R[i].Key R = (R[i], true) := by
 have hm := List.getElem_mem hi
 rcases told_cases R[i].Key hR hs with ⟨_, _, h⟩ | ⟨x, h, _, _, _, h2⟩
 ·exact absurd rfl (h _ hm)
 ·rw [h, h2 _ hm rfl]
def bkn (R : List api_Row) (n : Nat) : List api_Row := if n < 256 then [] else fbk (n - 256) R
theorem bkn_snoc (n : Nat) (l : List api_Row) (r : api_Row) : bkn (l ++ [r]) n = if n = 256 + bkt r.Key then bkn l n ++ [r] else bkn l n := by
 unfold bkn
 by_cases c : n < 256
 ·rw [if_pos c, if_pos c, if_neg (by omega)]
 ·rw [if_neg c, if_neg c, fb_snoc]
  by_cases e : bkt r.Key = n - 256
  ·rw [if_pos e, if_pos (by omega)]
  ·rw [if_neg e, if_neg (by omega)]
theorem in_eq {k : Nat} (hk : Fuel k) {bits : Int} {t : Mer} {R : List api_Row} (h : MI k bits t R) (hR : RL R) (hs : Srt R) : ∃ S, loop (fun (s_ : Int × (List (List api_Row))) => haulagelaw10_MerkleRows.b4 k (some t, R) s_.1 s_.2) k (0, (List.replicate 512 ([] : List api_Row))) = some (.inl S) ∧ S.length = 512 ∧ ∀ n : Nat, n < 512 → rd S (n : Int) = bkn R n := by
 have h24 : 1099511627776 ≤ k := hk
 have hRl := hR.1
 have L := loop_inv (f := fun (s_ : Int × (List (List api_Row))) => haulagelaw10_MerkleRows.b4 k (some t, R) s_.1 s_.2) (I := fun i s => s.1 = (i : Int) ∧ s.2.length = 512 ∧ ∀ b : Nat, b < 512 → rd s.2 (b : Int) = bkn (R.take i) b) (P := fun x => ∃ S, x = .inl S ∧ S.length = 512 ∧ ∀ b : Nat, b < 512 → rd S (b : Int) = bkn R b) (N := R.length) ?_ ?_ R.length 0 (0, List.replicate 512 ([] : List api_Row)) k ⟨rfl, List.length_replicate .., fun b hb => ?_⟩ (by omega) (by omega)
 ·obtain ⟨x, e, S, rfl, h1, h2⟩ := L
  exact ⟨S, e, h1, h2⟩
 ·rintro i ⟨j, S⟩ hi ⟨hj, hS, hB⟩
  left
  simp only at hj hS hB; subst hj
  have hr := hR.2 _ (List.getElem_mem hi)
  have hkl : R[i].Key.length ≤ 1000000000 := by have := hr.1; omega
  have hl := bkt_lt R[i].Key
  have w1 : (256 : Int) + (bkt R[i].Key : Int) = ((256 + bkt R[i].Key : Nat) : Int) := by omega
  have hlen : (rd S ((256 + bkt R[i].Key : Nat) : Int)).length ≤ 4194304 := by
   rw [hB _ (by omega)]; unfold bkn; rw [if_neg (by omega)]
   have := fb_len (256 + bkt R[i].Key - 256) (R.take i); simp only [List.length_take] at this; omega
  have eb := bucket_law hk hkl
  rw [w1] at eb
  have eG := Get_told hk h hR hs hkl hr.2.2
  rw [told_at hR hs hi] at eG
  simp only [haulagelaw10_MerkleRows.b4]
  rw [if_pos (by omega), if_pos (by omega), rd_eq hi, bind_eq eb, if_pos (by omega), if_pos (by omega), if_pos (by simp only [List.length_singleton]; omega), if_pos (by omega), bind_eq eG, if_pos rfl, if_pos (by omega), bind_eq (sameRow_eq hk R[i] R[i] (by have := hr.1; omega) (by have := hr.2.1; omega))]
  unfold haulagelaw10_MerkleRows.j3
  rw [if_neg (by simp), wrS i (by omega)]
  refine ⟨_, rfl, rfl, by simpa using hS, fun b hb => ?_⟩
  dsimp only
  rw [rd_eq hi, Int.toNat_natCast, rd_set _ _ _ _ (by omega), take_one hi, bkn_snoc]
  by_cases c : b = 256 + bkt R[i].Key
  ·rw [if_pos c, if_pos c, hB _ (by omega), c]
  ·rw [if_neg c, if_neg c]; exact hB b hb
 ·rintro ⟨j, S⟩ ⟨hj, hS, hB⟩
  simp only at hj hS hB; subst hj
  simp only [haulagelaw10_MerkleRows.b4]
  rw [if_neg (by omega)]
  rw [List.take_length] at hB
  exact ⟨_, rfl, S, rfl, hS, hB⟩
 ·have e : bkn (R.take 0) b = [] := by unfold bkn fbk; simp
  rw [e]
  unfold rd
  simp only [Int.toNat_natCast]
  rw [List.getD_eq_getElem?_getD, List.getElem?_replicate, if_pos hb]; rfl
theorem nodes_eq {k : Nat} (hk : Fuel k) {n0 : Int} (hb : okb (IntKind.i64.wrap (1 + n0))) {t u : Mer} {R : List api_Row} (h : MI k (IntKind.i64.wrap (1 + n0)) t R) (hu : MI k (IntKind.i64.wrap (1 + n0)) u R) (hR : RL R) {S : List (List api_Row)} (hB : ∀ n : Nat, n < 512 → rd S (n : Int) = bkn R n) (e0 : Int) :
  loop (fun (s_ : Int) => haulagelaw10_MerkleRows.b8 k n0 (some t, R) (some u, e0) S s_) k 1 = some (.inl ()) := by
 have h24 : 1099511627776 ≤ k := hk
 have L := loop_inv (f := fun (s_ : Int) => haulagelaw10_MerkleRows.b8 k n0 (some t, R) (some u, e0) S s_) (I := fun i s => s = ((i + 1 : Nat) : Int)) (P := fun x => x = .inl ()) (N := 511) ?_ ?_ 511 0 1 k rfl (by omega) (by omega)
 ·obtain ⟨x, e, rfl⟩ := L
  exact e
 ·rintro i j hi hj
  left
  subst hj
  have dt := Digest_eq (t := t) (n := i + 1) (by omega) (by omega)
  have du := Digest_eq (t := u) (n := i + 1) (by omega) (by omega)
  have fin : ∀ v, rd t.digests ((i + 1 : Nat) : Int) = v → rd u.digests ((i + 1 : Nat) : Int) = v → haulagelaw10_MerkleRows.j6 (some t, R) (some u, e0) ((i + 1 : Nat) : Int) v = some (.next ((i + 2 : Nat) : Int)) := by
   intro v h1 h2
   unfold haulagelaw10_MerkleRows.j6
   dsimp only
   rw [bind_eq dt, if_pos h1, bind_eq du]
   unfold haulagelaw10_MerkleRows.j7
   rw [if_neg (by rw [decide_eq_true h2]; simp), wrS (i + 1) (by omega)]
  simp only [haulagelaw10_MerkleRows.b8]
  rw [if_pos (by omega)]
  by_cases c : 256 ≤ i + 1
  ·have er : haulagelaw10_ofRows.f k (rd S ((i + 1 : Nat) : Int)) (IntKind.i64.wrap (1 + n0)) = some (hBk k (IntKind.i64.wrap (1 + n0)) (fbk (i + 1 - 256) R)) := by
    rw [hB _ (by omega)]; unfold bkn; rw [if_neg (by omega)]; exact ofRows_law hk hb (hR.fbk _)
   have q1 := h.leaf (i + 1 - 256) (by omega)
   have q2 := hu.leaf (i + 1 - 256) (by omega)
   rw [show 256 + (i + 1 - 256) = i + 1 by omega] at q1 q2
   rw [if_pos (by omega), if_pos (by omega), bind_eq er, fin _ q1 q2]
   exact ⟨_, rfl, rfl⟩
  ·have w1 : IntKind.i64.wrap (2 * ((i + 1 : Nat) : Int)) = ((2 * (i + 1) : Nat) : Int) := by rw [wr (by omega) (by omega)]; omega
   have w2 : IntKind.i64.wrap (((2 * (i + 1) : Nat) : Int) + 1) = ((2 * (i + 1) + 1 : Nat) : Int) := by rw [wr (by omega) (by omega)]; omega
   have q1 := h.node (i + 1) (by omega) (by omega)
   have q2 := hu.node (i + 1) (by omega) (by omega)
   unfold nodeOk at q1 q2
   have ed : ∀ n : Nat, 256 ≤ n → n < 512 → rd t.digests (n : Int) = rd u.digests (n : Int) := fun n g1 g2 => by
    have a := h.leaf (n - 256) (by omega)
    have b := hu.leaf (n - 256) (by omega)
    rw [show 256 + (n - 256) = n by omega] at a b
    rw [a, b]
   have ea : ∀ m n : Nat, 256 - m ≤ n → 1 ≤ n → n < 512 → rd t.digests (n : Int) = rd u.digests (n : Int) := by
    intro m
    induction m with
    | zero => intro n a b c; exact ed n (by omega) c
    | succ m ih =>
     intro n a b c
     by_cases cc : 256 ≤ n
     ·exact ed n cc c
     ·have p1 := h.node n b (by omega)
      have p2 := hu.node n b (by omega)
      unfold nodeOk at p1 p2
      rw [p1, p2, ih (2 * n) (by omega) (by omega) (by omega), ih (2 * n + 1) (by omega) (by omega) (by omega)]
   rw [if_neg (by omega), w1, bind_eq (Digest_eq (by omega) (by omega)), w2, bind_eq (Digest_eq (by omega) (by omega)), bind_eq (ofPair_law hk hb _ _), fin _ q1 (by rw [q2, ea 256 (2 * (i + 1)) (by omega) (by omega) (by omega), ea 256 (2 * (i + 1) + 1) (by omega) (by omega) (by omega)])]
   exact ⟨_, rfl, rfl⟩
 ·rintro j hj
  subst hj
  simp only [haulagelaw10_MerkleRows.b8]
  rw [if_neg (by omega)]
  exact ⟨_, rfl, rfl⟩
theorem MerkleRows_true (C : List haulagelaw10_Change) (w : Int) (hC : CL C) : haulagelaw10_MerkleRows.f 1099511627776 C w = some true := by
 have hk : Fuel 1099511627776 := Nat.le_refl _
 obtain ⟨n, en, hb⟩ := bits_eq w
 obtain ⟨t, et, hM, hR, hs, hl⟩ := grown_eq hk hb hC
 obtain ⟨u, eu, hU⟩ := New_eq hk hb hR hs
 have d1 : merkle_Tree_Digest.f (some t) 1 = some (rd t.digests 1) := Digest_eq (n := 1) (by omega) (by omega)
 have hm : merkle_Tree_Len.f (some t) = some ((runR C).length : Int) := by
  unfold merkle_Tree_Len.f
  rw [if_neg (by simp), Option.bind_some, hM.many]
 unfold haulagelaw10_MerkleRows.f
 rw [bind_eq awake_true, if_pos rfl, bind_eq en, bind_eq et]
 dsimp only
 rw [if_neg (by simp), bind_eq eu]
 dsimp only
 rw [if_pos rfl, if_neg (by simp), bind_eq (Rows_eq hk hM hR hs), bind_eq (sameRows_eq hk hR), if_pos rfl, bind_eq (Rows_eq hk hU hR hs), bind_eq (sameRows_eq hk hR), if_pos rfl, bind_eq hm]
 unfold haulagelaw10_MerkleRows.j1
 rw [if_neg (by simp)]
 obtain ⟨S, eS, hS, hB⟩ := in_eq hk hM hR hs
 rw [bind_eq eS]
 dsimp only
 unfold haulagelaw10_MerkleRows.j5
 rw [bind_eq (nodes_eq hk hb hM hU hR hB 0)]
 dsimp only
 unfold haulagelaw10_MerkleRows.j9
 dsimp only
 rw [bind_eq Root_eq, bind_eq d1, if_pos rfl, bind_eq (Digest_zero (.inl (by omega))), if_pos rfl, bind_eq (Digest_zero (.inr (by omega)))]
 rfl
end Go.Proofs.Ytdnaoecfnjalgaa.G
namespace Go.Proofs.Ytdnaoecfnjalgaa.merkleRows
open Go.ChangeShapes Go.WideShapes Go.ChangeAt Go.RowKit
set_option linter.unusedVariables false
set_option maxRecDepth 100000 in
theorem contract (H : Type) (enc : TypeId × Value → H) (W : World) (base : Nat) (args : Array Value) (ds gs : List (DataW H)) (before : List MemPlace)
  (hval : ∀ (j : Nat) t v, Try.f5.params[j]? = some t → args[j]? = some v → Value.okWide Try.prog W .any base t v)
  (hW : DataW.Whole enc Try.prog Try.f5.params.toList Rows.merkleRowsSpec.vars false W args.toList ds gs before) (hk : Rows.uptoSmall H (ds ++ gs) = true) :
  Calls Try.prog 5 args W fun e W' => ∃ v, e = .returned v ∧ Rows.merkleRowsSpec.post enc Try.prog Try.f5 false true false false W args v W' := by
 have hW' := hW
 obtain ⟨p, q, hA0, hV, rfl, hfz, hnd⟩ := hW
 have hA : DataW.TrodAll enc Try.prog W 0 (fun _ => true) true Try.f5.params.toList args.toList ds p := hA0
 rw [Try.params5] at hA hval
 obtain ⟨v0, vs0, d0, ds0, p0, q0, hargs, rfl, rfl, h0, r0⟩ := trodAll_cons hA
 obtain ⟨v1, vs1, d1, ds1, p1, q1, rfl, rfl, rfl, h1, r1⟩ := trodAll_cons r0
 obtain ⟨rfl, rfl, rfl⟩ := trodAll_nil r1
 obtain rfl : args = #[v0, v1] := by cases args; simp_all
 obtain ⟨rfl, rfl⟩ := trodVars_none hV
 have k0 := h0
 have lt0 : ∀ x ∈ p0, x.block < W.heap.size := by obtain ⟨m, hm⟩ := k0; exact DataW.trod_lt m _ _ _ hm
 obtain ⟨A0, C0, a0, rfl, s0, b0, o0⟩ := G.arg_changes (okWide_slice Try.underlying22 (hval 0 22 v0 rfl rfl)) h0
 have l0 := G.len_sum G.wt_haulagelaw10_Change G.wt_haulagelaw10_Change_pos a0
 obtain ⟨a1, rfl, rfl, rfl, w1⟩ := open_int Try.underlying3 (hval 1 3 v1 rfl rfl) h1
 have hb : Rows.uptoBulkAll [d0, (DataW.lit (H := H) (.int .i64 a1))] ≤ 1048576 := of_decide_eq_true hk
 simp only [Rows.uptoBulkAll] at hb
 refine (G.haulagelaw10_MerkleRows.calls 1099511627776 (m := 1) (c0 := G.c0) (w0 := W) (Nat.lt_succ_self 0) (fun _ _ => Nat.lt_succ_self 0) s0 true (G.MerkleRows_true _ _ (G.arg_CL (by omega) o0))).mono fun e W' ⟨c_, he, ev_, _⟩ => ?_
 subst he
 have bel : Below W.heap.size W W' := G.Ev.below ev_
 exact ⟨_, rfl, _, _, _, [], _, [], hW', trodAll_mk1 (shut_bool Try.underlying4 _), (trodAll_cons_mk (Below.trod G.row_laidOut (by kernel_rfl) (of_decide_eq_true (by kernel_rfl)) k0 bel lt0) (trodAll_cons_mk (shut_int Try.underlying3 w1) trodAll_mk0)), rfl, bel.frame _, fun h => by cases h⟩
set_option maxRecDepth 100000 in
theorem lifted (os : Os) (started : os.Started) (H : Type) (enc : TypeId × Value → H) (F : Stop.Interp) :
  ReturnsInHanded {} Try.checked os 5 .any ((Rows.OpenSpec.upto Rows.merkleRowsSpec).pre6 enc Try.prog Try.f5 Rows.merkleRowsUptoRow.domain false) (((Rows.OpenSpec.upto Rows.merkleRowsSpec).at F).post enc Try.prog Try.f5 false true false false) := by
 refine returnsInHanded_of_cond (C := Try.checked) (s := Rows.OpenSpec.upto Rows.merkleRowsSpec) (k := Rows.uptoSmall) rfl G.row_own started (by kernel_rfl) Try.func5
  (OpenSpec.witness (enc := enc) (C := Try.checked) (s := Rows.OpenSpec.upto Rows.merkleRowsSpec) (k := Rows.uptoSmall) rfl false ⟨#[], #[.slice none 0 0, .int .i64 0], []⟩ 8 (by kernel_rfl) (by kernel_rfl) (by kernel_rfl)
   (x := ([.nil, .lit (.int .i64 0)], [], [])) (by kernel_rfl) rfl (by kernel_rfl)) ?_
 intro W base args ds gs before hval hW _ hk _
 exact contract H enc W base args ds gs before hval hW hk
theorem over : Rows.merkleRowsUptoRow.holds Try.pinned (Rows.OpenSpec.upto Rows.merkleRowsSpec) :=
 OpenClaim.holds_of_cond 5 Try.f5 rfl rfl rfl rfl rfl rfl rfl ⟨rfl, rfl, rfl, rfl, rfl⟩ rfl rfl rfl rfl rfl (by kernel_rfl) Try.func5 (by kernel_rfl)
  (of_decide_eq_true (by kernel_rfl)) (by unfold Func.isWrapper; first | (rw [if_pos (by decide +kernel)]; kernel_rfl) | (rw [if_neg (by decide +kernel)]; exact ⟨rfl, rfl⟩))
  (fun os started H enc _ F => lifted os started H enc F)
theorem proved : Rows.MerkleRowsUptoSaid := over
end Go.Proofs.Ytdnaoecfnjalgaa.merkleRows
namespace Go.Proofs.Ytdnaoecfnjalgaa
theorem merkleRows_holds : Rows.MerkleRowsUptoSaid := merkleRows.proved
end Go.Proofs.Ytdnaoecfnjalgaa