/- The row of 'BagOwn', its '..UptoSaid': whatever the input of bulk at most 1048576, the law returns true and the input reads as it did; its condition: that bulk. -/
import Derived.Test.YtdlokohmdnkdoaaHBagOwnA
import Derived.Test.YtdlokohmdnkdoaaHBagOwnB
import Derived.Test.YtdlokohmdnkdoaaRows
import Derived.Deep.Slices
import Derived.ChangeArms
import Derived.KernelRfl
import Derived.Laws.OwnMore
import Derived.WalkKit
import Derived.ProofKit
import Derived.OpenShut
import Derived.JoinedCond
import Derived.Below
import Derived.ChangeOld
namespace Go.Proofs.Ytdlokohmdnkdoaa.G
open Go Go.RowKit
set_option linter.unusedVariables false
set_option linter.unusedSimpArgs false
set_option maxRecDepth 100000
set_option maxHeartbeats 40000000
theorem haulagelaw20_over.calls (k : Nat) {m : Nat} {c0 : Nat → Nat} {w0 : World} {j5 : Nat} {A2 : Option Addr} {C3 : Nat} {a1 : List Int} (hm0 : 0 < m) (B0 : CB m c0 w0) (h4 : SL true (Kint .u8) j5 0 c0 w0 A2 C3 a1) (bj5 : 0 < j5 ∧ j5 < m) (r : (List Int)) (H : haulagelaw20_over.f k a1 = some r) : Calls Try.prog 14 #[.slice A2 a1.length C3] w0 (fun e w_ => ∃ (c_ : Nat → Nat), e = .returned (.tuple #[]) ∧ Ev (fun x => (x = j5)) c0 w0 c_ w_ ∧ CB m c_ w_ ∧ SL true (Kint .u8) j5 0 c_ w_ A2 C3 r ∧ r.length = a1.length) := by
 unfold haulagelaw20_over.f at H; have B := B0.mono (show m ≤ m + 1 by omega); have E : Ev (fun x => (x = j5) ∨ m ≤ x) c0 w0 c0 w0 := Ev.refl; refine enter (N := 17) (l := [.slice A2 a1.length C3]) Try.func14 rfl rfl (nb rfl) fun a F => ?_; refine sr fun K6 hK6 => qa F fun a F => nil (hK6 _ _ ?_); refine wp_block ?_; obtain ⟨x56, HL, HR55⟩ := bind_some H; have J88 : ∀ (c89 : Nat → Nat) (w90 : World) (a : Act) (l87 : List Int), Fr a 17 [] → Ev (fun x => (x = j5) ∨ m ≤ x) c0 w0 c89 w90 → CB (m + 1) c89 w90 → SL true (Kint .u8) j5 0 c89 w90 A2 C3 l87 → haulagelaw20_over.j2 a1 l87 = some r → (bodyPost Try.prog Try.f14 (fun e w_ => ∃ (c_ : Nat → Nat), e = .returned (.tuple #[]) ∧ Ev (fun x => (x = j5)) c0 w0 c_ w_ ∧ CB m c_ w_ ∧ SL true (Kint .u8) j5 0 c_ w_ A2 C3 r ∧ r.length = a1.length) .normal) a w90 := by
  intro c89 w90 a l87 F E B h86 H; unfold haulagelaw20_over.j2 at H; replace H := ifN H; obtain ⟨hl91, H⟩ := H; obtain rfl := si H
  first | refine out0n F rfl ?_ | refine inbN (out0n F rfl ?_) | refine inbN (inbN (out0n F rfl ?_)) | refine inbN (inbN (inbN (out0n F rfl ?_)))
  exact ⟨cf (ct m) c89, rfl, E.lv B0, cfb, SL.rc h86 cfk cfk, hl91⟩
 refine loop_fuel (I := fun n a w => ∃ (l45 : List Int) (i46 : Int) (c : Nat → Nat), Fr a 17 [(0, .slice A2 l45.length C3), (2, .int .i64 i46)] ∧ Ev (fun x => (x = j5) ∨ m ≤ x) c0 w0 c w ∧ CB (m + 1) c w ∧ SL true (Kint .u8) j5 0 c w A2 C3 l45 ∧ loop (fun (s_ : (List Int) × Int) => haulagelaw20_over.b1 s_.1 s_.2) n (l45, i46) = some x56) (k := k) ⟨a1, 0, c0, F.sub ⟨rfl, rfl, trivial⟩, E, B, h4, HL⟩ ?_; clear HL H E F B; intro n53 X49 hX49 a w48 ⟨l45, i46, c47, F, E, B, h44, HL⟩; obtain ⟨n54, ctl52, rfl, HB, HN50, HD51⟩ := loop_some HL; have H : haulagelaw20_over.b1 l45 i46 = some ctl52 := HB; clear HB HL; unfold haulagelaw20_over.b1 at H; refine sq fun K57 hK57 => ?_; refine sr fun K58 hK58 => qm F fun a F => qm F fun a F => ?_; refine qv F (r_lensl F Try.underlying27 rfl) fun a F => ?_; refine qv F (r_lss F rfl rfl) fun a F => ?_; refine nil (hK58 _ _ ?_)
 by_cases hb59 : i46 < (l45.length : Int)
 ·replace H := ip hb59 H; refine wct (fb F (dt hb59)) (wp_skip (hK57 _ _ ?_)); refine sq fun K60 hK60 => ?_; refine wp_block ?_; refine reg ?_; refine qm F fun a F => qm F fun a F => qm F fun a F => qm F fun a F => ?_; replace H := ifN H; obtain ⟨g61, H⟩ := H; obtain ⟨ad62, cs63, e64, h65, r66⟩ := SL.at h44 i46 g61.1 g61.2; obtain rfl : cs63 = [.int .u8 (rd l45 i46)] := r66; obtain ⟨qa67, qqa67⟩ : ∃ q, q = (ad62.add (i46.toNat * 1)) := ⟨_, rfl⟩; have h65 : AT true j5 c47 w48 qa67 [.int .u8 (rd l45 i46)] := by rw [qqa67]; exact h65
  refine qv F (r_indexAddr' F Try.underlying27 sz_5 rfl rfl g61.1 g61.2 e64 qqa67) fun a F => ?_; refine qv F (r_load F rfl ag_5 (AT.cell0 h65 rfl)) fun a F => ?_; refine qv F (r_sub F rfl rfl) fun a F => ?_; replace H := ifN H; obtain ⟨g69, H⟩ := H; obtain ⟨ad70, cs71, e72, h73, r74⟩ := SL.at h44 i46 g69.1 g69.2; obtain rfl : cs71 = [.int .u8 (rd l45 i46)] := r74; obtain ⟨qa75, qqa75⟩ : ∃ q, q = (ad70.add (i46.toNat * 1)) := ⟨_, rfl⟩; have h73 : AT true j5 c47 w48 qa75 [.int .u8 (rd l45 i46)] := by rw [qqa75]; exact h73
  refine qv F (r_indexAddr' F Try.underlying27 sz_5 rfl rfl g69.1 g69.2 e72 qqa75) fun a F => ?_; refine q_eff0 F rfl rfl (e_storeel0 (k := (Kint .u8)) F rfl rfl sz_5 h44 g69.1 g69.2 e72 qqa75 h73 rfl (nb rfl) rfl (IntKind.u8.wrap (255 - (rd l45 i46))) rfl (ne_z bj5.1)) ?_; rintro w77 a ⟨E78, h44, Z79⟩ F; replace B := B.size Z79; replace E := E.trans E78 (fun x (q : x = j5) => Or.inl (q)); have hl80 : l45.length = (l45.set i46.toNat (IntKind.u8.wrap (255 - (rd l45 i46)))).length := by simp
  replace F := F.sub (L' := [(0, .slice A2 (l45.set i46.toNat (IntKind.u8.wrap (255 - (rd l45 i46)))).length C3), (2, .int .i64 i46), (15, .int .u8 (IntKind.u8.wrap (255 - (rd l45 i46))))]) ⟨(by rw [← hl80]; rfl), rfl, rfl, trivial⟩; refine nil (hK60 _ _ ?_); refine reg ?_; refine qm F fun a F => ?_; refine qv F (r_add F rfl rfl) fun a F => ?_; refine qa F fun a F => nil ?_; replace H := HN50 _ (si H).symm; exact hX49 _ _ _ (Nat.lt_succ_self _) ⟨(l45.set i46.toNat (IntKind.u8.wrap (255 - (rd l45 i46)))), (IntKind.i64.wrap (i46 + 1)), c47, F.sub ⟨rfl, rfl, trivial⟩, E, B, h44, H⟩
 replace H := im hb59 H; refine wcf (fb F (dz hb59)) ?_; refine wp_exit ?_; refine thenE ?_; refine thenE ?_; refine inbE ?_; have hx_ := HD51 _ (si H).symm; have H := HR55; rw [← hx_] at H; exact J88 c47 w48 a l45 (F.sub trivial) E B h44 H
theorem haulagelaw20_same.calls (k : Nat) {m : Nat} {c0 : Nat → Nat} {w0 : World} {j5 : Nat} {j10 : Nat} {A2 : Option Addr} {C3 : Nat} {A7 : Option Addr} {C8 : Nat} {a1 : List Int} {a6 : List Int} (hm0 : 0 < m) (B0 : CB m c0 w0) (h4 : SL false (Kint .u8) j5 0 c0 w0 A2 C3 a1) (h9 : SL false (Kint .u8) j10 0 c0 w0 A7 C8 a6) (bj5 : j5 < m) (bj10 : j10 < m) (r : Bool) (H : haulagelaw20_same.f k a1 a6 = some r) : Calls Try.prog 19 #[.slice A2 a1.length C3, .slice A7 a6.length C8] w0 (fun e w_ => ∃ (c_ : Nat → Nat), e = .returned (.bool r) ∧ Ev (fun x => False) c0 w0 c_ w_ ∧ CB m c_ w_) := by
 unfold haulagelaw20_same.f at H; have B := B0.mono (show m ≤ m + 1 by omega); have E : Ev (fun x => False ∨ m ≤ x) c0 w0 c0 w0 := Ev.refl; refine enter (N := 26) (l := [.slice A2 a1.length C3, .slice A7 a6.length C8]) Try.func19 rfl rfl (nb rfl) fun a F => ?_; refine sr fun K11 hK11 => qa F fun a F => nil (hK11 _ _ ?_); refine sq fun K12 hK12 => ?_; refine sr fun K13 hK13 => qm F fun a F => ?_; refine qv F (r_lensl F Try.underlying27 rfl) fun a F => ?_; refine qm F fun a F => ?_; refine qv F (r_lensl F Try.underlying27 rfl) fun a F => ?_; refine qv F (r_neq F rfl rfl) fun a F => ?_; refine nil (hK13 _ _ ?_)
 by_cases hb14 : (a1.length : Int) = (a6.length : Int)
 ·replace H := ip hb14 H; refine wcf (fb F (congrArg not (dt hb14))) (wp_skip (hK12 _ _ ?_)); refine sq fun K16 hK16 => ?_; refine sr fun K17 hK17 => qa F fun a F => nil (hK17 _ _ ?_); refine wp_block ?_; obtain ⟨x28, HL, HR27⟩ := bind_some H; have J55 : ∀ (c56 : Nat → Nat) (w57 : World) (a : Act), Fr a 26 [] → Ev (fun x => False ∨ m ≤ x) c0 w0 c56 w57 → CB (m + 1) c56 w57 → haulagelaw20_same.j2 = some r → K16 a w57 := by
   intro c56 w57 a  F E B  H; unfold haulagelaw20_same.j2 at H; refine hK16 _ _ ?_; refine sr fun K58 hK58 => qa F fun a F => nil (hK58 _ _ ?_); refine wp_ret ?_; obtain rfl := si H; refine out1 F rfl rfl ?_; exact ⟨cf (ct m) c56, rfl, E.lv B0, cfb⟩
  refine loop_fuel (I := fun n a w => ∃ (i18 : Int) (c : Nat → Nat), Fr a 26 [(0, .slice A2 a1.length C3), (1, .slice A7 a6.length C8), (5, .int .i64 i18)] ∧ Ev (fun x => False ∨ m ≤ x) c0 w0 c w ∧ CB (m + 1) c w ∧ SL false (Kint .u8) j5 0 c w A2 C3 a1 ∧ SL false (Kint .u8) j10 0 c w A7 C8 a6 ∧ loop (fun (s_ : Int) => haulagelaw20_same.b1 a1 a6 s_) n i18 = some x28) (k := k) ⟨0, c0, F.sub ⟨rfl, rfl, rfl, trivial⟩, E, B, h4, h9, HL⟩ ?_; clear HL H E F B; intro n25 X21 hX21 a w20 ⟨i18, c19, F, E, B, h4, h9, HL⟩; obtain ⟨n26, ctl24, rfl, HB, HN22, HD23⟩ := loop_some HL; have H : haulagelaw20_same.b1 a1 a6 i18 = some ctl24 := HB; clear HB HL; unfold haulagelaw20_same.b1 at H; refine sq fun K29 hK29 => ?_; refine sr fun K30 hK30 => qm F fun a F => qm F fun a F => ?_; refine qv F (r_lensl F Try.underlying27 rfl) fun a F => ?_; refine qv F (r_lss F rfl rfl) fun a F => ?_; refine nil (hK30 _ _ ?_)
  by_cases hb31 : i18 < (a1.length : Int)
  ·replace H := ip hb31 H; refine wct (fb F (dt hb31)) (wp_skip (hK29 _ _ ?_)); refine sq fun K32 hK32 => ?_; refine wp_block ?_; refine sq fun K33 hK33 => ?_; refine regD (SB No c19 w20) 9 (.q 0 (.q 1 (.q 2 (.q 3 (.q 4 (.q 5 (.q 6 (.q 7 (.q 8 .nil))))))))) Try_hm (by decide +kernel) ?_; intro w34 w1_ w2_ w3_ w4_; have E35 : Ev No c19 w20 c19 w34 := Ev.same w1_ w2_ w3_ w4_; replace B := B.same w1_; have zh4 := h4; have zh9 := h9; have ER : Ev No c19 w20 c19 w34 := Ev.same w1_ w2_ w3_ w4_; replace h4 := h4.ev E35; replace h9 := h9.ev E35; replace E := E.n E35; refine dm F ER.sb fun a F => ?_; refine dm F ER.sb fun a F => ?_; replace H := ifN H; obtain ⟨g36, H⟩ := H; obtain ⟨ad37, cs38, e39, h40, r41⟩ := SL.at zh4 i18 g36.1 g36.2; obtain rfl : cs38 = [.int .u8 (rd a1 i18)] := r41; obtain ⟨qa42, qqa42⟩ : ∃ q, q = (ad37.add (i18.toNat * 1)) := ⟨_, rfl⟩; have h40 : AT false j5 c19 w20 qa42 [.int .u8 (rd a1 i18)] := by rw [qqa42]; exact h40
   have zh40 := h40; refine dq F (fun wq hS => r_indexAddr' F Try.underlying27 sz_5 rfl rfl g36.1 g36.2 e39 qqa42) ER.sb fun a F => ?_; refine dq F (fun wq hS => r_load F rfl ag_5 (AT.cell0 (AT.sb zh40 hS nq) rfl)) ER.sb fun a F => ?_; refine dm F ER.sb fun a F => ?_; refine dm F ER.sb fun a F => ?_; replace H := ifN H; obtain ⟨g44, H⟩ := H; obtain ⟨ad45, cs46, e47, h48, r49⟩ := SL.at zh9 i18 g44.1 g44.2; obtain rfl : cs46 = [.int .u8 (rd a6 i18)] := r49; obtain ⟨qa50, qqa50⟩ : ∃ q, q = (ad45.add (i18.toNat * 1)) := ⟨_, rfl⟩; have h48 : AT false j10 c19 w20 qa50 [.int .u8 (rd a6 i18)] := by rw [qqa50]; exact h48
   have zh48 := h48; refine dq F (fun wq hS => r_indexAddr' F Try.underlying27 sz_5 rfl rfl g44.1 g44.2 e47 qqa50) ER.sb fun a F => ?_; refine dq F (fun wq hS => r_load F rfl ag_5 (AT.cell0 (AT.sb zh48 hS nq) rfl)) ER.sb fun a F => ?_; refine dq F (fun wq hS => r_neq F rfl rfl) ER.sb fun a F => ?_; refine d_nil ?_; refine hK33 _ _ ?_; replace F : Fr a 26 [(0, .slice A2 a1.length C3), (1, .slice A7 a6.length C8), (5, .int .i64 i18), (25, .bool (!decide ((rd a1 i18) = (rd a6 i18))))] := F.sub ⟨rfl, rfl, rfl, rfl, trivial⟩
   by_cases hb52 : (rd a1 i18) = (rd a6 i18)
   ·replace H := ip hb52 H; refine wcf (fb F (congrArg not (dt hb52))) (wp_skip (hK32 _ _ ?_)); refine reg ?_; refine qm F fun a F => ?_; refine qv F (r_add F rfl rfl) fun a F => ?_; refine qa F fun a F => nil ?_; replace H := HN22 _ (si H).symm; exact hX21 _ _ _ (Nat.lt_succ_self _) ⟨(IntKind.i64.wrap (i18 + 1)), c19, F.sub ⟨rfl, rfl, rfl, trivial⟩, E, B, h4, h9, H⟩
   replace H := im hb52 H; refine wct (fb F (congrArg not (dz hb52))) ?_; refine sr fun K53 hK53 => qa F fun a F => nil (hK53 _ _ ?_); refine wp_ret ?_; refine inbR ?_; refine thenR ?_; refine thenR ?_; refine inbR ?_; refine thenR ?_; have hx_ := HD23 _ (si H).symm; have H := HR27; rw [← hx_] at H; replace H : some false = some r := H; obtain rfl := si H; refine out1 F rfl rfl ?_; exact ⟨cf (ct m) c19, rfl, E.lv B0, cfb⟩
  replace H := im hb31 H; refine wcf (fb F (dz hb31)) ?_; refine wp_exit ?_; refine thenE ?_; refine thenE ?_; refine inbE ?_; have hx_ := HD23 _ (si H).symm; have H := HR27; rw [← hx_] at H; exact J55 c19 w20 a  (F.sub trivial) E B  H
 replace H := im hb14 H; refine wct (fb F (congrArg not (dz hb14))) ?_; refine sr fun K15 hK15 => qa F fun a F => nil (hK15 _ _ ?_); refine wp_ret ?_; refine thenR ?_; obtain rfl := si H; refine out1 F rfl rfl ?_; exact ⟨cf (ct m) c0, rfl, E.lv B0, cfb⟩
theorem haulagelaw20_BagOwn.calls (k : Nat) {m : Nat} {c0 : Nat → Nat} {w0 : World} {A2 : Option Addr} {C3 : Nat} {a1 : List (List Int)} (hm0 : 0 < m) (B0 : CB m c0 w0) (h4 : SL false (Kslice (Kint .u8)) 0 0 c0 w0 A2 C3 a1) (r : Bool) (H : haulagelaw20_BagOwn.f k a1 = some r) : Calls Try.prog 3 #[.slice A2 a1.length C3] w0 (fun e w_ => ∃ (c_ : Nat → Nat), e = .returned (.bool r) ∧ Ev (fun x => False) c0 w0 c_ w_ ∧ CB m c_ w_) := by
 unfold haulagelaw20_BagOwn.f at H; have B := B0.mono (show m ≤ m + 28 by omega); have E : Ev (fun x => False ∨ m ≤ x) c0 w0 c0 w0 := Ev.refl; refine enter (N := 365) (l := [.slice A2 a1.length C3]) Try.func3 rfl rfl (nb rfl) fun a F => ?_; refine sr fun K5 hK5 => qa F fun a F => nil (hK5 _ _ ?_); refine sq fun K6 hK6 => ?_; refine sr fun K7 hK7 => ?_; obtain ⟨t8, q9, H⟩ := bind_some H; refine qc F Try.func8 (haulagelaw20_known.calls (m := m + 28) (pl hm0) B _ q9) ?_; rintro e w11 ⟨c10, rfl, E12, B⟩; refine rt fun a F => ?_; replace h4 := h4.ev E12; replace E := E.n E12
 as_aux_lemma =>
 refine qv F (r_not F rfl) fun a F => ?_; refine nil (hK7 _ _ ?_)
 by_cases hb15 : t8 = true
 ·replace H := ip hb15 H; refine wcf (fb F (congrArg not hb15)) (wp_skip (hK6 _ _ ?_)); refine sr fun K17 hK17 => ?_; obtain ⟨t18, q19, H⟩ := bind_some H; refine qc F Try.func9 (bag_New.calls (m := m + 28) (pl hm0) B (m + 1) ⟨(pl hm0), lm⟩ (m + 2) ⟨(pl hm0), lm⟩ _ q19) ?_; rintro e w21 ⟨c20, p24, rfl, E22, B, h25⟩; refine rt fun a F => ?_; replace h4 := h4.ev E22; replace E := E.n E22; refine qa F fun a F => nil (hK17 _ _ ?_); refine sq fun K27 hK27 => ?_; refine sr fun K28 hK28 => qm F fun a F => ?_
  as_aux_lemma =>
  refine qv F (r_lensl F Try.underlying22 rfl) fun a F => ?_; refine qv F (r_gtr F rfl rfl) fun a F => ?_; refine nil (hK28 _ _ ?_)
  by_cases hb29 : 65535 < (a1.length : Int)
  ·replace H := ip hb29 H; refine wct (fb F (dt hb29)) ?_; refine sr fun K30 hK30 => qm F fun a F => ?_; obtain ⟨t31, q32, H⟩ := bind_some H; refine qc F Try.func10 (bag_Bag_Len.calls (m := m + 28) (pl hm0) B h25 lm ⟨(pl hm0), lm, mm⟩ _ q32) ?_; rintro e w34 ⟨c33, rfl, E35, B⟩; refine rt fun a F => ?_; replace E := E.n E35; refine qv F (r_eql F rfl rfl) fun a F => ?_; refine qa F fun a F => nil (hK30 _ _ ?_); replace F : Fr a 365 [(2, .bool (decide (t31 = 0)))] := F.sub ⟨rfl, trivial⟩
   as_aux_lemma =>
   refine wp_ret ?_; refine thenR ?_; obtain rfl := si H; refine out1 F rfl rfl ?_; exact ⟨cf (ct m) c33, rfl, E.lv B0, cfb⟩
  replace H := im hb29 H; refine wcf (fb F (dz hb29)) (wp_skip (hK27 _ _ ?_)); refine sq fun K38 hK38 => ?_; refine sr fun K39 hK39 => qa F fun a F => nil (hK39 _ _ ?_); refine wp_block ?_; obtain ⟨x119, HL, HR118⟩ := bind_some H; have J173 : ∀ (c174 : Nat → Nat) (w175 : World) (a : Act) (o172 : Option Bag), Fr a 365 [(0, .slice A2 a1.length C3), (3, .pointer p24)] → Ev (fun x => False ∨ m ≤ x) c0 w0 c174 w175 → CB (m + 28) c174 w175 → SL false (Kslice (Kint .u8)) 0 0 c174 w175 A2 C3 a1 → BG (m + 1) (m + 2) c174 w175 p24 o172 → haulagelaw20_BagOwn.j2 k a1 o172 = some r → K38 a w175 := by
   intro c174 w175 a o172 F E B h4 h171 H; unfold haulagelaw20_BagOwn.j2 at H
   as_aux_lemma =>
   refine hK38 _ _ ?_; refine sr fun K176 hK176 => qm F fun a F => ?_; obtain ⟨t177, q178, H⟩ := bind_some H; refine qc F Try.func15 (bag_Bag_Waiting.calls (m := m + 28) (pl hm0) B h171 (by omega) (by omega) (m + 4) lm (m + 5) ⟨(pl hm0), lm⟩ _ q178) ?_; rintro e w180 ⟨c179, A183, C184, rfl, E181, B, h185⟩; refine rt fun a F => ?_; replace h171 := h171.ev E181; replace E := E.n E181; refine qa F fun a F => nil (hK176 _ _ ?_); refine sr fun K187 hK187 => qm F fun a F => ?_; obtain ⟨t188, q189, H⟩ := bind_some H; refine qc F Try.func15 (bag_Bag_Waiting.calls (m := m + 28) (pl hm0) B h171 (by omega) (by omega) (m + 6) lm (m + 7) ⟨(pl hm0), lm⟩ _ q189) ?_; rintro e w191 ⟨c190, A194, C195, rfl, E192, B, h196⟩; refine rt fun a F => ?_
   as_aux_lemma =>
   replace h171 := h171.ev E192; replace E := E.n E192; refine qa F fun a F => nil (hK187 _ _ ?_); refine sr fun K198 hK198 => qm F fun a F => ?_; obtain ⟨t199, q200, H⟩ := bind_some H; refine qc F Try.func16 (bag_Bag_For.calls (m := m + 28) (pl hm0) B h171 (by omega) (by omega) (m + 8) lm _ q200) ?_; rintro e w202 ⟨c201, A205, C206, rfl, E203, B, h207⟩; refine rt fun a F => ?_; replace h171 := h171.ev E203; replace E := E.n E203; refine qa F fun a F => nil (hK198 _ _ ?_); refine sr fun K209 hK209 => qm F fun a F => ?_; obtain ⟨t210, q211, H⟩ := bind_some H; refine qc F Try.func16 (bag_Bag_For.calls (m := m + 28) (pl hm0) B h171 (by omega) (by omega) (m + 9) lm _ q211) ?_; rintro e w213 ⟨c212, A216, C217, rfl, E214, B, h218⟩
   as_aux_lemma =>
   refine rt fun a F => ?_; replace h4 := (((h4.ev E181).ev E192).ev E203).ev E214; replace h171 := h171.ev E214; replace h185 := ((h185.ev E192).ev E203).ev E214; replace h196 := (h196.ev E203).ev E214; replace h207 := h207.ev E214; replace E := E.n E214; refine qa F fun a F => nil (hK209 _ _ ?_); replace F : Fr a 365 [(0, .slice A2 a1.length C3), (3, .pointer p24), (8, .slice A183 t177.length C184), (9, .slice A194 t188.length C195), (10, .slice A205 t199.length C206), (11, .slice A216 t210.length C217)] := F.sub ⟨rfl, rfl, rfl, rfl, rfl, rfl, trivial⟩; refine sr fun K220 hK220 => qa F fun a F => nil (hK220 _ _ ?_); refine sq fun K221 hK221 => ?_; refine sr fun K222 hK222 => qa F fun a F => nil (hK222 _ _ ?_); refine wp_block ?_; obtain ⟨x344, HL, HR343⟩ := bind_some H; have J440 : ∀ (c441 : Nat → Nat) (w442 : World) (a : Act) (o435 : Option Bag) (l437 : List (List Int)) (A438 : Option Addr) (C439 : Nat), Fr a 365 [(0, .slice A2 a1.length C3), (3, .pointer p24), (8, .slice A183 t177.length C184), (9, .slice A194 t188.length C195), (10, .slice A205 t199.length C206), (11, .slice A216 t210.length C217), (12, .slice A438 l437.length C439)] → Ev (fun x => False ∨ m ≤ x) c0 w0 c441 w442 → CB (m + 28) c441 w442 → SL false (Kslice (Kint .u8)) 0 0 c441 w442 A2 C3 a1 → OL KO_api_Letter (m + 4) (m + 5) c441 w442 A183 C184 t177 → OL KO_api_Letter (m + 6) (m + 7) c441 w442 A194 C195 t188 → SL true (Kint .i64) (m + 8) 0 c441 w442 A205 C206 t199 → SL true (Kint .i64) (m + 9) 0 c441 w442 A216 C217 t210 → BG (m + 1) (m + 2) c441 w442 p24 o435 → SP (Kint .u8) (m + 14) (m + 15) c441 w442 A438 C439 l437 0 → haulagelaw20_BagOwn.j6 k a1 t177 t188 t199 t210 o435 l437 = some r → K221 a w442 := by
    intro c441 w442 a o435 l437 A438 C439 F E B h4 h185 h196 h207 h218 h434 h436 H; unfold haulagelaw20_BagOwn.j6 at H
    as_aux_lemma =>
    refine hK221 _ _ ?_; refine sq fun K443 hK443 => ?_; refine sq fun K444 hK444 => ?_; have J456 : ∀ (c457 : Nat → Nat) (w458 : World) (a : Act) (b455 : Bool), Fr a 365 [(0, .slice A2 a1.length C3), (3, .pointer p24), (8, .slice A183 t177.length C184), (9, .slice A194 t188.length C195), (10, .slice A205 t199.length C206), (11, .slice A216 t210.length C217), (12, .slice A438 l437.length C439), (135, .bool b455)] → Ev (fun x => False ∨ m ≤ x) c0 w0 c457 w458 → CB (m + 28) c457 w458 → SL false (Kslice (Kint .u8)) 0 0 c457 w458 A2 C3 a1 → BG (m + 1) (m + 2) c457 w458 p24 o435 → OL KO_api_Letter (m + 4) (m + 5) c457 w458 A183 C184 t177 → OL KO_api_Letter (m + 6) (m + 7) c457 w458 A194 C195 t188 → SL true (Kint .i64) (m + 8) 0 c457 w458 A205 C206 t199 → SL true (Kint .i64) (m + 9) 0 c457 w458 A216 C217 t210 → SP (Kint .u8) (m + 14) (m + 15) c457 w458 A438 C439 l437 0 → haulagelaw20_BagOwn.j7 k a1 t177 t188 t199 t210 o435 l437 b455 = some r → K444 a w458 := by
     intro c457 w458 a b455 F E B h4 h434 h185 h196 h207 h218 h436 H; unfold haulagelaw20_BagOwn.j7 at H; refine hK444 _ _ ?_
     by_cases hb459 : b455 = true
     ·replace H := ip hb459 H; refine wct (fb F hb459) ?_; refine sr fun K460 hK460 => qa F fun a F => nil (hK460 _ _ ?_); replace F : Fr a 365 [(2, .bool false)] := F.sub ⟨rfl, trivial⟩; refine wp_ret ?_; refine thenR ?_; obtain rfl := si H
      as_aux_lemma =>
      refine out1 F rfl rfl ?_; exact ⟨cf (ct m) c457, rfl, E.lv B0, cfb⟩
     replace H := im hb459 H; refine wcf (fb F (bfalse hb459)) (wp_skip (hK443 _ _ ?_)); refine sr fun K461 hK461 => qm F fun a F => ?_; obtain ⟨t462, q463, H⟩ := bind_some H; refine qc F Try.func15 (bag_Bag_Waiting.calls (m := m + 28) (pl hm0) B h434 (by omega) (by omega) (m + 16) lm (m + 17) ⟨(pl hm0), lm⟩ _ q463) ?_; rintro e w465 ⟨c464, A468, C469, rfl, E466, B, h470⟩; refine rt fun a F => ?_; replace h4 := h4.ev E466; replace h434 := h434.ev E466; replace h185 := h185.ev E466; replace h196 := h196.ev E466; replace h207 := h207.ev E466
     as_aux_lemma =>
     replace h218 := h218.ev E466; replace h436 := h436.ev E466; replace E := E.n E466; refine qa F fun a F => nil (hK461 _ _ ?_); refine sq fun K472 hK472 => ?_; refine sr fun K473 hK473 => qm F fun a F => ?_; refine qv F (r_lensl F Try.underlying34 rfl) fun a F => ?_; refine qm F fun a F => ?_; refine qv F (r_lensl F Try.underlying22 rfl) fun a F => ?_; refine qv F (r_neq F rfl rfl) fun a F => ?_; refine nil (hK473 _ _ ?_)
     by_cases hb474 : (t462.length : Int) = (a1.length : Int)
     ·replace H := ip hb474 H; refine wcf (fb F (congrArg not (dt hb474))) (wp_skip (hK472 _ _ ?_)); replace F : Fr a 365 [(0, .slice A2 a1.length C3), (3, .pointer p24), (8, .slice A183 t177.length C184), (9, .slice A194 t188.length C195), (10, .slice A205 t199.length C206), (11, .slice A216 t210.length C217), (12, .slice A438 l437.length C439), (16, .slice A468 t462.length C469)] := F.sub ⟨rfl, rfl, rfl, rfl, rfl, rfl, rfl, rfl, trivial⟩
      as_aux_lemma =>
      refine sq fun K476 hK476 => ?_; refine sr fun K477 hK477 => qa F fun a F => nil (hK477 _ _ ?_); refine wp_block ?_; replace h185 : OL KO_api_Letter (m + 4) (m + 5) c464 w465 A183 C184 t177 (fun q_ => q_ < (0 : Int).toNat) := OL.weak h185 (fun k_ h_ => h_.elim); replace h196 : OL KO_api_Letter (m + 6) (m + 7) c464 w465 A194 C195 t188 (fun q_ => q_ < (0 : Int).toNat) := OL.weak h196 (fun k_ h_ => h_.elim); replace h470 : OL KO_api_Letter (m + 16) (m + 17) c464 w465 A468 C469 t462 (fun q_ => q_ < (0 : Int).toNat) := OL.weak h470 (fun k_ h_ => h_.elim); obtain ⟨x492, HL, HR491⟩ := bind_some H; have J679 : ∀ (c680 : Nat → Nat) (w681 : World) (a : Act) (l676 : List (List Int)) (A677 : Option Addr) (C678 : Nat), Fr a 365 [(0, .slice A2 a1.length C3), (3, .pointer p24), (8, .slice A183 (List.replicate t177.length (none : Option (List Value))).length C184), (9, .slice A194 (List.replicate t188.length (none : Option (List Value))).length C195), (10, .slice A205 t199.length C206), (11, .slice A216 t210.length C217), (12, .slice A677 l676.length C678), (16, .slice A468 (List.replicate t462.length (none : Option (List Value))).length C469)] → Ev (fun x => False ∨ m ≤ x) c0 w0 c680 w681 → CB (m + 28) c680 w681 → SL false (Kslice (Kint .u8)) 0 0 c680 w681 A2 C3 a1 → BG (m + 1) (m + 2) c680 w681 p24 o435 → SL true (Krw 4 (by decide)) (m + 4) 0 c680 w681 A183 C184 (List.replicate t177.length (none : Option (List Value))) → SL true (Krw 4 (by decide)) (m + 6) 0 c680 w681 A194 C195 (List.replicate t188.length (none : Option (List Value))) → SL true (Kint .i64) (m + 8) 0 c680 w681 A205 C206 t199 → SL true (Kint .i64) (m + 9) 0 c680 w681 A216 C217 t210 → SL true (Krw 4 (by decide)) (m + 16) 0 c680 w681 A468 C469 (List.replicate t462.length (none : Option (List Value))) → SP (Kint .u8) (m + 14) (m + 15) c680 w681 A677 C678 l676 0 → haulagelaw20_BagOwn.j10 k a1 t177 t188 t199 t210 o435 t462 l676 = some r → K476 a w681 := by
       intro c680 w681 a l676 A677 C678 F E B h4 h434 h185 h196 h207 h218 h470 h675 H; unfold haulagelaw20_BagOwn.j10 at H; refine hK476 _ _ ?_; refine sq fun K682 hK682 => ?_; refine sr fun K683 hK683 => qa F fun a F => nil (hK683 _ _ ?_); refine wp_block ?_; obtain ⟨x840, HL, HR839⟩ := bind_some H; have J981 : ∀ (c982 : Nat → Nat) (w983 : World) (a : Act) (l978 : List (List Int)) (A979 : Option Addr) (C980 : Nat), Fr a 365 [(0, .slice A2 a1.length C3), (3, .pointer p24), (8, .slice A183 (List.replicate t177.length (none : Option (List Value))).length C184), (9, .slice A194 (List.replicate t188.length (none : Option (List Value))).length C195), (10, .slice A205 t199.length C206), (11, .slice A216 t210.length C217), (12, .slice A979 l978.length C980), (16, .slice A468 (List.replicate t462.length (none : Option (List Value))).length C469)] → Ev (fun x => False ∨ m ≤ x) c0 w0 c982 w983 → CB (m + 28) c982 w983 → SL false (Kslice (Kint .u8)) 0 0 c982 w983 A2 C3 a1 → BG (m + 1) (m + 2) c982 w983 p24 o435 → SL true (Krw 4 (by decide)) (m + 4) 0 c982 w983 A183 C184 (List.replicate t177.length (none : Option (List Value))) → SL true (Krw 4 (by decide)) (m + 6) 0 c982 w983 A194 C195 (List.replicate t188.length (none : Option (List Value))) → SL true (Kint .i64) (m + 8) 0 c982 w983 A205 C206 t199 → SL true (Kint .i64) (m + 9) 0 c982 w983 A216 C217 t210 → SL true (Krw 4 (by decide)) (m + 16) 0 c982 w983 A468 C469 (List.replicate t462.length (none : Option (List Value))) → SP (Kint .u8) (m + 14) (m + 15) c982 w983 A979 C980 l978 0 → haulagelaw20_BagOwn.j16 k a1 t177 t188 t199 t210 o435 t462 l978 = some r → K682 a w983 := by
        intro c982 w983 a l978 A979 C980 F E B h4 h434 h185 h196 h207 h218 h470 h977 H; unfold haulagelaw20_BagOwn.j16 at H
        as_aux_lemma =>
        refine hK682 _ _ ?_; refine sr fun K984 hK984 => qa F fun a F => nil (hK984 _ _ ?_); refine sq fun K985 hK985 => ?_; refine sr fun K986 hK986 => qa F fun a F => nil (hK986 _ _ ?_); refine wp_block ?_; obtain ⟨x1099, HL, HR1098⟩ := bind_some H; have J1194 : ∀ (c1195 : Nat → Nat) (w1196 : World) (a : Act) (l1191 : List (List Int)) (A1192 : Option Addr) (C1193 : Nat), Fr a 365 [(0, .slice A2 a1.length C3), (3, .pointer p24), (8, .slice A183 (List.replicate t177.length (none : Option (List Value))).length C184), (9, .slice A194 (List.replicate t188.length (none : Option (List Value))).length C195), (10, .slice A205 t199.length C206), (11, .slice A216 t210.length C217), (12, .slice A979 l978.length C980), (16, .slice A468 (List.replicate t462.length (none : Option (List Value))).length C469), (20, .slice A1192 l1191.length C1193)] → Ev (fun x => False ∨ m ≤ x) c0 w0 c1195 w1196 → CB (m + 28) c1195 w1196 → SL false (Kslice (Kint .u8)) 0 0 c1195 w1196 A2 C3 a1 → BG (m + 1) (m + 2) c1195 w1196 p24 o435 → SL true (Krw 4 (by decide)) (m + 4) 0 c1195 w1196 A183 C184 (List.replicate t177.length (none : Option (List Value))) → SL true (Krw 4 (by decide)) (m + 6) 0 c1195 w1196 A194 C195 (List.replicate t188.length (none : Option (List Value))) → SL true (Kint .i64) (m + 8) 0 c1195 w1196 A205 C206 t199 → SL true (Kint .i64) (m + 9) 0 c1195 w1196 A216 C217 t210 → SL true (Kslice (Kint .u8)) (m + 14) 0 c1195 w1196 A979 C980 l978 → SL true (Krw 4 (by decide)) (m + 16) 0 c1195 w1196 A468 C469 (List.replicate t462.length (none : Option (List Value))) → SL true (Kslice (Kint .u8)) (m + 25) 0 c1195 w1196 A1192 C1193 l1191 → haulagelaw20_BagOwn.j22 k a1 t177 t188 t199 t210 o435 t462 l978 l1191 = some r → K985 a w1196 := by
         intro c1195 w1196 a l1191 A1192 C1193 F E B h4 h434 h185 h196 h207 h218 h977 h470 h1190 H; unfold haulagelaw20_BagOwn.j22 at H; refine hK985 _ _ ?_; refine sq fun K1197 hK1197 => ?_; refine sr fun K1198 hK1198 => qa F fun a F => nil (hK1198 _ _ ?_); refine wp_block ?_; obtain ⟨x1209, HL, HR1208⟩ := bind_some H; have J1357 : ∀ (c1358 : Nat → Nat) (w1359 : World) (a : Act), Fr a 365 [(0, .slice A2 a1.length C3), (3, .pointer p24), (8, .slice A183 (List.replicate t177.length (none : Option (List Value))).length C184), (9, .slice A194 (List.replicate t188.length (none : Option (List Value))).length C195), (10, .slice A205 t199.length C206), (11, .slice A216 t210.length C217), (16, .slice A468 (List.replicate t462.length (none : Option (List Value))).length C469)] → Ev (fun x => False ∨ m ≤ x) c0 w0 c1358 w1359 → CB (m + 28) c1358 w1359 → SL false (Kslice (Kint .u8)) 0 0 c1358 w1359 A2 C3 a1 → BG (m + 1) (m + 2) c1358 w1359 p24 o435 → SL true (Krw 4 (by decide)) (m + 4) 0 c1358 w1359 A183 C184 (List.replicate t177.length (none : Option (List Value))) → SL true (Krw 4 (by decide)) (m + 6) 0 c1358 w1359 A194 C195 (List.replicate t188.length (none : Option (List Value))) → SL true (Kint .i64) (m + 8) 0 c1358 w1359 A205 C206 t199 → SL true (Kint .i64) (m + 9) 0 c1358 w1359 A216 C217 t210 → SL true (Krw 4 (by decide)) (m + 16) 0 c1358 w1359 A468 C469 (List.replicate t462.length (none : Option (List Value))) → haulagelaw20_BagOwn.j29 k a1 t177 t188 t199 t210 o435 t462 = some r → K1197 a w1359 := by
          intro c1358 w1359 a  F E B h4 h434 h185 h196 h207 h218 h470 H; unfold haulagelaw20_BagOwn.j29 at H
          as_aux_lemma =>
          refine hK1197 _ _ ?_; refine sr fun K1360 hK1360 => qm F fun a F => ?_; obtain ⟨t1361, q1362, H⟩ := bind_some H; refine qc F Try.func15 (bag_Bag_Waiting.calls (m := m + 28) (pl hm0) B h434 (by omega) (by omega) (m + 26) lm (m + 27) ⟨(pl hm0), lm⟩ _ q1362) ?_; rintro e w1364 ⟨c1363, A1367, C1368, rfl, E1365, B, h1369⟩; refine rt fun a F => ?_; replace h4 := h4.ev E1365; replace h185 := h185.ev E1365; replace h196 := h196.ev E1365; replace h207 := h207.ev E1365; replace h218 := h218.ev E1365; replace h470 := h470.ev E1365; replace E := E.n E1365; refine qa F fun a F => nil (hK1360 _ _ ?_)
          as_aux_lemma =>
          refine sq fun K1371 hK1371 => ?_; refine sr fun K1372 hK1372 => qa F fun a F => nil (hK1372 _ _ ?_); refine wp_block ?_; obtain ⟨x1383, HL, HR1382⟩ := bind_some H; have J1424 : ∀ (c1425 : Nat → Nat) (w1426 : World) (a : Act), Fr a 365 [(8, .slice A183 (List.replicate t177.length (none : Option (List Value))).length C184), (9, .slice A194 (List.replicate t188.length (none : Option (List Value))).length C195), (10, .slice A205 t199.length C206), (11, .slice A216 t210.length C217), (16, .slice A468 (List.replicate t462.length (none : Option (List Value))).length C469)] → Ev (fun x => False ∨ m ≤ x) c0 w0 c1425 w1426 → CB (m + 28) c1425 w1426 → SL true (Krw 4 (by decide)) (m + 4) 0 c1425 w1426 A183 C184 (List.replicate t177.length (none : Option (List Value))) → SL true (Krw 4 (by decide)) (m + 6) 0 c1425 w1426 A194 C195 (List.replicate t188.length (none : Option (List Value))) → SL true (Kint .i64) (m + 8) 0 c1425 w1426 A205 C206 t199 → SL true (Kint .i64) (m + 9) 0 c1425 w1426 A216 C217 t210 → SL true (Krw 4 (by decide)) (m + 16) 0 c1425 w1426 A468 C469 (List.replicate t462.length (none : Option (List Value))) → haulagelaw20_BagOwn.j31 k t177 t188 t199 t210 t462 = some r → K1371 a w1426 := by
           intro c1425 w1426 a  F E B h185 h196 h207 h218 h470 H; unfold haulagelaw20_BagOwn.j31 at H; refine hK1371 _ _ ?_; refine sr fun K1427 hK1427 => qm F fun a F => qm F fun a F => qm F fun a F => ?_; obtain ⟨t1428, q1429, H⟩ := bind_some H; refine qc F Try.func21 (haulagelaw20_outer.calls k (m := m + 28) (pl hm0) B h185 h196 h470 ⟨(pl hm0), lm⟩ ⟨(pl hm0), lm, mm⟩ ⟨(pl hm0), lm, mm, mm⟩ _ q1429) ?_; rintro e w1431 ⟨c1430, rfl, E1432, B⟩; refine rt fun a F => ?_; replace h207 := h207.ev E1432 (nor mm (nor mm mm)) (nor ne_zm (nor ne_zm ne_zm))
           as_aux_lemma =>
           replace h218 := h218.ev E1432 (nor mm (nor mm mm)) (nor ne_zm (nor ne_zm ne_zm)); replace E := E.trans E1432 (fun x (q : x = m + 4 ∨ x = m + 6 ∨ x = m + 16) => q.elim (fun q => Or.inr (le_col q)) (fun q => q.elim (fun q => Or.inr (le_col q)) (fun q => Or.inr (le_col q)))); refine qm F fun a F => ?_
           by_cases hb1435 : t1428 = true
           ·replace H := ip hb1435 H; refine qy F hb1435 ?_; refine qm F fun a F => ?_; refine qy F hb1435 ?_; refine qm F fun a F => ?_; obtain ⟨t1436, q1437, H⟩ := bind_some H; refine qy F hb1435 ?_; refine qc F Try.func22 (haulagelaw20_numbers.calls k (m := m + 28) (pl hm0) B h207 h218 ⟨(pl hm0), lm⟩ ⟨(pl hm0), lm, mm⟩ _ q1437) ?_; rintro e w1439 ⟨c1438, rfl, E1440, B⟩; refine rt fun a F => ?_; replace E := E.trans E1440 lc2
            as_aux_lemma =>
            refine qv F (r_pick_t F rfl hb1435 rfl) fun a F => ?_; refine qa F fun a F => nil (hK1427 _ _ ?_); replace F : Fr a 365 [(2, .bool t1436)] := F.sub ⟨rfl, trivial⟩; refine wp_ret ?_; obtain rfl := si H; refine out1 F rfl rfl ?_; exact ⟨cf (ct m) c1438, rfl, E.lv B0, cfb⟩
           replace H := im hb1435 H; refine qn F (bfalse hb1435) fun a F => qn F (bfalse hb1435) fun a F => qn F (bfalse hb1435) fun a F => ?_; refine qv F (r_pick_f F rfl (bfalse hb1435) rfl) fun a F => ?_; refine qa F fun a F => nil (hK1427 _ _ ?_); replace F : Fr a 365 [(2, .bool false)] := F.sub ⟨rfl, trivial⟩; refine wp_ret ?_; obtain rfl := si H
           as_aux_lemma =>
           refine out1 F rfl rfl ?_; exact ⟨cf (ct m) c1430, rfl, E.lv B0, cfb⟩
          refine loop_fuel (I := fun n a w => ∃ (i1373 : Int) (c : Nat → Nat), Fr a 365 [(0, .slice A2 a1.length C3), (8, .slice A183 (List.replicate t177.length (none : Option (List Value))).length C184), (9, .slice A194 (List.replicate t188.length (none : Option (List Value))).length C195), (10, .slice A205 t199.length C206), (11, .slice A216 t210.length C217), (16, .slice A468 (List.replicate t462.length (none : Option (List Value))).length C469), (28, .slice A1367 t1361.length C1368), (29, .int .i64 i1373)] ∧ Ev (fun x => False ∨ m ≤ x) c0 w0 c w ∧ CB (m + 28) c w ∧ SL false (Kslice (Kint .u8)) 0 0 c w A2 C3 a1 ∧ SL true (Krw 4 (by decide)) (m + 4) 0 c w A183 C184 (List.replicate t177.length (none : Option (List Value))) ∧ SL true (Krw 4 (by decide)) (m + 6) 0 c w A194 C195 (List.replicate t188.length (none : Option (List Value))) ∧ SL true (Kint .i64) (m + 8) 0 c w A205 C206 t199 ∧ SL true (Kint .i64) (m + 9) 0 c w A216 C217 t210 ∧ SL true (Krw 4 (by decide)) (m + 16) 0 c w A468 C469 (List.replicate t462.length (none : Option (List Value))) ∧ OL KO_api_Letter (m + 26) (m + 27) c w A1367 C1368 t1361 ∧ loop (fun (s_ : Int) => haulagelaw20_BagOwn.b30 k a1 t1361 s_) n i1373 = some x1383) (k := k) ⟨0, c1363, F.sub ⟨rfl, rfl, rfl, rfl, rfl, rfl, rfl, rfl, trivial⟩, E, B, h4, h185, h196, h207, h218, h470, h1369, HL⟩ ?_; clear HL H E F B; intro n1380 X1376 hX1376 a w1375 ⟨i1373, c1374, F, E, B, h4, h185, h196, h207, h218, h470, h1369, HL⟩; obtain ⟨n1381, ctl1379, rfl, HB, HN1377, HD1378⟩ := loop_some HL; have H : haulagelaw20_BagOwn.b30 k a1 t1361 i1373 = some ctl1379 := HB; clear HB HL; unfold haulagelaw20_BagOwn.b30 at H; refine sq fun K1384 hK1384 => ?_; refine sr fun K1385 hK1385 => qm F fun a F => qm F fun a F => ?_; refine qv F (r_lensl F Try.underlying34 rfl) fun a F => ?_; refine qv F (r_lss F rfl rfl) fun a F => ?_; refine nil (hK1385 _ _ ?_)
          by_cases hb1386 : i1373 < (t1361.length : Int)
          ·replace H := ip hb1386 H
           as_aux_lemma =>
           refine wct (fb F (dt hb1386)) (wp_skip (hK1384 _ _ ?_)); refine sq fun K1387 hK1387 => ?_; refine wp_block ?_; refine sq fun K1388 hK1388 => ?_; have h1389 : SL false K_api_Letter (m + 26) (m + 27) c1374 w1375 A1367 C1368 t1361 := OL.view h1369 rfl KO_api_Letter.v; refine regD (SB No c1374 w1375) 11 (.q 0 (.q 1 (.q 2 (.q 3 (.q 4 (.q 5 (.q 6 (.q 7 (.q 8 (.e 9 (.q 10 .nil))))))))))) Try_hm (by decide +kernel) ?_; intro w1390 w1_ w2_ w3_ w4_; have E1391 : Ev No c1374 w1375 c1374 w1390 := Ev.same w1_ w2_ w3_ w4_; replace B := B.same w1_; have zh4 := h4; have zh1389 := h1389; have ER : Ev No c1374 w1375 c1374 w1390 := Ev.same w1_ w2_ w3_ w4_; replace E := E.n E1391; refine dm F ER.sb fun a F => ?_
           as_aux_lemma =>
           refine dm F ER.sb fun a F => ?_; replace H := ifN H; obtain ⟨g1392, H⟩ := H; obtain ⟨ad1393, cs1394, e1395, h1396, r1397⟩ := SL.at zh1389 i1373 g1392.1 g1392.2; obtain ⟨A1398, C1399, rfl, h1400⟩ := r1397; replace h1400 := SL.fl (i' := 0) h1400 (fun q => q); obtain ⟨qa1401, qqa1401⟩ : ∃ q, q = (ad1393.add (i1373.toNat * 4)) := ⟨_, rfl⟩; have h1396 : AT false (m + 26) c1374 w1375 qa1401 [.int .i64 ((rd t1361 i1373).Number), .int .i64 ((rd t1361 i1373).From), .int .i64 ((rd t1361 i1373).To), .slice A1398 ((rd t1361 i1373).Data).length C1399] := by rw [qqa1401]; exact h1396
           replace h1400 := h1400.ev ER nq nq; have zh1396 := h1396; refine dq F (fun wq hS => r_indexAddr' F Try.underlying34 sz_40 rfl rfl g1392.1 g1392.2 e1395 qqa1401) ER.sb fun a F => ?_; refine df F ff_40_3 ER.sb fun a F => ?_; refine dl F ag_27 zh1396 nq ER.sb fun a F => ?_; refine dm F ER.sb fun a F => ?_
           as_aux_lemma =>
           refine dm F ER.sb fun a F => ?_; replace H := ifN H; obtain ⟨g1403, H⟩ := H; obtain ⟨ad1404, cs1405, e1406, h1407, r1408⟩ := SL.at zh4 i1373 g1403.1 g1403.2; obtain ⟨A1409, C1410, rfl, h1411⟩ := r1408; replace h1411 := SL.fl (i' := 0) h1411 (fun q => q); obtain ⟨qa1412, qqa1412⟩ : ∃ q, q = (ad1404.add (i1373.toNat * 1)) := ⟨_, rfl⟩; have h1407 : AT false 0 c1374 w1375 qa1412 [.slice A1409 (rd a1 i1373).length C1410] := by rw [qqa1412]; exact h1407
           replace h1411 := h1411.ev ER nq nq; have zh1407 := h1407; refine dq F (fun wq hS => r_indexAddr' F Try.underlying22 sz_27 rfl rfl g1403.1 g1403.2 e1406 qqa1412) ER.sb fun a F => ?_; refine dq F (fun wq hS => r_load F rfl ag_27 (AT.cell0 (AT.sb zh1407 hS nq) rfl)) ER.sb fun a F => ?_; refine d_e ?_; obtain ⟨t1414, q1415, H⟩ := bind_some H
           as_aux_lemma =>
           refine oc F Try.func19 (haulagelaw20_same.calls k (m := m + 28) (pl hm0) B h1400 h1411 lm (pl hm0) _ q1415) ?_; rintro e w1417 ⟨c1416, rfl, E1418, B⟩; refine rt fun a F => ?_; replace ER := ER.trans E1418 nx; replace h4 := (h4.ev E1391).ev E1418; replace h185 := (h185.ev E1391).ev E1418; replace h196 := (h196.ev E1391).ev E1418; replace h207 := (h207.ev E1391).ev E1418; replace h218 := (h218.ev E1391).ev E1418; replace h470 := (h470.ev E1391).ev E1418; replace h1369 := (h1369.ev E1391).ev E1418; replace E := E.n E1418; refine ⟨fun _ => ER.sb, ?_⟩; refine dq F (fun wq hS => r_not F rfl) ER.sb fun a F => ?_
           as_aux_lemma =>
           refine d_nil ?_; refine hK1388 _ _ ?_; replace F : Fr a 365 [(0, .slice A2 a1.length C3), (8, .slice A183 (List.replicate t177.length (none : Option (List Value))).length C184), (9, .slice A194 (List.replicate t188.length (none : Option (List Value))).length C195), (10, .slice A205 t199.length C206), (11, .slice A216 t210.length C217), (16, .slice A468 (List.replicate t462.length (none : Option (List Value))).length C469), (28, .slice A1367 t1361.length C1368), (29, .int .i64 i1373), (355, .bool (!t1414))] := F.sub ⟨rfl, rfl, rfl, rfl, rfl, rfl, rfl, rfl, rfl, trivial⟩
           by_cases hb1421 : t1414 = true
           ·replace H := ip hb1421 H; refine wcf (fb F (congrArg not hb1421)) (wp_skip (hK1387 _ _ ?_)); refine reg ?_; refine qm F fun a F => ?_; refine qv F (r_add F rfl rfl) fun a F => ?_; refine qa F fun a F => nil ?_; replace H := HN1377 _ (si H).symm; exact hX1376 _ _ _ (Nat.lt_succ_self _) ⟨(IntKind.i64.wrap (i1373 + 1)), c1416, F.sub ⟨rfl, rfl, rfl, rfl, rfl, rfl, rfl, rfl, trivial⟩, E, B, h4, h185, h196, h207, h218, h470, h1369, H⟩
           replace H := im hb1421 H; refine wct (fb F (congrArg not (bfalse hb1421))) ?_; refine sr fun K1422 hK1422 => qa F fun a F => nil (hK1422 _ _ ?_); replace F : Fr a 365 [(2, .bool false)] := F.sub ⟨rfl, trivial⟩
           as_aux_lemma =>
           refine wp_ret ?_; refine inbR ?_; refine thenR ?_; refine thenR ?_; refine inbR ?_; refine thenR ?_; have hx_ := HD1378 _ (si H).symm; have H := HR1382; rw [← hx_] at H; replace H : some false = some r := H; obtain rfl := si H; refine out1 F rfl rfl ?_; exact ⟨cf (ct m) c1416, rfl, E.lv B0, cfb⟩
          replace H := im hb1386 H
          as_aux_lemma =>
          refine wcf (fb F (dz hb1386)) ?_; refine wp_exit ?_; refine thenE ?_; refine thenE ?_; refine inbE ?_; have hx_ := HD1378 _ (si H).symm; have H := HR1382; rw [← hx_] at H; exact J1424 c1374 w1375 a  (F.sub ⟨rfl, rfl, rfl, rfl, rfl, trivial⟩) E B h185 h196 h207 h218 h470 H
         refine loop_fuel (I := fun n a w => ∃ (i1199 : Int) (c : Nat → Nat), Fr a 365 [(0, .slice A2 a1.length C3), (3, .pointer p24), (8, .slice A183 (List.replicate t177.length (none : Option (List Value))).length C184), (9, .slice A194 (List.replicate t188.length (none : Option (List Value))).length C195), (10, .slice A205 t199.length C206), (11, .slice A216 t210.length C217), (12, .slice A979 l978.length C980), (16, .slice A468 (List.replicate t462.length (none : Option (List Value))).length C469), (20, .slice A1192 l1191.length C1193), (24, .int .i64 i1199)] ∧ Ev (fun x => False ∨ m ≤ x) c0 w0 c w ∧ CB (m + 28) c w ∧ SL false (Kslice (Kint .u8)) 0 0 c w A2 C3 a1 ∧ BG (m + 1) (m + 2) c w p24 o435 ∧ SL true (Krw 4 (by decide)) (m + 4) 0 c w A183 C184 (List.replicate t177.length (none : Option (List Value))) ∧ SL true (Krw 4 (by decide)) (m + 6) 0 c w A194 C195 (List.replicate t188.length (none : Option (List Value))) ∧ SL true (Kint .i64) (m + 8) 0 c w A205 C206 t199 ∧ SL true (Kint .i64) (m + 9) 0 c w A216 C217 t210 ∧ SL true (Kslice (Kint .u8)) (m + 14) 0 c w A979 C980 l978 ∧ SL true (Krw 4 (by decide)) (m + 16) 0 c w A468 C469 (List.replicate t462.length (none : Option (List Value))) ∧ SL true (Kslice (Kint .u8)) (m + 25) 0 c w A1192 C1193 l1191 ∧ loop (fun (s_ : Int) => haulagelaw20_BagOwn.b28 k l978 l1191 s_) n i1199 = some x1209) (k := k) ⟨0, c1195, F.sub ⟨rfl, rfl, rfl, rfl, rfl, rfl, rfl, rfl, rfl, rfl, trivial⟩, E, B, h4, h434, h185, h196, h207, h218, h977, h470, h1190, HL⟩ ?_; clear HL H E F B; intro n1206 X1202 hX1202 a w1201 ⟨i1199, c1200, F, E, B, h4, h434, h185, h196, h207, h218, h977, h470, h1190, HL⟩; obtain ⟨n1207, ctl1205, rfl, HB, HN1203, HD1204⟩ := loop_some HL; have H : haulagelaw20_BagOwn.b28 k l978 l1191 i1199 = some ctl1205 := HB; clear HB HL; unfold haulagelaw20_BagOwn.b28 at H
         as_aux_lemma =>
         refine sq fun K1210 hK1210 => ?_; refine sr fun K1211 hK1211 => qm F fun a F => qm F fun a F => ?_; refine qv F (r_lensl F Try.underlying22 rfl) fun a F => ?_; refine qv F (r_lss F rfl rfl) fun a F => ?_; refine nil (hK1211 _ _ ?_)
         by_cases hb1212 : i1199 < (l978.length : Int)
         ·replace H := ip hb1212 H; refine wct (fb F (dt hb1212)) (wp_skip (hK1210 _ _ ?_)); refine sq fun K1213 hK1213 => ?_; refine wp_block ?_; refine sr fun K1214 hK1214 => qm F fun a F => qm F fun a F => ?_; replace H := ifN H; obtain ⟨g1215, H⟩ := H; obtain ⟨ad1216, cs1217, e1218, h1219, r1220⟩ := SL.at h977 i1199 g1215.1 g1215.2; obtain ⟨A1221, C1222, rfl, h1223⟩ := r1220; obtain ⟨qa1224, qqa1224⟩ : ∃ q, q = (ad1216.add (i1199.toNat * 1)) := ⟨_, rfl⟩; have h1219 : AT true (m + 14) c1200 w1201 qa1224 [.slice A1221 (rd l978 i1199).length C1222] := by rw [qqa1224]; exact h1219
          as_aux_lemma =>
          refine qv F (r_indexAddr' F Try.underlying22 sz_27 rfl rfl g1215.1 g1215.2 e1218 qqa1224) fun a F => ?_; refine qv F (r_load F rfl ag_27 (AT.cell0 h1219 rfl)) fun a F => ?_; refine qv F (r_lensl F Try.underlying27 rfl) fun a F => ?_; refine qa F fun a F => nil (hK1214 _ _ ?_); replace F : Fr a 365 [(0, .slice A2 a1.length C3), (3, .pointer p24), (8, .slice A183 (List.replicate t177.length (none : Option (List Value))).length C184), (9, .slice A194 (List.replicate t188.length (none : Option (List Value))).length C195), (10, .slice A205 t199.length C206), (11, .slice A216 t210.length C217), (12, .slice A979 l978.length C980), (16, .slice A468 (List.replicate t462.length (none : Option (List Value))).length C469), (20, .slice A1192 l1191.length C1193), (24, .int .i64 i1199), (25, .int .i64 ((rd l978 i1199).length : Int))] := F.sub ⟨rfl, rfl, rfl, rfl, rfl, rfl, rfl, rfl, rfl, rfl, rfl, trivial⟩; refine sq fun K1226 hK1226 => ?_; refine sr fun K1227 hK1227 => qa F fun a F => nil (hK1227 _ _ ?_); refine wp_block ?_; obtain ⟨x1238, HL, HR1237⟩ := bind_some H; have J1311 : ∀ (c1312 : Nat → Nat) (w1313 : World) (a : Act), Fr a 365 [(0, .slice A2 a1.length C3), (3, .pointer p24), (8, .slice A183 (List.replicate t177.length (none : Option (List Value))).length C184), (9, .slice A194 (List.replicate t188.length (none : Option (List Value))).length C195), (10, .slice A205 t199.length C206), (11, .slice A216 t210.length C217), (12, .slice A979 l978.length C980), (16, .slice A468 (List.replicate t462.length (none : Option (List Value))).length C469), (20, .slice A1192 l1191.length C1193), (24, .int .i64 i1199), (25, .int .i64 ((rd l978 i1199).length : Int))] → Ev (fun x => False ∨ m ≤ x) c0 w0 c1312 w1313 → CB (m + 28) c1312 w1313 → SL false (Kslice (Kint .u8)) 0 0 c1312 w1313 A2 C3 a1 → BG (m + 1) (m + 2) c1312 w1313 p24 o435 → SL true (Krw 4 (by decide)) (m + 4) 0 c1312 w1313 A183 C184 (List.replicate t177.length (none : Option (List Value))) → SL true (Krw 4 (by decide)) (m + 6) 0 c1312 w1313 A194 C195 (List.replicate t188.length (none : Option (List Value))) → SL true (Kint .i64) (m + 8) 0 c1312 w1313 A205 C206 t199 → SL true (Kint .i64) (m + 9) 0 c1312 w1313 A216 C217 t210 → SL true (Kslice (Kint .u8)) (m + 14) 0 c1312 w1313 A979 C980 l978 → SL true (Krw 4 (by decide)) (m + 16) 0 c1312 w1313 A468 C469 (List.replicate t462.length (none : Option (List Value))) → SL true (Kslice (Kint .u8)) (m + 25) 0 c1312 w1313 A1192 C1193 l1191 → haulagelaw20_BagOwn.j25 k l978 l1191 i1199 = some ctl1205 → K1226 a w1313 := by
           intro c1312 w1313 a  F E B h4 h434 h185 h196 h207 h218 h977 h470 h1190 H; unfold haulagelaw20_BagOwn.j25 at H; refine hK1226 _ _ ?_; refine sr fun K1314 hK1314 => qa F fun a F => nil (hK1314 _ _ ?_)
           as_aux_lemma =>
           refine wp_block ?_; obtain ⟨x1325, HL, HR1324⟩ := bind_some H; have J1353 : ∀ (c1354 : Nat → Nat) (w1355 : World) (a : Act), Fr a 365 [(0, .slice A2 a1.length C3), (3, .pointer p24), (8, .slice A183 (List.replicate t177.length (none : Option (List Value))).length C184), (9, .slice A194 (List.replicate t188.length (none : Option (List Value))).length C195), (10, .slice A205 t199.length C206), (11, .slice A216 t210.length C217), (12, .slice A979 l978.length C980), (16, .slice A468 (List.replicate t462.length (none : Option (List Value))).length C469), (20, .slice A1192 l1191.length C1193), (24, .int .i64 i1199)] → Ev (fun x => False ∨ m ≤ x) c0 w0 c1354 w1355 → CB (m + 28) c1354 w1355 → SL false (Kslice (Kint .u8)) 0 0 c1354 w1355 A2 C3 a1 → BG (m + 1) (m + 2) c1354 w1355 p24 o435 → SL true (Krw 4 (by decide)) (m + 4) 0 c1354 w1355 A183 C184 (List.replicate t177.length (none : Option (List Value))) → SL true (Krw 4 (by decide)) (m + 6) 0 c1354 w1355 A194 C195 (List.replicate t188.length (none : Option (List Value))) → SL true (Kint .i64) (m + 8) 0 c1354 w1355 A205 C206 t199 → SL true (Kint .i64) (m + 9) 0 c1354 w1355 A216 C217 t210 → SL true (Kslice (Kint .u8)) (m + 14) 0 c1354 w1355 A979 C980 l978 → SL true (Krw 4 (by decide)) (m + 16) 0 c1354 w1355 A468 C469 (List.replicate t462.length (none : Option (List Value))) → SL true (Kslice (Kint .u8)) (m + 25) 0 c1354 w1355 A1192 C1193 l1191 → haulagelaw20_BagOwn.j27 i1199 = some ctl1205 → K1213 a w1355 := by
            intro c1354 w1355 a  F E B h4 h434 h185 h196 h207 h218 h977 h470 h1190 H; unfold haulagelaw20_BagOwn.j27 at H; refine hK1213 _ _ ?_; refine reg ?_; refine qm F fun a F => ?_; refine qv F (r_add F rfl rfl) fun a F => ?_; refine qa F fun a F => nil ?_; replace H := HN1203 _ (si H).symm; exact hX1202 _ _ _ (Nat.lt_succ_self _) ⟨(IntKind.i64.wrap (i1199 + 1)), c1354, F.sub ⟨rfl, rfl, rfl, rfl, rfl, rfl, rfl, rfl, rfl, rfl, trivial⟩, E, B, h4, h434, h185, h196, h207, h218, h977, h470, h1190, H⟩
           refine loop_fuel (I := fun n a w => ∃ (i1315 : Int) (c : Nat → Nat), Fr a 365 [(0, .slice A2 a1.length C3), (3, .pointer p24), (8, .slice A183 (List.replicate t177.length (none : Option (List Value))).length C184), (9, .slice A194 (List.replicate t188.length (none : Option (List Value))).length C195), (10, .slice A205 t199.length C206), (11, .slice A216 t210.length C217), (12, .slice A979 l978.length C980), (16, .slice A468 (List.replicate t462.length (none : Option (List Value))).length C469), (20, .slice A1192 l1191.length C1193), (24, .int .i64 i1199), (25, .int .i64 ((rd l978 i1199).length : Int)), (27, .int .i64 i1315)] ∧ Ev (fun x => False ∨ m ≤ x) c0 w0 c w ∧ CB (m + 28) c w ∧ SL false (Kslice (Kint .u8)) 0 0 c w A2 C3 a1 ∧ BG (m + 1) (m + 2) c w p24 o435 ∧ SL true (Krw 4 (by decide)) (m + 4) 0 c w A183 C184 (List.replicate t177.length (none : Option (List Value))) ∧ SL true (Krw 4 (by decide)) (m + 6) 0 c w A194 C195 (List.replicate t188.length (none : Option (List Value))) ∧ SL true (Kint .i64) (m + 8) 0 c w A205 C206 t199 ∧ SL true (Kint .i64) (m + 9) 0 c w A216 C217 t210 ∧ SL true (Kslice (Kint .u8)) (m + 14) 0 c w A979 C980 l978 ∧ SL true (Krw 4 (by decide)) (m + 16) 0 c w A468 C469 (List.replicate t462.length (none : Option (List Value))) ∧ SL true (Kslice (Kint .u8)) (m + 25) 0 c w A1192 C1193 l1191 ∧ loop (fun (s_ : Int) => haulagelaw20_BagOwn.b26 l978 l1191 i1199 s_) n i1315 = some x1325) (k := k) ⟨0, c1312, F.sub ⟨rfl, rfl, rfl, rfl, rfl, rfl, rfl, rfl, rfl, rfl, rfl, rfl, trivial⟩, E, B, h4, h434, h185, h196, h207, h218, h977, h470, h1190, HL⟩ ?_; clear HL H E F B; intro n1322 X1318 hX1318 a w1317 ⟨i1315, c1316, F, E, B, h4, h434, h185, h196, h207, h218, h977, h470, h1190, HL⟩; obtain ⟨n1323, ctl1321, rfl, HB, HN1319, HD1320⟩ := loop_some HL; have H : haulagelaw20_BagOwn.b26 l978 l1191 i1199 i1315 = some ctl1321 := HB; clear HB HL; unfold haulagelaw20_BagOwn.b26 at H
           as_aux_lemma =>
           refine sq fun K1326 hK1326 => ?_; refine sr fun K1327 hK1327 => qm F fun a F => ?_; refine qv F (r_lss F rfl rfl) fun a F => ?_; refine nil (hK1327 _ _ ?_)
           by_cases hb1328 : i1315 < 70
           ·replace H := ip hb1328 H; refine wct (fb F (dt hb1328)) (wp_skip (hK1326 _ _ ?_)); refine sq fun K1329 hK1329 => ?_; refine wp_block ?_; refine sr fun K1330 hK1330 => qm F fun a F => qm F fun a F => ?_; replace H := ifN H; obtain ⟨g1331, H⟩ := H; obtain ⟨ad1332, cs1333, e1334, h1335, r1336⟩ := SL.at h1190 i1199 g1331.1 g1331.2; obtain ⟨A1337, C1338, rfl, h1339⟩ := r1336; replace h1339 := SL.fl (i' := 0) h1339 (fun q => q); obtain ⟨qa1340, qqa1340⟩ : ∃ q, q = (ad1332.add (i1199.toNat * 1)) := ⟨_, rfl⟩; have h1335 : AT true (m + 25) c1316 w1317 qa1340 [.slice A1337 (rd l1191 i1199).length C1338] := by rw [qqa1340]; exact h1335
            as_aux_lemma =>
            refine qv F (r_indexAddr' F Try.underlying22 sz_27 rfl rfl g1331.1 g1331.2 e1334 qqa1340) fun a F => ?_; refine qv F (r_load F rfl ag_27 (AT.cell0 h1335 rfl)) fun a F => ?_; refine qm F fun a F => qm F fun a F => ?_; refine qv F (r_add F rfl rfl) fun a F => ?_; replace H := ifN H; obtain ⟨g1342, H⟩ := H; obtain ⟨ad1343, cs1344, e1345, h1346, r1347⟩ := SL.at h1339 (IntKind.i64.wrap (((rd l978 i1199).length : Int) + i1315)) g1342.1 g1342.2; obtain rfl : cs1344 = [.int .u8 (rd (rd l1191 i1199) (IntKind.i64.wrap (((rd l978 i1199).length : Int) + i1315)))] := r1347; obtain ⟨qa1348, qqa1348⟩ : ∃ q, q = (ad1343.add ((IntKind.i64.wrap (((rd l978 i1199).length : Int) + i1315)).toNat * 1)) := ⟨_, rfl⟩; have h1346 : AT false 0 c1316 w1317 qa1348 [.int .u8 (rd (rd l1191 i1199) (IntKind.i64.wrap (((rd l978 i1199).length : Int) + i1315)))] := by rw [qqa1348]; exact h1346
            refine qv F (r_indexAddr' F Try.underlying27 sz_5 rfl rfl g1342.1 g1342.2 e1345 qqa1348) fun a F => ?_; refine qv F (r_load F rfl ag_5 (AT.cell0 h1346 rfl)) fun a F => ?_; refine qm F fun a F => ?_; refine qv F (r_add F rfl rfl) fun a F => ?_
            as_aux_lemma =>
            refine qm F fun a F => ?_; refine qv F (r_mul F rfl rfl) fun a F => ?_; refine qv F (r_add F rfl rfl) fun a F => ?_; refine qv F (r_convi F Try.underlying5 rfl rfl) fun a F => ?_; refine qv F (r_neq F rfl rfl) fun a F => ?_; refine nil (hK1330 _ _ ?_); replace F : Fr a 365 [(0, .slice A2 a1.length C3), (3, .pointer p24), (8, .slice A183 (List.replicate t177.length (none : Option (List Value))).length C184), (9, .slice A194 (List.replicate t188.length (none : Option (List Value))).length C195), (10, .slice A205 t199.length C206), (11, .slice A216 t210.length C217), (12, .slice A979 l978.length C980), (16, .slice A468 (List.replicate t462.length (none : Option (List Value))).length C469), (20, .slice A1192 l1191.length C1193), (24, .int .i64 i1199), (25, .int .i64 ((rd l978 i1199).length : Int)), (27, .int .i64 i1315), (336, .bool (!decide ((rd (rd l1191 i1199) (IntKind.i64.wrap (((rd l978 i1199).length : Int) + i1315))) = (IntKind.u8.wrap (IntKind.i64.wrap ((IntKind.i64.wrap (100 + i1199)) + (IntKind.i64.wrap (5 * i1315))))))))] := F.sub ⟨rfl, rfl, rfl, rfl, rfl, rfl, rfl, rfl, rfl, rfl, rfl, rfl, rfl, trivial⟩
            by_cases hb1350 : (rd (rd l1191 i1199) (IntKind.i64.wrap (((rd l978 i1199).length : Int) + i1315))) = (IntKind.u8.wrap (IntKind.i64.wrap ((IntKind.i64.wrap (100 + i1199)) + (IntKind.i64.wrap (5 * i1315)))))
            ·replace H := ip hb1350 H; refine wcf (fb F (congrArg not (dt hb1350))) (wp_skip (hK1329 _ _ ?_)); refine reg ?_; refine qm F fun a F => ?_; refine qv F (r_add F rfl rfl) fun a F => ?_; refine qa F fun a F => nil ?_; replace H := HN1319 _ (si H).symm; exact hX1318 _ _ _ (Nat.lt_succ_self _) ⟨(IntKind.i64.wrap (i1315 + 1)), c1316, F.sub ⟨rfl, rfl, rfl, rfl, rfl, rfl, rfl, rfl, rfl, rfl, rfl, rfl, trivial⟩, E, B, h4, h434, h185, h196, h207, h218, h977, h470, h1190, H⟩
            as_aux_lemma =>
            replace H := im hb1350 H; refine wct (fb F (congrArg not (dz hb1350))) ?_; refine sr fun K1351 hK1351 => qa F fun a F => nil (hK1351 _ _ ?_); replace F : Fr a 365 [(2, .bool false)] := F.sub ⟨rfl, trivial⟩; refine wp_ret ?_; refine inbR ?_; refine thenR ?_; refine thenR ?_; refine inbR ?_; refine inbR ?_; refine thenR ?_; refine thenR ?_; refine inbR ?_; refine thenR ?_; have hx_ := HD1320 _ (si H).symm; have H := HR1324; rw [← hx_] at H
            as_aux_lemma =>
            replace H : some (.done (.inr false)) = some ctl1205 := H; have hx_ := HD1204 _ (si H).symm; have H := HR1208; rw [← hx_] at H; replace H : some false = some r := H; obtain rfl := si H; refine out1 F rfl rfl ?_; exact ⟨cf (ct m) c1316, rfl, E.lv B0, cfb⟩
           replace H := im hb1328 H; refine wcf (fb F (dz hb1328)) ?_; refine wp_exit ?_; refine thenE ?_; refine thenE ?_; refine inbE ?_; have hx_ := HD1320 _ (si H).symm; have H := HR1324; rw [← hx_] at H; exact J1353 c1316 w1317 a  (F.sub ⟨rfl, rfl, rfl, rfl, rfl, rfl, rfl, rfl, rfl, rfl, trivial⟩) E B h4 h434 h185 h196 h207 h218 h977 h470 h1190 H
          refine loop_fuel (I := fun n a w => ∃ (i1228 : Int) (c : Nat → Nat), Fr a 365 [(0, .slice A2 a1.length C3), (3, .pointer p24), (8, .slice A183 (List.replicate t177.length (none : Option (List Value))).length C184), (9, .slice A194 (List.replicate t188.length (none : Option (List Value))).length C195), (10, .slice A205 t199.length C206), (11, .slice A216 t210.length C217), (12, .slice A979 l978.length C980), (16, .slice A468 (List.replicate t462.length (none : Option (List Value))).length C469), (20, .slice A1192 l1191.length C1193), (24, .int .i64 i1199), (25, .int .i64 ((rd l978 i1199).length : Int)), (26, .int .i64 i1228)] ∧ Ev (fun x => False ∨ m ≤ x) c0 w0 c w ∧ CB (m + 28) c w ∧ SL false (Kslice (Kint .u8)) 0 0 c w A2 C3 a1 ∧ BG (m + 1) (m + 2) c w p24 o435 ∧ SL true (Krw 4 (by decide)) (m + 4) 0 c w A183 C184 (List.replicate t177.length (none : Option (List Value))) ∧ SL true (Krw 4 (by decide)) (m + 6) 0 c w A194 C195 (List.replicate t188.length (none : Option (List Value))) ∧ SL true (Kint .i64) (m + 8) 0 c w A205 C206 t199 ∧ SL true (Kint .i64) (m + 9) 0 c w A216 C217 t210 ∧ SL true (Kslice (Kint .u8)) (m + 14) 0 c w A979 C980 l978 ∧ SL true (Krw 4 (by decide)) (m + 16) 0 c w A468 C469 (List.replicate t462.length (none : Option (List Value))) ∧ SL true (Kslice (Kint .u8)) (m + 25) 0 c w A1192 C1193 l1191 ∧ loop (fun (s_ : Int) => haulagelaw20_BagOwn.b24 l978 l1191 i1199 s_) n i1228 = some x1238) (k := k) ⟨0, c1200, F.sub ⟨rfl, rfl, rfl, rfl, rfl, rfl, rfl, rfl, rfl, rfl, rfl, rfl, trivial⟩, E, B, h4, h434, h185, h196, h207, h218, h977, h470, h1190, HL⟩ ?_; clear HL H E F B; intro n1235 X1231 hX1231 a w1230 ⟨i1228, c1229, F, E, B, h4, h434, h185, h196, h207, h218, h977, h470, h1190, HL⟩; obtain ⟨n1236, ctl1234, rfl, HB, HN1232, HD1233⟩ := loop_some HL; have H : haulagelaw20_BagOwn.b24 l978 l1191 i1199 i1228 = some ctl1234 := HB; clear HB HL; unfold haulagelaw20_BagOwn.b24 at H
          as_aux_lemma =>
          refine sq fun K1239 hK1239 => ?_; refine sr fun K1240 hK1240 => qm F fun a F => qm F fun a F => ?_; refine qv F (r_lss F rfl rfl) fun a F => ?_; refine nil (hK1240 _ _ ?_)
          by_cases hb1241 : i1228 < ((rd l978 i1199).length : Int)
          ·replace H := ip hb1241 H; refine wct (fb F (dt hb1241)) (wp_skip (hK1239 _ _ ?_)); refine sq fun K1242 hK1242 => ?_; refine wp_block ?_; refine sq fun K1243 hK1243 => ?_; have J1305 : ∀ (c1306 : Nat → Nat) (w1307 : World) (a : Act) (b1304 : Bool), Fr a 365 [(0, .slice A2 a1.length C3), (3, .pointer p24), (8, .slice A183 (List.replicate t177.length (none : Option (List Value))).length C184), (9, .slice A194 (List.replicate t188.length (none : Option (List Value))).length C195), (10, .slice A205 t199.length C206), (11, .slice A216 t210.length C217), (12, .slice A979 l978.length C980), (16, .slice A468 (List.replicate t462.length (none : Option (List Value))).length C469), (20, .slice A1192 l1191.length C1193), (24, .int .i64 i1199), (25, .int .i64 ((rd l978 i1199).length : Int)), (26, .int .i64 i1228), (316, .bool b1304)] → Ev (fun x => False ∨ m ≤ x) c0 w0 c1306 w1307 → CB (m + 28) c1306 w1307 → SL false (Kslice (Kint .u8)) 0 0 c1306 w1307 A2 C3 a1 → BG (m + 1) (m + 2) c1306 w1307 p24 o435 → SL true (Krw 4 (by decide)) (m + 4) 0 c1306 w1307 A183 C184 (List.replicate t177.length (none : Option (List Value))) → SL true (Krw 4 (by decide)) (m + 6) 0 c1306 w1307 A194 C195 (List.replicate t188.length (none : Option (List Value))) → SL true (Kint .i64) (m + 8) 0 c1306 w1307 A205 C206 t199 → SL true (Kint .i64) (m + 9) 0 c1306 w1307 A216 C217 t210 → SL true (Kslice (Kint .u8)) (m + 14) 0 c1306 w1307 A979 C980 l978 → SL true (Krw 4 (by decide)) (m + 16) 0 c1306 w1307 A468 C469 (List.replicate t462.length (none : Option (List Value))) → SL true (Kslice (Kint .u8)) (m + 25) 0 c1306 w1307 A1192 C1193 l1191 → haulagelaw20_BagOwn.j23 i1228 b1304 = some ctl1234 → K1243 a w1307 := by
            intro c1306 w1307 a b1304 F E B h4 h434 h185 h196 h207 h218 h977 h470 h1190 H; unfold haulagelaw20_BagOwn.j23 at H; refine hK1243 _ _ ?_
            by_cases hb1308 : b1304 = true
            ·replace H := ip hb1308 H
             as_aux_lemma =>
             refine wct (fb F hb1308) ?_; refine sr fun K1309 hK1309 => qa F fun a F => nil (hK1309 _ _ ?_); replace F : Fr a 365 [(2, .bool false)] := F.sub ⟨rfl, trivial⟩; refine wp_ret ?_; refine inbR ?_; refine thenR ?_; refine thenR ?_; refine inbR ?_; refine thenR ?_; refine inbR ?_; refine thenR ?_; refine thenR ?_; refine inbR ?_; refine thenR ?_; have hx_ := HD1233 _ (si H).symm; have H := HR1237; rw [← hx_] at H
             as_aux_lemma =>
             replace H : some (.done (.inr false)) = some ctl1205 := H; have hx_ := HD1204 _ (si H).symm; have H := HR1208; rw [← hx_] at H; replace H : some false = some r := H; obtain rfl := si H; refine out1 F rfl rfl ?_; exact ⟨cf (ct m) c1306, rfl, E.lv B0, cfb⟩
            replace H := im hb1308 H; refine wcf (fb F (bfalse hb1308)) (wp_skip (hK1242 _ _ ?_)); refine reg ?_; refine qm F fun a F => ?_; refine qv F (r_add F rfl rfl) fun a F => ?_; refine qa F fun a F => nil ?_
            as_aux_lemma =>
            replace H := HN1232 _ (si H).symm; exact hX1231 _ _ _ (Nat.lt_succ_self _) ⟨(IntKind.i64.wrap (i1228 + 1)), c1306, F.sub ⟨rfl, rfl, rfl, rfl, rfl, rfl, rfl, rfl, rfl, rfl, rfl, rfl, trivial⟩, E, B, h4, h434, h185, h196, h207, h218, h977, h470, h1190, H⟩
           refine regD (SB No c1229 w1230) 31 (.q 0 (.q 1 (.q 2 (.q 3 (.q 4 (.q 5 (.q 6 (.q 7 (.q 8 (.q 9 (.q 10 (.q 11 (.q 12 (.q 13 (.q 14 (.q 15 (.q 16 (.q 17 (.q 18 (.q 19 (.q 20 (.q 21 (.q 22 (.q 23 (.q 24 (.q 25 (.q 26 (.q 27 (.q 28 (.q 29 (.q 30 .nil))))))))))))))))))))))))))))))) Try_hm (by decide +kernel) ?_; intro w1244 w1_ w2_ w3_ w4_; have E1245 : Ev No c1229 w1230 c1229 w1244 := Ev.same w1_ w2_ w3_ w4_; replace B := B.same w1_; have zh977 := h977; have zh1190 := h1190; have ER : Ev No c1229 w1230 c1229 w1244 := Ev.same w1_ w2_ w3_ w4_; replace h4 := h4.ev E1245; replace h434 := h434.ev E1245; replace h185 := h185.ev E1245; replace h196 := h196.ev E1245; replace h207 := h207.ev E1245
           as_aux_lemma =>
           replace h218 := h218.ev E1245; replace h977 := h977.ev E1245; replace h470 := h470.ev E1245; replace h1190 := h1190.ev E1245; replace E := E.n E1245; refine dm F ER.sb fun a F => ?_; refine dm F ER.sb fun a F => ?_; replace H := ifN H; obtain ⟨g1246, H⟩ := H; obtain ⟨ad1247, cs1248, e1249, h1250, r1251⟩ := SL.at zh977 i1199 g1246.1 g1246.2; obtain ⟨A1252, C1253, rfl, h1254⟩ := r1251; replace h1254 := SL.fl (i' := 0) h1254 (fun q => q); obtain ⟨qa1255, qqa1255⟩ : ∃ q, q = (ad1247.add (i1199.toNat * 1)) := ⟨_, rfl⟩; have h1250 : AT true (m + 14) c1229 w1230 qa1255 [.slice A1252 (rd l978 i1199).length C1253] := by rw [qqa1255]; exact h1250
           have zh1254 := h1254; have zh1250 := h1250
           as_aux_lemma =>
           refine dq F (fun wq hS => r_indexAddr' F Try.underlying22 sz_27 rfl rfl g1246.1 g1246.2 e1249 qqa1255) ER.sb fun a F => ?_; refine dq F (fun wq hS => r_load F rfl ag_27 (AT.cell0 (AT.sb zh1250 hS nq) rfl)) ER.sb fun a F => ?_; refine dm F ER.sb fun a F => ?_; replace H := ifN H; obtain ⟨g1257, H⟩ := H; obtain ⟨ad1258, cs1259, e1260, h1261, r1262⟩ := SL.at zh1254 i1228 g1257.1 g1257.2; obtain rfl : cs1259 = [.int .u8 (rd (rd l978 i1199) i1228)] := r1262; obtain ⟨qa1263, qqa1263⟩ : ∃ q, q = (ad1258.add (i1228.toNat * 1)) := ⟨_, rfl⟩; have h1261 : AT false 0 c1229 w1230 qa1263 [.int .u8 (rd (rd l978 i1199) i1228)] := by rw [qqa1263]; exact h1261
           have zh1261 := h1261; refine dq F (fun wq hS => r_indexAddr' F Try.underlying27 sz_5 rfl rfl g1257.1 g1257.2 e1260 qqa1263) ER.sb fun a F => ?_; refine dq F (fun wq hS => r_load F rfl ag_5 (AT.cell0 (AT.sb zh1261 hS nq) rfl)) ER.sb fun a F => ?_; refine dm F ER.sb fun a F => ?_; refine dq F (fun wq hS => r_mul F rfl rfl) ER.sb fun a F => ?_
           as_aux_lemma =>
           refine dm F ER.sb fun a F => ?_; refine dq F (fun wq hS => r_mul F rfl rfl) ER.sb fun a F => ?_; refine dq F (fun wq hS => r_add F rfl rfl) ER.sb fun a F => ?_; refine dq F (fun wq hS => r_convi F Try.underlying5 rfl rfl) ER.sb fun a F => ?_; refine dq F (fun wq hS => r_neq F rfl rfl) ER.sb fun a F => ?_; refine dm F ER.sb fun a F => ?_
           by_cases hb1265 : (rd (rd l978 i1199) i1228) = (IntKind.u8.wrap (IntKind.i64.wrap ((IntKind.i64.wrap (7 * i1199)) + (IntKind.i64.wrap (3 * i1228)))))
           ·replace H := ip hb1265 H; refine dy F (congrArg not (dt hb1265)) (fun wq hS => r_move F rfl) ER.sb fun a F => ?_; refine dy F (congrArg not (dt hb1265)) (fun wq hS => r_move F rfl) ER.sb fun a F => ?_; replace H := ifN H; obtain ⟨g1266, H⟩ := H; obtain ⟨ad1267, cs1268, e1269, h1270, r1271⟩ := SL.at zh1190 i1199 g1266.1 g1266.2; obtain ⟨A1272, C1273, rfl, h1274⟩ := r1271; replace h1274 := SL.fl (i' := 0) h1274 (fun q => q); obtain ⟨qa1275, qqa1275⟩ : ∃ q, q = (ad1267.add (i1199.toNat * 1)) := ⟨_, rfl⟩; have h1270 : AT true (m + 25) c1229 w1230 qa1275 [.slice A1272 (rd l1191 i1199).length C1273] := by rw [qqa1275]; exact h1270
            have zh1274 := h1274; have zh1270 := h1270
            as_aux_lemma =>
            refine dy F (congrArg not (dt hb1265)) (fun wq hS => r_indexAddr' F Try.underlying22 sz_27 rfl rfl g1266.1 g1266.2 e1269 qqa1275) ER.sb fun a F => ?_; refine dy F (congrArg not (dt hb1265)) (fun wq hS => r_load F rfl ag_27 (AT.cell0 (AT.sb zh1270 hS nq) rfl)) ER.sb fun a F => ?_; refine dy F (congrArg not (dt hb1265)) (fun wq hS => r_move F rfl) ER.sb fun a F => ?_; replace H := ifN H; obtain ⟨g1277, H⟩ := H; obtain ⟨ad1278, cs1279, e1280, h1281, r1282⟩ := SL.at zh1274 i1228 g1277.1 g1277.2; obtain rfl : cs1279 = [.int .u8 (rd (rd l1191 i1199) i1228)] := r1282; obtain ⟨qa1283, qqa1283⟩ : ∃ q, q = (ad1278.add (i1228.toNat * 1)) := ⟨_, rfl⟩; have h1281 : AT false 0 c1229 w1230 qa1283 [.int .u8 (rd (rd l1191 i1199) i1228)] := by rw [qqa1283]; exact h1281
            have zh1281 := h1281; refine dy F (congrArg not (dt hb1265)) (fun wq hS => r_indexAddr' F Try.underlying27 sz_5 rfl rfl g1277.1 g1277.2 e1280 qqa1283) ER.sb fun a F => ?_; refine dy F (congrArg not (dt hb1265)) (fun wq hS => r_load F rfl ag_5 (AT.cell0 (AT.sb zh1281 hS nq) rfl)) ER.sb fun a F => ?_; refine dy F (congrArg not (dt hb1265)) (fun wq hS => r_move F rfl) ER.sb fun a F => ?_; refine dy F (congrArg not (dt hb1265)) (fun wq hS => r_move F rfl) ER.sb fun a F => ?_
            as_aux_lemma =>
            replace H := ifN H; obtain ⟨g1285, H⟩ := H; obtain ⟨ad1286, cs1287, e1288, h1289, r1290⟩ := SL.at zh977 i1199 g1285.1 g1285.2; obtain ⟨A1291, C1292, rfl, h1293⟩ := r1290; replace h1293 := SL.fl (i' := 0) h1293 (fun q => q); obtain ⟨qa1294, qqa1294⟩ : ∃ q, q = (ad1286.add (i1199.toNat * 1)) := ⟨_, rfl⟩; have h1289 : AT true (m + 14) c1229 w1230 qa1294 [.slice A1291 (rd l978 i1199).length C1292] := by rw [qqa1294]; exact h1289
            have zh1293 := h1293; have zh1289 := h1289; refine dy F (congrArg not (dt hb1265)) (fun wq hS => r_indexAddr' F Try.underlying22 sz_27 rfl rfl g1285.1 g1285.2 e1288 qqa1294) ER.sb fun a F => ?_; refine dy F (congrArg not (dt hb1265)) (fun wq hS => r_load F rfl ag_27 (AT.cell0 (AT.sb zh1289 hS nq) rfl)) ER.sb fun a F => ?_; refine dy F (congrArg not (dt hb1265)) (fun wq hS => r_move F rfl) ER.sb fun a F => ?_; replace H := ifN H; obtain ⟨g1296, H⟩ := H; obtain ⟨ad1297, cs1298, e1299, h1300, r1301⟩ := SL.at zh1293 i1228 g1296.1 g1296.2; obtain rfl : cs1298 = [.int .u8 (rd (rd l978 i1199) i1228)] := r1301; obtain ⟨qa1302, qqa1302⟩ : ∃ q, q = (ad1297.add (i1228.toNat * 1)) := ⟨_, rfl⟩; have h1300 : AT false 0 c1229 w1230 qa1302 [.int .u8 (rd (rd l978 i1199) i1228)] := by rw [qqa1302]; exact h1300
            have zh1300 := h1300
            as_aux_lemma =>
            refine dy F (congrArg not (dt hb1265)) (fun wq hS => r_indexAddr' F Try.underlying27 sz_5 rfl rfl g1296.1 g1296.2 e1299 qqa1302) ER.sb fun a F => ?_; refine dy F (congrArg not (dt hb1265)) (fun wq hS => r_load F rfl ag_5 (AT.cell0 (AT.sb zh1300 hS nq) rfl)) ER.sb fun a F => ?_; refine dy F (congrArg not (dt hb1265)) (fun wq hS => r_neq F rfl rfl) ER.sb fun a F => ?_; refine dq F (fun wq hS => r_pick_f F rfl (congrArg not (dt hb1265)) rfl) ER.sb fun a F => ?_; refine d_nil ?_; exact J1305 c1229 w1244 a (!decide ((rd (rd l1191 i1199) i1228) = (rd (rd l978 i1199) i1228))) (F.sub ⟨rfl, rfl, rfl, rfl, rfl, rfl, rfl, rfl, rfl, rfl, rfl, rfl, rfl, trivial⟩) E B h4 h434 h185 h196 h207 h218 h977 h470 h1190 H
           replace H := im hb1265 H; refine dn F (congrArg not (dz hb1265)) ER.sb fun a F => ?_; refine dn F (congrArg not (dz hb1265)) ER.sb fun a F => ?_; refine dn F (congrArg not (dz hb1265)) ER.sb fun a F => ?_; refine dn F (congrArg not (dz hb1265)) ER.sb fun a F => ?_; refine dn F (congrArg not (dz hb1265)) ER.sb fun a F => ?_; refine dn F (congrArg not (dz hb1265)) ER.sb fun a F => ?_; refine dn F (congrArg not (dz hb1265)) ER.sb fun a F => ?_
           as_aux_lemma =>
           refine dn F (congrArg not (dz hb1265)) ER.sb fun a F => ?_; refine dn F (congrArg not (dz hb1265)) ER.sb fun a F => ?_; refine dn F (congrArg not (dz hb1265)) ER.sb fun a F => ?_; refine dn F (congrArg not (dz hb1265)) ER.sb fun a F => ?_; refine dn F (congrArg not (dz hb1265)) ER.sb fun a F => ?_; refine dn F (congrArg not (dz hb1265)) ER.sb fun a F => ?_; refine dn F (congrArg not (dz hb1265)) ER.sb fun a F => ?_; refine dn F (congrArg not (dz hb1265)) ER.sb fun a F => ?_; refine dq F (fun wq hS => r_pick_t F rfl (congrArg not (dz hb1265)) rfl) ER.sb fun a F => ?_; refine d_nil ?_; exact J1305 c1229 w1244 a true (F.sub ⟨rfl, rfl, rfl, rfl, rfl, rfl, rfl, rfl, rfl, rfl, rfl, rfl, rfl, trivial⟩) E B h4 h434 h185 h196 h207 h218 h977 h470 h1190 H
          replace H := im hb1241 H; refine wcf (fb F (dz hb1241)) ?_; refine wp_exit ?_
          as_aux_lemma =>
          refine thenE ?_; refine thenE ?_; refine inbE ?_; have hx_ := HD1233 _ (si H).symm; have H := HR1237; rw [← hx_] at H; exact J1311 c1229 w1230 a  (F.sub ⟨rfl, rfl, rfl, rfl, rfl, rfl, rfl, rfl, rfl, rfl, rfl, trivial⟩) E B h4 h434 h185 h196 h207 h218 h977 h470 h1190 H
         replace H := im hb1212 H; refine wcf (fb F (dz hb1212)) ?_; refine wp_exit ?_; refine thenE ?_; refine thenE ?_; refine inbE ?_; have hx_ := HD1204 _ (si H).symm; have H := HR1208; rw [← hx_] at H; exact J1357 c1200 w1201 a  (F.sub ⟨rfl, rfl, rfl, rfl, rfl, rfl, rfl, trivial⟩) E B h4 h434 h185 h196 h207 h218 h470 H
        refine loop_fuel (I := fun n a w => ∃ (l1085 : List (List Int)) (A1086 : Option Addr) (C1087 : Nat) (i1089 : Int) (c : Nat → Nat), Fr a 365 [(0, .slice A2 a1.length C3), (3, .pointer p24), (8, .slice A183 (List.replicate t177.length (none : Option (List Value))).length C184), (9, .slice A194 (List.replicate t188.length (none : Option (List Value))).length C195), (10, .slice A205 t199.length C206), (11, .slice A216 t210.length C217), (12, .slice A979 l978.length C980), (16, .slice A468 (List.replicate t462.length (none : Option (List Value))).length C469), (20, .slice A1086 l1085.length C1087), (21, .int .i64 i1089)] ∧ Ev (fun x => False ∨ m ≤ x) c0 w0 c w ∧ CB (m + 28) c w ∧ SL false (Kslice (Kint .u8)) 0 0 c w A2 C3 a1 ∧ BG (m + 1) (m + 2) c w p24 o435 ∧ SL true (Krw 4 (by decide)) (m + 4) 0 c w A183 C184 (List.replicate t177.length (none : Option (List Value))) ∧ SL true (Krw 4 (by decide)) (m + 6) 0 c w A194 C195 (List.replicate t188.length (none : Option (List Value))) ∧ SL true (Kint .i64) (m + 8) 0 c w A205 C206 t199 ∧ SL true (Kint .i64) (m + 9) 0 c w A216 C217 t210 ∧ SP (Kint .u8) (m + 14) (m + 15) c w A979 C980 l978 i1089.toNat ∧ SL true (Krw 4 (by decide)) (m + 16) 0 c w A468 C469 (List.replicate t462.length (none : Option (List Value))) ∧ SL true (Kslice (Kint .u8)) (m + 25) 0 c w A1086 C1087 l1085 ∧ loop (fun (s_ : (List (List Int)) × Int) => haulagelaw20_BagOwn.b21 k l978 s_.1 s_.2) n (l1085, i1089) = some x1099) (k := k) ⟨[], none, 0, 0, c982, F.sub ⟨rfl, rfl, rfl, rfl, rfl, rfl, rfl, rfl, rfl, rfl, trivial⟩, E, B, h4, h434, h185, h196, h207, h218, h977, h470, SL.nil, HL⟩ ?_; clear HL H E F B; intro n1096 X1092 hX1092 a w1091 ⟨l1085, A1086, C1087, i1089, c1090, F, E, B, h4, h434, h185, h196, h207, h218, h977, h470, h1088, HL⟩; obtain ⟨n1097, ctl1095, rfl, HB, HN1093, HD1094⟩ := loop_some HL; have H : haulagelaw20_BagOwn.b21 k l978 l1085 i1089 = some ctl1095 := HB; clear HB HL; unfold haulagelaw20_BagOwn.b21 at H
        as_aux_lemma =>
        refine sq fun K1100 hK1100 => ?_; refine sr fun K1101 hK1101 => qm F fun a F => qm F fun a F => ?_; refine qv F (r_lensl F Try.underlying22 rfl) fun a F => ?_; refine qv F (r_lss F rfl rfl) fun a F => ?_; refine nil (hK1101 _ _ ?_)
        by_cases hb1102 : i1089 < (l978.length : Int)
        ·replace H := ip hb1102 H; refine wct (fb F (dt hb1102)) (wp_skip (hK1100 _ _ ?_)); refine sq fun K1104 hK1104 => ?_; refine wp_block ?_; refine sr fun K1105 hK1105 => qm F fun a F => qm F fun a F => ?_; replace H := ifN H; obtain ⟨g1106, H⟩ := H; obtain ⟨c1107, e1108, e1109, ad1110, A1111, C1112, e1113, h1114, h1115, h977⟩ := SP.take (z := m + 24) h977 i1089 g1106.1 g1106.2 rfl ⟨mm, (pl hm0)⟩ mm; replace h4 := SL.rc h4 (rk e1108 ne_zm) (rk e1108 ne_zm)
         as_aux_lemma =>
         replace h434 := BG.rc h434 (rk e1108 mm) (rk e1108 mm) (rk e1108 ne_zm) (pl hm0); replace h185 := SL.rc h185 (rk e1108 mm) (rk e1108 ne_zm); replace h196 := SL.rc h196 (rk e1108 mm) (rk e1108 ne_zm); replace h207 := SL.rc h207 (rk e1108 mm) (rk e1108 ne_zm); replace h218 := SL.rc h218 (rk e1108 mm) (rk e1108 ne_zm); replace h470 := SL.rc h470 (rk e1108 mm) (rk e1108 ne_zm); replace h1088 := SL.rc h1088 (rk e1108 mm) (rk e1108 ne_zm); obtain ⟨qa1116, qqa1116⟩ : ∃ q, q = (ad1110.add (i1089.toNat * 1)) := ⟨_, rfl⟩; have h1114 : AT true (m + 14) c1107 w1091 qa1116 [.slice A1111 (rd l978 i1089).length C1112] := by rw [qqa1116]; exact h1114
         replace E := E.rk B0 e1108; replace B := B.rk e1109 lm; refine qv F (r_indexAddr' F Try.underlying22 sz_27 rfl rfl g1106.1 g1106.2 e1113 qqa1116) fun a F => ?_; refine qv F (r_load F rfl ag_27 (AT.cell0 h1114 rfl)) fun a F => ?_; refine qa F fun a F => nil (hK1105 _ _ ?_); replace F : Fr a 365 [(0, .slice A2 a1.length C3), (3, .pointer p24), (8, .slice A183 (List.replicate t177.length (none : Option (List Value))).length C184), (9, .slice A194 (List.replicate t188.length (none : Option (List Value))).length C195), (10, .slice A205 t199.length C206), (11, .slice A216 t210.length C217), (12, .slice A979 l978.length C980), (16, .slice A468 (List.replicate t462.length (none : Option (List Value))).length C469), (20, .slice A1086 l1085.length C1087), (21, .int .i64 i1089), (22, .slice A1111 (rd l978 i1089).length C1112)] := F.sub ⟨rfl, rfl, rfl, rfl, rfl, rfl, rfl, rfl, rfl, rfl, rfl, trivial⟩
         as_aux_lemma =>
         refine sq fun K1118 hK1118 => ?_; refine sr fun K1119 hK1119 => qa F fun a F => nil (hK1119 _ _ ?_); refine wp_block ?_; obtain ⟨x1134, HL, HR1133⟩ := bind_some H; have J1165 : ∀ (c1166 : Nat → Nat) (w1167 : World) (a : Act) (l1162 : List Int) (A1163 : Option Addr) (C1164 : Nat), Fr a 365 [(0, .slice A2 a1.length C3), (3, .pointer p24), (8, .slice A183 (List.replicate t177.length (none : Option (List Value))).length C184), (9, .slice A194 (List.replicate t188.length (none : Option (List Value))).length C195), (10, .slice A205 t199.length C206), (11, .slice A216 t210.length C217), (12, .slice A979 l978.length C980), (16, .slice A468 (List.replicate t462.length (none : Option (List Value))).length C469), (20, .slice A1086 l1085.length C1087), (21, .int .i64 i1089), (22, .slice A1163 l1162.length C1164)] → Ev (fun x => False ∨ m ≤ x) c0 w0 c1166 w1167 → CB (m + 28) c1166 w1167 → SL false (Kslice (Kint .u8)) 0 0 c1166 w1167 A2 C3 a1 → BG (m + 1) (m + 2) c1166 w1167 p24 o435 → SL true (Krw 4 (by decide)) (m + 4) 0 c1166 w1167 A183 C184 (List.replicate t177.length (none : Option (List Value))) → SL true (Krw 4 (by decide)) (m + 6) 0 c1166 w1167 A194 C195 (List.replicate t188.length (none : Option (List Value))) → SL true (Kint .i64) (m + 8) 0 c1166 w1167 A205 C206 t199 → SL true (Kint .i64) (m + 9) 0 c1166 w1167 A216 C217 t210 → SPT (Kint .u8) (m + 14) (m + 15) c1166 w1167 A979 C980 l978 i1089.toNat A1111 C1112 (rd l978 i1089) → SL true (Krw 4 (by decide)) (m + 16) 0 c1166 w1167 A468 C469 (List.replicate t462.length (none : Option (List Value))) → SL true (Kslice (Kint .u8)) (m + 25) 0 c1166 w1167 A1086 C1087 l1085 → TW (Kint .u8) (m + 24) c1166 w1167 A1111 C1112 (rd l978 i1089) A1163 C1164 l1162 → haulagelaw20_BagOwn.j20 l1085 i1089 l1162 = some ctl1095 → K1118 a w1167 := by
          intro c1166 w1167 a l1162 A1163 C1164 F E B h4 h434 h185 h196 h207 h218 h977 h470 h1088 h1161 H; unfold haulagelaw20_BagOwn.j20 at H; refine hK1118 _ _ ?_; refine reg ?_; refine qm F fun a F => qm F fun a F => ?_; obtain ⟨c1168, hc1168⟩ : ∃ c', c' = fun k => if c1166 k = m + 24 then 0 else c1166 k := ⟨_, rfl⟩; have e1169 : ∀ b, c1166 b ≠ m + 24 → c1168 b = c1166 b := fun b hb => by rw [hc1168]; exact if_neg hb
          replace h4 := SL.rc h4 (rk e1169 ne_zm) (rk e1169 ne_zm); replace h434 := BG.rc h434 (rk e1169 mm) (rk e1169 mm) (rk e1169 ne_zm) (pl hm0)
          as_aux_lemma =>
          replace h185 := SL.rc h185 (rk e1169 mm) (rk e1169 ne_zm); replace h196 := SL.rc h196 (rk e1169 mm) (rk e1169 ne_zm); replace h207 := SL.rc h207 (rk e1169 mm) (rk e1169 ne_zm); replace h218 := SL.rc h218 (rk e1169 mm) (rk e1169 ne_zm); replace h977 := SPT.rc h977 (rk e1169 mm) (rk e1169 mm) (rk e1169 ne_zm) (pl hm0); replace h470 := SL.rc h470 (rk e1169 mm) (rk e1169 ne_zm); replace h1088 := SL.rc h1088 (rk e1169 mm) (rk e1169 ne_zm); obtain ⟨h1170, h1161⟩ := TW.fr (c' := c1168) h1161 (fun k_ hk_ => by rw [hc1168]; exact if_pos hk_) (rk e1169 ne_zm); replace h977 := SP.next (k := i1089) (SPT.put h977 h1170) g1106.1 rfl (by have g_ := g1106.2; have g0_ := g1106.1; omega); have E : Ev (fun x => False ∨ m ≤ x) c0 w0 c1168 w1167 := by rw [hc1168]; exact E.freeze B0 (by omega)
          have B : CB (m + 28) c1168 w1167 := by rw [hc1168]; exact B.freeze (by omega)
          refine q_eff F rfl rfl (by decide) (e_buildSlice (n := 1) (e := 27) (c := c1168) (k := (Kslice (Kint .u8))) (i := 0) F [(0, .slice A1163 l1162.length C1164)] [.slice A1163 l1162.length C1164] ([l1162] : List (List Int)) (by exact ⟨rfl, rfl, trivial⟩) (fun w => by kernel_rfl) rfl (by decide) rfl ⟨⟨A1163, C1164, rfl, (SL.fl h1161 (fun q => q))⟩, trivial⟩ (fun q => q) 0) ?_; rintro v w1172 a ⟨c1171, A1173, C1174, rfl, E1175, h1176, B1177⟩ F; replace B := B1177 _ B (pl hm0)
          as_aux_lemma =>
          replace h1088 := h1088.ev E1175; replace E := E.n E1175; replace H := ifN H; obtain ⟨g1077, H⟩ := H; refine q_eff F rfl rfl (by decide) (e_append (k := (Kslice (Kint .u8))) (xs := l1085) (ys := [l1162]) (c := c1171) (j := (m + 25)) (i := 0) F et_22 rfl rfl h1088 h1176 g1077 (len_ok g1077) ne_zm) ?_; rintro v w1179 a ⟨c1178, A1180, C1181, rfl, E1182, h1183, B1184⟩ F; replace B := B1184 _ B lm; replace h4 := (h4.ev E1175).ev E1182; replace h434 := (h434.ev E1175).ev E1182; replace h185 := (h185.ev E1175).ev E1182; replace h196 := (h196.ev E1175).ev E1182; replace h207 := (h207.ev E1175).ev E1182; replace h218 := (h218.ev E1175).ev E1182; replace h977 := (h977.ev E1175).ev E1182
          as_aux_lemma =>
          replace h470 := (h470.ev E1175).ev E1182; replace E := E.trans E1182 lc1; refine qa F fun a F => nil (hK1104 _ _ ?_); refine reg ?_; refine qm F fun a F => ?_; refine qv F (r_add F rfl rfl) fun a F => ?_; refine qa F fun a F => nil ?_; replace H := HN1093 _ (si H).symm; exact hX1092 _ _ _ (Nat.lt_succ_self _) ⟨(l1085 ++ [l1162]), A1180, C1181, (IntKind.i64.wrap (i1089 + 1)), c1178, F.sub ⟨rfl, rfl, rfl, rfl, rfl, rfl, rfl, rfl, rfl, rfl, trivial⟩, E, B, h4, h434, h185, h196, h207, h218, h977, h470, h1183, H⟩
         refine loop_fuel (I := fun n a w => ∃ (l1120 : List Int) (A1121 : Option Addr) (C1122 : Nat) (i1124 : Int) (c : Nat → Nat), Fr a 365 [(0, .slice A2 a1.length C3), (3, .pointer p24), (8, .slice A183 (List.replicate t177.length (none : Option (List Value))).length C184), (9, .slice A194 (List.replicate t188.length (none : Option (List Value))).length C195), (10, .slice A205 t199.length C206), (11, .slice A216 t210.length C217), (12, .slice A979 l978.length C980), (16, .slice A468 (List.replicate t462.length (none : Option (List Value))).length C469), (20, .slice A1086 l1085.length C1087), (21, .int .i64 i1089), (22, .slice A1121 l1120.length C1122), (23, .int .i64 i1124)] ∧ Ev (fun x => False ∨ m ≤ x) c0 w0 c w ∧ CB (m + 28) c w ∧ SL false (Kslice (Kint .u8)) 0 0 c w A2 C3 a1 ∧ BG (m + 1) (m + 2) c w p24 o435 ∧ SL true (Krw 4 (by decide)) (m + 4) 0 c w A183 C184 (List.replicate t177.length (none : Option (List Value))) ∧ SL true (Krw 4 (by decide)) (m + 6) 0 c w A194 C195 (List.replicate t188.length (none : Option (List Value))) ∧ SL true (Kint .i64) (m + 8) 0 c w A205 C206 t199 ∧ SL true (Kint .i64) (m + 9) 0 c w A216 C217 t210 ∧ SPT (Kint .u8) (m + 14) (m + 15) c w A979 C980 l978 i1089.toNat A1111 C1112 (rd l978 i1089) ∧ SL true (Krw 4 (by decide)) (m + 16) 0 c w A468 C469 (List.replicate t462.length (none : Option (List Value))) ∧ SL true (Kslice (Kint .u8)) (m + 25) 0 c w A1086 C1087 l1085 ∧ TW (Kint .u8) (m + 24) c w A1111 C1112 (rd l978 i1089) A1121 C1122 l1120 ∧ loop (fun (s_ : (List Int) × Int) => haulagelaw20_BagOwn.b19 i1089 s_.1 s_.2) n (l1120, i1124) = some x1134) (k := k) ⟨(rd l978 i1089), A1111, C1112, 0, c1107, F.sub ⟨rfl, rfl, rfl, rfl, rfl, rfl, rfl, rfl, rfl, rfl, rfl, rfl, trivial⟩, E, B, h4, h434, h185, h196, h207, h218, h977, h470, h1088, h1115, HL⟩ ?_; clear HL H E F B; intro n1131 X1127 hX1127 a w1126 ⟨l1120, A1121, C1122, i1124, c1125, F, E, B, h4, h434, h185, h196, h207, h218, h977, h470, h1088, h1123, HL⟩; obtain ⟨n1132, ctl1130, rfl, HB, HN1128, HD1129⟩ := loop_some HL; have H : haulagelaw20_BagOwn.b19 i1089 l1120 i1124 = some ctl1130 := HB; clear HB HL; unfold haulagelaw20_BagOwn.b19 at H
         as_aux_lemma =>
         refine sq fun K1135 hK1135 => ?_; refine sr fun K1136 hK1136 => qm F fun a F => ?_; refine qv F (r_lss F rfl rfl) fun a F => ?_; refine nil (hK1136 _ _ ?_)
         by_cases hb1137 : i1124 < 70
         ·replace H := ip hb1137 H; refine wct (fb F (dt hb1137)) (wp_skip (hK1135 _ _ ?_)); refine sq fun K1138 hK1138 => ?_; refine wp_block ?_; refine reg ?_; refine qm F fun a F => qm F fun a F => ?_; refine qv F (r_add F rfl rfl) fun a F => ?_; refine qm F fun a F => ?_; refine qv F (r_mul F rfl rfl) fun a F => ?_; refine qv F (r_add F rfl rfl) fun a F => ?_
          as_aux_lemma =>
          refine qv F (r_convi F Try.underlying5 rfl rfl) fun a F => ?_; refine q_eff F rfl rfl (by decide) (e_buildSlice (n := 1) (e := 5) (c := c1125) (k := (Kint .u8)) (i := 0) F [(0, .int .u8 (IntKind.u8.wrap (IntKind.i64.wrap ((IntKind.i64.wrap (100 + i1089)) + (IntKind.i64.wrap (5 * i1124))))))] [.int .u8 (IntKind.u8.wrap (IntKind.i64.wrap ((IntKind.i64.wrap (100 + i1089)) + (IntKind.i64.wrap (5 * i1124)))))] ([IntKind.u8.wrap (IntKind.i64.wrap ((IntKind.i64.wrap (100 + i1089)) + (IntKind.i64.wrap (5 * i1124))))] : List Int) (by exact ⟨rfl, rfl, trivial⟩) (fun w => by kernel_rfl) rfl (by decide) rfl ⟨rfl, trivial⟩ (fun q => q) 0) ?_; rintro v w1140 a ⟨c1139, A1141, C1142, rfl, E1143, h1144, B1145⟩ F; replace B := B1145 _ B (pl hm0); replace h1123 := h1123.ev E1143; replace E := E.n E1143; replace H := ifN H; obtain ⟨g1044, H⟩ := H; refine q_eff F rfl rfl (by decide) (e_appendT (e := (Kint .u8)) (ys := l1120) (vs := [IntKind.u8.wrap (IntKind.i64.wrap ((IntKind.i64.wrap (100 + i1089)) + (IntKind.i64.wrap (5 * i1124))))]) (c := c1139) F et_27 rfl rfl h1123 h1144 g1044 (len_ok g1044) (pl hm0)) ?_; rintro v w1150 a ⟨c1146, A1151, C1152, rfl, E1153, B1155, c1147, e1148, e1149, h1154⟩ F; replace B := B1155 _ B lm; replace h4 := (h4.ev E1143).ev E1153; replace h434 := (h434.ev E1143).ev E1153; replace h185 := (h185.ev E1143).ev E1153
          as_aux_lemma =>
          replace h196 := (h196.ev E1143).ev E1153; replace h207 := (h207.ev E1143).ev E1153; replace h218 := (h218.ev E1143).ev E1153; replace h977 := (h977.ev E1143).ev E1153; replace h470 := (h470.ev E1143).ev E1153; replace h1088 := (h1088.ev E1143).ev E1153; replace E := E.trans E1153 lc1; replace h4 := SL.rc h4 (rk e1148 ne_zm) (rk e1148 ne_zm); replace h434 := BG.rc h434 (rk e1148 mm) (rk e1148 mm) (rk e1148 ne_zm) (pl hm0); replace h185 := SL.rc h185 (rk e1148 mm) (rk e1148 ne_zm); replace h196 := SL.rc h196 (rk e1148 mm) (rk e1148 ne_zm); replace h207 := SL.rc h207 (rk e1148 mm) (rk e1148 ne_zm); replace h218 := SL.rc h218 (rk e1148 mm) (rk e1148 ne_zm); replace h977 := SPT.rc h977 (rk e1148 mm) (rk e1148 mm) (rk e1148 ne_zm) (pl hm0)
          as_aux_lemma =>
          replace h470 := SL.rc h470 (rk e1148 mm) (rk e1148 ne_zm); replace h1088 := SL.rc h1088 (rk e1148 mm) (rk e1148 ne_zm); replace E := E.rk B0 e1148; replace B := B.rk e1149 (pl hm0); refine qa F fun a F => nil (hK1138 _ _ ?_); replace F : Fr a 365 [(0, .slice A2 a1.length C3), (3, .pointer p24), (8, .slice A183 (List.replicate t177.length (none : Option (List Value))).length C184), (9, .slice A194 (List.replicate t188.length (none : Option (List Value))).length C195), (10, .slice A205 t199.length C206), (11, .slice A216 t210.length C217), (12, .slice A979 l978.length C980), (16, .slice A468 (List.replicate t462.length (none : Option (List Value))).length C469), (20, .slice A1086 l1085.length C1087), (21, .int .i64 i1089), (22, .slice A1151 (l1120 ++ [IntKind.u8.wrap (IntKind.i64.wrap ((IntKind.i64.wrap (100 + i1089)) + (IntKind.i64.wrap (5 * i1124))))]).length C1152), (23, .int .i64 i1124)] := F.sub ⟨rfl, rfl, rfl, rfl, rfl, rfl, rfl, rfl, rfl, rfl, rfl, rfl, trivial⟩; refine reg ?_; refine qm F fun a F => ?_; refine qv F (r_add F rfl rfl) fun a F => ?_; refine qa F fun a F => nil ?_; replace H := HN1128 _ (si H).symm; exact hX1127 _ _ _ (Nat.lt_succ_self _) ⟨(l1120 ++ [IntKind.u8.wrap (IntKind.i64.wrap ((IntKind.i64.wrap (100 + i1089)) + (IntKind.i64.wrap (5 * i1124))))]), A1151, C1152, (IntKind.i64.wrap (i1124 + 1)), c1147, F.sub ⟨rfl, rfl, rfl, rfl, rfl, rfl, rfl, rfl, rfl, rfl, rfl, rfl, trivial⟩, E, B, h4, h434, h185, h196, h207, h218, h977, h470, h1088, h1154, H⟩
         replace H := im hb1137 H; refine wcf (fb F (dz hb1137)) ?_
         as_aux_lemma =>
         refine wp_exit ?_; refine thenE ?_; refine thenE ?_; refine inbE ?_; have hx_ := HD1129 _ (si H).symm; have H := HR1133; rw [← hx_] at H; exact J1165 c1125 w1126 a l1120 A1121 C1122 (F.sub ⟨rfl, rfl, rfl, rfl, rfl, rfl, rfl, rfl, rfl, rfl, rfl, trivial⟩) E B h4 h434 h185 h196 h207 h218 h977 h470 h1088 h1123 H
        replace H := im hb1102 H; refine wcf (fb F (dz hb1102)) ?_; refine wp_exit ?_; refine thenE ?_; refine thenE ?_; refine inbE ?_
        as_aux_lemma =>
        replace H := ifN H; obtain ⟨g1103, H⟩ := H; replace h977 := SP.done h977 g1103; have hx_ := HD1094 _ (si H).symm; have H := HR1098; rw [← hx_] at H; exact J1194 c1090 w1091 a l1085 A1086 C1087 (F.sub ⟨rfl, rfl, rfl, rfl, rfl, rfl, rfl, rfl, rfl, trivial⟩) E B h4 h434 h185 h196 h207 h218 h977 h470 h1088 H
       refine loop_fuel (I := fun n a w => ∃ (l829 : List (List Int)) (A826 : Option Addr) (C827 : Nat) (i830 : Int) (c : Nat → Nat), Fr a 365 [(0, .slice A2 a1.length C3), (3, .pointer p24), (8, .slice A183 (List.replicate t177.length (none : Option (List Value))).length C184), (9, .slice A194 (List.replicate t188.length (none : Option (List Value))).length C195), (10, .slice A205 t199.length C206), (11, .slice A216 t210.length C217), (12, .slice A826 l829.length C827), (16, .slice A468 (List.replicate t462.length (none : Option (List Value))).length C469), (18, .int .i64 i830)] ∧ Ev (fun x => False ∨ m ≤ x) c0 w0 c w ∧ CB (m + 28) c w ∧ SL false (Kslice (Kint .u8)) 0 0 c w A2 C3 a1 ∧ BG (m + 1) (m + 2) c w p24 o435 ∧ SL true (Krw 4 (by decide)) (m + 4) 0 c w A183 C184 (List.replicate t177.length (none : Option (List Value))) ∧ SL true (Krw 4 (by decide)) (m + 6) 0 c w A194 C195 (List.replicate t188.length (none : Option (List Value))) ∧ SL true (Kint .i64) (m + 8) 0 c w A205 C206 t199 ∧ SL true (Kint .i64) (m + 9) 0 c w A216 C217 t210 ∧ SL true (Krw 4 (by decide)) (m + 16) 0 c w A468 C469 (List.replicate t462.length (none : Option (List Value))) ∧ SP (Kint .u8) (m + 14) (m + 15) c w A826 C827 l829 0 ∧ loop (fun (s_ : (List (List Int)) × Int) => haulagelaw20_BagOwn.b15 k s_.1 s_.2) n (l829, i830) = some x840) (k := k) ⟨l676, A677, C678, 0, c680, F.sub ⟨rfl, rfl, rfl, rfl, rfl, rfl, rfl, rfl, rfl, trivial⟩, E, B, h4, h434, h185, h196, h207, h218, h470, h675, HL⟩ ?_; clear HL H E F B; intro n837 X833 hX833 a w832 ⟨l829, A826, C827, i830, c831, F, E, B, h4, h434, h185, h196, h207, h218, h470, h828, HL⟩; obtain ⟨n838, ctl836, rfl, HB, HN834, HD835⟩ := loop_some HL; have H : haulagelaw20_BagOwn.b15 k l829 i830 = some ctl836 := HB; clear HB HL; unfold haulagelaw20_BagOwn.b15 at H
       as_aux_lemma =>
       refine sq fun K841 hK841 => ?_; refine sr fun K842 hK842 => qm F fun a F => qm F fun a F => ?_; refine qv F (r_lensl F Try.underlying22 rfl) fun a F => ?_; refine qv F (r_lss F rfl rfl) fun a F => ?_; refine nil (hK842 _ _ ?_)
       by_cases hb843 : i830 < (l829.length : Int)
       ·replace H := ip hb843 H; refine wct (fb F (dt hb843)) (wp_skip (hK841 _ _ ?_)); refine sq fun K844 hK844 => ?_; refine wp_block ?_; refine sr fun K845 hK845 => qa F fun a F => nil (hK845 _ _ ?_); refine wp_block ?_; obtain ⟨x915, HL, HR914⟩ := bind_some H; have J969 : ∀ (c970 : Nat → Nat) (w971 : World) (a : Act) (l966 : List (List Int)) (A967 : Option Addr) (C968 : Nat), Fr a 365 [(0, .slice A2 a1.length C3), (3, .pointer p24), (8, .slice A183 (List.replicate t177.length (none : Option (List Value))).length C184), (9, .slice A194 (List.replicate t188.length (none : Option (List Value))).length C195), (10, .slice A205 t199.length C206), (11, .slice A216 t210.length C217), (12, .slice A967 l966.length C968), (16, .slice A468 (List.replicate t462.length (none : Option (List Value))).length C469), (18, .int .i64 i830)] → Ev (fun x => False ∨ m ≤ x) c0 w0 c970 w971 → CB (m + 28) c970 w971 → SL false (Kslice (Kint .u8)) 0 0 c970 w971 A2 C3 a1 → BG (m + 1) (m + 2) c970 w971 p24 o435 → SL true (Krw 4 (by decide)) (m + 4) 0 c970 w971 A183 C184 (List.replicate t177.length (none : Option (List Value))) → SL true (Krw 4 (by decide)) (m + 6) 0 c970 w971 A194 C195 (List.replicate t188.length (none : Option (List Value))) → SL true (Kint .i64) (m + 8) 0 c970 w971 A205 C206 t199 → SL true (Kint .i64) (m + 9) 0 c970 w971 A216 C217 t210 → SL true (Krw 4 (by decide)) (m + 16) 0 c970 w971 A468 C469 (List.replicate t462.length (none : Option (List Value))) → SP (Kint .u8) (m + 14) (m + 15) c970 w971 A967 C968 l966 0 → haulagelaw20_BagOwn.j14 i830 l966 = some ctl836 → K844 a w971 := by
         intro c970 w971 a l966 A967 C968 F E B h4 h434 h185 h196 h207 h218 h470 h965 H; unfold haulagelaw20_BagOwn.j14 at H
         as_aux_lemma =>
         refine hK844 _ _ ?_; refine reg ?_; refine qm F fun a F => ?_; refine qv F (r_add F rfl rfl) fun a F => ?_; refine qa F fun a F => nil ?_; replace H := HN834 _ (si H).symm; exact hX833 _ _ _ (Nat.lt_succ_self _) ⟨l966, A967, C968, (IntKind.i64.wrap (i830 + 1)), c970, F.sub ⟨rfl, rfl, rfl, rfl, rfl, rfl, rfl, rfl, rfl, trivial⟩, E, B, h4, h434, h185, h196, h207, h218, h470, h965, H⟩
        refine loop_fuel (I := fun n a w => ∃ (l904 : List (List Int)) (A901 : Option Addr) (C902 : Nat) (i905 : Int) (c : Nat → Nat), Fr a 365 [(0, .slice A2 a1.length C3), (3, .pointer p24), (8, .slice A183 (List.replicate t177.length (none : Option (List Value))).length C184), (9, .slice A194 (List.replicate t188.length (none : Option (List Value))).length C195), (10, .slice A205 t199.length C206), (11, .slice A216 t210.length C217), (12, .slice A901 l904.length C902), (16, .slice A468 (List.replicate t462.length (none : Option (List Value))).length C469), (18, .int .i64 i830), (19, .int .i64 i905)] ∧ Ev (fun x => False ∨ m ≤ x) c0 w0 c w ∧ CB (m + 28) c w ∧ SL false (Kslice (Kint .u8)) 0 0 c w A2 C3 a1 ∧ BG (m + 1) (m + 2) c w p24 o435 ∧ SL true (Krw 4 (by decide)) (m + 4) 0 c w A183 C184 (List.replicate t177.length (none : Option (List Value))) ∧ SL true (Krw 4 (by decide)) (m + 6) 0 c w A194 C195 (List.replicate t188.length (none : Option (List Value))) ∧ SL true (Kint .i64) (m + 8) 0 c w A205 C206 t199 ∧ SL true (Kint .i64) (m + 9) 0 c w A216 C217 t210 ∧ SL true (Krw 4 (by decide)) (m + 16) 0 c w A468 C469 (List.replicate t462.length (none : Option (List Value))) ∧ SP (Kint .u8) (m + 14) (m + 15) c w A901 C902 l904 0 ∧ loop (fun (s_ : (List (List Int)) × Int) => haulagelaw20_BagOwn.b13 i830 s_.1 s_.2) n (l904, i905) = some x915) (k := k) ⟨l829, A826, C827, 0, c831, F.sub ⟨rfl, rfl, rfl, rfl, rfl, rfl, rfl, rfl, rfl, rfl, trivial⟩, E, B, h4, h434, h185, h196, h207, h218, h470, h828, HL⟩ ?_; clear HL H E F B; intro n912 X908 hX908 a w907 ⟨l904, A901, C902, i905, c906, F, E, B, h4, h434, h185, h196, h207, h218, h470, h903, HL⟩; obtain ⟨n913, ctl911, rfl, HB, HN909, HD910⟩ := loop_some HL; have H : haulagelaw20_BagOwn.b13 i830 l904 i905 = some ctl911 := HB; clear HB HL; unfold haulagelaw20_BagOwn.b13 at H
        as_aux_lemma =>
        refine sq fun K916 hK916 => ?_; refine sr fun K917 hK917 => qm F fun a F => qm F fun a F => qm F fun a F => ?_; have h918 : SL false (Kslice (Kint .u8)) (m + 14) (m + 15) c906 w907 A901 C902 l904 := SP.view h903 (fun q_ => q_); replace H := ifN H; obtain ⟨g919, H⟩ := H; obtain ⟨ad920, cs921, e922, h923, r924⟩ := SL.at h918 i830 g919.1 g919.2; obtain ⟨A925, C926, rfl, h927⟩ := r924; obtain ⟨qa928, qqa928⟩ : ∃ q, q = (ad920.add (i830.toNat * 1)) := ⟨_, rfl⟩; have h923 : AT false (m + 14) c906 w907 qa928 [.slice A925 (rd l904 i830).length C926] := by rw [qqa928]; exact h923
        refine qv F (r_indexAddr' F Try.underlying22 sz_27 rfl rfl g919.1 g919.2 e922 qqa928) fun a F => ?_; refine qv F (r_load F rfl ag_27 (AT.cell0 h923 rfl)) fun a F => ?_; refine qv F (r_lensl F Try.underlying27 rfl) fun a F => ?_; refine qv F (r_lss F rfl rfl) fun a F => ?_; refine nil (hK917 _ _ ?_)
        by_cases hb930 : i905 < ((rd l904 i830).length : Int)
        ·replace H := ip hb930 H
         as_aux_lemma =>
         refine wct (fb F (dt hb930)) (wp_skip (hK916 _ _ ?_)); refine sq fun K931 hK931 => ?_; refine wp_block ?_; refine reg ?_; refine qm F fun a F => qm F fun a F => ?_; replace H := ifN H; obtain ⟨g932, H⟩ := H; obtain ⟨c933, e934, e935, ad936, A937, C938, e939, h940, h941, h903⟩ := SP.lend (z := m + 23) h903 i830 g932.1 g932.2 (Nat.zero_le _) ⟨mm, (pl hm0)⟩ mm; replace h4 := SL.rc h4 (rk e934 ne_zm) (rk e934 ne_zm); replace h434 := BG.rc h434 (rk e934 mm) (rk e934 mm) (rk e934 ne_zm) (pl hm0); replace h185 := SL.rc h185 (rk e934 mm) (rk e934 ne_zm); replace h196 := SL.rc h196 (rk e934 mm) (rk e934 ne_zm); replace h207 := SL.rc h207 (rk e934 mm) (rk e934 ne_zm); replace h218 := SL.rc h218 (rk e934 mm) (rk e934 ne_zm)
         as_aux_lemma =>
         replace h470 := SL.rc h470 (rk e934 mm) (rk e934 ne_zm); obtain ⟨qa942, qqa942⟩ : ∃ q, q = (ad936.add (i830.toNat * 1)) := ⟨_, rfl⟩; have h940 : AT true (m + 14) c933 w907 qa942 [.slice A937 (rd l904 i830).length C938] := by rw [qqa942]; exact h940
         replace E := E.rk B0 e934; replace B := B.rk e935 lm; refine qv F (r_indexAddr' F Try.underlying22 sz_27 rfl rfl g932.1 g932.2 e939 qqa942) fun a F => ?_; refine qv F (r_load F rfl ag_27 (AT.cell0 h940 rfl)) fun a F => ?_; refine qm F fun a F => qm F fun a F => ?_; refine qv F (r_mul F rfl rfl) fun a F => ?_; refine qm F fun a F => ?_; refine qv F (r_mul F rfl rfl) fun a F => ?_; refine qv F (r_add F rfl rfl) fun a F => ?_; refine qv F (r_convi F Try.underlying5 rfl rfl) fun a F => ?_; replace H := ifN H; obtain ⟨g944, H⟩ := H; obtain ⟨ad945, cs946, e947, h948, r949⟩ := SL.at h941 i905 g944.1 g944.2; obtain rfl : cs946 = [.int .u8 (rd (rd l904 i830) i905)] := r949; obtain ⟨qa950, qqa950⟩ : ∃ q, q = (ad945.add (i905.toNat * 1)) := ⟨_, rfl⟩; have h948 : AT true (m + 23) c933 w907 qa950 [.int .u8 (rd (rd l904 i830) i905)] := by rw [qqa950]; exact h948
         as_aux_lemma =>
         refine qv F (r_indexAddr' F Try.underlying27 sz_5 rfl rfl g944.1 g944.2 e947 qqa950) fun a F => ?_; refine q_eff0 F rfl rfl (e_storeel0 (k := (Kint .u8)) F rfl rfl sz_5 h941 g944.1 g944.2 e947 qqa950 h948 rfl (nb rfl) rfl (IntKind.u8.wrap (IntKind.i64.wrap ((IntKind.i64.wrap (7 * i830)) + (IntKind.i64.wrap (3 * i905))))) rfl ne_zm) ?_; rintro w952 a ⟨E953, h941, Z954⟩ F; replace B := B.size Z954; replace h4 := h4.ev E953; replace h434 := h434.ev E953; replace h185 := h185.ev E953; replace h196 := h196.ev E953; replace h207 := h207.ev E953; replace h218 := h218.ev E953; replace h470 := h470.ev E953; replace h903 := h903.ev E953; replace h940 := h940.ev E953; replace E := E.trans E953 lc1; have hl955 : (rd l904 i830).length = ((rd l904 i830).set i905.toNat (IntKind.u8.wrap (IntKind.i64.wrap ((IntKind.i64.wrap (7 * i830)) + (IntKind.i64.wrap (3 * i905)))))).length := by simp
         have h940 : AT true (m + 14) c933 w952 qa942 [.slice A937 ((rd l904 i830).set i905.toNat (IntKind.u8.wrap (IntKind.i64.wrap ((IntKind.i64.wrap (7 * i830)) + (IntKind.i64.wrap (3 * i905)))))).length C938] := by rw [← hl955]; exact h940
         replace F := F.sub (L' := [(0, .slice A2 a1.length C3), (3, .pointer p24), (8, .slice A183 (List.replicate t177.length (none : Option (List Value))).length C184), (9, .slice A194 (List.replicate t188.length (none : Option (List Value))).length C195), (10, .slice A205 t199.length C206), (11, .slice A216 t210.length C217), (12, .slice A901 l904.length C902), (16, .slice A468 (List.replicate t462.length (none : Option (List Value))).length C469), (18, .int .i64 i830), (19, .int .i64 i905), (241, .int .u8 (IntKind.u8.wrap (IntKind.i64.wrap ((IntKind.i64.wrap (7 * i830)) + (IntKind.i64.wrap (3 * i905))))))]) ⟨rfl, rfl, rfl, rfl, rfl, rfl, rfl, rfl, rfl, rfl, rfl, trivial⟩; obtain ⟨c956, e957, e958, h903⟩ := SP.back (z := m + 23) (k := i830) (ad := ad936) h903 g932.1 g932.2 (Nat.zero_le _) e939 (by rw [← qqa942]; exact h940) h941 ⟨mm, (pl hm0)⟩ mm
         as_aux_lemma =>
         replace h4 := SL.rc h4 (rk e957 ne_zm) (rk e957 ne_zm); replace h434 := BG.rc h434 (rk e957 mm) (rk e957 mm) (rk e957 ne_zm) (pl hm0); replace h185 := SL.rc h185 (rk e957 mm) (rk e957 ne_zm); replace h196 := SL.rc h196 (rk e957 mm) (rk e957 ne_zm); replace h207 := SL.rc h207 (rk e957 mm) (rk e957 ne_zm); replace h218 := SL.rc h218 (rk e957 mm) (rk e957 ne_zm); replace h470 := SL.rc h470 (rk e957 mm) (rk e957 ne_zm); replace E := E.rk B0 e957; replace B := B.rk e958 lm; have hl959 : l904.length = (l904.set i830.toNat ((rd l904 i830).set i905.toNat (IntKind.u8.wrap (IntKind.i64.wrap ((IntKind.i64.wrap (7 * i830)) + (IntKind.i64.wrap (3 * i905))))))).length := by simp
         replace F := F.sub (L' := [(0, .slice A2 a1.length C3), (3, .pointer p24), (8, .slice A183 (List.replicate t177.length (none : Option (List Value))).length C184), (9, .slice A194 (List.replicate t188.length (none : Option (List Value))).length C195), (10, .slice A205 t199.length C206), (11, .slice A216 t210.length C217), (12, .slice A901 (l904.set i830.toNat ((rd l904 i830).set i905.toNat (IntKind.u8.wrap (IntKind.i64.wrap ((IntKind.i64.wrap (7 * i830)) + (IntKind.i64.wrap (3 * i905))))))).length C902), (16, .slice A468 (List.replicate t462.length (none : Option (List Value))).length C469), (18, .int .i64 i830), (19, .int .i64 i905), (241, .int .u8 (IntKind.u8.wrap (IntKind.i64.wrap ((IntKind.i64.wrap (7 * i830)) + (IntKind.i64.wrap (3 * i905))))))]) ⟨rfl, rfl, rfl, rfl, rfl, rfl, (by rw [← hl959]; rfl), rfl, rfl, rfl, rfl, trivial⟩; refine nil (hK931 _ _ ?_); refine reg ?_; refine qm F fun a F => ?_
         as_aux_lemma =>
         refine qv F (r_add F rfl rfl) fun a F => ?_; refine qa F fun a F => nil ?_; replace H := HN909 _ (si H).symm; exact hX908 _ _ _ (Nat.lt_succ_self _) ⟨(l904.set i830.toNat ((rd l904 i830).set i905.toNat (IntKind.u8.wrap (IntKind.i64.wrap ((IntKind.i64.wrap (7 * i830)) + (IntKind.i64.wrap (3 * i905))))))), A901, C902, (IntKind.i64.wrap (i905 + 1)), c956, F.sub ⟨rfl, rfl, rfl, rfl, rfl, rfl, rfl, rfl, rfl, rfl, trivial⟩, E, B, h4, h434, h185, h196, h207, h218, h470, h903, H⟩
        replace H := im hb930 H; refine wcf (fb F (dz hb930)) ?_; refine wp_exit ?_; refine thenE ?_; refine thenE ?_; refine inbE ?_; have hx_ := HD910 _ (si H).symm; have H := HR914; rw [← hx_] at H; exact J969 c906 w907 a l904 A901 C902 (F.sub ⟨rfl, rfl, rfl, rfl, rfl, rfl, rfl, rfl, rfl, trivial⟩) E B h4 h434 h185 h196 h207 h218 h470 h903 H
       as_aux_lemma =>
       replace H := im hb843 H; refine wcf (fb F (dz hb843)) ?_; refine wp_exit ?_; refine thenE ?_; refine thenE ?_; refine inbE ?_; have hx_ := HD835 _ (si H).symm; have H := HR839; rw [← hx_] at H; exact J981 c831 w832 a l829 A826 C827 (F.sub ⟨rfl, rfl, rfl, rfl, rfl, rfl, rfl, rfl, trivial⟩) E B h4 h434 h185 h196 h207 h218 h470 h828 H
      refine loop_fuel (I := fun n a w => ∃ (l478 : List (List Int)) (A479 : Option Addr) (C480 : Nat) (i482 : Int) (c : Nat → Nat), Fr a 365 [(0, .slice A2 a1.length C3), (3, .pointer p24), (8, .slice A183 t177.length C184), (9, .slice A194 t188.length C195), (10, .slice A205 t199.length C206), (11, .slice A216 t210.length C217), (12, .slice A479 l478.length C480), (16, .slice A468 t462.length C469), (17, .int .i64 i482)] ∧ Ev (fun x => False ∨ m ≤ x) c0 w0 c w ∧ CB (m + 28) c w ∧ SL false (Kslice (Kint .u8)) 0 0 c w A2 C3 a1 ∧ BG (m + 1) (m + 2) c w p24 o435 ∧ OL KO_api_Letter (m + 4) (m + 5) c w A183 C184 t177 (fun q_ => q_ < i482.toNat) ∧ OL KO_api_Letter (m + 6) (m + 7) c w A194 C195 t188 (fun q_ => q_ < i482.toNat) ∧ SL true (Kint .i64) (m + 8) 0 c w A205 C206 t199 ∧ SL true (Kint .i64) (m + 9) 0 c w A216 C217 t210 ∧ OL KO_api_Letter (m + 16) (m + 17) c w A468 C469 t462 (fun q_ => q_ < i482.toNat) ∧ SP (Kint .u8) (m + 14) (m + 15) c w A479 C480 l478 0 ∧ loop (fun (s_ : (List (List Int)) × Int) => haulagelaw20_BagOwn.b9 k a1 t177 t188 t462 s_.1 s_.2) n (l478, i482) = some x492) (k := k) ⟨l437, A438, C439, 0, c464, F.sub ⟨rfl, rfl, rfl, rfl, rfl, rfl, rfl, rfl, rfl, trivial⟩, E, B, h4, h434, h185, h196, h207, h218, h470, h436, HL⟩ ?_; clear HL H E F B; intro n489 X485 hX485 a w484 ⟨l478, A479, C480, i482, c483, F, E, B, h4, h434, h185, h196, h207, h218, h470, h481, HL⟩; obtain ⟨n490, ctl488, rfl, HB, HN486, HD487⟩ := loop_some HL; have H : haulagelaw20_BagOwn.b9 k a1 t177 t188 t462 l478 i482 = some ctl488 := HB; clear HB HL; unfold haulagelaw20_BagOwn.b9 at H
      as_aux_lemma =>
      refine sq fun K493 hK493 => ?_; refine sr fun K494 hK494 => qm F fun a F => qm F fun a F => ?_; refine qv F (r_lensl F Try.underlying22 rfl) fun a F => ?_; refine qv F (r_lss F rfl rfl) fun a F => ?_; refine nil (hK494 _ _ ?_)
      by_cases hb495 : i482 < (a1.length : Int)
      ·replace H := ip hb495 H; refine wct (fb F (dt hb495)) (wp_skip (hK493 _ _ ?_)); replace H := ifN H; obtain ⟨g499, H⟩ := H; obtain ⟨c500, e501, e502, ad503, cs504, e505, h506, r507, h185⟩ := OL.lendH h185 [m + 18] i482 g499.1 g499.2 (by simp) rfl ⟨⟨mm, (pl hm0)⟩, trivial⟩ mm; replace h4 := SL.rc h4 (rk e501 ne_zm) (rk e501 ne_zm); replace h434 := BG.rc h434 (rk e501 mm) (rk e501 mm) (rk e501 ne_zm) (pl hm0); replace h196 := OL.rc h196 (rk e501 mm) (rk e501 mm) (rk e501 ne_zm) (pl hm0); replace h207 := SL.rc h207 (rk e501 mm) (rk e501 ne_zm)
       as_aux_lemma =>
       replace h218 := SL.rc h218 (rk e501 mm) (rk e501 ne_zm); replace h470 := OL.rc h470 (rk e501 mm) (rk e501 mm) (rk e501 ne_zm) (pl hm0); replace h481 := SP.rc h481 (rk e501 mm) (rk e501 mm) (rk e501 ne_zm) (pl hm0); obtain ⟨A509, C510, rfl, h511⟩ := r507; replace h511 : SL true (Kint .u8) (m + 18) 0 c500 w484 A509 C510 ((rd t177 i482).Data) := h511; obtain ⟨qa508, qqa508⟩ : ∃ q, q = (ad503.add (i482.toNat * 4)) := ⟨_, rfl⟩; have h506 : AT true (m + 4) c500 w484 qa508 [.int .i64 ((rd t177 i482).Number), .int .i64 ((rd t177 i482).From), .int .i64 ((rd t177 i482).To), .slice A509 ((rd t177 i482).Data).length C510] := by rw [qqa508]; exact h506
       replace E := E.rk B0 e501; replace B : CB (m + 28) c500 w484 := e502 _ ⟨lm, trivial⟩ B; replace H := ifN H; obtain ⟨g513, H⟩ := H; obtain ⟨c514, e515, e516, ad517, cs518, e519, h520, r521, h196⟩ := OL.lendH h196 [m + 19] i482 g513.1 g513.2 (by simp) rfl ⟨⟨mm, (pl hm0)⟩, trivial⟩ mm; replace h4 := SL.rc h4 (rk e515 ne_zm) (rk e515 ne_zm); replace h434 := BG.rc h434 (rk e515 mm) (rk e515 mm) (rk e515 ne_zm) (pl hm0)
       as_aux_lemma =>
       replace h185 := OL.rc h185 (rk e515 mm) (rk e515 mm) (rk e515 ne_zm) (pl hm0); replace h207 := SL.rc h207 (rk e515 mm) (rk e515 ne_zm); replace h218 := SL.rc h218 (rk e515 mm) (rk e515 ne_zm); replace h470 := OL.rc h470 (rk e515 mm) (rk e515 mm) (rk e515 ne_zm) (pl hm0); replace h481 := SP.rc h481 (rk e515 mm) (rk e515 mm) (rk e515 ne_zm) (pl hm0); replace h511 := SL.rc h511 (rk e515 mm) (rk e515 ne_zm); replace h506 := AT.rc h506 (rk e515 mm); obtain ⟨A523, C524, rfl, h525⟩ := r521; replace h525 : SL true (Kint .u8) (m + 19) 0 c514 w484 A523 C524 ((rd t188 i482).Data) := h525; obtain ⟨qa522, qqa522⟩ : ∃ q, q = (ad517.add (i482.toNat * 4)) := ⟨_, rfl⟩; have h520 : AT true (m + 6) c514 w484 qa522 [.int .i64 ((rd t188 i482).Number), .int .i64 ((rd t188 i482).From), .int .i64 ((rd t188 i482).To), .slice A523 ((rd t188 i482).Data).length C524] := by rw [qqa522]; exact h520
       replace E := E.rk B0 e515; replace B : CB (m + 28) c514 w484 := e516 _ ⟨lm, trivial⟩ B; replace H := ifN H; obtain ⟨g527, H⟩ := H; obtain ⟨c528, e529, e530, ad531, cs532, e533, h534, r535, h470⟩ := OL.lendH h470 [m + 20] i482 g527.1 g527.2 (by simp) rfl ⟨⟨mm, (pl hm0)⟩, trivial⟩ mm
       as_aux_lemma =>
       replace h4 := SL.rc h4 (rk e529 ne_zm) (rk e529 ne_zm); replace h434 := BG.rc h434 (rk e529 mm) (rk e529 mm) (rk e529 ne_zm) (pl hm0); replace h185 := OL.rc h185 (rk e529 mm) (rk e529 mm) (rk e529 ne_zm) (pl hm0); replace h196 := OL.rc h196 (rk e529 mm) (rk e529 mm) (rk e529 ne_zm) (pl hm0); replace h207 := SL.rc h207 (rk e529 mm) (rk e529 ne_zm); replace h218 := SL.rc h218 (rk e529 mm) (rk e529 ne_zm); replace h481 := SP.rc h481 (rk e529 mm) (rk e529 mm) (rk e529 ne_zm) (pl hm0); replace h511 := SL.rc h511 (rk e529 mm) (rk e529 ne_zm); replace h506 := AT.rc h506 (rk e529 mm); replace h525 := SL.rc h525 (rk e529 mm) (rk e529 ne_zm); replace h520 := AT.rc h520 (rk e529 mm); obtain ⟨A537, C538, rfl, h539⟩ := r535; replace h539 : SL true (Kint .u8) (m + 20) 0 c528 w484 A537 C538 ((rd t462 i482).Data) := h539; obtain ⟨qa536, qqa536⟩ : ∃ q, q = (ad531.add (i482.toNat * 4)) := ⟨_, rfl⟩; have h534 : AT true (m + 16) c528 w484 qa536 [.int .i64 ((rd t462 i482).Number), .int .i64 ((rd t462 i482).From), .int .i64 ((rd t462 i482).To), .slice A537 ((rd t462 i482).Data).length C538] := by rw [qqa536]; exact h534
       as_aux_lemma =>
       replace E := E.rk B0 e529; replace B : CB (m + 28) c528 w484 := e530 _ ⟨lm, trivial⟩ B; refine sq fun K541 hK541 => ?_; refine wp_block ?_; refine sq fun K542 hK542 => ?_; refine sq fun K543 hK543 => ?_; have J634 : ∀ (c635 : Nat → Nat) (w636 : World) (a : Act) (b633 : Bool), Fr a 365 [(0, .slice A2 a1.length C3), (3, .pointer p24), (8, .slice A183 t177.length C184), (9, .slice A194 t188.length C195), (10, .slice A205 t199.length C206), (11, .slice A216 t210.length C217), (12, .slice A479 l478.length C480), (16, .slice A468 t462.length C469), (17, .int .i64 i482), (197, .bool b633)] → Ev (fun x => False ∨ m ≤ x) c0 w0 c635 w636 → CB (m + 28) c635 w636 → AT true (m + 4) c635 w636 qa508 [.int .i64 ((rd t177 i482).Number), .int .i64 ((rd t177 i482).From), .int .i64 ((rd t177 i482).To), .slice A509 ((rd t177 i482).Data).length C510] → AT true (m + 6) c635 w636 qa522 [.int .i64 ((rd t188 i482).Number), .int .i64 ((rd t188 i482).From), .int .i64 ((rd t188 i482).To), .slice A523 ((rd t188 i482).Data).length C524] → AT true (m + 16) c635 w636 qa536 [.int .i64 ((rd t462 i482).Number), .int .i64 ((rd t462 i482).From), .int .i64 ((rd t462 i482).To), .slice A537 ((rd t462 i482).Data).length C538] → SL false (Kslice (Kint .u8)) 0 0 c635 w636 A2 C3 a1 → BG (m + 1) (m + 2) c635 w636 p24 o435 → OL KO_api_Letter (m + 4) (m + 5) c635 w636 A183 C184 t177 (fun q_ => (fun q_ => q_ < i482.toNat) q_ ∨ q_ = i482.toNat) → OL KO_api_Letter (m + 6) (m + 7) c635 w636 A194 C195 t188 (fun q_ => (fun q_ => q_ < i482.toNat) q_ ∨ q_ = i482.toNat) → SL true (Kint .i64) (m + 8) 0 c635 w636 A205 C206 t199 → SL true (Kint .i64) (m + 9) 0 c635 w636 A216 C217 t210 → SP (Kint .u8) (m + 14) (m + 15) c635 w636 A479 C480 l478 0 → OL KO_api_Letter (m + 16) (m + 17) c635 w636 A468 C469 t462 (fun q_ => (fun q_ => q_ < i482.toNat) q_ ∨ q_ = i482.toNat) → SL true (Kint .u8) (m + 18) 0 c635 w636 A509 C510 ((rd t177 i482).Data) → SL true (Kint .u8) (m + 19) 0 c635 w636 A523 C524 ((rd t188 i482).Data) → SL true (Kint .u8) (m + 20) 0 c635 w636 A537 C538 ((rd t462 i482).Data) → haulagelaw20_BagOwn.j8 t177 t188 t462 l478 i482 b633 = some ctl488 → K543 a w636 := by
        intro c635 w636 a b633 F E B h506 h520 h534 h4 h434 h185 h196 h207 h218 h481 h470 h511 h525 h539 H; unfold haulagelaw20_BagOwn.j8 at H; refine hK543 _ _ ?_
        by_cases hb637 : b633 = true
        ·replace H := ip hb637 H; refine wct (fb F hb637) ?_; refine sr fun K638 hK638 => qa F fun a F => nil (hK638 _ _ ?_); replace F : Fr a 365 [(2, .bool false)] := F.sub ⟨rfl, trivial⟩
         as_aux_lemma =>
         refine wp_ret ?_; refine thenR ?_; refine inbR ?_; refine thenR ?_; refine thenR ?_; refine inbR ?_; refine thenR ?_; have hx_ := HD487 _ (si H).symm; have H := HR491; rw [← hx_] at H; replace H : some false = some r := H; obtain rfl := si H; refine out1 F rfl rfl ?_; exact ⟨cf (ct m) c635, rfl, E.lv B0, cfb⟩
        as_aux_lemma =>
        replace H := im hb637 H; refine wcf (fb F (bfalse hb637)) (wp_skip (hK542 _ _ ?_)); have h639 : SL false (Kslice (Kint .u8)) (m + 14) (m + 15) c635 w636 A479 C480 l478 := SP.view h481 (fun q_ => q_); refine regD (SB (fun x => x = m + 21 ∨ x = m + 22 ∨ x = m + 18 ∨ x = m + 19 ∨ x = m + 20 ∨ x = m + 14) c635 w636) 19 (.q 0 (.q 1 (.q 2 (.q 3 (.q 4 (.q 5 (.q 6 (.q 7 (.q 8 (.q 9 (.q 10 (.q 11 (.q 12 (.q 13 (.q 14 (.q 15 (.e 16 (.e 17 (.q 18 .nil))))))))))))))))))) Try_hm (by decide +kernel) ?_; intro w640 w1_ w2_ w3_ w4_; have E641 : Ev No c635 w636 c635 w640 := Ev.same w1_ w2_ w3_ w4_; replace B := B.same w1_; have zh506 := h506; have zh520 := h520; have zh534 := h534; have ER : Ev (fun x => x = m + 21 ∨ x = m + 22 ∨ x = m + 18 ∨ x = m + 19 ∨ x = m + 20 ∨ x = m + 14) c635 w636 c635 w640 := Ev.same w1_ w2_ w3_ w4_; replace h4 := h4.ev E641; replace h434 := h434.ev E641; replace h185 := h185.ev E641
        as_aux_lemma =>
        replace h196 := h196.ev E641; replace h207 := h207.ev E641; replace h218 := h218.ev E641; replace h481 := h481.ev E641; replace h470 := h470.ev E641; replace h511 := h511.ev E641; replace h525 := h525.ev E641; replace h539 := h539.ev E641; replace E := E.n E641; refine dm F ER.sb fun a F => ?_; refine dm F ER.sb fun a F => ?_; refine dm F ER.sb fun a F => ?_; refine dq F (fun wq hS => r_indexAddr' F Try.underlying34 sz_40 rfl rfl g499.1 g499.2 e505 qqa508) ER.sb fun a F => ?_; refine df F ff_40_3 ER.sb fun a F => ?_
        as_aux_lemma =>
        refine dq F (fun wq hS => r_load F rfl ag_27 (AT.cell (AT.sb zh506 hS (nor mm (nor mm (nor mm (nor mm (nor mm mm)))))) rfl)) ER.sb fun a F => ?_; refine dm F ER.sb fun a F => ?_; refine dm F ER.sb fun a F => ?_; refine dq F (fun wq hS => r_indexAddr' F Try.underlying34 sz_40 rfl rfl g513.1 g513.2 e519 qqa522) ER.sb fun a F => ?_; refine df F ff_40_3 ER.sb fun a F => ?_; refine dq F (fun wq hS => r_load F rfl ag_27 (AT.cell (AT.sb zh520 hS (nor mm (nor mm (nor mm (nor mm (nor mm mm)))))) rfl)) ER.sb fun a F => ?_; refine dm F ER.sb fun a F => ?_; refine dm F ER.sb fun a F => ?_; refine dq F (fun wq hS => r_indexAddr' F Try.underlying34 sz_40 rfl rfl g527.1 g527.2 e533 qqa536) ER.sb fun a F => ?_; refine df F ff_40_3 ER.sb fun a F => ?_; refine dq F (fun wq hS => r_load F rfl ag_27 (AT.cell (AT.sb zh534 hS (nor mm (nor mm (nor mm (nor mm (nor mm mm)))))) rfl)) ER.sb fun a F => ?_; refine d_e ?_; have h642 : GR (KOsl (Kint .u8)) (m + 21) c635 w640 (([] : List Value).map one1) ([] : List (List Int)) := GR.nil (pl hm0); obtain ⟨c643, e644, e645, h642⟩ := GP.push h642 h511 ⟨mm, (pl hm0)⟩
        as_aux_lemma =>
        replace h4 := SL.rc h4 (rk e644 ne_zm) (rk e644 ne_zm); replace h434 := BG.rc h434 (rk e644 mm) (rk e644 mm) (rk e644 ne_zm) (pl hm0); replace h185 := OL.rc h185 (rk e644 mm) (rk e644 mm) (rk e644 ne_zm) (pl hm0); replace h196 := OL.rc h196 (rk e644 mm) (rk e644 mm) (rk e644 ne_zm) (pl hm0); replace h207 := SL.rc h207 (rk e644 mm) (rk e644 ne_zm); replace h218 := SL.rc h218 (rk e644 mm) (rk e644 ne_zm); replace h481 := SP.rc h481 (rk e644 mm) (rk e644 mm) (rk e644 ne_zm) (pl hm0); replace h470 := OL.rc h470 (rk e644 mm) (rk e644 mm) (rk e644 ne_zm) (pl hm0); replace h525 := SL.rc h525 (rk e644 mm) (rk e644 ne_zm); replace h539 := SL.rc h539 (rk e644 mm) (rk e644 ne_zm); replace E := E.rk B0 e644; replace ER := ER.rkM e644 (by simp); replace B := B.rk e645 lm; obtain ⟨c646, e647, e648, h642⟩ := GP.push h642 h525 ⟨mm, (pl hm0)⟩
        as_aux_lemma =>
        replace h4 := SL.rc h4 (rk e647 ne_zm) (rk e647 ne_zm); replace h434 := BG.rc h434 (rk e647 mm) (rk e647 mm) (rk e647 ne_zm) (pl hm0); replace h185 := OL.rc h185 (rk e647 mm) (rk e647 mm) (rk e647 ne_zm) (pl hm0); replace h196 := OL.rc h196 (rk e647 mm) (rk e647 mm) (rk e647 ne_zm) (pl hm0); replace h207 := SL.rc h207 (rk e647 mm) (rk e647 ne_zm); replace h218 := SL.rc h218 (rk e647 mm) (rk e647 ne_zm); replace h481 := SP.rc h481 (rk e647 mm) (rk e647 mm) (rk e647 ne_zm) (pl hm0); replace h470 := OL.rc h470 (rk e647 mm) (rk e647 mm) (rk e647 ne_zm) (pl hm0); replace h539 := SL.rc h539 (rk e647 mm) (rk e647 ne_zm); replace E := E.rk B0 e647; replace ER := ER.rkM e647 (by simp); replace B := B.rk e648 lm; obtain ⟨c649, e650, e651, h642⟩ := GP.push h642 h539 ⟨mm, (pl hm0)⟩; replace h4 := SL.rc h4 (rk e650 ne_zm) (rk e650 ne_zm)
        as_aux_lemma =>
        replace h434 := BG.rc h434 (rk e650 mm) (rk e650 mm) (rk e650 ne_zm) (pl hm0); replace h185 := OL.rc h185 (rk e650 mm) (rk e650 mm) (rk e650 ne_zm) (pl hm0); replace h196 := OL.rc h196 (rk e650 mm) (rk e650 mm) (rk e650 ne_zm) (pl hm0); replace h207 := SL.rc h207 (rk e650 mm) (rk e650 ne_zm); replace h218 := SL.rc h218 (rk e650 mm) (rk e650 ne_zm); replace h481 := SP.rc h481 (rk e650 mm) (rk e650 mm) (rk e650 ne_zm) (pl hm0); replace h470 := OL.rc h470 (rk e650 mm) (rk e650 mm) (rk e650 ne_zm) (pl hm0); replace E := E.rk B0 e650; replace ER := ER.rkM e650 (by simp); replace B := B.rk e651 lm; refine o_eff F rfl rfl rfl (by decide) (e_buildSlice (n := 3) (e := 27) (c := c649) (k := Kval) (i := 0) F [(0, .slice A509 ((rd t177 i482).Data).length C510), (1, .slice A523 ((rd t188 i482).Data).length C524), (2, .slice A537 ((rd t462 i482).Data).length C538)] [.slice A509 ((rd t177 i482).Data).length C510, .slice A523 ((rd t188 i482).Data).length C524, .slice A537 ((rd t462 i482).Data).length C538] ([.slice A509 ((rd t177 i482).Data).length C510, .slice A523 ((rd t188 i482).Data).length C524, .slice A537 ((rd t462 i482).Data).length C538] : List Value) (by exact ⟨rfl, rfl, rfl, rfl, rfl, rfl, trivial⟩) (fun w => by kernel_rfl) rfl (by decide) rfl ⟨⟨rfl, rfl⟩, ⟨rfl, rfl⟩, ⟨rfl, rfl⟩, trivial⟩ (fun q => q) (m + 22)) ?_; rintro v w653 a ⟨c652, A654, C655, rfl, E656, h657, B658⟩ F; replace B := B658 _ B lm; replace ER := ER.trans E656 nx
        as_aux_lemma =>
        replace h481 := h481.ev E656; replace h642 := h642.ev E656; replace E := E.n E656; replace h657 : SP (Kint .u8) (m + 22) (m + 21) c652 w653 A654 C655 [(rd t177 i482).Data, (rd t188 i482).Data, (rd t462 i482).Data] 0 := SP.mk h657 h642; refine ⟨fun _ => ER.sb, ?_⟩; refine d_e ?_; replace H := ifN H; obtain ⟨g659, H⟩ := H; refine o_eff F rfl rfl rfl (by decide) (e_appendS (e := (Kint .u8)) (xss := l478) (yss := [(rd t177 i482).Data, (rd t188 i482).Data, (rd t462 i482).Data]) (c := c652) (j := (m + 14)) (y0 := (m + 15)) F et_22 rfl rfl h481 h657 g659 (len_ok g659) (pl hm0) mm mm mm) ?_; rintro v w664 a ⟨c660, A665, C666, rfl, E667, B669, c661, e662, e663, h668⟩ F; replace B := B669 _ B lm; replace ER := ER.trans E667 (fun x q => by replace q : x = m + 14 := q; show x = m + 21 ∨ x = m + 22 ∨ x = m + 18 ∨ x = m + 19 ∨ x = m + 20 ∨ x = m + 14; omega); replace h4 := (h4.ev E656).ev E667; replace h434 := (h434.ev E656).ev E667
        as_aux_lemma =>
        replace h185 := (h185.ev E656).ev E667; replace h196 := (h196.ev E656).ev E667; replace h207 := (h207.ev E656).ev E667; replace h218 := (h218.ev E656).ev E667; replace h470 := (h470.ev E656).ev E667; replace E := E.trans E667 lc1; replace h4 := SL.rc h4 (rk e662 ne_zm) (rk e662 ne_zm); replace h434 := BG.rc h434 (rk e662 mm) (rk e662 mm) (rk e662 ne_zm) (pl hm0); replace h185 := OL.rc h185 (rk e662 mm) (rk e662 mm) (rk e662 ne_zm) (pl hm0); replace h196 := OL.rc h196 (rk e662 mm) (rk e662 mm) (rk e662 ne_zm) (pl hm0); replace h207 := SL.rc h207 (rk e662 mm) (rk e662 ne_zm); replace h218 := SL.rc h218 (rk e662 mm) (rk e662 ne_zm); replace h470 := OL.rc h470 (rk e662 mm) (rk e662 mm) (rk e662 ne_zm) (pl hm0); replace E := E.rk B0 e662
        as_aux_lemma =>
        replace ER := ER.rkM e662 (by simp); replace B := B.rk e663 lm; refine ⟨fun _ => ER.sb, ?_⟩; refine da F ER.sb fun a F => ?_; refine d_nil ?_; replace h470 := OL.next (k := i482) h470 g527.1 g527.2; replace h196 := OL.next (k := i482) h196 g513.1 g513.2; replace h185 := OL.next (k := i482) h185 g499.1 g499.2; refine hK541 _ _ ?_; replace F : Fr a 365 [(0, .slice A2 a1.length C3), (3, .pointer p24), (8, .slice A183 t177.length C184), (9, .slice A194 t188.length C195), (10, .slice A205 t199.length C206), (11, .slice A216 t210.length C217), (12, .slice A665 (l478 ++ [(rd t177 i482).Data, (rd t188 i482).Data, (rd t462 i482).Data]).length C666), (16, .slice A468 t462.length C469), (17, .int .i64 i482)] := F.sub ⟨rfl, rfl, rfl, rfl, rfl, rfl, rfl, rfl, rfl, trivial⟩; refine reg ?_; refine qm F fun a F => ?_; refine qv F (r_add F rfl rfl) fun a F => ?_; refine qa F fun a F => nil ?_
        as_aux_lemma =>
        replace H := HN486 _ (si H).symm; exact hX485 _ _ _ (Nat.lt_succ_self _) ⟨(l478 ++ [(rd t177 i482).Data, (rd t188 i482).Data, (rd t462 i482).Data]), A665, C666, (IntKind.i64.wrap (i482 + 1)), c661, F.sub ⟨rfl, rfl, rfl, rfl, rfl, rfl, rfl, rfl, rfl, trivial⟩, E, B, h4, h434, h185, h196, h207, h218, h470, h668, H⟩
       have h544 : SL false (Kslice (Kint .u8)) (m + 14) (m + 15) c528 w484 A479 C480 l478 := SP.view h481 (fun q_ => q_); refine regD (SB No c528 w484) 49 (.q 0 (.q 1 (.q 2 (.q 3 (.q 4 (.q 5 (.q 6 (.q 7 (.q 8 (.e 9 (.q 10 (.q 11 (.q 12 (.q 13 (.q 14 (.q 15 (.q 16 (.q 17 (.q 18 (.q 19 (.q 20 (.e 21 (.q 22 (.q 23 (.q 24 (.q 25 (.q 26 (.q 27 (.q 28 (.q 29 (.q 30 (.q 31 (.q 32 (.q 33 (.e 34 (.q 35 (.q 36 (.q 37 (.q 38 (.q 39 (.q 40 (.q 41 (.q 42 (.q 43 (.q 44 (.q 45 (.e 46 (.q 47 (.q 48 .nil))))))))))))))))))))))))))))))))))))))))))))))))) Try_hm (by decide +kernel) ?_; intro w545 w1_ w2_ w3_ w4_; have E546 : Ev No c528 w484 c528 w545 := Ev.same w1_ w2_ w3_ w4_; replace B := B.same w1_; have zh4 := h4; have zh506 := h506; have zh520 := h520; have zh534 := h534; have zh544 := h544; have ER : Ev No c528 w484 c528 w545 := Ev.same w1_ w2_ w3_ w4_; replace h511 := h511.ev E546
       as_aux_lemma =>
       replace E := E.n E546; refine dm F ER.sb fun a F => ?_; refine dm F ER.sb fun a F => ?_; refine dq F (fun wq hS => r_indexAddr' F Try.underlying34 sz_40 rfl rfl g499.1 g499.2 e505 qqa508) ER.sb fun a F => ?_; refine df F ff_40_3 ER.sb fun a F => ?_; refine dl F ag_27 zh506 nq ER.sb fun a F => ?_; refine dm F ER.sb fun a F => ?_; refine dm F ER.sb fun a F => ?_; replace H := ifN H; obtain ⟨g547, H⟩ := H; obtain ⟨ad548, cs549, e550, h551, r552⟩ := SL.at zh4 i482 g547.1 g547.2; obtain ⟨A553, C554, rfl, h555⟩ := r552; replace h555 := SL.fl (i' := 0) h555 (fun q => q); obtain ⟨qa556, qqa556⟩ : ∃ q, q = (ad548.add (i482.toNat * 1)) := ⟨_, rfl⟩; have h551 : AT false 0 c528 w484 qa556 [.slice A553 (rd a1 i482).length C554] := by rw [qqa556]; exact h551
       as_aux_lemma =>
       replace h555 := h555.ev ER nq nq; have zh551 := h551; refine dq F (fun wq hS => r_indexAddr' F Try.underlying22 sz_27 rfl rfl g547.1 g547.2 e550 qqa556) ER.sb fun a F => ?_; refine dq F (fun wq hS => r_load F rfl ag_27 (AT.cell0 (AT.sb zh551 hS nq) rfl)) ER.sb fun a F => ?_; refine d_e ?_; obtain ⟨t558, q559, H⟩ := bind_some H; refine oc F Try.func19 (haulagelaw20_same.calls k (m := m + 28) (pl hm0) B h511.r h555 lm (pl hm0) _ q559) ?_; rintro e w561 ⟨c560, rfl, E562, B⟩; refine rt fun a F => ?_; replace ER := ER.trans E562 nx; replace h4 := (h4.ev E546).ev E562; replace h434 := (h434.ev E546).ev E562; replace h185 := (h185.ev E546).ev E562; replace h196 := (h196.ev E546).ev E562
       as_aux_lemma =>
       replace h207 := (h207.ev E546).ev E562; replace h218 := (h218.ev E546).ev E562; replace h470 := (h470.ev E546).ev E562; replace h481 := (h481.ev E546).ev E562; replace h511 := h511.ev E562; replace h506 := (h506.ev E546).ev E562; replace h525 := (h525.ev E546).ev E562; replace h520 := (h520.ev E546).ev E562; replace h539 := (h539.ev E546).ev E562; replace h534 := (h534.ev E546).ev E562; replace E := E.n E562; refine ⟨fun _ => ER.sb, ?_⟩; refine dq F (fun wq hS => r_not F rfl) ER.sb fun a F => ?_; refine dm F ER.sb fun a F => ?_
       by_cases hb565 : t558 = true
       ·replace H := ip hb565 H
        as_aux_lemma =>
        refine dy F (congrArg not hb565) (fun wq hS => r_move F rfl) ER.sb fun a F => ?_; refine dy F (congrArg not hb565) (fun wq hS => r_move F rfl) ER.sb fun a F => ?_; refine dy F (congrArg not hb565) (fun wq hS => r_indexAddr' F Try.underlying34 sz_40 rfl rfl g513.1 g513.2 e519 qqa522) ER.sb fun a F => ?_; refine dy F (congrArg not hb565) (fun wq hS => r_fieldAddr F rfl ff_40_3) ER.sb fun a F => ?_; refine dy F (congrArg not hb565) (fun wq hS => r_load F rfl ag_27 (AT.cell (AT.sb zh520 hS nq) rfl)) ER.sb fun a F => ?_; refine dy F (congrArg not hb565) (fun wq hS => r_move F rfl) ER.sb fun a F => ?_; refine dy F (congrArg not hb565) (fun wq hS => r_move F rfl) ER.sb fun a F => ?_; replace H := ifN H; obtain ⟨g566, H⟩ := H; obtain ⟨ad567, cs568, e569, h570, r571⟩ := SL.at zh4 i482 g566.1 g566.2; obtain ⟨A572, C573, rfl, h574⟩ := r571; replace h574 := SL.fl (i' := 0) h574 (fun q => q); obtain ⟨qa575, qqa575⟩ : ∃ q, q = (ad567.add (i482.toNat * 1)) := ⟨_, rfl⟩; have h570 : AT false 0 c528 w484 qa575 [.slice A572 (rd a1 i482).length C573] := by rw [qqa575]; exact h570
        as_aux_lemma =>
        replace h574 := h574.ev ER nq nq; have zh570 := h570; refine dy F (congrArg not hb565) (fun wq hS => r_indexAddr' F Try.underlying22 sz_27 rfl rfl g566.1 g566.2 e569 qqa575) ER.sb fun a F => ?_; refine dy F (congrArg not hb565) (fun wq hS => r_load F rfl ag_27 (AT.cell0 (AT.sb zh570 hS nq) rfl)) ER.sb fun a F => ?_; refine d_e ?_; obtain ⟨t577, q578, H⟩ := bind_some H; refine o_call F rfl (wanted_yes F rfl rfl (by decide) rfl (congrArg not hb565)) rfl (by decide) (r_call F Try.func19 rfl (by kernel_rfl) rfl) (haulagelaw20_same.calls k (m := m + 28) (pl hm0) B h525.r h574 lm (pl hm0) _ q578) ?_; rintro e w580 ⟨c579, rfl, E581, B⟩; refine rt fun a F => ?_; replace ER := ER.trans E581 nx; replace h4 := h4.ev E581; replace h434 := h434.ev E581; replace h185 := h185.ev E581; replace h196 := h196.ev E581
        as_aux_lemma =>
        replace h207 := h207.ev E581; replace h218 := h218.ev E581; replace h470 := h470.ev E581; replace h481 := h481.ev E581; replace h511 := h511.ev E581; replace h506 := h506.ev E581; replace h525 := h525.ev E581; replace h520 := h520.ev E581; replace h539 := h539.ev E581; replace h534 := h534.ev E581; replace E := E.n E581; refine ⟨fun _ => ER.sb, ?_⟩; refine dy F (congrArg not hb565) (fun wq hS => r_not F rfl) ER.sb fun a F => ?_; refine dq F (fun wq hS => r_pick_f F rfl (congrArg not hb565) rfl) ER.sb fun a F => ?_
        as_aux_lemma =>
        refine dm F ER.sb fun a F => ?_
        by_cases hb584 : t577 = true
        ·replace H := ip hb584 H; refine dy F (congrArg not hb584) (fun wq hS => r_move F rfl) ER.sb fun a F => ?_; refine dy F (congrArg not hb584) (fun wq hS => r_move F rfl) ER.sb fun a F => ?_; refine dy F (congrArg not hb584) (fun wq hS => r_indexAddr' F Try.underlying34 sz_40 rfl rfl g527.1 g527.2 e533 qqa536) ER.sb fun a F => ?_; refine dy F (congrArg not hb584) (fun wq hS => r_fieldAddr F rfl ff_40_3) ER.sb fun a F => ?_; refine dy F (congrArg not hb584) (fun wq hS => r_load F rfl ag_27 (AT.cell (AT.sb zh534 hS nq) rfl)) ER.sb fun a F => ?_; refine dy F (congrArg not hb584) (fun wq hS => r_move F rfl) ER.sb fun a F => ?_; refine dy F (congrArg not hb584) (fun wq hS => r_move F rfl) ER.sb fun a F => ?_; replace H := ifN H; obtain ⟨g585, H⟩ := H; obtain ⟨ad586, cs587, e588, h589, r590⟩ := SL.at zh4 i482 g585.1 g585.2; obtain ⟨A591, C592, rfl, h593⟩ := r590; replace h593 := SL.fl (i' := 0) h593 (fun q => q); obtain ⟨qa594, qqa594⟩ : ∃ q, q = (ad586.add (i482.toNat * 1)) := ⟨_, rfl⟩; have h589 : AT false 0 c528 w484 qa594 [.slice A591 (rd a1 i482).length C592] := by rw [qqa594]; exact h589
         as_aux_lemma =>
         replace h593 := h593.ev ER nq nq; have zh589 := h589; refine dy F (congrArg not hb584) (fun wq hS => r_indexAddr' F Try.underlying22 sz_27 rfl rfl g585.1 g585.2 e588 qqa594) ER.sb fun a F => ?_; refine dy F (congrArg not hb584) (fun wq hS => r_load F rfl ag_27 (AT.cell0 (AT.sb zh589 hS nq) rfl)) ER.sb fun a F => ?_; refine d_e ?_; obtain ⟨t596, q597, H⟩ := bind_some H; refine o_call F rfl (wanted_yes F rfl rfl (by decide) rfl (congrArg not hb584)) rfl (by decide) (r_call F Try.func19 rfl (by kernel_rfl) rfl) (haulagelaw20_same.calls k (m := m + 28) (pl hm0) B h539.r h593 lm (pl hm0) _ q597) ?_; rintro e w599 ⟨c598, rfl, E600, B⟩; refine rt fun a F => ?_; replace ER := ER.trans E600 nx; replace h4 := h4.ev E600; replace h434 := h434.ev E600; replace h185 := h185.ev E600; replace h196 := h196.ev E600
         as_aux_lemma =>
         replace h207 := h207.ev E600; replace h218 := h218.ev E600; replace h470 := h470.ev E600; replace h481 := h481.ev E600; replace h511 := h511.ev E600; replace h506 := h506.ev E600; replace h525 := h525.ev E600; replace h520 := h520.ev E600; replace h539 := h539.ev E600; replace h534 := h534.ev E600; replace E := E.n E600; refine ⟨fun _ => ER.sb, ?_⟩; refine dy F (congrArg not hb584) (fun wq hS => r_not F rfl) ER.sb fun a F => ?_; refine dq F (fun wq hS => r_pick_f F rfl (congrArg not hb584) rfl) ER.sb fun a F => ?_
         as_aux_lemma =>
         refine dm F ER.sb fun a F => ?_
         by_cases hb603 : t596 = true
         ·replace H := ip hb603 H; refine dy F (congrArg not hb603) (fun wq hS => r_move F rfl) ER.sb fun a F => ?_; refine dy F (congrArg not hb603) (fun wq hS => r_move F rfl) ER.sb fun a F => ?_; replace H := ifN H; obtain ⟨g604, H⟩ := H; obtain ⟨ad605, cs606, e607, h608, r609⟩ := SL.at zh544 i482 g604.1 g604.2; obtain ⟨A610, C611, rfl, h612⟩ := r609; replace h612 := SL.fl (i' := 0) h612 (fun q => q); obtain ⟨qa613, qqa613⟩ : ∃ q, q = (ad605.add (i482.toNat * 1)) := ⟨_, rfl⟩; have h608 : AT false (m + 14) c528 w484 qa613 [.slice A610 (rd l478 i482).length C611] := by rw [qqa613]; exact h608
          replace h612 := h612.ev ER nq nq; have zh608 := h608; refine dy F (congrArg not hb603) (fun wq hS => r_indexAddr' F Try.underlying22 sz_27 rfl rfl g604.1 g604.2 e607 qqa613) ER.sb fun a F => ?_
          as_aux_lemma =>
          refine dy F (congrArg not hb603) (fun wq hS => r_load F rfl ag_27 (AT.cell0 (AT.sb zh608 hS nq) rfl)) ER.sb fun a F => ?_; refine dy F (congrArg not hb603) (fun wq hS => r_move F rfl) ER.sb fun a F => ?_; refine dy F (congrArg not hb603) (fun wq hS => r_move F rfl) ER.sb fun a F => ?_; replace H := ifN H; obtain ⟨g615, H⟩ := H; obtain ⟨ad616, cs617, e618, h619, r620⟩ := SL.at zh4 i482 g615.1 g615.2; obtain ⟨A621, C622, rfl, h623⟩ := r620; replace h623 := SL.fl (i' := 0) h623 (fun q => q); obtain ⟨qa624, qqa624⟩ : ∃ q, q = (ad616.add (i482.toNat * 1)) := ⟨_, rfl⟩; have h619 : AT false 0 c528 w484 qa624 [.slice A621 (rd a1 i482).length C622] := by rw [qqa624]; exact h619
          replace h623 := h623.ev ER nq nq; have zh619 := h619; refine dy F (congrArg not hb603) (fun wq hS => r_indexAddr' F Try.underlying22 sz_27 rfl rfl g615.1 g615.2 e618 qqa624) ER.sb fun a F => ?_; refine dy F (congrArg not hb603) (fun wq hS => r_load F rfl ag_27 (AT.cell0 (AT.sb zh619 hS nq) rfl)) ER.sb fun a F => ?_
          as_aux_lemma =>
          refine d_e ?_; obtain ⟨t626, q627, H⟩ := bind_some H; refine o_call F rfl (wanted_yes F rfl rfl (by decide) rfl (congrArg not hb603)) rfl (by decide) (r_call F Try.func19 rfl (by kernel_rfl) rfl) (haulagelaw20_same.calls k (m := m + 28) (pl hm0) B h612 h623 lm (pl hm0) _ q627) ?_; rintro e w629 ⟨c628, rfl, E630, B⟩; refine rt fun a F => ?_; replace ER := ER.trans E630 nx; replace h4 := h4.ev E630; replace h434 := h434.ev E630; replace h185 := h185.ev E630; replace h196 := h196.ev E630; replace h207 := h207.ev E630; replace h218 := h218.ev E630; replace h470 := h470.ev E630; replace h481 := h481.ev E630
          as_aux_lemma =>
          replace h511 := h511.ev E630; replace h506 := h506.ev E630; replace h525 := h525.ev E630; replace h520 := h520.ev E630; replace h539 := h539.ev E630; replace h534 := h534.ev E630; replace E := E.n E630; refine ⟨fun _ => ER.sb, ?_⟩; refine dy F (congrArg not hb603) (fun wq hS => r_not F rfl) ER.sb fun a F => ?_; refine dq F (fun wq hS => r_pick_f F rfl (congrArg not hb603) rfl) ER.sb fun a F => ?_; refine d_nil ?_; exact J634 c628 w629 a (!t626) (F.sub ⟨rfl, rfl, rfl, rfl, rfl, rfl, rfl, rfl, rfl, rfl, trivial⟩) E B h506 h520 h534 h4 h434 h185 h196 h207 h218 h481 h470 h511 h525 h539 H
         replace H := im hb603 H; refine dn F (congrArg not (bfalse hb603)) ER.sb fun a F => ?_
         as_aux_lemma =>
         refine dn F (congrArg not (bfalse hb603)) ER.sb fun a F => ?_; refine dn F (congrArg not (bfalse hb603)) ER.sb fun a F => ?_; refine dn F (congrArg not (bfalse hb603)) ER.sb fun a F => ?_; refine dn F (congrArg not (bfalse hb603)) ER.sb fun a F => ?_; refine dn F (congrArg not (bfalse hb603)) ER.sb fun a F => ?_; refine dn F (congrArg not (bfalse hb603)) ER.sb fun a F => ?_; refine dn F (congrArg not (bfalse hb603)) ER.sb fun a F => ?_; refine d_e ?_; refine o_no F rfl rfl rfl (by decide) rfl (congrArg not (bfalse hb603)) rfl (by decide) fun a F => ?_; refine ⟨fun _ => ER.sb, ?_⟩; refine dn F (congrArg not (bfalse hb603)) ER.sb fun a F => ?_; refine dq F (fun wq hS => r_pick_t F rfl (congrArg not (bfalse hb603)) rfl) ER.sb fun a F => ?_; refine d_nil ?_; exact J634 c598 w599 a true (F.sub ⟨rfl, rfl, rfl, rfl, rfl, rfl, rfl, rfl, rfl, rfl, trivial⟩) E B h506 h520 h534 h4 h434 h185 h196 h207 h218 h481 h470 h511 h525 h539 H
        as_aux_lemma =>
        replace H := im hb584 H; refine dn F (congrArg not (bfalse hb584)) ER.sb fun a F => ?_; refine dn F (congrArg not (bfalse hb584)) ER.sb fun a F => ?_; refine dn F (congrArg not (bfalse hb584)) ER.sb fun a F => ?_; refine dn F (congrArg not (bfalse hb584)) ER.sb fun a F => ?_; refine dn F (congrArg not (bfalse hb584)) ER.sb fun a F => ?_; refine dn F (congrArg not (bfalse hb584)) ER.sb fun a F => ?_; refine dn F (congrArg not (bfalse hb584)) ER.sb fun a F => ?_; refine dn F (congrArg not (bfalse hb584)) ER.sb fun a F => ?_; refine dn F (congrArg not (bfalse hb584)) ER.sb fun a F => ?_; refine d_e ?_; refine o_no F rfl rfl rfl (by decide) rfl (congrArg not (bfalse hb584)) rfl (by decide) fun a F => ?_; refine ⟨fun _ => ER.sb, ?_⟩; refine dn F (congrArg not (bfalse hb584)) ER.sb fun a F => ?_
        as_aux_lemma =>
        refine dq F (fun wq hS => r_pick_t F rfl (congrArg not (bfalse hb584)) rfl) ER.sb fun a F => ?_; refine dm F ER.sb fun a F => ?_; refine dn F rfl ER.sb fun a F => ?_; refine dn F rfl ER.sb fun a F => ?_; refine dn F rfl ER.sb fun a F => ?_; refine dn F rfl ER.sb fun a F => ?_; refine dn F rfl ER.sb fun a F => ?_; refine dn F rfl ER.sb fun a F => ?_; refine dn F rfl ER.sb fun a F => ?_; refine dn F rfl ER.sb fun a F => ?_; refine d_e ?_; refine o_no F rfl rfl rfl (by decide) rfl rfl rfl (by decide) fun a F => ?_; refine ⟨fun _ => ER.sb, ?_⟩; refine dn F rfl ER.sb fun a F => ?_
        as_aux_lemma =>
        refine dq F (fun wq hS => r_pick_t F rfl rfl rfl) ER.sb fun a F => ?_; refine d_nil ?_; exact J634 c579 w580 a true (F.sub ⟨rfl, rfl, rfl, rfl, rfl, rfl, rfl, rfl, rfl, rfl, trivial⟩) E B h506 h520 h534 h4 h434 h185 h196 h207 h218 h481 h470 h511 h525 h539 H
       replace H := im hb565 H; refine dn F (congrArg not (bfalse hb565)) ER.sb fun a F => ?_; refine dn F (congrArg not (bfalse hb565)) ER.sb fun a F => ?_; refine dn F (congrArg not (bfalse hb565)) ER.sb fun a F => ?_; refine dn F (congrArg not (bfalse hb565)) ER.sb fun a F => ?_; refine dn F (congrArg not (bfalse hb565)) ER.sb fun a F => ?_; refine dn F (congrArg not (bfalse hb565)) ER.sb fun a F => ?_; refine dn F (congrArg not (bfalse hb565)) ER.sb fun a F => ?_; refine dn F (congrArg not (bfalse hb565)) ER.sb fun a F => ?_; refine dn F (congrArg not (bfalse hb565)) ER.sb fun a F => ?_; refine d_e ?_
       as_aux_lemma =>
       refine o_no F rfl rfl rfl (by decide) rfl (congrArg not (bfalse hb565)) rfl (by decide) fun a F => ?_; refine ⟨fun _ => ER.sb, ?_⟩; refine dn F (congrArg not (bfalse hb565)) ER.sb fun a F => ?_; refine dq F (fun wq hS => r_pick_t F rfl (congrArg not (bfalse hb565)) rfl) ER.sb fun a F => ?_; refine dm F ER.sb fun a F => ?_; refine dn F rfl ER.sb fun a F => ?_; refine dn F rfl ER.sb fun a F => ?_; refine dn F rfl ER.sb fun a F => ?_; refine dn F rfl ER.sb fun a F => ?_; refine dn F rfl ER.sb fun a F => ?_; refine dn F rfl ER.sb fun a F => ?_; refine dn F rfl ER.sb fun a F => ?_; refine dn F rfl ER.sb fun a F => ?_; refine dn F rfl ER.sb fun a F => ?_
       as_aux_lemma =>
       refine d_e ?_; refine o_no F rfl rfl rfl (by decide) rfl rfl rfl (by decide) fun a F => ?_; refine ⟨fun _ => ER.sb, ?_⟩; refine dn F rfl ER.sb fun a F => ?_; refine dq F (fun wq hS => r_pick_t F rfl rfl rfl) ER.sb fun a F => ?_; refine dm F ER.sb fun a F => ?_; refine dn F rfl ER.sb fun a F => ?_; refine dn F rfl ER.sb fun a F => ?_; refine dn F rfl ER.sb fun a F => ?_; refine dn F rfl ER.sb fun a F => ?_; refine dn F rfl ER.sb fun a F => ?_; refine dn F rfl ER.sb fun a F => ?_; refine dn F rfl ER.sb fun a F => ?_; refine dn F rfl ER.sb fun a F => ?_
       as_aux_lemma =>
       refine d_e ?_; refine o_no F rfl rfl rfl (by decide) rfl rfl rfl (by decide) fun a F => ?_; refine ⟨fun _ => ER.sb, ?_⟩; refine dn F rfl ER.sb fun a F => ?_; refine dq F (fun wq hS => r_pick_t F rfl rfl rfl) ER.sb fun a F => ?_; refine d_nil ?_; exact J634 c560 w561 a true (F.sub ⟨rfl, rfl, rfl, rfl, rfl, rfl, rfl, rfl, rfl, rfl, trivial⟩) E B h506 h520 h534 h4 h434 h185 h196 h207 h218 h481 h470 h511 h525 h539 H
      replace H := im hb495 H; refine wcf (fb F (dz hb495)) ?_; refine wp_exit ?_; refine thenE ?_; refine thenE ?_; refine inbE ?_; replace h185 : SL true (Krw 4 (by decide)) (m + 4) 0 c483 w484 A183 C184 (List.replicate t177.length (none : Option (List Value))) := OL.raw h185; have hl496 : t177.length = (List.replicate t177.length (none : Option (List Value))).length := by simp
      replace F := F.sub (L' := [(0, .slice A2 a1.length C3), (3, .pointer p24), (8, .slice A183 (List.replicate t177.length (none : Option (List Value))).length C184), (9, .slice A194 t188.length C195), (10, .slice A205 t199.length C206), (11, .slice A216 t210.length C217), (12, .slice A479 l478.length C480), (16, .slice A468 t462.length C469), (17, .int .i64 i482), (143, .int .i64 i482), (144, .slice A2 a1.length C3), (145, .int .i64 (a1.length : Int)), (146, .bool (decide (i482 < (a1.length : Int))))]) ⟨rfl, rfl, (by rw [← hl496]; rfl), rfl, rfl, rfl, rfl, rfl, rfl, rfl, rfl, rfl, rfl, trivial⟩
      as_aux_lemma =>
      replace h196 : SL true (Krw 4 (by decide)) (m + 6) 0 c483 w484 A194 C195 (List.replicate t188.length (none : Option (List Value))) := OL.raw h196; have hl497 : t188.length = (List.replicate t188.length (none : Option (List Value))).length := by simp
      replace F := F.sub (L' := [(0, .slice A2 a1.length C3), (3, .pointer p24), (8, .slice A183 (List.replicate t177.length (none : Option (List Value))).length C184), (9, .slice A194 (List.replicate t188.length (none : Option (List Value))).length C195), (10, .slice A205 t199.length C206), (11, .slice A216 t210.length C217), (12, .slice A479 l478.length C480), (16, .slice A468 t462.length C469), (17, .int .i64 i482), (143, .int .i64 i482), (144, .slice A2 a1.length C3), (145, .int .i64 (a1.length : Int)), (146, .bool (decide (i482 < (a1.length : Int))))]) ⟨rfl, rfl, rfl, (by rw [← hl497]; rfl), rfl, rfl, rfl, rfl, rfl, rfl, rfl, rfl, rfl, trivial⟩; replace h470 : SL true (Krw 4 (by decide)) (m + 16) 0 c483 w484 A468 C469 (List.replicate t462.length (none : Option (List Value))) := OL.raw h470; have hl498 : t462.length = (List.replicate t462.length (none : Option (List Value))).length := by simp
      replace F := F.sub (L' := [(0, .slice A2 a1.length C3), (3, .pointer p24), (8, .slice A183 (List.replicate t177.length (none : Option (List Value))).length C184), (9, .slice A194 (List.replicate t188.length (none : Option (List Value))).length C195), (10, .slice A205 t199.length C206), (11, .slice A216 t210.length C217), (12, .slice A479 l478.length C480), (16, .slice A468 (List.replicate t462.length (none : Option (List Value))).length C469), (17, .int .i64 i482), (143, .int .i64 i482), (144, .slice A2 a1.length C3), (145, .int .i64 (a1.length : Int)), (146, .bool (decide (i482 < (a1.length : Int))))]) ⟨rfl, rfl, rfl, rfl, rfl, rfl, rfl, (by rw [← hl498]; rfl), rfl, rfl, rfl, rfl, rfl, trivial⟩; have hx_ := HD487 _ (si H).symm; have H := HR491; rw [← hx_] at H; exact J679 c483 w484 a l478 A479 C480 (F.sub ⟨rfl, rfl, rfl, rfl, rfl, rfl, rfl, rfl, trivial⟩) E B h4 h434 h185 h196 h207 h218 h470 h481 H
     replace H := im hb474 H; refine wct (fb F (congrArg not (dz hb474))) ?_; refine sr fun K475 hK475 => qa F fun a F => nil (hK475 _ _ ?_); replace F : Fr a 365 [(2, .bool false)] := F.sub ⟨rfl, trivial⟩
     as_aux_lemma =>
     refine wp_ret ?_; refine thenR ?_; obtain rfl := si H; refine out1 F rfl rfl ?_; exact ⟨cf (ct m) c464, rfl, E.lv B0, cfb⟩
    refine reg ?_; refine qm F fun a F => ?_; refine qv F (r_lensl F Try.underlying34 rfl) fun a F => ?_; refine qm F fun a F => ?_; refine qv F (r_lensl F Try.underlying22 rfl) fun a F => ?_; refine qv F (r_neq F rfl rfl) fun a F => ?_; refine qm F fun a F => ?_
    by_cases hb445 : (t177.length : Int) = (a1.length : Int)
    ·replace H := ip hb445 H; refine qy F (congrArg not (dt hb445)) ?_
     as_aux_lemma =>
     refine qm F fun a F => ?_; refine qy F (congrArg not (dt hb445)) ?_; refine qv F (r_lensl F Try.underlying34 rfl) fun a F => ?_; refine qy F (congrArg not (dt hb445)) ?_; refine qm F fun a F => ?_; refine qy F (congrArg not (dt hb445)) ?_; refine qv F (r_lensl F Try.underlying22 rfl) fun a F => ?_; refine qy F (congrArg not (dt hb445)) ?_; refine qv F (r_neq F rfl rfl) fun a F => ?_; refine qv F (r_pick_f F rfl (congrArg not (dt hb445)) rfl) fun a F => ?_; refine qm F fun a F => ?_
     by_cases hb446 : (t188.length : Int) = (a1.length : Int)
     ·replace H := ip hb446 H; refine qy F (congrArg not (dt hb446)) ?_; refine qm F fun a F => ?_
      as_aux_lemma =>
      refine qy F (congrArg not (dt hb446)) ?_; refine qm F fun a F => ?_; obtain ⟨t447, q448, H⟩ := bind_some H; refine qy F (congrArg not (dt hb446)) ?_; refine qc F Try.func20 (haulagelaw20_ints.calls k (m := m + 28) (pl hm0) B h207.r h218.r lm lm _ q448) ?_; rintro e w450 ⟨c449, rfl, E451, B⟩; refine rt fun a F => ?_; replace h4 := h4.ev E451; replace h185 := h185.ev E451; replace h196 := h196.ev E451; replace h207 := h207.ev E451; replace h218 := h218.ev E451; replace h434 := h434.ev E451; replace h436 := h436.ev E451
      as_aux_lemma =>
      replace E := E.n E451; refine qy F (congrArg not (dt hb446)) ?_; refine qv F (r_not F rfl) fun a F => ?_; refine qv F (r_pick_f F rfl (congrArg not (dt hb446)) rfl) fun a F => ?_; refine qm F fun a F => ?_
      by_cases hb454 : t447 = true
      ·replace H := ip hb454 H; refine qy F (congrArg not hb454) ?_; refine qm F fun a F => ?_; refine qy F (congrArg not hb454) ?_; refine qv F (r_lensl F Try.underlying36 rfl) fun a F => ?_; refine qy F (congrArg not hb454) ?_; refine qm F fun a F => ?_; refine qy F (congrArg not hb454) ?_; refine qv F (r_lensl F Try.underlying22 rfl) fun a F => ?_
       as_aux_lemma =>
       refine qy F (congrArg not hb454) ?_; refine qv F (r_add F rfl rfl) fun a F => ?_; refine qy F (congrArg not hb454) ?_; refine qv F (r_quo F rfl rfl (by decide)) fun a F => ?_; refine qy F (congrArg not hb454) ?_; refine qv F (r_neq F rfl rfl) fun a F => ?_; refine qv F (r_pick_f F rfl (congrArg not hb454) rfl) fun a F => ?_; refine nil ?_; exact J456 c449 w450 a (!decide ((t199.length : Int) = (IntKind.i64.wrap (Int.tdiv (IntKind.i64.wrap ((a1.length : Int) + 1)) 2)))) (F.sub ⟨rfl, rfl, rfl, rfl, rfl, rfl, rfl, rfl, trivial⟩) E B h4 h434 h185 h196 h207 h218 h436 H
      replace H := im hb454 H; refine qn F (congrArg not (bfalse hb454)) fun a F => qn F (congrArg not (bfalse hb454)) fun a F => qn F (congrArg not (bfalse hb454)) fun a F => qn F (congrArg not (bfalse hb454)) fun a F => qn F (congrArg not (bfalse hb454)) fun a F => qn F (congrArg not (bfalse hb454)) fun a F => qn F (congrArg not (bfalse hb454)) fun a F => ?_; refine qv F (r_pick_t F rfl (congrArg not (bfalse hb454)) rfl) fun a F => ?_; refine nil ?_; exact J456 c449 w450 a true (F.sub ⟨rfl, rfl, rfl, rfl, rfl, rfl, rfl, rfl, trivial⟩) E B h4 h434 h185 h196 h207 h218 h436 H
     as_aux_lemma =>
     replace H := im hb446 H; refine qn F (congrArg not (dz hb446)) fun a F => qn F (congrArg not (dz hb446)) fun a F => qn F (congrArg not (dz hb446)) fun a F => qn F (congrArg not (dz hb446)) fun a F => ?_; refine qv F (r_pick_t F rfl (congrArg not (dz hb446)) rfl) fun a F => ?_; refine qm F fun a F => qn F rfl fun a F => qn F rfl fun a F => qn F rfl fun a F => qn F rfl fun a F => qn F rfl fun a F => qn F rfl fun a F => qn F rfl fun a F => ?_; refine qt F fun a F => ?_; refine nil ?_; exact J456 c441 w442 a true (F.sub ⟨rfl, rfl, rfl, rfl, rfl, rfl, rfl, rfl, trivial⟩) E B h4 h434 h185 h196 h207 h218 h436 H
    replace H := im hb445 H; refine qn F (congrArg not (dz hb445)) fun a F => qn F (congrArg not (dz hb445)) fun a F => qn F (congrArg not (dz hb445)) fun a F => qn F (congrArg not (dz hb445)) fun a F => qn F (congrArg not (dz hb445)) fun a F => ?_; refine qv F (r_pick_t F rfl (congrArg not (dz hb445)) rfl) fun a F => ?_; refine qm F fun a F => qn F rfl fun a F => qn F rfl fun a F => qn F rfl fun a F => qn F rfl fun a F => ?_; refine qt F fun a F => ?_; refine qm F fun a F => qn F rfl fun a F => qn F rfl fun a F => qn F rfl fun a F => qn F rfl fun a F => qn F rfl fun a F => qn F rfl fun a F => qn F rfl fun a F => ?_; refine qt F fun a F => ?_
    as_aux_lemma =>
    refine nil ?_; exact J456 c441 w442 a true (F.sub ⟨rfl, rfl, rfl, rfl, rfl, rfl, rfl, rfl, trivial⟩) E B h4 h434 h185 h196 h207 h218 h436 H
   refine loop_fuel (I := fun n a w => ∃ (o329 : Option Bag) (l330 : List (List Int)) (A331 : Option Addr) (C332 : Nat) (i334 : Int) (c : Nat → Nat), Fr a 365 [(0, .slice A2 a1.length C3), (3, .pointer p24), (8, .slice A183 t177.length C184), (9, .slice A194 t188.length C195), (10, .slice A205 t199.length C206), (11, .slice A216 t210.length C217), (12, .slice A331 l330.length C332), (13, .int .i64 i334)] ∧ Ev (fun x => False ∨ m ≤ x) c0 w0 c w ∧ CB (m + 28) c w ∧ SL false (Kslice (Kint .u8)) 0 0 c w A2 C3 a1 ∧ OL KO_api_Letter (m + 4) (m + 5) c w A183 C184 t177 ∧ OL KO_api_Letter (m + 6) (m + 7) c w A194 C195 t188 ∧ SL true (Kint .i64) (m + 8) 0 c w A205 C206 t199 ∧ SL true (Kint .i64) (m + 9) 0 c w A216 C217 t210 ∧ BG (m + 1) (m + 2) c w p24 o329 ∧ SP (Kint .u8) (m + 14) (m + 15) c w A331 C332 l330 0 ∧ loop (fun (s_ : (Option Bag) × (List (List Int)) × Int) => haulagelaw20_BagOwn.b5 k a1 s_.1 s_.2.1 s_.2.2) n (o329, l330, i334) = some x344) (k := k) ⟨o172, [], none, 0, 0, c212, F.sub ⟨rfl, rfl, rfl, rfl, rfl, rfl, rfl, rfl, trivial⟩, E, B, h4, h185, h196, h207, h218, h171, (SP.nil (pl hm0)), HL⟩ ?_; clear HL H E F B; intro n341 X337 hX337 a w336 ⟨o329, l330, A331, C332, i334, c335, F, E, B, h4, h185, h196, h207, h218, h328, h333, HL⟩; obtain ⟨n342, ctl340, rfl, HB, HN338, HD339⟩ := loop_some HL; have H : haulagelaw20_BagOwn.b5 k a1 o329 l330 i334 = some ctl340 := HB; clear HB HL; unfold haulagelaw20_BagOwn.b5 at H; refine sq fun K345 hK345 => ?_; refine sr fun K346 hK346 => qm F fun a F => qm F fun a F => ?_; refine qv F (r_lensl F Try.underlying22 rfl) fun a F => ?_; refine qv F (r_lss F rfl rfl) fun a F => ?_; refine nil (hK346 _ _ ?_)
   by_cases hb347 : i334 < (a1.length : Int)
   ·replace H := ip hb347 H
    as_aux_lemma =>
    refine wct (fb F (dt hb347)) (wp_skip (hK345 _ _ ?_)); refine sq fun K348 hK348 => ?_; refine wp_block ?_; refine sr fun K349 hK349 => qm F fun a F => qm F fun a F => ?_; obtain ⟨t239, q240, H⟩ := bind_some H; refine qc F Try.func17 (bag_Bag_Twice.calls (m := m + 28) (pl hm0) B h328 ⟨(pl hm0), lm⟩ ⟨(pl hm0), lm, mm⟩ _ q240) ?_; rintro e w351 ⟨c350, rfl, E352, B, h354⟩; refine rt fun a F => ?_; replace h4 := h4.ev E352 (nor ne_zm ne_zm) (nor ne_zm ne_zm); replace h185 := h185.ev E352 (nor mm mm) (nor mm mm) (nor ne_zm ne_zm); replace h196 := h196.ev E352 (nor mm mm) (nor mm mm) (nor ne_zm ne_zm); replace h207 := h207.ev E352 (nor mm mm) (nor ne_zm ne_zm); replace h218 := h218.ev E352 (nor mm mm) (nor ne_zm ne_zm); replace h333 := h333.ev E352 (nor mm mm) (nor mm mm) (nor ne_zm ne_zm)
    as_aux_lemma =>
    replace E := E.trans E352 lc2; refine nil (hK349 _ _ ?_); refine sr fun K356 hK356 => qm F fun a F => qm F fun a F => ?_; obtain ⟨t248, q249, H⟩ := bind_some H; refine qc F Try.func18 (bag_Bag_Deliver.calls (m := m + 28) (pl hm0) B h354 ⟨(pl hm0), lm⟩ ⟨(pl hm0), lm, mm⟩ (m + 10) lm _ q249) ?_; rintro e w358 ⟨c357, A361, C362, rfl, E359, B, h363, h364⟩; refine rt fun a F => ?_; replace h4 := h4.ev E359 (nor ne_zm ne_zm) (nor ne_zm ne_zm); replace h185 := h185.ev E359 (nor mm mm) (nor mm mm) (nor ne_zm ne_zm); replace h196 := h196.ev E359 (nor mm mm) (nor mm mm) (nor ne_zm ne_zm); replace h207 := h207.ev E359 (nor mm mm) (nor ne_zm ne_zm); replace h218 := h218.ev E359 (nor mm mm) (nor ne_zm ne_zm); replace h333 := h333.ev E359 (nor mm mm) (nor mm mm) (nor ne_zm ne_zm); replace E := E.trans E359 lc2
    as_aux_lemma =>
    refine qm F fun a F => ?_; refine qx F fun a F => ?_; refine qx F fun a F => ?_; refine q_eff F rfl rfl (by decide) (e_alloc F zv_40 c357 (m + 11)) ?_; rintro v w367 a ⟨c366, qa261, rfl, E368, h263, B369⟩ F; replace B := B369 _ B lm; replace E := E.n E368; replace h263 : AT _ _ _ _ _ [.int .i64 0, .int .i64 0, .int .i64 0, .slice none 0 0] := h263; refine q_eff0 F rfl rfl (e_storeN0 (us := [.int .i64 t248.1.Number, .int .i64 t248.1.From, .int .i64 t248.1.To, .slice A361 t248.1.Data.length C362]) F rfl rfl sz_40 h263 (nb rfl) (one_all rfl)) ?_; rintro w370 a ⟨E371, h263, Z372⟩ F; replace B := B.size Z372; replace h4 := (h4.ev E368).ev E371; replace h185 := (h185.ev E368).ev E371; replace h196 := (h196.ev E368).ev E371
    as_aux_lemma =>
    replace h207 := (h207.ev E368).ev E371; replace h218 := (h218.ev E368).ev E371; replace h333 := (h333.ev E368).ev E371; replace h363 := (h363.ev E368).ev E371; replace h364 := (h364.ev E368).ev E371; replace E := E.trans E371 lc1; replace h263 : AT _ _ _ _ _ [.int .i64 t248.1.Number, .int .i64 t248.1.From, .int .i64 t248.1.To, .slice A361 t248.1.Data.length C362] := h263; refine qa F fun a F => nil (hK356 _ _ ?_); replace F : Fr a 365 [(0, .slice A2 a1.length C3), (3, .pointer p24), (8, .slice A183 t177.length C184), (9, .slice A194 t188.length C195), (10, .slice A205 t199.length C206), (11, .slice A216 t210.length C217), (12, .slice A331 l330.length C332), (13, .int .i64 i334), (14, .pointer (some qa261)), (15, .int .i64 t248.2.1)] := F.sub ⟨rfl, rfl, rfl, rfl, rfl, rfl, rfl, rfl, rfl, rfl, trivial⟩; refine sq fun K373 hK373 => ?_; refine sq fun K374 hK374 => ?_; have J400 : ∀ (c401 : Nat → Nat) (w402 : World) (a : Act) (b399 : Bool), Fr a 365 [(0, .slice A2 a1.length C3), (3, .pointer p24), (8, .slice A183 t177.length C184), (9, .slice A194 t188.length C195), (10, .slice A205 t199.length C206), (11, .slice A216 t210.length C217), (12, .slice A331 l330.length C332), (13, .int .i64 i334), (14, .pointer (some qa261)), (103, .bool b399)] → Ev (fun x => False ∨ m ≤ x) c0 w0 c401 w402 → CB (m + 28) c401 w402 → AT true (m + 11) c401 w402 qa261 [.int .i64 t248.1.Number, .int .i64 t248.1.From, .int .i64 t248.1.To, .slice A361 t248.1.Data.length C362] → SL false (Kslice (Kint .u8)) 0 0 c401 w402 A2 C3 a1 → BG (m + 1) (m + 2) c401 w402 p24 t248.2.2 → OL KO_api_Letter (m + 4) (m + 5) c401 w402 A183 C184 t177 → OL KO_api_Letter (m + 6) (m + 7) c401 w402 A194 C195 t188 → SL true (Kint .i64) (m + 8) 0 c401 w402 A205 C206 t199 → SL true (Kint .i64) (m + 9) 0 c401 w402 A216 C217 t210 → SP (Kint .u8) (m + 14) (m + 15) c401 w402 A331 C332 l330 0 → SL true (Kint .u8) (m + 10) 0 c401 w402 A361 C362 t248.1.Data → haulagelaw20_BagOwn.j4 t248 l330 i334 b399 = some ctl340 → K374 a w402 := by
     intro c401 w402 a b399 F E B h263 h4 h364 h185 h196 h207 h218 h333 h363 H; unfold haulagelaw20_BagOwn.j4 at H
     as_aux_lemma =>
     refine hK374 _ _ ?_
     by_cases hb403 : b399 = true
     ·replace H := ip hb403 H; refine wct (fb F hb403) ?_; refine sr fun K404 hK404 => qa F fun a F => nil (hK404 _ _ ?_); replace F : Fr a 365 [(2, .bool false)] := F.sub ⟨rfl, trivial⟩; refine wp_ret ?_; refine thenR ?_; refine inbR ?_; refine thenR ?_; refine thenR ?_; refine inbR ?_; refine thenR ?_; have hx_ := HD339 _ (si H).symm; have H := HR343; rw [← hx_] at H
      as_aux_lemma =>
      replace H : some false = some r := H; obtain rfl := si H; refine out1 F rfl rfl ?_; exact ⟨cf (ct m) c401, rfl, E.lv B0, cfb⟩
     replace H := im hb403 H; refine wcf (fb F (bfalse hb403)) (wp_skip (hK373 _ _ ?_)); refine reg ?_; refine qm F fun a F => qf F ff_40_3 fun a F => ?_; refine ql F ag_27 h263 fun a F => ?_; have h405 : GR (KOsl (Kint .u8)) (m + 12) c401 w402 (([] : List Value).map one1) ([] : List (List Int)) := GR.nil (pl hm0); obtain ⟨c406, e407, e408, h405⟩ := GP.push h405 h363 ⟨mm, (pl hm0)⟩; replace h4 := SL.rc h4 (rk e407 ne_zm) (rk e407 ne_zm); replace h364 := BG.rc h364 (rk e407 mm) (rk e407 mm) (rk e407 ne_zm) (pl hm0); replace h185 := OL.rc h185 (rk e407 mm) (rk e407 mm) (rk e407 ne_zm) (pl hm0)
     as_aux_lemma =>
     replace h196 := OL.rc h196 (rk e407 mm) (rk e407 mm) (rk e407 ne_zm) (pl hm0); replace h207 := SL.rc h207 (rk e407 mm) (rk e407 ne_zm); replace h218 := SL.rc h218 (rk e407 mm) (rk e407 ne_zm); replace h333 := SP.rc h333 (rk e407 mm) (rk e407 mm) (rk e407 ne_zm) (pl hm0); replace E := E.rk B0 e407; replace B := B.rk e408 lm; refine q_eff F rfl rfl (by decide) (e_buildSlice (n := 1) (e := 27) (c := c406) (k := Kval) (i := 0) F [(0, .slice A361 t248.1.Data.length C362)] [.slice A361 t248.1.Data.length C362] ([.slice A361 t248.1.Data.length C362] : List Value) (by exact ⟨rfl, rfl, trivial⟩) (fun w => by kernel_rfl) rfl (by decide) rfl ⟨⟨rfl, rfl⟩, trivial⟩ (fun q => q) (m + 13)) ?_; rintro v w410 a ⟨c409, A411, C412, rfl, E413, h414, B415⟩ F; replace B := B415 _ B lm; replace h333 := h333.ev E413; replace h405 := h405.ev E413; replace E := E.n E413; replace h414 : SP (Kint .u8) (m + 13) (m + 12) c409 w410 A411 C412 [t248.1.Data] 0 := SP.mk h414 h405; replace H := ifN H; obtain ⟨g316, H⟩ := H
     as_aux_lemma =>
     refine q_eff F rfl rfl (by decide) (e_appendS (e := (Kint .u8)) (xss := l330) (yss := [t248.1.Data]) (c := c409) (j := (m + 14)) (y0 := (m + 15)) F et_22 rfl rfl h333 h414 g316 (len_ok g316) (pl hm0) mm mm mm) ?_; rintro v w420 a ⟨c416, A421, C422, rfl, E423, B425, c417, e418, e419, h424⟩ F; replace B := B425 _ B lm; replace h4 := (h4.ev E413).ev E423; replace h364 := (h364.ev E413).ev E423; replace h185 := (h185.ev E413).ev E423; replace h196 := (h196.ev E413).ev E423; replace h207 := (h207.ev E413).ev E423; replace h218 := (h218.ev E413).ev E423; replace E := E.trans E423 lc1; replace h4 := SL.rc h4 (rk e418 ne_zm) (rk e418 ne_zm); replace h364 := BG.rc h364 (rk e418 mm) (rk e418 mm) (rk e418 ne_zm) (pl hm0); replace h185 := OL.rc h185 (rk e418 mm) (rk e418 mm) (rk e418 ne_zm) (pl hm0); replace h196 := OL.rc h196 (rk e418 mm) (rk e418 mm) (rk e418 ne_zm) (pl hm0)
     as_aux_lemma =>
     replace h207 := SL.rc h207 (rk e418 mm) (rk e418 ne_zm); replace h218 := SL.rc h218 (rk e418 mm) (rk e418 ne_zm); replace E := E.rk B0 e418; replace B := B.rk e419 lm; refine qa F fun a F => nil (hK348 _ _ ?_); refine reg ?_; refine qm F fun a F => ?_; refine qv F (r_add F rfl rfl) fun a F => ?_; refine qa F fun a F => nil ?_; replace H := HN338 _ (si H).symm; exact hX337 _ _ _ (Nat.lt_succ_self _) ⟨t248.2.2, (l330 ++ [t248.1.Data]), A421, C422, (IntKind.i64.wrap (i334 + 1)), c417, F.sub ⟨rfl, rfl, rfl, rfl, rfl, rfl, rfl, rfl, trivial⟩, E, B, h4, h185, h196, h207, h218, h364, h424, H⟩
    refine regD (SB No c366 w370) 13 (.q 0 (.e 1 (.q 2 (.q 3 (.q 4 (.q 5 (.q 6 (.q 7 (.q 8 (.q 9 (.e 10 (.q 11 (.q 12 .nil))))))))))))) Try_hm (by decide +kernel) ?_; intro w375 w1_ w2_ w3_ w4_; have E376 : Ev No c366 w370 c366 w375 := Ev.same w1_ w2_ w3_ w4_
    as_aux_lemma =>
    replace B := B.same w1_; have zh4 := h4; have zh263 := h263; have ER : Ev No c366 w370 c366 w375 := Ev.same w1_ w2_ w3_ w4_; replace E := E.n E376; refine dm F ER.sb fun a F => ?_; refine d_e ?_; obtain ⟨t273, q274, H⟩ := bind_some H; refine oc F Try.func13 (haulagelaw20_num.calls (m := m + 28) (pl hm0) B _ q274) ?_; rintro e w378 ⟨c377, rfl, E379, B⟩; refine rt fun a F => ?_; replace ER := ER.trans E379 nx; replace h4 := (h4.ev E376).ev E379; replace h185 := (h185.ev E376).ev E379
    as_aux_lemma =>
    replace h196 := (h196.ev E376).ev E379; replace h207 := (h207.ev E376).ev E379; replace h218 := (h218.ev E376).ev E379; replace h333 := (h333.ev E376).ev E379; replace h363 := (h363.ev E376).ev E379; replace h364 := (h364.ev E376).ev E379; replace h263 := (h263.ev E376).ev E379; replace E := E.n E379; refine ⟨fun _ => ER.sb, ?_⟩; refine dq F (fun wq hS => r_neq F rfl rfl) ER.sb fun a F => ?_; refine dm F ER.sb fun a F => ?_
    by_cases hb382 : t273 = 0
    ·replace H := ip hb382 H; refine dy F (congrArg not (dt hb382)) (fun wq hS => r_fieldAddr F rfl ff_40_3) ER.sb fun a F => ?_; refine dy F (congrArg not (dt hb382)) (fun wq hS => r_load F rfl ag_27 (AT.cell (AT.sb zh263 hS nq) rfl)) ER.sb fun a F => ?_
     as_aux_lemma =>
     refine dy F (congrArg not (dt hb382)) (fun wq hS => r_move F rfl) ER.sb fun a F => ?_; refine dy F (congrArg not (dt hb382)) (fun wq hS => r_move F rfl) ER.sb fun a F => ?_; replace H := ifN H; obtain ⟨g383, H⟩ := H; obtain ⟨ad384, cs385, e386, h387, r388⟩ := SL.at zh4 i334 g383.1 g383.2; obtain ⟨A389, C390, rfl, h391⟩ := r388; replace h391 := SL.fl (i' := 0) h391 (fun q => q); obtain ⟨qa392, qqa392⟩ : ∃ q, q = (ad384.add (i334.toNat * 1)) := ⟨_, rfl⟩; have h387 : AT false 0 c366 w370 qa392 [.slice A389 (rd a1 i334).length C390] := by rw [qqa392]; exact h387
     replace h391 := h391.ev ER nq nq; have zh387 := h387; refine dy F (congrArg not (dt hb382)) (fun wq hS => r_indexAddr' F Try.underlying22 sz_27 rfl rfl g383.1 g383.2 e386 qqa392) ER.sb fun a F => ?_; refine dy F (congrArg not (dt hb382)) (fun wq hS => r_load F rfl ag_27 (AT.cell0 (AT.sb zh387 hS nq) rfl)) ER.sb fun a F => ?_; refine d_e ?_; obtain ⟨t292, q293, H⟩ := bind_some H
     as_aux_lemma =>
     refine o_call F rfl (wanted_yes F rfl rfl (by decide) rfl (congrArg not (dt hb382))) rfl (by decide) (r_call F Try.func19 rfl (by kernel_rfl) rfl) (haulagelaw20_same.calls k (m := m + 28) (pl hm0) B h363.r h391 lm (pl hm0) _ q293) ?_; rintro e w395 ⟨c394, rfl, E396, B⟩; refine rt fun a F => ?_; replace ER := ER.trans E396 nx; replace h4 := h4.ev E396; replace h185 := h185.ev E396; replace h196 := h196.ev E396; replace h207 := h207.ev E396; replace h218 := h218.ev E396; replace h333 := h333.ev E396; replace h363 := h363.ev E396; replace h364 := h364.ev E396; replace h263 := h263.ev E396; replace E := E.n E396
     as_aux_lemma =>
     refine ⟨fun _ => ER.sb, ?_⟩; refine dy F (congrArg not (dt hb382)) (fun wq hS => r_not F rfl) ER.sb fun a F => ?_; refine dq F (fun wq hS => r_pick_f F rfl (congrArg not (dt hb382)) rfl) ER.sb fun a F => ?_; refine d_nil ?_; exact J400 c394 w395 a (!t292) (F.sub ⟨rfl, rfl, rfl, rfl, rfl, rfl, rfl, rfl, rfl, rfl, trivial⟩) E B h263 h4 h364 h185 h196 h207 h218 h333 h363 H
    replace H := im hb382 H; refine dn F (congrArg not (dz hb382)) ER.sb fun a F => ?_; refine dn F (congrArg not (dz hb382)) ER.sb fun a F => ?_; refine dn F (congrArg not (dz hb382)) ER.sb fun a F => ?_; refine dn F (congrArg not (dz hb382)) ER.sb fun a F => ?_; refine dn F (congrArg not (dz hb382)) ER.sb fun a F => ?_; refine dn F (congrArg not (dz hb382)) ER.sb fun a F => ?_; refine d_e ?_; refine o_no F rfl rfl rfl (by decide) rfl (congrArg not (dz hb382)) rfl (by decide) fun a F => ?_
    as_aux_lemma =>
    refine ⟨fun _ => ER.sb, ?_⟩; refine dn F (congrArg not (dz hb382)) ER.sb fun a F => ?_; refine dq F (fun wq hS => r_pick_t F rfl (congrArg not (dz hb382)) rfl) ER.sb fun a F => ?_; refine d_nil ?_; exact J400 c377 w378 a true (F.sub ⟨rfl, rfl, rfl, rfl, rfl, rfl, rfl, rfl, rfl, rfl, trivial⟩) E B h263 h4 h364 h185 h196 h207 h218 h333 h363 H
   replace H := im hb347 H; refine wcf (fb F (dz hb347)) ?_; refine wp_exit ?_; refine thenE ?_; refine thenE ?_; refine inbE ?_; have hx_ := HD339 _ (si H).symm; have H := HR343; rw [← hx_] at H; exact J440 c335 w336 a o329 l330 A331 C332 (F.sub ⟨rfl, rfl, rfl, rfl, rfl, rfl, rfl, trivial⟩) E B h4 h185 h196 h207 h218 h328 h333 H
  refine loop_fuel (I := fun n a w => ∃ (o108 : Option Bag) (i109 : Int) (c : Nat → Nat), Fr a 365 [(0, .slice A2 a1.length C3), (3, .pointer p24), (4, .int .i64 i109)] ∧ Ev (fun x => False ∨ m ≤ x) c0 w0 c w ∧ CB (m + 28) c w ∧ SL false (Kslice (Kint .u8)) 0 0 c w A2 C3 a1 ∧ BG (m + 1) (m + 2) c w p24 o108 ∧ loop (fun (s_ : (Option Bag) × Int) => haulagelaw20_BagOwn.b1 k a1 s_.1 s_.2) n (o108, i109) = some x119) (k := k) ⟨t18, 0, c20, F.sub ⟨rfl, rfl, rfl, trivial⟩, E, B, h4, h25, HL⟩ ?_; clear HL H E F B; intro n116 X112 hX112 a w111 ⟨o108, i109, c110, F, E, B, h4, h107, HL⟩; obtain ⟨n117, ctl115, rfl, HB, HN113, HD114⟩ := loop_some HL; have H : haulagelaw20_BagOwn.b1 k a1 o108 i109 = some ctl115 := HB; clear HB HL; unfold haulagelaw20_BagOwn.b1 at H
  as_aux_lemma =>
  refine sq fun K120 hK120 => ?_; refine sr fun K121 hK121 => qm F fun a F => qm F fun a F => ?_; refine qv F (r_lensl F Try.underlying22 rfl) fun a F => ?_; refine qv F (r_lss F rfl rfl) fun a F => ?_; refine nil (hK121 _ _ ?_)
  by_cases hb122 : i109 < (a1.length : Int)
  ·replace H := ip hb122 H; refine wct (fb F (dt hb122)) (wp_skip (hK120 _ _ ?_)); refine sq fun K123 hK123 => ?_; refine wp_block ?_; refine sr fun K124 hK124 => qm F fun a F => qm F fun a F => ?_; replace H := ifN H; obtain ⟨g125, H⟩ := H; obtain ⟨ad126, cs127, e128, h129, r130⟩ := SL.at h4 i109 g125.1 g125.2; obtain ⟨A131, C132, rfl, h133⟩ := r130
   as_aux_lemma =>
   replace h133 := SL.fl (i' := 0) h133 (fun q => q); obtain ⟨qa134, qqa134⟩ : ∃ q, q = (ad126.add (i109.toNat * 1)) := ⟨_, rfl⟩; have h129 : AT false 0 c110 w111 qa134 [.slice A131 (rd a1 i109).length C132] := by rw [qqa134]; exact h129
   refine qv F (r_indexAddr' F Try.underlying22 sz_27 rfl rfl g125.1 g125.2 e128 qqa134) fun a F => ?_; refine qv F (r_load F rfl ag_27 (AT.cell0 h129 rfl)) fun a F => ?_; obtain ⟨t67, q68, H⟩ := bind_some H; refine qc F Try.func11 (haulagelaw20_lent.calls (m := m + 28) (pl hm0) B h133 (pl hm0) (m + 3) lm _ q68) ?_; rintro e w137 ⟨c136, A140, C141, rfl, E138, B, h142⟩; refine rt fun a F => ?_; replace h4 := h4.ev E138; replace h107 := h107.ev E138; replace E := E.n E138; refine qa F fun a F => nil (hK124 _ _ ?_); replace F : Fr a 365 [(0, .slice A2 a1.length C3), (3, .pointer p24), (4, .int .i64 i109), (5, .slice A140 t67.length C141)] := F.sub ⟨rfl, rfl, rfl, rfl, trivial⟩
   as_aux_lemma =>
   refine sr fun K144 hK144 => qm F fun a F => qm F fun a F => ?_; refine qv F (r_rem F rfl rfl (by decide)) fun a F => ?_; refine qm F fun a F => ?_; refine qv F (r_rem F rfl rfl (by decide)) fun a F => ?_; refine qm F fun a F => ?_; obtain ⟨t78, q79, H⟩ := bind_some H; refine qc F Try.func12 (bag_Bag_Send.calls (m := m + 28) (pl hm0) B h107 (SLM.v h142).r ⟨(pl hm0), lm⟩ ⟨(pl hm0), lm, mm⟩ ⟨lm, mm, mm⟩ _ q79) ?_; rintro e w146 ⟨c145, rfl, E147, B, h149⟩; refine rt fun a F => ?_; replace h4 := h4.ev E147 (nor ne_zm ne_zm) (nor ne_zm ne_zm); replace h142 := h142.ev E147 (nor mm mm) (nor ne_zm ne_zm); replace E := E.trans E147 lc2; refine qm F fun a F => ?_; refine qx F fun a F => ?_
   as_aux_lemma =>
   refine qx F fun a F => ?_; refine qa F fun a F => qa F fun a F => nil (hK144 _ _ ?_); replace F : Fr a 365 [(0, .slice A2 a1.length C3), (3, .pointer p24), (4, .int .i64 i109), (5, .slice A140 t67.length C141), (7, .int .i64 t78.2.1)] := F.sub ⟨rfl, rfl, rfl, rfl, rfl, trivial⟩; refine sq fun K151 hK151 => ?_; refine sr fun K152 hK152 => qm F fun a F => ?_; obtain ⟨t88, q89, H⟩ := bind_some H; refine qc F Try.func13 (haulagelaw20_num.calls (m := m + 28) (pl hm0) B _ q89) ?_; rintro e w154 ⟨c153, rfl, E155, B⟩; refine rt fun a F => ?_; replace h4 := h4.ev E155; replace h142 := h142.ev E155; replace h149 := h149.ev E155; replace E := E.n E155; refine qv F (r_neq F rfl rfl) fun a F => ?_
   as_aux_lemma =>
   refine nil (hK152 _ _ ?_)
   by_cases hb158 : t88 = 0
   ·replace H := ip hb158 H; refine wcf (fb F (congrArg not (dt hb158))) (wp_skip (hK151 _ _ ?_)); refine reg ?_; refine qm F fun a F => ?_; obtain ⟨t97, q98, H⟩ := bind_some H; refine qc F Try.func14 (haulagelaw20_over.calls k (m := m + 28) (pl hm0) B (SLM.v h142) ⟨(pl hm0), lm⟩ _ q98) ?_; rintro e w161 ⟨c160, rfl, E162, B, h164, hl165⟩; refine rt fun a F => ?_; replace h4 := h4.ev E162; replace h149 := h149.ev E162; replace E := E.trans E162 lc1; replace hl165 := hl165.symm; replace F := F.sub (L' := [(0, .slice A2 a1.length C3), (3, .pointer p24), (4, .int .i64 i109), (66, .slice A140 t97.length C141)]) ⟨rfl, rfl, rfl, (by rw [← hl165]; rfl), trivial⟩
    as_aux_lemma =>
    refine nil (hK123 _ _ ?_); refine reg ?_; refine qm F fun a F => ?_; refine qv F (r_add F rfl rfl) fun a F => ?_; refine qa F fun a F => nil ?_; replace H := HN113 _ (si H).symm; exact hX112 _ _ _ (Nat.lt_succ_self _) ⟨t78.2.2, (IntKind.i64.wrap (i109 + 1)), c160, F.sub ⟨rfl, rfl, rfl, trivial⟩, E, B, h4, h149, H⟩
   replace H := im hb158 H; refine wct (fb F (congrArg not (dz hb158))) ?_; refine sr fun K159 hK159 => qm F fun a F => ?_; refine qv F (r_lensl F Try.underlying27 rfl) fun a F => ?_; refine qv F (r_gtr F rfl rfl) fun a F => ?_; refine qa F fun a F => nil (hK159 _ _ ?_); replace F : Fr a 365 [(2, .bool (decide (524288 < (t67.length : Int))))] := F.sub ⟨rfl, trivial⟩
   as_aux_lemma =>
   refine wp_ret ?_; refine thenR ?_; refine inbR ?_; refine thenR ?_; refine thenR ?_; refine inbR ?_; refine thenR ?_; have hx_ := HD114 _ (si H).symm; have H := HR118; rw [← hx_] at H; replace H : some (decide (524288 < (t67.length : Int))) = some r := H; obtain rfl := si H; refine out1 F rfl rfl ?_; exact ⟨cf (ct m) c153, rfl, E.lv B0, cfb⟩
  as_aux_lemma =>
  replace H := im hb122 H; refine wcf (fb F (dz hb122)) ?_; refine wp_exit ?_; refine thenE ?_; refine thenE ?_; refine inbE ?_; have hx_ := HD114 _ (si H).symm; have H := HR118; rw [← hx_] at H; exact J173 c110 w111 a o108 (F.sub ⟨rfl, rfl, trivial⟩) E B h4 h107 H
 replace H := im hb15 H; refine wct (fb F (congrArg not (bfalse hb15))) ?_; refine sr fun K16 hK16 => qa F fun a F => nil (hK16 _ _ ?_); refine wp_ret ?_
 as_aux_lemma =>
 refine thenR ?_; obtain rfl := si H; refine out1 F rfl rfl ?_; exact ⟨cf (ct m) c10, rfl, E.lv B0, cfb⟩
end Go.Proofs.Ytdlokohmdnkdoaa.G
namespace Go.Proofs.Ytdlokohmdnkdoaa.G
open Go Go.ChangeShapes Go.WideShapes
set_option linter.unusedVariables false
set_option linter.unusedSimpArgs false
theorem bulk_one {H : Type} (d : DataW H) : 1 ≤ Rows.uptoBulk d := by
 cases d with
 | lit l => cases l <;> simp [Rows.uptoBulk]
 | nil => simp [Rows.uptoBulk]
 | ptr d => simp [Rows.uptoBulk]
 | slice elems spare => simp [Rows.uptoBulk]
 | agg parts => simp [Rows.uptoBulk]
 | iface t d => simp [Rows.uptoBulk]
 | map entries => simp [Rows.uptoBulk]
 | held h => simp [Rows.uptoBulk]
theorem bulk_slice {H : Type} (elems spare : List (DataW H)) : Rows.uptoBulkAll elems + 1 ≤ Rows.uptoBulk (.slice elems spare) := by
 simp only [Rows.uptoBulk]
 omega
theorem bulk_all {H : Type} : ∀ l : List (DataW H), Rows.uptoBulkAll l = (l.map Rows.uptoBulk).sum
 | [] => by simp [Rows.uptoBulkAll]
 | d :: l => by simp [Rows.uptoBulkAll, bulk_all l]
def c0 : Nat → Nat := fun _ => 0
def Opens {α : Type} (P : Program) (w : World) (t : TypeId) (e : K α) (wt : α → Nat) (ok : α → Prop) : Prop :=
 ∀ (H : Type) (enc : TypeId × Value → H) (fuel : Nat) (cs : List Value) (x : DataW H × List MemPlace), DataW.trod enc P w 0 (fun _ => true) true fuel t cs = some x → ∃ y, e.rep 0 c0 w cs y ∧ wt y ≤ Rows.uptoBulk x.1 ∧ ok y
section
variable {α : Type} {P : Program} {w : World} {t u : TypeId} {e : K α} {wt : α → Nat} {ok : α → Prop}
theorem opens_int {k : IntKind} (ht : P.underlying t = some (.int k)) : Opens P w t (Kint k) (fun _ => 1) (fun n => (Lit.int k n).wf = true) := by
 intro H enc fuel cs x h
 obtain ⟨n, rfl, rfl, hw⟩ := DataW.trod_int ht h
 exact ⟨n, rfl, bulk_one _, hw⟩
theorem at_cell {p : Addr} {v : Value} (h : w.cell? p = some v) : p = ⟨p.block, p.off, none⟩ ∧ ∃ cur ty fz, w.heap[p.block]? = some (.cells cur ty fz) ∧ cur[p.off]? = some v := by
 obtain ⟨b, off, spot⟩ := p
 simp only [World.cell?] at h
 split at h
 ·rename_i c ty fz hb
  cases spot with
  | some s => simp at h
  | none => exact ⟨rfl, c, ty, fz, hb, by simpa using h⟩
 ·cases h
theorem at_cells {p : Addr} {n : Nat} {cs : List Value} (hn : cs.length = n) (hp : 0 < n) (h : ∀ i, i < n → w.cell? (p.add i) = cs[i]?) : AT false 0 c0 w p cs := by
 have h0 := h 0 hp
 have e0 : p.add 0 = p := by simp [Addr.add]
 rw [e0, List.getElem?_eq_getElem (by omega)] at h0
 obtain ⟨ep, cur, ty, fz, hb, hc⟩ := at_cell h0
 refine ⟨p.block, p.off, cur, ty, fz, ep, hb, rfl, fun k hk => ?_, fun q => by cases q⟩
 have hk' := h k (by omega)
 rw [ep, add_eq] at hk'
 simp only [World.cell?, hb] at hk'
 simpa using hk'
theorem sum_le {β γ : Type} (f : β → Nat) (g : γ → Nat) : ∀ (l : List β) (m : List γ), l.length = m.length → (∀ i (h : i < l.length) (h' : i < m.length), f l[i] ≤ g m[i]) → (l.map f).sum ≤ (m.map g).sum
 | [], [], _, _ => Nat.le_refl _
 | [], _ :: _, h, _ => by simp at h
 | _ :: _, [], h, _ => by simp at h
 | a :: l, b :: m, h, hh => by
  simp only [List.map_cons, List.sum_cons]
  have h0 := hh 0 (by simp) (by simp)
  simp only [List.getElem_cons_zero] at h0
  have := sum_le f g l m (by simpa using h) (fun i h1 h2 => by
   have := hh (i + 1) (by simp; omega) (by simp; omega)
   simpa using this)
  omega
theorem open_sl [Inhabited α] (ht : P.underlying t = some (.slice u)) (hc : P.cellsOf u = e.sz) (hu : Opens P w u e wt ok) {H : Type} {enc : TypeId × Value → H} {fuel : Nat} {cs : List Value} {x : DataW H × List MemPlace}
  (h : DataW.trod enc P w 0 (fun _ => true) true fuel t cs = some x) :
  ∃ A cap xs, cs = [.slice A xs.length cap] ∧ SL false e 0 0 c0 w A cap xs ∧ (xs.map wt).sum + 1 ≤ Rows.uptoBulk x.1 ∧ ∀ y ∈ xs, ok y := by
 rcases Deep.open_slice ht h with ⟨rfl, rfl⟩ | ⟨a, len, cap, m, n, D, Pl, rfl, _, hl, hm, hmm, rfl, hx⟩
 ·exact ⟨none, 0, [], rfl, SL.nil, by simp [Rows.uptoBulk], fun y hy => by cases hy⟩
 simp only [if_true] at hmm
 subst hmm
 have hp := e.pos
 rw [hc] at hx
 have each : ∀ i, i < m → ∃ y : List Value × α, (y.1.length = e.sz ∧ ∀ k, k < e.sz → w.cell? ((a.add (i * e.sz)).add k) = y.1[k]?) ∧ e.rep 0 c0 w y.1 y.2 ∧ wt y.2 ≤ Rows.uptoBulk (D i) ∧ ok y.2 := by
  intro i hi
  obtain ⟨cs', h1, h2⟩ := hx i hi
  obtain ⟨_, g1, g2⟩ := World.cells?_some h1
  obtain ⟨y, g3, g4, g5⟩ := hu H enc n cs' _ h2
  exact ⟨(cs', y), ⟨g1, g2⟩, g3, g4, g5⟩
 obtain ⟨y, hy⟩ := Deep.choose_lt each
 let V : Nat → Value := fun q => (y (q / e.sz)).1.getD (q % e.sz) default
 have hV : ∀ i k, k < e.sz → V (i * e.sz + k) = (y i).1.getD k default := by
  intro i k hk
  show (y ((i * e.sz + k) / e.sz)).1.getD ((i * e.sz + k) % e.sz) default = _
  rw [Nat.mul_comm, Nat.mul_add_div hp, Nat.div_eq_of_lt hk, Nat.add_zero, Nat.mul_add_mod, Nat.mod_eq_of_lt hk]
 let cs := (List.range (m * e.sz)).map V
 have hcs : cs.length = m * e.sz := by simp [cs]
 have hcell : ∀ q, q < m * e.sz → w.cell? (a.add q) = cs[q]? := by
  intro q hq
  have hi : q / e.sz < m := (Nat.div_lt_iff_lt_mul hp).2 hq
  have hk : q % e.sz < e.sz := Nat.mod_lt _ hp
  obtain ⟨⟨g1, g2⟩, _⟩ := hy _ hi
  have g := g2 _ hk
  have e1 : (a.add (q / e.sz * e.sz)).add (q % e.sz) = a.add q := by
   have e2 : q / e.sz * e.sz + q % e.sz = q := Nat.div_add_mod' q e.sz
   obtain ⟨b, off, s⟩ := a
   simp only [Addr.add]
   split <;> split <;> split <;> simp_all <;> omega
  rw [e1] at g
  rw [g]
  simp only [cs, List.getElem?_map, List.getElem?_range hq, Option.map_some]
  show _ = some ((y (q / e.sz)).1.getD (q % e.sz) default)
  rw [List.getD_eq_getElem?_getD, List.getElem?_eq_getElem (by omega)]
  rfl
 refine ⟨some a, m, (List.range len).map fun i => (y i).2, by simp, ⟨cs, by simpa using hl, hm, hcs, ?_, fun n hn => ?_⟩, ?_, ?_⟩
 ·rcases Nat.eq_zero_or_pos (m * e.sz) with q | q
  ·left; exact List.length_eq_zero_iff.1 (by omega)
  ·right; exact ⟨a, rfl, at_cells hcs q hcell⟩
 ·simp only [List.length_map, List.length_range] at hn
  obtain ⟨⟨g1, _⟩, g3, _, _⟩ := hy n (by omega)
  have e1 : (cs.drop (n * e.sz)).take e.sz = (y n).1 := by
   apply List.ext_getElem?
   intro k
   by_cases hk : k < e.sz
   ·have hq : n * e.sz + k < m * e.sz := by
     have : (n + 1) * e.sz ≤ m * e.sz := Nat.mul_le_mul_right _ (by omega)
     rw [Nat.succ_mul] at this; omega
    rw [List.getElem?_take_of_lt hk, List.getElem?_drop]
    simp only [cs, List.getElem?_map, List.getElem?_range hq, Option.map_some]
    rw [hV n k hk, List.getD_eq_getElem?_getD, List.getElem?_eq_getElem (by omega)]
    rfl
   ·rw [List.getElem?_eq_none (by simp; omega), List.getElem?_eq_none (by omega)]
  rw [e1]
  simpa using g3
 ·refine Nat.le_trans (Nat.succ_le_succ ?_) (bulk_slice _ _)
  rw [bulk_all]
  rw [List.map_map, List.map_map]
  have := sum_le (fun i => wt (y i).2) (fun i => Rows.uptoBulk (D i)) (List.range len) (List.range len) rfl (fun i h1 h2 => by
   simp only [List.length_range] at h1
   simp only [List.getElem_range]
   exact (hy i (by omega)).2.2.1)
  exact this
 ·intro z hz
  obtain ⟨i, hi, rfl⟩ := List.mem_map.1 hz
  exact (hy i (by have := List.mem_range.1 hi; omega)).2.2.2
theorem opens_slice [Inhabited α] (ht : P.underlying t = some (.slice u)) (hc : P.cellsOf u = e.sz) (hu : Opens P w u e wt ok) : Opens P w t (Kslice e) (fun xs => (xs.map wt).sum + 1) (fun xs => ∀ y ∈ xs, ok y) := by
 intro H enc fuel cs x h
 obtain ⟨A, cap, xs, h1, h2, h3, h4⟩ := open_sl ht hc hu h
 exact ⟨xs, ⟨A, cap, h1, h2⟩, h3, h4⟩
end
end Go.Proofs.Ytdlokohmdnkdoaa.G
namespace Go.Proofs.Ytdlokohmdnkdoaa.G
open Go Go.ChangeShapes Go.WideShapes
set_option linter.unusedVariables false
theorem row_own : ownKnob Try.prog.godebug = none := by kernel_rfl
theorem row_laidOut : laidOutB Try.prog = true := by kernel_rfl
def byteok (n : Int) : Prop := (Lit.int .u8 n).wf = true
def bytesok (xs : List Int) : Prop := ∀ n ∈ xs, byteok n
theorem byteok.range {n : Int} (h : byteok n) : 0 ≤ n ∧ n ≤ 255 := by simpa [byteok, Lit.wf, IntKind.min, IntKind.max, IntKind.signed, IntKind.bits] using h
theorem sum_one {α : Type} (xs : List α) : (xs.map fun _ => 1).sum = xs.length := by
 induction xs with
 | nil => rfl
 | cons x xs ih => simp [ih]; omega
theorem mem_sum {α : Type} (f : α → Nat) : ∀ {xs : List α} {x : α}, x ∈ xs → f x ≤ (xs.map f).sum
 | y :: xs, x, h => by
  rcases List.mem_cons.1 h with e | h
  ·subst e; simp
  ·have := mem_sum f h; simp only [List.map_cons, List.sum_cons]; omega
theorem len_sum {α : Type} (f : α → Nat) (hf : ∀ x, 1 ≤ f x) : ∀ xs : List α, xs.length ≤ (xs.map f).sum
 | [] => Nat.le_refl _
 | x :: xs => by have := len_sum f hf xs; have := hf x; simp only [List.map_cons, List.sum_cons, List.length_cons]; omega
theorem cells_5 : Try.prog.cellsOf 5 = 1 := by kernel_rfl
theorem cells_27 : Try.prog.cellsOf 27 = 1 := by kernel_rfl
theorem opens_bytes {w : World} : Opens Try.prog w 27 (Kslice (Kint .u8)) (fun xs => xs.length + 1) bytesok := by
 intro H enc fuel cs x h
 obtain ⟨y, h1, h2, h3⟩ := opens_slice (e := Kint .u8) Try.underlying27 cells_5 (opens_int Try.underlying5) H enc fuel cs x h
 have h2' : (y.map fun _ => 1).sum + 1 ≤ Rows.uptoBulk x.1 := h2
 rw [sum_one] at h2'
 exact ⟨y, h1, h2', h3⟩
theorem arg_keys {H : Type} {enc : TypeId × Value → H} {w : World} {v : Value} {d : DataW H} {p : List MemPlace} (hv : ∃ a len cap, v = .slice a len cap) (h : DataW.Trod enc Try.prog w 0 (fun _ => true) true 22 v d p) :
  ∃ A C xs, v = .slice A xs.length C ∧ SL false (Kslice (Kint .u8)) 0 0 c0 w A C xs ∧ (xs.map (fun x => x.length + 1)).sum + 1 ≤ Rows.uptoBulk d ∧ ∀ o ∈ xs, bytesok o := by
 obtain ⟨a, len, cap, rfl⟩ := hv
 obtain ⟨fuel, hf⟩ := h
 obtain ⟨A, C, xs, e, h1, h2, h3⟩ := open_sl (e := (Kslice (Kint .u8))) Try.underlying22 cells_27 opens_bytes hf
 refine ⟨A, C, xs, ?_, h1, h2, h3⟩
 have e' : [Value.slice a len cap] = [.slice A xs.length C] := e
 exact List.head_eq_of_cons_eq e'
end Go.Proofs.Ytdlokohmdnkdoaa.G
namespace Go.Proofs.Ytdlokohmdnkdoaa.G
open Go
set_option linter.unusedVariables false
set_option linter.unusedSimpArgs false
theorem bind_eq {α β : Type} {x : Option α} {f : α → Option β} {a : α} (h : x = some a) : x.bind f = f a := by rw [h]; rfl
theorem loop_next {S X : Type} {f : S → Option (Ctl S X)} {n : Nat} {s s' : S} (h : f s = some (.next s')) : loop f (n + 1) s = loop f n s' := by
 show (f s).bind _ = _; rw [h]; rfl
theorem loop_done {S X : Type} {f : S → Option (Ctl S X)} {n : Nat} {s : S} {x : X} (h : f s = some (.done x)) : loop f (n + 1) s = some x := by
 show (f s).bind _ = _; rw [h]; rfl
theorem loop_inv {S X : Type} {f : S → Option (Ctl S X)} {I : Nat → S → Prop} {P : X → Prop} {N : Nat}
  (step : ∀ i s, i < N → I i s → (∃ s', f s = some (.next s') ∧ I (i + 1) s') ∨ (∃ x, f s = some (.done x) ∧ P x))
  (last : ∀ s, I N s → ∃ x, f s = some (.done x) ∧ P x) : ∀ (n i : Nat) (s : S) (m : Nat), I i s → i + n = N → n < m → ∃ x, loop f m s = some x ∧ P x
 | _, _, _, 0, _, _, h => absurd h (by omega)
 | 0, i, s, m + 1, hI, hN, _ => by
  obtain rfl : i = N := by omega
  obtain ⟨x, h1, h2⟩ := last s hI
  exact ⟨x, loop_done h1, h2⟩
 | n + 1, i, s, m + 1, hI, hN, hm => by
  rcases step i s (by omega) hI with ⟨s', h1, h2⟩ | ⟨x, h1, h2⟩
  ·rw [loop_next h1]
   exact loop_inv step last n (i + 1) s' m h2 (by omega) (by omega)
  ·exact ⟨x, loop_done h1, h2⟩
theorem loop_run {S X : Type} {f : S → Option (Ctl S X)} {I : Nat → S → Prop} {P : X → Prop} {N : Nat} {k : Nat} {s : S}
  (step : ∀ i s, i < N → I i s → ∃ s', f s = some (.next s') ∧ I (i + 1) s') (last : ∀ s, I N s → ∃ x, f s = some (.done x) ∧ P x) (h0 : I 0 s) (hk : N < k) : ∃ x, loop f k s = some x ∧ P x :=
 loop_inv (fun i s hi h => .inl (step i s hi h)) last N 0 s k h0 (by omega) hk
theorem wr {n : Int} (h0 : -1000000000000000000 ≤ n) (h1 : n ≤ 1000000000000000000) : IntKind.i64.wrap n = n := by rw [IntKind.wrap_i64]; omega
theorem wrS (i : Nat) (h : i < 1000000000000000) : IntKind.i64.wrap ((i : Int) + 1) = ((i + 1 : Nat) : Int) := by rw [wr (by omega) (by omega)]; omega
theorem rd_eq {α : Type} [Inhabited α] {xs : List α} {i : Nat} (h : i < xs.length) : rd xs (i : Int) = xs[i] := by
 unfold rd
 rw [Int.toNat_natCast, List.getD_eq_getElem?_getD, List.getElem?_eq_getElem h]
 rfl
theorem rd_app1 {α : Type} [Inhabited α] {xs ys : List α} {i : Int} (h : i < xs.length) (h0 : 0 ≤ i) : rd (xs ++ ys) i = rd xs i := by
 have e : i = ((i.toNat : Nat) : Int) := by omega
 rw [e, rd_eq (by simp; omega), rd_eq (by omega), List.getElem_append_left (by omega)]
theorem wf64 {n : Int} (h0 : -9223372036854775808 ≤ n) (h1 : n ≤ 9223372036854775807) : (Lit.int .i64 n).wf = true := by
 simp [Lit.wf, IntKind.min, IntKind.max, IntKind.signed, IntKind.bits]; omega
def Fuel (k : Nat) : Prop := 1099511627776 ≤ k
theorem same_loop (a b : List Int) (hl : a.length = b.length) : ∀ (n i m : Nat), i + n = a.length → n < m → a.length < 4000000000 →
  loop (fun (s_ : Int) => haulagelaw20_same.b1 a b s_) m (i : Int) = some (if a.drop i = b.drop i then Sum.inl () else Sum.inr false)
 | _, _, 0, _, h, _ => absurd h (by omega)
 | 0, i, m + 1, h, _, _ => by
  refine loop_done ?_
  unfold haulagelaw20_same.b1
  rw [if_neg (by omega), if_pos]
  rw [List.drop_of_length_le (by omega), List.drop_of_length_le (by omega)]
 | n + 1, i, m + 1, h, hm, hb => by
  have hi : i < a.length := by omega
  have hj : i < b.length := by omega
  rw [List.drop_eq_getElem_cons hi, List.drop_eq_getElem_cons hj]
  by_cases c : a[i] = b[i]
  ·rw [loop_next (s' := ((i + 1 : Nat) : Int)), same_loop a b hl n (i + 1) m (by omega) (by omega) hb]
   ·simp only [c, List.cons.injEq, true_and]
   ·unfold haulagelaw20_same.b1
    rw [if_pos (by omega), if_pos (by omega), if_pos (by omega), rd_eq hi, rd_eq hj, if_pos c, wrS i (by omega)]
  ·rw [if_neg (by simp only [List.cons.injEq, c, false_and, not_false_eq_true])]
   refine loop_done ?_
   unfold haulagelaw20_same.b1
   rw [if_pos (by omega), if_pos (by omega), if_pos (by omega), rd_eq hi, rd_eq hj, if_neg c]
theorem same_eq {k : Nat} (hk : Fuel k) (a b : List Int) (h : a.length < 4000000000 ∨ b.length < 4000000000) : haulagelaw20_same.f k a b = some (decide (a = b)) := by
 have h24 : 1099511627776 ≤ k := hk
 unfold haulagelaw20_same.f
 by_cases c : a.length = b.length
 ·rw [if_pos (by omega), show (0 : Int) = ((0 : Nat) : Int) from rfl, bind_eq (same_loop a b c a.length 0 k (by omega) (by omega) (by omega))]
  simp only [List.drop_zero]
  by_cases e : a = b
  ·simp [e, haulagelaw20_same.j2]
  ·simp [e]
 ·rw [if_neg (by omega), decide_eq_false (fun e => c (by rw [e]))]
theorem ints_loop (a b : List Int) (hl : a.length = b.length) : ∀ (n i m : Nat), i + n = a.length → n < m → a.length < 4000000000 →
  loop (fun (s_ : Int) => haulagelaw20_ints.b1 a b s_) m (i : Int) = some (if a.drop i = b.drop i then Sum.inl () else Sum.inr false)
 | _, _, 0, _, h, _ => absurd h (by omega)
 | 0, i, m + 1, h, _, _ => by
  refine loop_done ?_
  unfold haulagelaw20_ints.b1
  rw [if_neg (by omega), if_pos]
  rw [List.drop_of_length_le (by omega), List.drop_of_length_le (by omega)]
 | n + 1, i, m + 1, h, hm, hb => by
  have hi : i < a.length := by omega
  have hj : i < b.length := by omega
  rw [List.drop_eq_getElem_cons hi, List.drop_eq_getElem_cons hj]
  by_cases c : a[i] = b[i]
  ·rw [loop_next (s' := ((i + 1 : Nat) : Int)), ints_loop a b hl n (i + 1) m (by omega) (by omega) hb]
   ·simp only [c, List.cons.injEq, true_and]
   ·unfold haulagelaw20_ints.b1
    rw [if_pos (by omega), if_pos (by omega), if_pos (by omega), rd_eq hi, rd_eq hj, if_pos c, wrS i (by omega)]
  ·rw [if_neg (by simp only [List.cons.injEq, c, false_and, not_false_eq_true])]
   refine loop_done ?_
   unfold haulagelaw20_ints.b1
   rw [if_pos (by omega), if_pos (by omega), if_pos (by omega), rd_eq hi, rd_eq hj, if_neg c]
theorem ints_eq {k : Nat} (hk : Fuel k) (a b : List Int) (h : a.length < 4000000000 ∨ b.length < 4000000000) : haulagelaw20_ints.f k a b = some (decide (a = b)) := by
 have h24 : 1099511627776 ≤ k := hk
 unfold haulagelaw20_ints.f
 by_cases c : a.length = b.length
 ·rw [if_pos (by omega), show (0 : Int) = ((0 : Nat) : Int) from rfl, bind_eq (ints_loop a b c a.length 0 k (by omega) (by omega) (by omega))]
  simp only [List.drop_zero]
  by_cases e : a = b
  ·simp [e, haulagelaw20_ints.j2]
  ·simp [e]
 ·rw [if_neg (by omega), decide_eq_false (fun e => c (by rw [e]))]
theorem own_eq {l : api_Letter} (h : l.Data.length ≤ 140737488355328) : bag_own.f l = some l := by
 unfold bag_own.f slices_Clone.f
 rw [if_pos (by omega)]
 cases l; rfl
theorem lent_eq (a : List Int) (h : a.length ≤ 1048576) : haulagelaw20_lent.f a = some a := by
 unfold haulagelaw20_lent.f
 rw [wr (by omega) (by omega), if_pos (by omega)]
 have e : List.replicate (0 : Int).toNat (0 : Int) ++ a = a := rfl
 rw [e]
 rw [if_pos (by simp; omega), if_pos (by simp; omega), if_pos rfl]
theorem over_eq {k : Nat} (hk : Fuel k) (a : List Int) (h : a.length < 4000000000) : ∃ l, haulagelaw20_over.f k a = some l := by
 have h24 : 1099511627776 ≤ k := hk
 unfold haulagelaw20_over.f
 obtain ⟨x, h1, h2⟩ := loop_run (f := fun (s_ : (List Int) × Int) => haulagelaw20_over.b1 s_.1 s_.2) (I := fun i s => s.1.length = a.length ∧ s.2 = (i : Int)) (P := fun x => x.length = a.length) (N := a.length) (k := k) (s := (a, 0)) (fun i s hi hI => by
  obtain ⟨l, z⟩ := s
  obtain ⟨g1, g2⟩ := hI
  have h1 : l.length = a.length := g1
  have h2 : z = (i : Int) := g2
  subst h2
  refine ⟨(l.set ((i : Int).toNat) (IntKind.u8.wrap (255 - (rd l (i : Int)))), ((i + 1 : Nat) : Int)), ?_, ?_⟩
  ·show haulagelaw20_over.b1 l i = _
   unfold haulagelaw20_over.b1
   rw [if_pos (by omega), if_pos (by omega), if_pos (by omega), wrS i (by omega)]
  ·exact ⟨by simpa using h1, rfl⟩) (fun s hI => by
  obtain ⟨l, z⟩ := s
  obtain ⟨g1, g2⟩ := hI
  have h1 : l.length = a.length := g1
  have h2 : z = (a.length : Int) := g2
  subst h2
  refine ⟨l, ?_, h1⟩
  show haulagelaw20_over.b1 l (a.length : Int) = _
  unfold haulagelaw20_over.b1
  rw [if_neg (by omega)]) ⟨rfl, rfl⟩ (by omega)
 refine ⟨x, ?_⟩
 rw [bind_eq h1]
 unfold haulagelaw20_over.j2
 rw [if_pos h2]
structure SI (b : Bag) (m : Bg3) (i : Nat) : Prop where
 nx : b.next = m.Next
 n0 : 0 ≤ m.Next
 ni : m.Next ≤ i
 un : b.under.n ≤ i
 rl : m.Row.length ≤ i
 tl : b.told = m.Told
 ln : b.under.len = m.Row.length
 rs : (m.Row.map (·.Number)).Pairwise (· < ·)
 inr : ∀ x ∈ m.Row, 0 ≤ x.Number ∧ x.Number < m.Next ∧ x.Data.length ≤ 1048576
 f1 : ∀ x ∈ m.Row, b.under.f x.Number = some x
 f2 : ∀ k x, b.under.f k = some x → x ∈ m.Row ∧ x.Number = k
theorem SI.mono {b : Bag} {m : Bg3} {i j : Nat} (h : SI b m i) (hij : i ≤ j) : SI b m j := ⟨h.nx, h.n0, by have := h.ni; omega, Nat.le_trans h.un hij, Nat.le_trans h.rl hij, h.tl, h.ln, h.rs, h.inr, h.f1, h.f2⟩
theorem SI.keys {b : Bag} {m : Bg3} {i : Nat} (h : SI b m i) : b.under.keys b.next = m.Row.map (·.Number) := by
 refine perm_rising (keys_rise _ _) h.rs ((List.perm_ext_iff_of_nodup (rising_nodup (keys_rise _ _)) (rising_nodup h.rs)).2 fun z => ?_)
 rw [mem_keys, List.mem_map]
 constructor
 ·rintro ⟨_, h2⟩
  obtain ⟨x, hx⟩ := Option.isSome_iff_exists.1 h2
  exact ⟨x, h.f2 z x hx⟩
 ·rintro ⟨x, hx, rfl⟩
  obtain ⟨a1, a2, _⟩ := h.inr x hx
  exact ⟨⟨a1, by rw [h.nx]; exact a2⟩, by rw [h.f1 x hx]; rfl⟩
theorem SI.all {b : Bag} {m : Bg3} {i : Nat} (h : SI b m i) : b.under.all b.next = m.Row := by
 unfold MkV.all
 rw [h.keys, List.map_map]
 conv => rhs; rw [← List.map_id m.Row]
 exact List.map_congr_left fun x hx => by show (b.under.f x.Number).getD default = x; rw [h.f1 x hx]; rfl
theorem SI.tidy {b : Bag} {m : Bg3} {i : Nat} (h : SI b m i) (hi : i ≤ 1000000000) : b.under.tidy b.next := by
 have := h.ni
 refine ⟨by rw [h.nx]; omega, by rw [h.keys, h.ln]; simp, fun k hk => ?_⟩
 rw [h.keys] at hk
 obtain ⟨x, hx, rfl⟩ := List.mem_map.1 hk
 rw [h.f1 x hx]
 exact ⟨rfl, by have := (h.inr x hx).2.2; show x.Data.length ≤ _; omega⟩
theorem SI.new : SI ⟨⟨fun _ => none, 0, 0⟩, 0, ⟨0, 0, 0, 0, 0⟩⟩ ⟨[], 0, ⟨0, 0, 0, 0, 0⟩⟩ 0 :=
 ⟨rfl, by decide, by decide, Nat.le_refl _, Nat.le_refl _, rfl, rfl, List.Pairwise.nil, fun x h => (by cases h), fun x h => (by cases h), fun k x h => (by cases h)⟩
theorem SI.count {b : Bag} {m : Bg3} {i : Nat} (h : SI b m i) (t : api_Traffic) : SI ⟨b.under, b.next, t⟩ ⟨m.Row, m.Next, t⟩ i := ⟨h.nx, h.n0, h.ni, h.un, h.rl, rfl, h.ln, h.rs, h.inr, h.f1, h.f2⟩
theorem SI.put {b : Bag} {m : Bg3} {i : Nat} (h : SI b m i) (t : api_Traffic) (f d : Int) (x : List Int) (hx : x.length ≤ 1048576) : SI ⟨b.under.put b.next ⟨b.next, f, d, x⟩, b.next + 1, t⟩ ⟨m.Row ++ [⟨m.Next, f, d, x⟩], m.Next + 1, t⟩ (i + 1) := by
 have h0 := h.n0; have h1 := h.ni; have h2 := h.un; have h3 := h.rl
 have hn : b.under.f b.next = none := by
  cases e : b.under.f b.next with
  | none => rfl
  | some y => obtain ⟨a1, a2⟩ := h.f2 _ _ e; have := (h.inr y a1).2.1; rw [a2, h.nx] at this; omega
 refine ⟨by show b.next + 1 = m.Next + 1; rw [h.nx], by show 0 ≤ m.Next + 1; omega, by show m.Next + 1 ≤ _; omega, by show b.under.n + 1 ≤ _; omega, by show (m.Row ++ [_]).length ≤ _; simp; omega, rfl, ?_, ?_, fun y hy => ?_, fun y hy => ?_, fun k y hk => ?_⟩
 ·show (if (b.under.f b.next).isSome then b.under.len else b.under.len + 1) = ((m.Row ++ [_]).length : Int)
  rw [hn, h.ln]; simp
 ·show ((m.Row ++ [(⟨m.Next, f, d, x⟩ : api_Letter)]).map (·.Number)).Pairwise (· < ·)
  rw [List.map_append, List.pairwise_append]
  refine ⟨h.rs, List.pairwise_singleton _ _, fun a ha c hc => ?_⟩
  obtain ⟨y, hy, rfl⟩ := List.mem_map.1 ha
  simp at hc
  subst hc
  exact (h.inr y hy).2.1
 ·rcases List.mem_append.1 hy with q | q
  ·obtain ⟨a1, a2, a3⟩ := h.inr y q
   exact ⟨a1, by show y.Number < m.Next + 1; omega, a3⟩
  ·simp at q; subst q
   exact ⟨h0, by show m.Next < m.Next + 1; omega, hx⟩
 ·show (if y.Number = b.next then some _ else b.under.f y.Number) = some y
  rcases List.mem_append.1 hy with q | q
  ·have := (h.inr y q).2.1
   rw [if_neg (by rw [h.nx]; omega)]; exact h.f1 y q
  ·simp at q; subst q
   rw [h.nx, if_pos rfl]
 ·have hk : (if k = b.next then some _ else b.under.f k) = some y := hk
  by_cases c : k = b.next
  ·rw [if_pos c] at hk
   obtain rfl := Option.some.inj hk
   exact ⟨by rw [h.nx]; simp, c.symm⟩
  ·rw [if_neg c] at hk
   obtain ⟨a1, a2⟩ := h.f2 k y hk
   exact ⟨List.mem_append_left _ a1, a2⟩
theorem num_inj {m : List api_Letter} (h : (m.map (·.Number)).Pairwise (· < ·)) {a c : Nat} (ha : a < m.length) (hc : c < m.length) (e : m[a].Number = m[c].Number) : a = c := by
 have hn : (m.map (·.Number)).Nodup := rising_nodup h
 exact (List.getElem_inj (xs := m.map (·.Number)) (h₀ := by simpa using ha) (h₁ := by simpa using hc) hn).1 (by simpa using e)
theorem SI.del {b : Bag} {m : Bg3} {i : Nat} (h : SI b m i) (t : api_Traffic) (a : Nat) (ha : a < m.Row.length) : SI ⟨b.under.del (m.Row[a]).Number, b.next, t⟩ ⟨m.Row.take a ++ m.Row.drop (a + 1), m.Next, t⟩ i := by
 have h3 := h.rl
 have hsub : (m.Row.take a ++ m.Row.drop (a + 1)).Sublist m.Row := by rw [← List.eraseIdx_eq_take_drop_succ]; exact List.eraseIdx_sublist ..
 have hmem : ∀ y, y ∈ m.Row.take a ++ m.Row.drop (a + 1) ↔ (y ∈ m.Row ∧ y.Number ≠ (m.Row[a]).Number) := fun y => by
  rw [← List.eraseIdx_eq_take_drop_succ, List.mem_eraseIdx_iff_getElem]
  constructor
  ·rintro ⟨j, hj, hne, rfl⟩
   exact ⟨List.getElem_mem _, fun e => hne (num_inj h.rs hj ha e)⟩
  ·rintro ⟨hy, hne⟩
   obtain ⟨j, hj, rfl⟩ := List.getElem_of_mem hy
   exact ⟨j, hj, fun e => hne (by subst e; rfl), rfl⟩
 have hlen : (m.Row.take a ++ m.Row.drop (a + 1)).length = m.Row.length - 1 := by rw [← List.eraseIdx_eq_take_drop_succ, List.length_eraseIdx_of_lt ha]
 have hs : b.under.f (m.Row[a]).Number = some m.Row[a] := h.f1 _ (List.getElem_mem ha)
 refine ⟨h.nx, h.n0, h.ni, h.un, by show (m.Row.take a ++ m.Row.drop (a + 1)).length ≤ i; omega, rfl, ?_, ?_, fun y hy => h.inr y ((hmem y).1 hy).1, fun y hy => ?_, fun k y hk => ?_⟩
 ·show (if (b.under.f (m.Row[a]).Number).isSome then b.under.len - 1 else b.under.len) = ((m.Row.take a ++ m.Row.drop (a + 1)).length : Int)
  rw [hs, hlen, h.ln]; simp; omega
 ·exact List.Pairwise.sublist (hsub.map _) h.rs
 ·obtain ⟨a1, a2⟩ := (hmem y).1 hy
  show (if y.Number = (m.Row[a]).Number then none else b.under.f y.Number) = some y
  rw [if_neg a2]; exact h.f1 y a1
 ·have hk : (if k = (m.Row[a]).Number then none else b.under.f k) = some y := hk
  by_cases c : k = (m.Row[a]).Number
  ·rw [if_pos c] at hk; cases hk
  ·rw [if_neg c] at hk
   obtain ⟨a1, a2⟩ := h.f2 k y hk
   exact ⟨(hmem y).2 ⟨a1, by rw [a2]; exact c⟩, a2⟩
def isI (n : Int) : Prop := -9223372036854775808 ≤ n ∧ n ≤ 9223372036854775807
section
variable {k : Nat} {b : Bag} {m : Bg3} {i : Nat}
theorem room_eq (h : SI b m i) : bag_Bag_room.f (some b) = if 65536 ≤ (m.Row.length : Int) then some (201, some ⟨b.under, b.next, ⟨m.Told.Sent, m.Told.Twice, m.Told.Delivered, m.Told.Dropped, IntKind.i64.wrap (m.Told.Lost + 1)⟩⟩) else some (0, some b) := by
 unfold bag_Bag_room.f
 rw [Option.bind_some, h.ln, h.tl]
theorem put_eq (h : SI b m i) (hi : i < 500000000) (t : api_Traffic) (l : api_Letter) (hd : l.Data.length ≤ 1048576) : bag_Bag_put.f (some ⟨b.under, b.next, t⟩) l = some (m.Next, some ⟨b.under.put b.next ⟨b.next, l.From, l.To, l.Data⟩, b.next + 1, t⟩) := by
 have h0 := h.n0; have h1 := h.ni; have h2 := h.un; have h3 := h.nx
 unfold bag_Bag_put.f
 rw [Option.bind_some, bind_eq (own_eq (by show l.Data.length ≤ _; omega))]
 simp only
 rw [if_pos ⟨wf64 (by omega) (by omega), by omega⟩, wr (by omega) (by omega), h3]
theorem find_eq (h : SI b m i) {n : Int} (hn : isI n) : bag_Bag_find.f (some b) n = some (match b.under.f n with | some x => (x, 0) | none => (⟨0, 0, 0, []⟩, 200)) := by
 unfold bag_Bag_find.f
 rw [if_neg (by simp), Option.bind_some, if_pos (wf64 hn.1 hn.2)]
 cases b.under.f n with
 | none => rfl
 | some x => rfl
end
theorem oa_next {S X : Type} {f : S → Option (Ctl S X)} {n : Nat} {s s' : S} (h : f s = some (.next s')) : loop f (n + 1) s = loop f n s' := by
 show (f s).bind _ = _; rw [h]; rfl
theorem oa_done {S X : Type} {f : S → Option (Ctl S X)} {n : Nat} {s : S} {x : X} (h : f s = some (.done x)) : loop f (n + 1) s = some x := by
 show (f s).bind _ = _; rw [h]; rfl
theorem oa_count' {S X : Type} {f : S → Option (Ctl S X)} {s : Nat → S} {x : X} {N : Nat} (step : ∀ i, i < N → f (s i) = some (.next (s (i + 1)))) (last : f (s N) = some (.done x)) : ∀ (n i m : Nat), i + n = N → n < m → loop f m (s i) = some x
 | _, _, 0, _, h => absurd h (by omega)
 | 0, i, m + 1, hN, _ => by
  obtain rfl : i = N := by omega
  exact oa_done last
 | n + 1, i, m + 1, hN, hm => by rw [oa_next (step i (by omega))]; exact oa_count' step last n (i + 1) m (by omega) (by omega)
theorem oa_count {S X : Type} {f : S → Option (Ctl S X)} {s : Nat → S} {x : X} {N k : Nat} (hk : N < k) (step : ∀ i, i < N → f (s i) = some (.next (s (i + 1)))) (last : f (s N) = some (.done x)) : loop f k (s 0) = some x := oa_count' step last N 0 k (by omega) hk
theorem oa_rd {α : Type} [Inhabited α] {xs : List α} {i : Nat} (h : i < xs.length) : rd xs (i : Int) = xs[i] := by
 unfold rd
 rw [Int.toNat_natCast, List.getD_eq_getElem?_getD, List.getElem?_eq_getElem h]
 rfl
theorem oa_rdm {α : Type} [Inhabited α] {v : Nat → α} {n k : Nat} (h : k < n) : rd ((List.range n).map v) (k : Int) = v k := by rw [oa_rd (by simpa using h)]; simp
theorem oa_rdl {α : Type} [Inhabited α] {a b : List α} {k : Nat} (h : k < a.length) : rd (a ++ b) (k : Int) = rd a (k : Int) := by rw [oa_rd (by simp; omega), oa_rd h, List.getElem_append_left h]
theorem oa_rdr {α : Type} [Inhabited α] {a : List α} {v : Nat → α} {n k : Nat} (h : k < n) : rd (a ++ (List.range n).map v) ((a.length + k : Nat) : Int) = v k := by
 rw [oa_rd (by simp; omega), List.getElem_append_right (by omega)]; simp
theorem oa_set {α : Type} {v : Nat → α} {l : List α} {k : Nat} (h : k < l.length) : ((List.range k).map v ++ l.drop k).set k (v k) = (List.range (k + 1)).map v ++ l.drop (k + 1) := by
 have e : k - ((List.range k).map v).length = 0 := by simp
 rw [List.drop_eq_getElem_cons h, List.set_append_right _ _ (by simp), e, List.set_cons_zero, List.range_succ, List.map_append, List.append_assoc]; rfl
section
set_option linter.unusedSectionVars false
variable {α : Type} [Inhabited α] {L L0 : List (List α)} {i k len n : Nat}
def oaM (v : Nat → Nat → α) (L : List (List α)) : List (List α) := L.mapIdx fun i l => (List.range l.length).map (v i)
def oaG (n : Nat) (v : Nat → Nat → α) (L : List (List α)) : List (List α) := L.mapIdx fun i l => l ++ (List.range n).map (v i)
theorem oaM_len (v : Nat → Nat → α) : (oaM v L).length = L.length := by simp [oaM]
theorem oaG_len (v : Nat → Nat → α) : (oaG n v L).length = L.length := by simp [oaG]
theorem oaM_rd (v : Nat → Nat → α) (h : i < L.length) : rd (oaM v L) (i : Int) = (List.range (rd L (i : Int)).length).map (v i) := by
 rw [oa_rd (by rw [oaM_len]; exact h), oa_rd h]; simp [oaM]
theorem oaG_rd (v : Nat → Nat → α) (h : i < L.length) : rd (oaG n v L) (i : Int) = rd L (i : Int) ++ (List.range n).map (v i) := by
 rw [oa_rd (by rw [oaG_len]; exact h), oa_rd h]; simp [oaG]
theorem oa_rdset (h : i < L.length) (l : List α) : rd (L.set i l) (i : Int) = l := by rw [oa_rd (by simpa using h)]; simp
theorem oa_fill1 {f : List (List α) × Int → Option (Ctl (List (List α) × Int) (List (List α)))} {v : Nat → α} (hk : len < k) (hi : i < L.length) (hl : (rd L (i : Int)).length = len)
  (step : ∀ (M : List (List α)) (k : Nat), M.length = L.length → (rd M (i : Int)).length = len → k < len → f (M, (k : Int)) = some (.next (M.set i ((rd M (i : Int)).set k (v k)), ((k + 1 : Nat) : Int))))
  (stop : ∀ (M : List (List α)), M.length = L.length → (rd M (i : Int)).length = len → f (M, (len : Int)) = some (.done M)) : loop f k (L, 0) = some (L.set i ((List.range len).map v)) := by
 have e0 : (L, (0 : Int)) = (fun k : Nat => (L.set i ((List.range k).map v ++ (rd L (i : Int)).drop k), (k : Int))) 0 := by
  simp only [List.range_zero, List.map_nil, List.nil_append, List.drop_zero, oa_rd hi]
  rw [List.set_getElem_self]; rfl
 rw [e0]
 refine oa_count (s := fun k : Nat => (L.set i ((List.range k).map v ++ (rd L (i : Int)).drop k), (k : Int))) (N := len) hk (fun k hkk => ?_) ?_
 ·rw [step _ k (by simp) (by rw [oa_rdset hi]; simp; omega) hkk, oa_rdset hi, oa_set (by omega), List.set_set]
 ·rw [stop _ (by simp) (by rw [oa_rdset hi]; simp; omega), List.drop_of_length_le (by omega), List.append_nil]
theorem oa_tk {L M : List (List α)} (h : M.length = L.length) (hi : i < L.length) : rd (M.take i ++ L.drop i) (i : Int) = rd L (i : Int) := by
 rw [oa_rd (by simp; omega), oa_rd hi, List.getElem_append_right (by simp; omega)]
 simp; congr 1; omega
theorem oa_tks {L M : List (List α)} (h : M.length = L.length) (hi : i < L.length) : (M.take i ++ L.drop i).set i (rd M (i : Int)) = M.take (i + 1) ++ L.drop (i + 1) := by
 rw [List.drop_eq_getElem_cons hi, List.set_append_right _ _ (by simp; omega), oa_rd (by omega)]
 have : i - (M.take i).length = 0 := by simp; omega
 rw [this, List.set_cons_zero, List.take_add_one, List.getElem?_eq_getElem (by omega), Option.toList_some, List.append_assoc]; rfl
theorem oa_fill {f : List (List α) × Int → Option (Ctl (List (List α) × Int) (List (List α)))} {v : Nat → Nat → α} (hk : L0.length < k)
  (step : ∀ (L : List (List α)) (i : Nat), L.length = L0.length → i < L0.length → rd L (i : Int) = rd L0 (i : Int) → f (L, (i : Int)) = some (.next (L.set i ((List.range (rd L0 (i : Int)).length).map (v i)), ((i + 1 : Nat) : Int))))
  (stop : ∀ (L : List (List α)), L.length = L0.length → f (L, (L0.length : Int)) = some (.done L)) : loop f k (L0, 0) = some (oaM v L0) := by
 have e0 : (L0, (0 : Int)) = (fun i : Nat => ((oaM v L0).take i ++ L0.drop i, (i : Int))) 0 := by simp
 have hl := oaM_len (L := L0) v
 rw [e0]
 refine oa_count (s := fun i : Nat => ((oaM v L0).take i ++ L0.drop i, (i : Int))) (N := L0.length) hk (fun i hi => ?_) ?_
 ·rw [step _ i (by simp; omega) hi (oa_tk hl hi), ← oaM_rd v hi, oa_tks hl hi]
 ·rw [stop _ (by simp; omega), List.drop_of_length_le (Nat.le_refl _), List.append_nil, List.take_of_length_le (by omega)]
theorem oa_grow1 {f : List α × Int → Option (Ctl (List α × Int) (List α))} {v : Nat → α} {l0 : List α} (hk : n < k)
  (step : ∀ (l : List α) (k : Nat), l.length = l0.length + k → k < n → f (l, (k : Int)) = some (.next (l ++ [v k], ((k + 1 : Nat) : Int))))
  (stop : ∀ (l : List α), f (l, (n : Int)) = some (.done l)) : loop f k (l0, 0) = some (l0 ++ (List.range n).map v) := by
 have e0 : (l0, (0 : Int)) = (fun k : Nat => (l0 ++ (List.range k).map v, (k : Int))) 0 := by simp
 rw [e0]
 refine oa_count (s := fun k : Nat => (l0 ++ (List.range k).map v, (k : Int))) (N := n) hk (fun k hkk => ?_) ?_
 ·rw [step _ k (by simp) hkk, List.range_succ, List.map_append, List.append_assoc]; rfl
 ·rw [stop]
theorem oa_grow {f : List (List α) × Int → Option (Ctl (List (List α) × Int) (List (List α)))} {v : Nat → Nat → α} (hk : L.length < k)
  (step : ∀ (M : List (List α)) (i : Nat), M.length = i → i < L.length → f (M, (i : Int)) = some (.next (M ++ [rd L (i : Int) ++ (List.range n).map (v i)], ((i + 1 : Nat) : Int))))
  (stop : ∀ (M : List (List α)), M.length = L.length → f (M, (L.length : Int)) = some (.done M)) : loop f k ([], 0) = some (oaG n v L) := by
 have e0 : (([] : List (List α)), (0 : Int)) = (fun i : Nat => ((oaG n v L).take i, (i : Int))) 0 := by simp
 have hl := oaG_len (n := n) (L := L) v
 rw [e0]
 refine oa_count (s := fun i : Nat => ((oaG n v L).take i, (i : Int))) (N := L.length) hk (fun i hi => ?_) ?_
 ·rw [step _ i (by simp; omega) hi, ← oaG_rd v hi, List.take_add_one, List.getElem?_eq_getElem (by omega), oa_rd (by omega)]; rfl
 ·rw [stop _ (by simp; omega), List.take_of_length_le (by omega)]
end
def vN1 (i : Nat) : Int := IntKind.i64.wrap (10 + (i : Int))
def vN2 (i : Nat) : Int := IntKind.i64.wrap ((-10) - (i : Int))
def vN3 (i : Nat) : Int := IntKind.i64.wrap (5000 + (i : Int))
def vN4 (i : Nat) : Int := IntKind.i64.wrap ((-5000) - (i : Int))
theorem numbers_true {k : Nat} (hk : Fuel k) (P Q : List Int) (hl : Q.length = P.length) (hb : P.length < 1000000000) : haulagelaw20_numbers.f k P Q = some true := by
 have h24 : 1099511627776 ≤ k := hk
 obtain ⟨n, hn⟩ : ∃ n, n = P.length := ⟨_, rfl⟩
 have l1 : loop (fun (s_ : (List Int) × (List Int) × Int) => haulagelaw20_numbers.b1 s_.1 s_.2.1 s_.2.2) k (P, Q, 0) = some ((List.range n).map vN1, (List.range n).map vN2) := by
  have e0 : (P, Q, (0 : Int)) = (fun i : Nat => ((List.range i).map vN1 ++ P.drop i, (List.range i).map vN2 ++ Q.drop i, (i : Int))) 0 := by simp
  rw [e0]
  refine oa_count (s := fun i : Nat => ((List.range i).map vN1 ++ P.drop i, (List.range i).map vN2 ++ Q.drop i, (i : Int))) (N := n) (by omega) (fun i hi => ?_) ?_
  ·simp only
   unfold haulagelaw20_numbers.b1
   have a1 : ((List.range i).map vN1 ++ P.drop i).length = n := by simp; omega
   have a2 : ((List.range i).map vN2 ++ Q.drop i).length = n := by simp; omega
   rw [if_pos (by rw [a1]; omega), if_pos (by rw [a1]; omega), if_pos (by rw [a2]; omega), wrS i (by omega), Int.toNat_natCast]
   show some (Ctl.next ((((List.range i).map vN1 ++ P.drop i).set i (vN1 i)), (((List.range i).map vN2 ++ Q.drop i).set i (vN2 i)), ((i + 1 : Nat) : Int))) = _
   rw [oa_set (by omega), oa_set (by omega)]
  ·simp only
   unfold haulagelaw20_numbers.b1
   rw [if_neg (by simp; omega), List.drop_of_length_le (by omega), List.drop_of_length_le (by omega), List.append_nil, List.append_nil]
 have l2 : ∀ l : List Int, l.length = n → loop (fun (s_ : (List Int) × Int) => haulagelaw20_numbers.b3 s_.1 s_.2) k (l, 0) = some (l ++ (List.range 70).map vN3) := fun l hll => by
  refine oa_grow1 (by omega) (fun l' q e1 e2 => ?_) (fun l' => ?_)
  ·simp only
   unfold haulagelaw20_numbers.b3
   rw [if_pos (by omega), if_pos (by simp only [List.length_cons, List.length_nil]; omega), wrS q (by omega)]; rfl
  ·simp only
   unfold haulagelaw20_numbers.b3
   rw [if_neg (by omega)]
 have l3 : ∀ l : List Int, l.length = n → loop (fun (s_ : (List Int) × Int) => haulagelaw20_numbers.b5 s_.1 s_.2) k (l, 0) = some (l ++ (List.range 70).map vN4) := fun l hll => by
  refine oa_grow1 (by omega) (fun l' q e1 e2 => ?_) (fun l' => ?_)
  ·simp only
   unfold haulagelaw20_numbers.b5
   rw [if_pos (by omega), if_pos (by simp only [List.length_cons, List.length_nil]; omega), wrS q (by omega)]; rfl
  ·simp only
   unfold haulagelaw20_numbers.b5
   rw [if_neg (by omega)]
 have n1 : ((List.range n).map vN1).length = n := by simp
 have n2 : ((List.range n).map vN2).length = n := by simp
 have n3 : ((List.range n).map vN1 ++ (List.range 70).map vN3).length = n + 70 := by simp
 have n4 : ((List.range n).map vN2 ++ (List.range 70).map vN4).length = n + 70 := by simp
 unfold haulagelaw20_numbers.f
 rw [bind_eq l1]
 show haulagelaw20_numbers.j2 k ((List.range n).map vN1) ((List.range n).map vN2) = _
 unfold haulagelaw20_numbers.j2
 rw [bind_eq (l2 _ n1)]
 unfold haulagelaw20_numbers.j4
 rw [bind_eq (l3 _ n2)]
 unfold haulagelaw20_numbers.j6
 have l4 : loop (fun (s_ : Int) => haulagelaw20_numbers.b8 ((List.range n).map vN1) ((List.range n).map vN2) ((List.range n).map vN1 ++ (List.range 70).map vN3) ((List.range n).map vN2 ++ (List.range 70).map vN4) s_) k 0 = some (Sum.inl ()) := by
  refine oa_count (s := fun i : Nat => (i : Int)) (N := n) (by omega) (fun i hi => ?_) ?_
  ·unfold haulagelaw20_numbers.b8
   have r1 : rd ((List.range n).map vN1) (i : Int) = vN1 i := oa_rdm hi
   have r2 : rd ((List.range n).map vN2) (i : Int) = vN2 i := oa_rdm hi
   have r3 : rd ((List.range n).map vN1 ++ (List.range 70).map vN3) (i : Int) = vN1 i := (oa_rdl (by omega)).trans r1
   have r4 : rd ((List.range n).map vN2 ++ (List.range 70).map vN4) (i : Int) = vN2 i := (oa_rdl (by omega)).trans r2
   rw [r1, r2, r3, r4, if_pos (by omega), if_pos (by omega), if_pos (show vN1 i = IntKind.i64.wrap (10 + (i : Int)) from rfl), if_pos (by omega), if_pos (show vN2 i = IntKind.i64.wrap ((-10) - (i : Int)) from rfl), if_pos (by omega), if_pos (by omega), if_pos (show vN1 i = vN1 i from rfl), if_pos (by omega), if_pos (by omega)]
   unfold haulagelaw20_numbers.j7
   rw [if_neg (by simp), wrS i (by omega)]
  ·unfold haulagelaw20_numbers.b8
   rw [if_neg (by omega)]
 rw [bind_eq l4]
 show haulagelaw20_numbers.j9 k _ _ _ _ = _
 unfold haulagelaw20_numbers.j9
 have l5 : loop (fun (s_ : Int) => haulagelaw20_numbers.b11 ((List.range n).map vN1) ((List.range n).map vN2) ((List.range n).map vN1 ++ (List.range 70).map vN3) ((List.range n).map vN2 ++ (List.range 70).map vN4) s_) k 0 = some (Sum.inl ()) := by
  refine oa_count (s := fun i : Nat => (i : Int)) (N := 70) (by omega) (fun i hi => ?_) ?_
  ·unfold haulagelaw20_numbers.b11
   have w1 : IntKind.i64.wrap ((((List.range n).map vN1).length : Int) + (i : Int)) = ((n + i : Nat) : Int) := by rw [n1, wr (by omega) (by omega)]; omega
   have w2 : IntKind.i64.wrap ((((List.range n).map vN2).length : Int) + (i : Int)) = ((n + i : Nat) : Int) := by rw [n2, wr (by omega) (by omega)]; omega
   have r3 : rd ((List.range n).map vN1 ++ (List.range 70).map vN3) ((n + i : Nat) : Int) = vN3 i := by have := oa_rdr (a := (List.range n).map vN1) (v := vN3) hi; rwa [n1] at this
   have r4 : rd ((List.range n).map vN2 ++ (List.range 70).map vN4) ((n + i : Nat) : Int) = vN4 i := by have := oa_rdr (a := (List.range n).map vN2) (v := vN4) hi; rwa [n2] at this
   rw [w1, w2, r3, r4, if_pos (by omega), if_pos (by omega), if_pos (show vN3 i = IntKind.i64.wrap (5000 + (i : Int)) from rfl), if_pos (by omega)]
   unfold haulagelaw20_numbers.j10
   rw [if_neg (by simp [vN4]), wrS i (by omega)]
  ·unfold haulagelaw20_numbers.b11
   rw [if_neg (by omega)]
 rw [bind_eq l5]; rfl
def vO (i k : Nat) : Option (List Value) := some ([.int .i64 (IntKind.i64.wrap ((IntKind.i64.wrap (1000 * (i : Int))) + (k : Int))), .int .i64 0, .int .i64 0, .slice none 0 0] : List Value)
def vP (i k : Nat) : Option (List Value) := some ([.int .i64 (IntKind.i64.wrap ((IntKind.i64.wrap ((IntKind.i64.wrap ((-1000) * (i : Int))) - (k : Int))) - 1)), .int .i64 0, .int .i64 0, .slice none 0 0] : List Value)
theorem rawI_cons {β : Type} (n : Int) (l : List Value) (F : Int → Option β) : rawI .i64 (some (.int .i64 n :: l)) 0 F = F n := by
 simp [rawI]
section
variable {k : Nat} {L : List (List (Option (List Value)))}
theorem outer_fill (hk : Fuel k) (ll : L.length = 3) (hb : ∀ i : Nat, i < 3 → (rd L (i : Int)).length ≤ 1048576) :
  loop (fun (s_ : (List (List (Option (List Value)))) × Int) => haulagelaw20_outer.b5 k s_.1 s_.2) k (L, 0) = some (oaM vO L) := by
 have h24 : 1099511627776 ≤ k := hk
 refine oa_fill (by omega) (fun M i hl hi hM => ?_) (fun M hl => ?_)
 ·simp only
  unfold haulagelaw20_outer.b5
  have hbi := hb i (by omega)
  rw [if_pos (by omega), bind_eq (oa_fill1 (v := vO i) (L := M) (i := i) (len := (rd L (i : Int)).length) (by omega) (by omega) (by rw [hM]) (fun M' q e1 e2 e3 => ?_) (fun M' e1 e2 => ?_))]
  ·unfold haulagelaw20_outer.j4; rw [wrS i (by omega)]
  ·simp only
   unfold haulagelaw20_outer.b3
   rw [if_pos (by omega), if_pos (by omega), if_pos (by omega), if_pos (by omega), wrS q (by omega)]
   rfl
  ·simp only
   unfold haulagelaw20_outer.b3
   rw [if_pos (by omega), if_neg (by omega)]
 ·simp only
  unfold haulagelaw20_outer.b5
  rw [if_neg (by omega)]
theorem outer_grow (hk : Fuel k) (ll : L.length = 3) (hb : ∀ i : Nat, i < 3 → (rd L (i : Int)).length ≤ 1048576) :
  loop (fun (s_ : (List (List (Option (List Value)))) × Int) => haulagelaw20_outer.b11 k L s_.1 s_.2) k ([], 0) = some (oaG 70 vP L) := by
 have h24 : 1099511627776 ≤ k := hk
 refine oa_grow (by omega) (fun M i hl hi => ?_) (fun M hl => ?_)
 ·simp only
  unfold haulagelaw20_outer.b11
  have hbi := hb i (by omega)
  rw [if_pos (by omega), if_pos (by omega), bind_eq (oa_grow1 (v := vP i) (n := 70) (by omega) (fun l q e1 e2 => ?_) (fun l => ?_))]
  ·unfold haulagelaw20_outer.j10; rw [if_pos (by simp only [List.length_cons, List.length_nil]; omega), wrS i (by omega)]
  ·simp only
   unfold haulagelaw20_outer.b9
   rw [if_pos (by omega), if_pos (by simp only [List.length_cons, List.length_nil]; omega), wrS q (by omega)]; rfl
  ·simp only
   unfold haulagelaw20_outer.b9
   rw [if_neg (by omega)]
 ·simp only
  unfold haulagelaw20_outer.b11
  rw [if_neg (by omega), if_pos (by omega)]
theorem outer_look (hk : Fuel k) (ll : L.length = 3) (hb : ∀ i : Nat, i < 3 → (rd L (i : Int)).length ≤ 1048576) :
  loop (fun (s_ : Int) => haulagelaw20_outer.b18 k (oaM vO L) (oaG 70 vP (oaM vO L)) s_) k 0 = some (.inl ()) := by
 have h24 : 1099511627776 ≤ k := hk
 have l1 := oaM_len (L := L) vO
 have l2 := oaG_len (n := 70) (L := oaM vO L) vP
 refine oa_count (s := fun i : Nat => (i : Int)) (N := 3) (by omega) (fun i hi => ?_) ?_
 ·have hbi := hb i hi
  have e1 := oaM_rd (L := L) (i := i) vO (by omega)
  have e2 := oaG_rd (n := 70) (L := oaM vO L) (i := i) vP (by omega)
  obtain ⟨n, hn⟩ : ∃ n, n = (rd L (i : Int)).length := ⟨_, rfl⟩
  have n1 : (rd (oaM vO L) (i : Int)).length = n := by rw [e1]; simp [hn]
  have n2 : (rd (oaG 70 vP (oaM vO L)) (i : Int)).length = n + 70 := by rw [e2]; simp [n1]
  unfold haulagelaw20_outer.b18
  rw [if_pos (by omega), if_pos (by omega)]
  have A : loop (fun (s_ : Int) => haulagelaw20_outer.b14 (oaM vO L) (oaG 70 vP (oaM vO L)) (i : Int) s_) k 0 = some (.inl ()) := by
   refine oa_count (s := fun q : Nat => (q : Int)) (N := n) (by omega) (fun q hq => ?_) ?_
   ·unfold haulagelaw20_outer.b14
    have v1 : rd (rd (oaM vO L) (i : Int)) (q : Int) = vO i q := by rw [e1]; exact oa_rdm (by omega)
    have v2 : rd (rd (oaG 70 vP (oaM vO L)) (i : Int)) (q : Int) = vO i q := by rw [e2, oa_rdl (by omega)]; exact v1
    rw [if_pos (by omega), if_pos (by omega), if_pos (by omega), v1, v2, vO, rawI_cons, if_pos rfl, if_pos (by omega), if_pos (by omega), rawI_cons]
    unfold haulagelaw20_outer.j13
    rw [if_neg (by simp), wrS q (by omega)]
   ·unfold haulagelaw20_outer.b14
    rw [if_neg (by omega)]
  have Bq : loop (fun (s_ : Int) => haulagelaw20_outer.b16 (oaM vO L) (oaG 70 vP (oaM vO L)) (i : Int) s_) k 0 = some (.inl ()) := by
   refine oa_count (s := fun q : Nat => (q : Int)) (N := 70) (by omega) (fun q hq => ?_) ?_
   ·unfold haulagelaw20_outer.b16
    have v2 : rd (rd (oaG 70 vP (oaM vO L)) (i : Int)) (((n + q : Nat)) : Int) = vP i q := by rw [e2, ← n1]; exact oa_rdr hq
    have hw : IntKind.i64.wrap (((rd (oaM vO L) (i : Int)).length : Int) + (q : Int)) = ((n + q : Nat) : Int) := by rw [n1, wr (by omega) (by omega)]; omega
    rw [if_pos (by omega), if_pos (by omega), hw, if_pos (by omega), v2, vP, rawI_cons, if_pos rfl, wrS q (by omega)]
   ·unfold haulagelaw20_outer.b16
    rw [if_neg (by omega)]
  refine (bind_eq A).trans ?_
  unfold haulagelaw20_outer.j15
  refine (bind_eq Bq).trans ?_
  unfold haulagelaw20_outer.j17
  rw [wrS i (by omega)]
 ·unfold haulagelaw20_outer.b18
  rw [if_neg (by omega)]
theorem outer_true (hk : Fuel k) (x y z : List (Option (List Value))) (hx : x.length ≤ 1048576) (hy : y.length ≤ 1048576) (hz : z.length ≤ 1048576) : haulagelaw20_outer.f k x y z = some true := by
 have hb : ∀ i : Nat, i < 3 → (rd [x, y, z] (i : Int)).length ≤ 1048576 := fun i hi => by
  match i, hi with
  | 0, _ => exact hx
  | 1, _ => exact hy
  | 2, _ => exact hz
 have hb2 : ∀ i : Nat, i < 3 → (rd (oaM vO [x, y, z]) (i : Int)).length ≤ 1048576 := by
  intro i hi
  rw [oaM_rd vO (by simpa using hi)]
  simp only [List.length_map, List.length_range]
  exact hb i hi
 unfold haulagelaw20_outer.f
 rw [bind_eq (outer_fill hk rfl hb)]
 unfold haulagelaw20_outer.j6
 rw [bind_eq (outer_grow hk (by rw [oaM_len]; rfl) hb2)]
 unfold haulagelaw20_outer.j12
 rw [bind_eq (outer_look hk rfl hb)]
 rfl
end
def vA (i k : Nat) : Int := IntKind.u8.wrap (IntKind.i64.wrap ((IntKind.i64.wrap (7 * (i : Int))) + (IntKind.i64.wrap (3 * (k : Int)))))
def vB (i k : Nat) : Int := IntKind.u8.wrap (IntKind.i64.wrap ((IntKind.i64.wrap (100 + (i : Int))) + (IntKind.i64.wrap (5 * (k : Int)))))
section
variable {k : Nat} {L : List (List Int)}
theorem own_fill (hk : Fuel k) (ll : L.length < 1000000000) (hb : ∀ i : Nat, i < L.length → (rd L (i : Int)).length ≤ 1048576) :
  loop (fun (s_ : (List (List Int)) × Int) => haulagelaw20_BagOwn.b15 k s_.1 s_.2) k (L, 0) = some (oaM vA L) := by
 have h24 : 1099511627776 ≤ k := hk
 refine oa_fill (by omega) (fun M i hl hi hM => ?_) (fun M hl => ?_)
 ·simp only
  unfold haulagelaw20_BagOwn.b15
  have hbi := hb i (by omega)
  rw [if_pos (by omega), bind_eq (oa_fill1 (v := vA i) (L := M) (i := i) (len := (rd L (i : Int)).length) (by omega) (by omega) (by rw [hM]) (fun M' q e1 e2 e3 => ?_) (fun M' e1 e2 => ?_))]
  ·unfold haulagelaw20_BagOwn.j14; rw [wrS i (by omega)]
  ·simp only
   unfold haulagelaw20_BagOwn.b13
   rw [if_pos (by omega), if_pos (by omega), if_pos (by omega), if_pos (by omega), wrS q (by omega)]
   rfl
  ·simp only
   unfold haulagelaw20_BagOwn.b13
   rw [if_pos (by omega), if_neg (by omega)]
 ·simp only
  unfold haulagelaw20_BagOwn.b15
  rw [if_neg (by omega)]
theorem own_grow (hk : Fuel k) (ll : L.length < 1000000000) (hb : ∀ i : Nat, i < L.length → (rd L (i : Int)).length ≤ 1048576) :
  loop (fun (s_ : (List (List Int)) × Int) => haulagelaw20_BagOwn.b21 k L s_.1 s_.2) k ([], 0) = some (oaG 70 vB L) := by
 have h24 : 1099511627776 ≤ k := hk
 refine oa_grow (by omega) (fun M i hl hi => ?_) (fun M hl => ?_)
 ·simp only
  unfold haulagelaw20_BagOwn.b21
  have hbi := hb i (by omega)
  rw [if_pos (by omega), if_pos (by omega), bind_eq (oa_grow1 (v := vB i) (n := 70) (by omega) (fun l q e1 e2 => ?_) (fun l => ?_))]
  ·unfold haulagelaw20_BagOwn.j20; rw [if_pos (by simp only [List.length_cons, List.length_nil]; omega), wrS i (by omega)]
  ·simp only
   unfold haulagelaw20_BagOwn.b19
   rw [if_pos (by omega), if_pos (by simp only [List.length_cons, List.length_nil]; omega), wrS q (by omega)]; rfl
  ·simp only
   unfold haulagelaw20_BagOwn.b19
   rw [if_neg (by omega)]
 ·simp only
  unfold haulagelaw20_BagOwn.b21
  rw [if_neg (by omega), if_pos (by omega)]
theorem own_look (hk : Fuel k) (ll : L.length < 1000000000) (hb : ∀ i : Nat, i < L.length → (rd L (i : Int)).length ≤ 1048576) :
  loop (fun (s_ : Int) => haulagelaw20_BagOwn.b28 k (oaM vA L) (oaG 70 vB (oaM vA L)) s_) k 0 = some (.inl ()) := by
 have h24 : 1099511627776 ≤ k := hk
 have l1 := oaM_len (L := L) vA
 have l2 := oaG_len (n := 70) (L := oaM vA L) vB
 refine oa_count (s := fun i : Nat => (i : Int)) (N := L.length) (by omega) (fun i hi => ?_) ?_
 ·have hbi := hb i hi
  have e1 := oaM_rd (L := L) (i := i) vA (by omega)
  have e2 := oaG_rd (n := 70) (L := oaM vA L) (i := i) vB (by omega)
  obtain ⟨n, hn⟩ : ∃ n, n = (rd L (i : Int)).length := ⟨_, rfl⟩
  have n1 : (rd (oaM vA L) (i : Int)).length = n := by rw [e1]; simp [hn]
  have n2 : (rd (oaG 70 vB (oaM vA L)) (i : Int)).length = n + 70 := by rw [e2]; simp [n1]
  unfold haulagelaw20_BagOwn.b28
  rw [if_pos (by omega), if_pos (by omega)]
  have A : loop (fun (s_ : Int) => haulagelaw20_BagOwn.b24 (oaM vA L) (oaG 70 vB (oaM vA L)) (i : Int) s_) k 0 = some (.inl ()) := by
   refine oa_count (s := fun q : Nat => (q : Int)) (N := n) (by omega) (fun q hq => ?_) ?_
   ·unfold haulagelaw20_BagOwn.b24
    have v1 : rd (rd (oaM vA L) (i : Int)) (q : Int) = vA i q := by rw [e1]; exact oa_rdm (by omega)
    have v2 : rd (rd (oaG 70 vB (oaM vA L)) (i : Int)) (q : Int) = vA i q := by rw [e2, oa_rdl (by omega)]; exact v1
    rw [if_pos (by omega), if_pos (by omega), if_pos (by omega), v1, v2, if_pos (show vA i q = IntKind.u8.wrap (IntKind.i64.wrap (IntKind.i64.wrap (7 * (i : Int)) + IntKind.i64.wrap (3 * (q : Int)))) from rfl), if_pos (by omega), if_pos (by omega), if_pos (by omega), if_pos (by omega)]
    unfold haulagelaw20_BagOwn.j23
    rw [if_neg (by simp), wrS q (by omega)]
   ·unfold haulagelaw20_BagOwn.b24
    rw [if_neg (by omega)]
  have Bq : loop (fun (s_ : Int) => haulagelaw20_BagOwn.b26 (oaM vA L) (oaG 70 vB (oaM vA L)) (i : Int) s_) k 0 = some (.inl ()) := by
   refine oa_count (s := fun q : Nat => (q : Int)) (N := 70) (by omega) (fun q hq => ?_) ?_
   ·unfold haulagelaw20_BagOwn.b26
    have v2 : rd (rd (oaG 70 vB (oaM vA L)) (i : Int)) (((n + q : Nat)) : Int) = vB i q := by rw [e2, ← n1]; exact oa_rdr hq
    have hw : IntKind.i64.wrap (((rd (oaM vA L) (i : Int)).length : Int) + (q : Int)) = ((n + q : Nat) : Int) := by rw [n1, wr (by omega) (by omega)]; omega
    rw [if_pos (by omega), if_pos (by omega), hw, if_pos (by omega), v2, vB, if_pos rfl, wrS q (by omega)]
   ·unfold haulagelaw20_BagOwn.b26
    rw [if_neg (by omega)]
  refine (bind_eq A).trans ?_
  unfold haulagelaw20_BagOwn.j25
  refine (bind_eq Bq).trans ?_
  unfold haulagelaw20_BagOwn.j27
  rw [wrS i (by omega)]
 ·unfold haulagelaw20_BagOwn.b28
  rw [if_neg (by omega)]
end
def LT (a1 : List (List Int)) (o q : Nat) : api_Letter := ⟨((o + q : Nat) : Int), ((q % 3 : Nat) : Int), ((q % 2 : Nat) : Int), rd a1 (q : Int)⟩
def rows (a1 : List (List Int)) (o n : Nat) : List api_Letter := (List.range n).map (LT a1 o)
theorem rows_succ (a1 : List (List Int)) (o n : Nat) : rows a1 o (n + 1) = rows a1 o n ++ [LT a1 o n] := by unfold rows; rw [List.range_succ, List.map_append]; rfl
theorem rows_len (a1 : List (List Int)) (o n : Nat) : (rows a1 o n).length = n := by simp [rows]
theorem rows_get (a1 : List (List Int)) (o n : Nat) {q : Nat} (h : q < (rows a1 o n).length) : (rows a1 o n)[q] = LT a1 o q := by simp [rows]
section
variable {k : Nat} {b : Bag} {m : Bg3} {i : Nat}
theorem send_ok (h : SI b m i) (hi : i < 500000000) (hr : m.Row.length < 65536) {f t : Int} (hf : 0 ≤ f) (ht : 0 ≤ t) {x : List Int} (hx : x.length ≤ 524288) :
  ∃ b' T, bag_Bag_Send.f (some b) f t x = some (m.Next, 0, some b') ∧ SI b' ⟨m.Row ++ [⟨m.Next, f, t, x⟩], m.Next + 1, T⟩ (i + 1) := by
 unfold bag_Bag_Send.f
 rw [if_neg (show ¬ (Option.isNone (some b) = true) from fun q => Bool.noConfusion q), if_neg (by omega), decide_eq_false (by omega)]
 unfold bag_Bag_Send.j1
 have hff : ¬ (false = true) := by simp
 rw [if_neg hff, if_neg (by omega), room_eq h, if_neg (by omega), Option.bind_some, if_pos rfl, Option.bind_some, bind_eq (put_eq h hi _ ⟨0, f, t, x⟩ (by show x.length ≤ _; omega)), h.tl]
 exact ⟨_, _, rfl, h.put _ f t x (by omega)⟩
theorem send_long (b : Bag) {f t : Int} (hf : 0 ≤ f) (ht : 0 ≤ t) {x : List Int} (hx : 524288 < x.length) : bag_Bag_Send.f (some b) f t x = some (0, 3, some b) := by
 unfold bag_Bag_Send.f
 rw [if_neg (show ¬ (Option.isNone (some b) = true) from fun q => Bool.noConfusion q), if_neg (by omega), decide_eq_false (by omega)]
 unfold bag_Bag_Send.j1
 have hff : ¬ (false = true) := by simp
 rw [if_neg hff, if_pos (by omega)]
theorem twice_ok (h : SI b m i) (hi : i < 500000000) (hr : m.Row.length < 65536) {a : Nat} (ha : a < m.Row.length) {n : Int} (hn : isI n) (e : (m.Row[a]).Number = n) :
  ∃ b' T, bag_Bag_Twice.f (some b) n = some (m.Next, 0, some b') ∧ SI b' ⟨m.Row ++ [⟨m.Next, (m.Row[a]).From, (m.Row[a]).To, (m.Row[a]).Data⟩], m.Next + 1, T⟩ (i + 1) := by
 subst e
 have hd := (h.inr _ (List.getElem_mem ha)).2.2
 unfold bag_Bag_Twice.f
 rw [bind_eq (find_eq h hn), h.f1 _ (List.getElem_mem ha)]
 simp only
 rw [if_pos trivial, room_eq h, if_neg (by omega), Option.bind_some, if_pos rfl, Option.bind_some, bind_eq (put_eq h hi _ _ hd), h.tl]
 exact ⟨_, _, rfl, h.put _ _ _ _ hd⟩
theorem deliver_ok (h : SI b m i) {a : Nat} (ha : a < m.Row.length) {n : Int} (hn : isI n) (e : (m.Row[a]).Number = n) :
  ∃ b' T, bag_Bag_Deliver.f (some b) n = some (m.Row[a], 0, some b') ∧ SI b' ⟨m.Row.take a ++ m.Row.drop (a + 1), m.Next, T⟩ i := by
 subst e
 unfold bag_Bag_Deliver.f
 rw [bind_eq (find_eq h hn), h.f1 _ (List.getElem_mem ha)]
 simp only
 rw [if_pos trivial, Option.bind_some, if_pos (wf64 hn.1 hn.2), h.tl]
 exact ⟨_, _, rfl, h.del _ a ha⟩
theorem waiting_ok (h : SI b m i) (hi : i ≤ 1000000000) : bag_Bag_Waiting.f (some b) = some m.Row := by
 show (if b.under.tidy b.next then _ else _) = _
 rw [if_pos (h.tidy hi), h.all]
theorem for_ok (h : SI b m i) (hi : i ≤ 1000000000) (t : Int) : bag_Bag_For.f (some b) t = some ((m.Row.filter fun x => decide (x.To = t)).map (·.Number)) := by
 show (if b.under.tidy b.next then _ else _) = _
 rw [if_pos (h.tidy hi), h.keys, List.filter_map]
 congr 2
 refine List.filter_congr fun x hx => ?_
 show decide (((b.under.f x.Number).getD default).To = t) = _
 rw [h.f1 x hx]; rfl
end
theorem half (a1 : List (List Int)) : ∀ n : Nat, (((rows a1 0 n).filter fun x => decide (x.To = 0)).map (·.Number)).length = (n + 1) / 2
 | 0 => rfl
 | n + 1 => by
  rw [rows_succ, List.filter_append, List.map_append, List.length_append, half a1 n]
  by_cases c : n % 2 = 0
  ·have : (LT a1 0 n).To = 0 := by show ((n % 2 : Nat) : Int) = 0; omega
   simp [this]; omega
  ·have : ¬ (LT a1 0 n).To = 0 := by show ¬ ((n % 2 : Nat) : Int) = 0; omega
   simp [this]; omega
theorem known_true : haulagelaw20_known.f = some true := by decide +kernel
theorem tmodN (i n : Nat) : Int.tmod (i : Int) (n : Int) = ((i % n : Nat) : Int) := by rw [Int.tmod_eq_emod_of_nonneg (by omega)]; omega
section
variable {k : Nat} {a1 : List (List Int)}
theorem first_loop (hk : Fuel k) (hn : a1.length ≤ 65535) (hd : ∀ x ∈ a1, x.length ≤ 1048576) :
  ∃ x, loop (fun (s_ : (Option Bag) × Int) => haulagelaw20_BagOwn.b1 k a1 s_.1 s_.2) k (some ⟨⟨fun _ => none, 0, 0⟩, 0, ⟨0, 0, 0, 0, 0⟩⟩, 0) = some x ∧ (x = Sum.inr true ∨ ∃ b m, x = Sum.inl (some b) ∧ SI b m a1.length ∧ m.Next = a1.length ∧ m.Row = rows a1 0 a1.length ∧ ∀ x ∈ a1, x.length ≤ 524288) := by
 have h24 : 1099511627776 ≤ k := hk
 refine loop_inv (f := fun (s_ : (Option Bag) × Int) => haulagelaw20_BagOwn.b1 k a1 s_.1 s_.2) (I := fun i s => ∃ b m, s = (some b, (i : Int)) ∧ SI b m i ∧ m.Next = i ∧ m.Row = rows a1 0 i ∧ ∀ q (h : q < a1.length), q < i → (a1[q]).length ≤ 524288) (P := fun x => x = Sum.inr true ∨ ∃ b m, x = Sum.inl (some b) ∧ SI b m a1.length ∧ m.Next = a1.length ∧ m.Row = rows a1 0 a1.length ∧ ∀ x ∈ a1, x.length ≤ 524288) (N := a1.length) ?_ ?_ a1.length 0 _ k ⟨_, _, rfl, SI.new, rfl, rfl, fun q _ h => by omega⟩ (by omega) (by omega)
 ·rintro i s hi ⟨b, m, rfl, h, h1, h2, h3⟩
  have hdi := hd _ (List.getElem_mem hi)
  show (∃ s', haulagelaw20_BagOwn.b1 k a1 (some b) (i : Int) = _ ∧ _) ∨ (∃ x, haulagelaw20_BagOwn.b1 k a1 (some b) (i : Int) = _ ∧ _)
  unfold haulagelaw20_BagOwn.b1
  have t3 : Int.tmod (i : Int) 3 = ((i % 3 : Nat) : Int) := tmodN i 3
  have t2 : Int.tmod (i : Int) 2 = ((i % 2 : Nat) : Int) := tmodN i 2
  rw [if_pos (by omega), if_pos (by omega), rd_eq hi, bind_eq (lent_eq _ hdi), t3, t2]
  by_cases c : 524288 < (a1[i]).length
  ·have e3 : haulagelaw20_num.f 3 = some 3 := rfl
   rw [bind_eq (send_long b (by omega) (by omega) c), bind_eq e3, if_neg (by decide), decide_eq_true (by omega)]
   exact .inr ⟨_, rfl, .inl rfl⟩
  ·have hlen : m.Row.length = i := by rw [h2, rows_len]
   obtain ⟨b', T, e, h'⟩ := send_ok h (by omega) (by omega) (f := ((i % 3 : Nat) : Int)) (t := ((i % 2 : Nat) : Int)) (by omega) (by omega) (x := a1[i]) (by omega)
   have e3 : haulagelaw20_num.f 0 = some 0 := rfl
   obtain ⟨q, hq⟩ := over_eq hk (a1[i]) (by omega)
   rw [bind_eq e, bind_eq e3, if_pos rfl, bind_eq hq, wrS i (by omega)]
   refine .inl ⟨_, rfl, b', _, rfl, h', by show m.Next + 1 = _; omega, ?_, fun z hz hzi => ?_⟩
   ·show m.Row ++ [_] = _
    rw [rows_succ, h2, h1]
    unfold LT
    rw [rd_eq hi]; simp
   ·by_cases e : z = i
    ·subst e; omega
    ·exact h3 z hz (by omega)
 ·rintro s ⟨b, m, rfl, h, h1, h2, h3⟩
  refine ⟨Sum.inl (some b), ?_, .inr ⟨b, m, rfl, h, h1, h2, fun x hx => ?_⟩⟩
  ·show haulagelaw20_BagOwn.b1 k a1 (some b) (a1.length : Int) = _
   unfold haulagelaw20_BagOwn.b1
   rw [if_neg (by omega)]
  ·obtain ⟨q, hq, rfl⟩ := List.getElem_of_mem hx
   exact h3 q hq hq
theorem second_loop (hk : Fuel k) (hn : a1.length ≤ 65535) (hd : ∀ x ∈ a1, x.length ≤ 524288) {b : Bag} {m : Bg3} (h : SI b m a1.length) (h1 : m.Next = a1.length) (h2 : m.Row = rows a1 0 a1.length) :
  ∃ b' m', loop (fun (s_ : (Option Bag) × (List (List Int)) × Int) => haulagelaw20_BagOwn.b5 k a1 s_.1 s_.2.1 s_.2.2) k (some b, [], 0) = some (Sum.inl (some b', a1)) ∧ SI b' m' (3 * a1.length) ∧ m'.Row = rows a1 a1.length a1.length := by
 have h24 : 1099511627776 ≤ k := hk
 obtain ⟨x, l1, b', m', rfl, l2, l3⟩ := loop_run (f := fun (s_ : (Option Bag) × (List (List Int)) × Int) => haulagelaw20_BagOwn.b5 k a1 s_.1 s_.2.1 s_.2.2)
  (I := fun i s => ∃ b m, s = (some b, a1.take i, (i : Int)) ∧ SI b m (a1.length + i) ∧ m.Next = ((a1.length + i : Nat) : Int) ∧ m.Row = (rows a1 0 a1.length).drop i ++ rows a1 a1.length i)
  (P := fun x => ∃ b' m', x = Sum.inl (some b', a1) ∧ SI b' m' (3 * a1.length) ∧ m'.Row = rows a1 a1.length a1.length) (N := a1.length) (k := k) (s := (some b, [], 0)) (by
  rintro i s hi ⟨b, m, rfl, h, h1, h2⟩
  have hlen : m.Row.length = a1.length := by rw [h2, List.length_append, List.length_drop, rows_len, rows_len]; omega
  have hr0 : ∀ (X : List api_Letter) (hz : 0 < ((rows a1 0 a1.length).drop i ++ X).length), ((rows a1 0 a1.length).drop i ++ X)[0]'hz = LT a1 0 i := fun X hz => by
   rw [List.getElem_append_left (by rw [List.length_drop, rows_len]; omega), List.getElem_drop, rows_get]; simp
  have hm0 : (m.Row[0]'(by omega)) = LT a1 0 i := by
   have : ∀ (R : List api_Letter) (hz : 0 < R.length), R = (rows a1 0 a1.length).drop i ++ rows a1 a1.length i → R[0] = LT a1 0 i := by rintro R hz rfl; exact hr0 _ hz
   exact this _ _ h2
  obtain ⟨b1, T1, e1, g1⟩ := twice_ok h (by omega) (by omega) (a := 0) (by omega) (n := (i : Int)) ⟨by omega, by omega⟩ (by rw [hm0]; show ((0 + i : Nat) : Int) = _; omega)
  have hm1 : ((m.Row ++ [(⟨m.Next, (m.Row[0]'(by omega)).From, (m.Row[0]'(by omega)).To, (m.Row[0]'(by omega)).Data⟩ : api_Letter)])[0]'(by simp)) = LT a1 0 i := by rw [List.getElem_append_left (by omega)]; exact hm0
  obtain ⟨b2, T2, e2, g2⟩ := deliver_ok g1 (a := 0) (by simp) (n := (i : Int)) ⟨by omega, by omega⟩ (by show ((m.Row ++ [_])[0]'_).Number = _; rw [hm1]; show ((0 + i : Nat) : Int) = _; omega)
  have e2' : bag_Bag_Deliver.f (some b1) (i : Int) = some (LT a1 0 i, 0, some b2) := by rw [e2]; congr 1; exact congrArg (fun z => (z, (0 : Int), some b2)) hm1
  have e3 : haulagelaw20_num.f 0 = some 0 := rfl
  have hdi := hd _ (List.getElem_mem hi)
  have hsame : haulagelaw20_same.f k (rd a1 (i : Int)) (rd a1 (i : Int)) = some true := by rw [same_eq hk _ _ (.inl (by rw [rd_eq hi]; omega))]; simp
  refine ⟨(some b2, a1.take (i + 1), ((i + 1 : Nat) : Int)), ?_, b2, _, rfl, g2, by show m.Next + 1 = _; omega, ?_⟩
  ·show haulagelaw20_BagOwn.b5 k a1 (some b) (a1.take i) (i : Int) = _
   unfold haulagelaw20_BagOwn.b5
   rw [if_pos (by omega), bind_eq e1, bind_eq e2', bind_eq e3, if_pos rfl, if_pos (by omega)]
   show (haulagelaw20_same.f k (rd a1 (i : Int)) (rd a1 (i : Int))).bind _ = _
   rw [bind_eq hsame]
   unfold haulagelaw20_BagOwn.j4
   rw [if_neg (by simp), if_pos (by simp only [List.length_cons, List.length_nil, List.length_take]; omega), wrS i (by omega), List.take_succ_eq_append_getElem hi]
   show some (Ctl.next (some b2, a1.take i ++ [rd a1 (i : Int)], _)) = _
   rw [rd_eq hi]
  ·show (m.Row ++ [_]).take 0 ++ (m.Row ++ [_]).drop (0 + 1) = _
   rw [List.take_zero, List.nil_append, hm0, h1, rows_succ]
   have e5 : (rows a1 0 a1.length).drop (i + 1) = ((rows a1 0 a1.length).drop i).drop 1 := by rw [List.drop_drop]
   have l5 : ((rows a1 0 a1.length).drop i).length = a1.length - i := by rw [List.length_drop, rows_len]
   rw [h2, e5, List.append_assoc, Nat.zero_add, List.drop_append_of_le_length (by omega)]
   rfl) (by
  rintro s ⟨b, m, rfl, h, h1, h2⟩
  refine ⟨Sum.inl (some b, a1), ?_, b, m, rfl, h.mono (by omega), ?_⟩
  ·show haulagelaw20_BagOwn.b5 k a1 (some b) (a1.take a1.length) (a1.length : Int) = _
   unfold haulagelaw20_BagOwn.b5
   rw [if_neg (by omega), List.take_length]
  ·rw [h2, List.drop_of_length_le (by rw [rows_len]; omega), List.nil_append]) ⟨b, m, rfl, h, h1, by rw [h2]; simp [rows]⟩ (by omega)
 exact ⟨b', m', l1, l2, l3⟩
theorem third_loop (hk : Fuel k) (hn : a1.length ≤ 65535) (hd : ∀ x ∈ a1, x.length ≤ 524288) :
  ∃ L, loop (fun (s_ : (List (List Int)) × Int) => haulagelaw20_BagOwn.b9 k a1 (rows a1 0 a1.length) (rows a1 0 a1.length) (rows a1 a1.length a1.length) s_.1 s_.2) k (a1, 0) = some (Sum.inl L) ∧ L.length = 4 * a1.length ∧ ∀ x ∈ L, x.length ≤ 1048576 := by
 have h24 : 1099511627776 ≤ k := hk
 obtain ⟨x, l1, L, rfl, l2, l3⟩ := loop_run (f := fun (s_ : (List (List Int)) × Int) => haulagelaw20_BagOwn.b9 k a1 (rows a1 0 a1.length) (rows a1 0 a1.length) (rows a1 a1.length a1.length) s_.1 s_.2)
  (I := fun i s => ∃ X, s = (a1 ++ X, (i : Int)) ∧ X.length = 3 * i ∧ ∀ x ∈ X, x.length ≤ 1048576)
  (P := fun x => ∃ L, x = Sum.inl L ∧ L.length = 4 * a1.length ∧ ∀ x ∈ L, x.length ≤ 1048576) (N := a1.length) (k := k) (s := (a1, 0)) (by
  rintro i s hi ⟨X, rfl, h1, h2⟩
  have hdi := hd _ (List.getElem_mem hi)
  have hrd : rd a1 (i : Int) = a1[i] := rd_eq hi
  have hs : haulagelaw20_same.f k (rd a1 (i : Int)) (rd a1 (i : Int)) = some true := by rw [same_eq hk _ _ (.inl (by rw [hrd]; omega))]; simp
  have r1 : ∀ o, (rd (rows a1 o a1.length) (i : Int)).Data = rd a1 (i : Int) := fun o => by rw [rd_eq (by rw [rows_len]; exact hi), rows_get]; rfl
  have r2 : rd (a1 ++ X) (i : Int) = rd a1 (i : Int) := rd_app1 (by omega) (by omega)
  have hl : ∀ o, ((rows a1 o a1.length).length : Int) = (a1.length : Int) := fun o => by rw [rows_len]
  refine ⟨(a1 ++ (X ++ [rd a1 (i : Int), rd a1 (i : Int), rd a1 (i : Int)]), ((i + 1 : Nat) : Int)), ?_, _, rfl, by simp; omega, fun x hx => ?_⟩
  ·show haulagelaw20_BagOwn.b9 k a1 (rows a1 0 a1.length) (rows a1 0 a1.length) (rows a1 a1.length a1.length) (a1 ++ X) (i : Int) = _
   unfold haulagelaw20_BagOwn.b9
   rw [hl, hl, r1, r1, r2]
   have hb : 0 ≤ (i : Int) ∧ (i : Int) < (a1.length : Int) := by omega
   rw [if_pos hb.2, if_pos hb, if_pos hb, if_pos hb, if_pos hb, bind_eq hs, if_pos rfl, if_pos hb, bind_eq hs, if_pos rfl, if_pos hb, bind_eq hs, if_pos rfl, if_pos (by simp; omega), if_pos hb, bind_eq hs]
   unfold haulagelaw20_BagOwn.j8
   rw [if_neg (by simp), if_pos (by simp; omega), wrS i (by omega), r1, r1, List.append_assoc]
  ·rcases List.mem_append.1 hx with q | q
   ·exact h2 x q
   ·simp at q; subst q; rw [hrd]; omega) (by
  rintro s ⟨X, rfl, h1, h2⟩
  refine ⟨Sum.inl (a1 ++ X), ?_, _, rfl, by simp; omega, fun x hx => ?_⟩
  ·show haulagelaw20_BagOwn.b9 k a1 _ _ _ (a1 ++ X) (a1.length : Int) = _
   unfold haulagelaw20_BagOwn.b9
   rw [if_neg (by omega)]
  ·rcases List.mem_append.1 hx with q | q
   ·have := hd x q; omega
   ·exact h2 x q) ⟨[], by simp, rfl, fun x hx => by cases hx⟩ (by omega)
 exact ⟨L, l1, l2, l3⟩
theorem last_loop (hk : Fuel k) (hn : a1.length ≤ 65535) (hd : ∀ x ∈ a1, x.length ≤ 524288) (o : Nat) :
  loop (fun (s_ : Int) => haulagelaw20_BagOwn.b30 k a1 (rows a1 o a1.length) s_) k 0 = some (Sum.inl ()) := by
 have h24 : 1099511627776 ≤ k := hk
 refine oa_count (s := fun i : Nat => (i : Int)) (N := a1.length) (by omega) (fun i hi => ?_) ?_
 ·have hdi := hd _ (List.getElem_mem hi)
  have hrd : rd a1 (i : Int) = a1[i] := rd_eq hi
  have hs : haulagelaw20_same.f k (rd a1 (i : Int)) (rd a1 (i : Int)) = some true := by rw [same_eq hk _ _ (.inl (by rw [hrd]; omega))]; simp
  have r1 : (rd (rows a1 o a1.length) (i : Int)).Data = rd a1 (i : Int) := by rw [rd_eq (by rw [rows_len]; exact hi), rows_get]; rfl
  unfold haulagelaw20_BagOwn.b30
  rw [rows_len, r1, if_pos (by omega), if_pos (by omega), if_pos (by omega), bind_eq hs, if_pos rfl, wrS i (by omega)]
 ·unfold haulagelaw20_BagOwn.b30
  rw [rows_len, if_neg (by omega)]
theorem BagOwn_true (hk : Fuel k) (hd : ∀ x ∈ a1, x.length ≤ 1048576) : haulagelaw20_BagOwn.f k a1 = some true := by
 have h24 : 1099511627776 ≤ k := hk
 have n1 : bag_New.f = some (some ⟨⟨fun _ => none, 0, 0⟩, 0, ⟨0, 0, 0, 0, 0⟩⟩) := rfl
 unfold haulagelaw20_BagOwn.f
 rw [bind_eq known_true, if_pos rfl, bind_eq n1]
 by_cases c : 65535 < (a1.length : Int)
 ·rw [if_pos c]; rfl
 rw [if_neg c]
 have hn : a1.length ≤ 65535 := by omega
 obtain ⟨x, l1, l2⟩ := first_loop hk hn hd
 rw [bind_eq l1]
 rcases l2 with rfl | ⟨b, m, rfl, h, h1, h2, hd⟩
 ·rfl
 show haulagelaw20_BagOwn.j2 k a1 (some b) = _
 unfold haulagelaw20_BagOwn.j2
 have w := waiting_ok h (by omega)
 have f := for_ok h (by omega) 0
 rw [h2] at w f
 obtain ⟨b', m', l3, h', h2'⟩ := second_loop hk hn hd h h1 h2
 have w' := waiting_ok h' (by omega)
 rw [h2'] at w'
 rw [bind_eq w, bind_eq w, bind_eq f, bind_eq f, bind_eq l3]
 obtain ⟨P, hP⟩ : ∃ P, P = ((rows a1 0 a1.length).filter fun x => decide (x.To = 0)).map (·.Number) := ⟨_, rfl⟩
 have hPl : P.length = (a1.length + 1) / 2 := by rw [hP]; exact half a1 _
 rw [← hP]
 show haulagelaw20_BagOwn.j6 k a1 (rows a1 0 a1.length) (rows a1 0 a1.length) P P (some b') a1 = _
 unfold haulagelaw20_BagOwn.j6
 have ew : IntKind.i64.wrap (Int.tdiv (IntKind.i64.wrap ((a1.length : Int) + 1)) 2) = (((a1.length + 1) / 2 : Nat) : Int) := by
  rw [wrS _ (by omega), Int.tdiv_eq_ediv_of_nonneg (by omega), wr (by omega) (by omega)]; omega
 rw [rows_len, if_pos rfl, if_pos rfl, bind_eq (ints_eq hk P P (.inl (by omega))), if_pos (by simp), ew, hPl]
 unfold haulagelaw20_BagOwn.j7
 rw [if_neg (by simp), bind_eq w', rows_len, if_pos rfl]
 obtain ⟨L, l4, l5, l6⟩ := third_loop hk hn hd
 rw [bind_eq l4]
 show haulagelaw20_BagOwn.j10 k a1 _ _ P P (some b') _ L = _
 unfold haulagelaw20_BagOwn.j10
 have hb : ∀ i : Nat, i < L.length → (rd L (i : Int)).length ≤ 1048576 := fun i hi => by rw [rd_eq hi]; exact l6 _ (List.getElem_mem hi)
 have hb2 : ∀ i : Nat, i < (oaM vA L).length → (rd (oaM vA L) (i : Int)).length ≤ 1048576 := fun i hi => by
  rw [oaM_len] at hi
  rw [oaM_rd vA hi]
  simp only [List.length_map, List.length_range]
  exact hb i hi
 rw [bind_eq (own_fill hk (by omega) hb)]
 unfold haulagelaw20_BagOwn.j16
 rw [bind_eq (own_grow hk (by rw [oaM_len]; omega) hb2)]
 unfold haulagelaw20_BagOwn.j22
 rw [bind_eq (own_look hk (by omega) hb)]
 show haulagelaw20_BagOwn.j29 k a1 _ _ P P (some b') _ = _
 unfold haulagelaw20_BagOwn.j29
 rw [bind_eq w', bind_eq (last_loop hk hn hd _)]
 show haulagelaw20_BagOwn.j31 k _ _ P P _ = _
 unfold haulagelaw20_BagOwn.j31
 rw [bind_eq (outer_true hk _ _ _ (by rw [List.length_replicate, rows_len]; omega) (by rw [List.length_replicate, rows_len]; omega) (by rw [List.length_replicate, rows_len]; omega)), if_pos rfl, bind_eq (numbers_true hk P P rfl (by omega))]
end
end Go.Proofs.Ytdlokohmdnkdoaa.G
namespace Go.Proofs.Ytdlokohmdnkdoaa.bagOwn
open Go.ChangeShapes Go.WideShapes Go.ChangeAt Go.RowKit
set_option linter.unusedVariables false
set_option maxRecDepth 100000 in
theorem contract (H : Type) (enc : TypeId × Value → H) (W : World) (base : Nat) (args : Array Value) (ds gs : List (DataW H)) (before : List MemPlace)
  (hval : ∀ (j : Nat) t v, Try.f3.params[j]? = some t → args[j]? = some v → Value.okWide Try.prog W .any base t v)
  (hW : DataW.Whole enc Try.prog Try.f3.params.toList Rows.bagOwnSpec.vars false W args.toList ds gs before) (hk : Rows.uptoSmall H (ds ++ gs) = true) :
  Calls Try.prog 3 args W fun e W' => ∃ v, e = .returned v ∧ Rows.bagOwnSpec.post enc Try.prog Try.f3 false true false false W args v W' := by
 have hW' := hW
 obtain ⟨p, q, hA0, hV, rfl, hfz, hnd⟩ := hW
 have hA : DataW.TrodAll enc Try.prog W 0 (fun _ => true) true Try.f3.params.toList args.toList ds p := hA0
 rw [Try.params3] at hA hval
 obtain ⟨v0, vs0, d0, ds0, p0, q0, hargs, rfl, rfl, h0, r0⟩ := trodAll_cons hA
 obtain ⟨rfl, rfl, rfl⟩ := trodAll_nil r0
 obtain rfl : args = #[v0] := by cases args; simp_all
 obtain ⟨rfl, rfl⟩ := trodVars_none hV
 have k0 := h0
 have lt0 : ∀ x ∈ p0, x.block < W.heap.size := by obtain ⟨m, hm⟩ := k0; exact DataW.trod_lt m _ _ _ hm
 obtain ⟨A0, C0, a0, rfl, s0, b0, o0⟩ := G.arg_keys (okWide_slice Try.underlying22 (hval 0 22 v0 rfl rfl)) h0
 have l0 := G.len_sum (fun x : List Int => x.length + 1) (fun x => by omega) a0
 have hb : Rows.uptoBulkAll [d0] ≤ 1048576 := of_decide_eq_true hk
 simp only [Rows.uptoBulkAll] at hb
 refine (G.haulagelaw20_BagOwn.calls 1099511627776 (m := 1) (c0 := G.c0) (w0 := W) (Nat.lt_succ_self 0) (fun _ _ => Nat.lt_succ_self 0) s0 true (G.BagOwn_true (k := 1099511627776) (Nat.le_refl _) (fun x hx => by have h1 : x.length + 1 ≤ _ := G.mem_sum (fun x : List Int => x.length + 1) hx; omega))).mono fun e W' ⟨c_, he, ev_, _⟩ => ?_
 subst he
 have bel : Below W.heap.size W W' := G.Ev.below ev_
 exact ⟨_, rfl, _, _, _, [], _, [], hW', trodAll_mk1 (shut_bool Try.underlying4 _), (trodAll_cons_mk (Below.trod G.row_laidOut (by kernel_rfl) (of_decide_eq_true (by kernel_rfl)) k0 bel lt0) trodAll_mk0), rfl, bel.frame _, fun h => by cases h⟩
set_option maxRecDepth 100000 in
theorem lifted (os : Os) (started : os.Started) (H : Type) (enc : TypeId × Value → H) (F : Stop.Interp) :
  ReturnsInHanded {} Try.checked os 3 .any ((Rows.OpenSpec.upto Rows.bagOwnSpec).pre6 enc Try.prog Try.f3 Rows.bagOwnUptoRow.domain false) (((Rows.OpenSpec.upto Rows.bagOwnSpec).at F).post enc Try.prog Try.f3 false true false false) := by
 refine returnsInHanded_of_cond (C := Try.checked) (s := Rows.OpenSpec.upto Rows.bagOwnSpec) (k := Rows.uptoSmall) rfl G.row_own started (by kernel_rfl) Try.func3
  (OpenSpec.witness (enc := enc) (C := Try.checked) (s := Rows.OpenSpec.upto Rows.bagOwnSpec) (k := Rows.uptoSmall) rfl false ⟨#[], #[.slice none 0 0], []⟩ 8 (by kernel_rfl) (by kernel_rfl) (by kernel_rfl)
   (x := ([.nil], [], [])) (by kernel_rfl) rfl (by kernel_rfl)) ?_
 intro W base args ds gs before hval hW _ hk _
 exact contract H enc W base args ds gs before hval hW hk
theorem over : Rows.bagOwnUptoRow.holds Try.pinned (Rows.OpenSpec.upto Rows.bagOwnSpec) :=
 OpenClaim.holds_of_cond 3 Try.f3 rfl rfl rfl rfl rfl rfl rfl ⟨rfl, rfl, rfl, rfl, rfl⟩ rfl rfl rfl rfl rfl (by kernel_rfl) Try.func3 (by kernel_rfl)
  (of_decide_eq_true (by kernel_rfl)) (by unfold Func.isWrapper; first | (rw [if_pos (by decide +kernel)]; kernel_rfl) | (rw [if_neg (by decide +kernel)]; exact ⟨rfl, rfl⟩))
  (fun os started H enc _ F => lifted os started H enc F)
theorem proved : Rows.BagOwnUptoSaid := over
end Go.Proofs.Ytdlokohmdnkdoaa.bagOwn
namespace Go.Proofs.Ytdlokohmdnkdoaa
theorem bagOwn_holds : Rows.BagOwnUptoSaid := bagOwn.proved
end Go.Proofs.Ytdlokohmdnkdoaa