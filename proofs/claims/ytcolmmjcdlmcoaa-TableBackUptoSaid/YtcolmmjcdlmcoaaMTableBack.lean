/- The row of 'TableBack', its '..UptoSaid': whatever the input of bulk at most 1048576, the law returns true and the input reads as it did; its walk, its plain law, the row. -/
import Derived.Test.YtcolmmjcdlmcoaaNB
import Derived.Test.YtcolmmjcdlmcoaaNC6
import Derived.Test.YtcolmmjcdlmcoaaNC5
import Derived.Test.YtcolmmjcdlmcoaaNC3
import Derived.Test.YtcolmmjcdlmcoaaNC4
import Derived.Test.YtcolmmjcdlmcoaaNT
import Derived.Test.YtcolmmjcdlmcoaaRows
import Derived.WalkKit
import Derived.ProofKit
import Derived.OpenShut
import Derived.JoinedCond
import Derived.Below
import Derived.ChangeOld
namespace Go.Proofs.Ytcolmmjcdlmcoaa.G
open Go Go.RowKit
set_option linter.unusedVariables false
set_option linter.unusedSimpArgs false
set_option maxRecDepth 100000 in
set_option maxHeartbeats 4000000 in
theorem haulagelaw13_TableBack.calls (k : Nat) {m : Nat} {c0 : Nat → Nat} {w0 : World} {A2 : Option Addr} {C3 : Nat} {A6 : Option Addr} {C7 : Nat} {a1 : List api_Op} {a5 : List api_Op} {a9 : Int} (hm0 : 0 < m) (B0 : CB m c0 w0) (h4 : SL false K_api_Op 0 0 c0 w0 A2 C3 a1) (h8 : SL false K_api_Op 0 0 c0 w0 A6 C7 a5) (r : Bool) (H : haulagelaw13_TableBack.f k a1 a5 a9 = some r) : Calls Try.prog 8 #[.slice A2 a1.length C3, .slice A6 a5.length C7, .int .u8 a9] w0 (fun e w_ => ∃ (c_ : Nat → Nat), e = .returned (.bool r) ∧ Ev (fun x => False) c0 w0 c_ w_ ∧ CB m c_ w_) := by
 unfold haulagelaw13_TableBack.f at H
 have B := B0.mono (show m ≤ m + 8 by omega)
 have E : Ev (fun x => False ∨ m ≤ x) c0 w0 c0 w0 := Ev.refl
 refine enter (N := 163) (l := [.slice A2 a1.length C3, .slice A6 a5.length C7, .int .u8 a9]) Try.func8 rfl rfl (Nat.le_of_ble_eq_true rfl) fun a F => ?_
 refine wp_seq_k fun K10 hK10 => ?_
 refine reg ?_
 refine q_val F rfl rfl (by decide) (r_assign F rfl) fun a F => ?_
 refine nil ?_
 refine hK10 _ _ ?_
 refine wp_seq_k fun K11 hK11 => ?_
 refine wp_seq_k fun K12 hK12 => ?_
 refine reg ?_
 obtain ⟨t13, q14, H⟩ := bind_some H
 refine q_call F rfl rfl (by decide) (r_call F Try.func12 rfl (by kernel_rfl) rfl) (haulagelaw13_awake.calls k (m := m + 8) (by omega) B _ q14) ?_
 rintro e w16 ⟨c15, rfl, E17, B18⟩
 refine ⟨_, rfl, fun a F => ?_⟩
 have B := B18
 have h4 := SL.ev h4 E17 (fun q => q.elim) (fun q => q.elim)
 have h8 := SL.ev h8 E17 (fun q => q.elim) (fun q => q.elim)
 have E := E.trans E17 (fun x q => q.elim)
 refine q_val F rfl rfl (by decide) (r_not F rfl) fun a F => ?_
 refine nil ?_
 refine hK12 _ _ ?_
 by_cases hb20 : t13 = true
 ·have H := (if_pos hb20).symm.trans H
  refine wp_cond_false ((F.ev rfl).trans (congrArg Value.bool (congrArg not hb20))) ?_
  refine wp_skip ?_
  refine hK11 _ _ ?_
  refine wp_seq_k fun K22 hK22 => ?_
  refine reg ?_
  refine q_val F rfl rfl (by decide) (r_move F rfl) fun a F => ?_
  obtain ⟨t23, q24, H⟩ := bind_some H
  refine q_call F rfl rfl (by decide) (r_call F Try.func13 rfl (by kernel_rfl) rfl) (haulagelaw13_made.calls k (m := m + 8) (by omega) B h4 (by omega) (m + 1) (by omega) _ q24) ?_
  rintro e w26 ⟨c25, p29, rfl, E27, B28, h30⟩
  refine ⟨_, rfl, fun a F => ?_⟩
  have B := B28
  have h4 := SL.ev h4 E27 (fun q => q.elim) (fun q => q.elim)
  have h8 := SL.ev h8 E27 (fun q => q.elim) (fun q => q.elim)
  have E := E.trans E27 (fun x q => q.elim)
  refine q_val F rfl rfl (by decide) (r_assign F rfl) fun a F => ?_
  refine nil ?_
  refine hK22 _ _ ?_
  refine wp_seq_k fun K32 hK32 => ?_
  refine reg ?_
  refine q_val F rfl rfl (by decide) (r_move F rfl) fun a F => ?_
  obtain ⟨t33, q34, H⟩ := bind_some H
  refine q_call F rfl rfl (by decide) (r_call F Try.func20 rfl (by kernel_rfl) rfl) (table_Table_Bytes.calls k (m := m + 8) (by omega) B h30 (by omega) _ q34) ?_
  rintro e w36 ⟨c35, A39, C40, rfl, E37, B38, h41⟩
  refine ⟨_, rfl, fun a F => ?_⟩
  have B := B38
  have h4 := SL.ev h4 E37 (fun q => q.elim) (fun q => q.elim)
  have h8 := SL.ev h8 E37 (fun q => q.elim) (fun q => q.elim)
  have h30 := TB.ev h30 E37 (fun q => q.elim) (fun q => q.elim)
  have E := E.trans E37 (fun x q => q.elim)
  refine q_val F rfl rfl (by decide) (r_assign F rfl) fun a F => ?_
  refine nil ?_
  refine hK32 _ _ ?_
  refine wp_seq_k fun K43 hK43 => ?_
  refine reg ?_
  refine q_val F rfl rfl (by decide) (r_move F rfl) fun a F => ?_
  obtain ⟨t44, q45, H⟩ := bind_some H
  refine q_call F rfl rfl (by decide) (r_call F Try.func29 rfl (by kernel_rfl) rfl) (table_Read.calls k (m := m + 8) (by omega) B h41 (by omega) (m + 2) (by omega) _ q45) ?_
  rintro e w47 ⟨c46, p50, rfl, E48, B49, h51⟩
  refine ⟨_, rfl, fun a F => ?_⟩
  have B := B49
  have h4 := SL.ev h4 E48 (fun q => q.elim) (fun q => q.elim)
  have h8 := SL.ev h8 E48 (fun q => q.elim) (fun q => q.elim)
  have h30 := TB.ev h30 E48 (fun q => q.elim) (fun q => q.elim)
  have h41 := SL.ev h41 E48 (fun q => q.elim) (fun q => q.elim)
  have E := E.trans E48 (fun x q => q.elim)
  refine q_val F rfl rfl (by decide) (r_move F rfl) fun a F => ?_
  refine q_val F rfl rfl (by decide) (r_extract F rfl rfl) fun a F => ?_
  refine q_val F rfl rfl (by decide) (r_extract F rfl rfl) fun a F => ?_
  refine q_val F rfl rfl (by decide) (r_assign F rfl) fun a F => ?_
  refine q_val F rfl rfl (by decide) (r_assign F rfl) fun a F => ?_
  refine nil ?_
  refine hK43 _ _ ?_
  refine wp_seq_k fun K53 hK53 => ?_
  refine wp_seq_k fun K54 hK54 => ?_
  have J73 : ∀ (c74 : Nat → Nat) (w75 : World) (a : Act) (b72 : Bool), Fr a 163 [(1, .slice A6 a5.length C7), (2, .int .u8 a9), (7, .pointer p29), (8, .slice A39 t33.length C40), (9, .pointer p50), (53, .bool b72)] → Ev (fun x => False ∨ m ≤ x) c0 w0 c74 w75 → CB (m + 8) c74 w75 → SL false K_api_Op 0 0 c74 w75 A6 C7 a5 → TB (m + 1) c74 w75 p29 t23 → SL false (Kint .u8) 0 0 c74 w75 A39 C40 t33 → TB (m + 2) c74 w75 p50 t44.1 → haulagelaw13_TableBack.j1 k a5 a9 t23 t33 t44 b72 = some r → K54 a w75 := by
   intro c74 w75 a b72 F E B h8 h30 h41 h51 H
   unfold haulagelaw13_TableBack.j1 at H
   refine hK54 _ _ ?_
   by_cases hb76 : b72 = true
   ·have H := (if_pos hb76).symm.trans H
    refine wp_cond_true ((F.ev rfl).trans (congrArg Value.bool hb76)) ?_
    refine wp_seq_k fun K77 hK77 => ?_
    refine reg ?_
    refine q_val F rfl rfl (by decide) (r_assign F rfl) fun a F => ?_
    refine nil ?_
    refine hK77 _ _ ?_
    refine wp_ret ?_
    refine thenR ?_
    have H := Option.some.inj H
    subst H
    refine out1 F rfl rfl ?_
    exact ⟨fun b_ => (fun x_ => if x_ < m then x_ else 0) (c74 b_), rfl, E.leave B0 (fun x_ => if x_ < m then x_ else 0) (by intro x_ hx_; show (if x_ < m then x_ else 0) = x_; ((repeat' split) <;> omega)), (fun b_ hb_ => by show (if (c74 b_) < m then (c74 b_) else 0) < m; ((repeat' split) <;> omega))⟩
   ·have H := (if_neg hb76).symm.trans H
    refine wp_cond_false ((F.ev rfl).trans (congrArg Value.bool (bfalse hb76))) ?_
    refine wp_skip ?_
    refine hK53 _ _ ?_
    refine wp_seq_k fun K78 hK78 => ?_
    refine wp_seq_k fun K79 hK79 => ?_
    refine reg ?_
    refine q_val F rfl rfl (by decide) (r_assign F rfl) fun a F => ?_
    refine nil ?_
    refine hK79 _ _ ?_
    refine wp_block ?_
    obtain ⟨x90, HL, HR89⟩ := bind_some H
    have J124 : ∀ (c125 : Nat → Nat) (w126 : World) (a : Act), Fr a 163 [(1, .slice A6 a5.length C7), (2, .int .u8 a9), (7, .pointer p29), (8, .slice A39 t33.length C40), (9, .pointer p50)] → Ev (fun x => False ∨ m ≤ x) c0 w0 c125 w126 → CB (m + 8) c125 w126 → SL false K_api_Op 0 0 c125 w126 A6 C7 a5 → TB (m + 1) c125 w126 p29 t23 → SL false (Kint .u8) 0 0 c125 w126 A39 C40 t33 → TB (m + 2) c125 w126 p50 t44.1 → haulagelaw13_TableBack.j5 k a5 a9 t23 t33 t44 = some r → K78 a w126 := by
     intro c125 w126 a  F E B h8 h30 h41 h51 H
     unfold haulagelaw13_TableBack.j5 at H
     refine hK78 _ _ ?_
     refine wp_seq_k fun K127 hK127 => ?_
     refine reg ?_
     refine q_eff F rfl rfl (by decide) (e_buildSlice (n := 0) (e := 5) (c := c125) (k := (Kint .u8)) (i := 0) F [] [] ([] : List Int) (by exact trivial) (fun w => by kernel_rfl) rfl (by decide) rfl trivial (fun q => q) (m + 4)) ?_
     rintro v w129 a ⟨c128, A130, C131, rfl, E132, h133, B134⟩ F
     have B := B134 _ B (by omega)
     have h8 := SL.ev h8 E132 (fun q => q.elim) (fun q => q.elim)
     have h30 := TB.ev h30 E132 (fun q => q.elim) (fun q => q.elim)
     have h41 := SL.ev h41 E132 (fun q => q.elim) (fun q => q.elim)
     have h51 := TB.ev h51 E132 (fun q => q.elim) (fun q => q.elim)
     have E := E.trans E132 (fun x q => q.elim)
     refine q_val F rfl rfl (by decide) (r_move F rfl) fun a F => ?_
     obtain ⟨g135, H⟩ := ifN H
     refine q_eff F rfl rfl (by decide) (e_append (k := (Kint .u8)) (xs := []) (ys := t33) (c := c128) (j := (m + 4)) (i := 0) F et_23 rfl rfl h133 h41 (by simpa using g135) (by have g_ := g135; unfold maxLen; simp at g_ ⊢; omega) (by omega)) ?_
     rintro v w137 a ⟨c136, A138, C139, rfl, E140, h141, B142⟩ F
     have B := B142 _ B (by omega)
     have h8 := SL.ev h8 E140 (by show ¬ (0 = m + 4); omega) (by show ¬ (0 = m + 4); omega)
     have h30 := TB.ev h30 E140 (by show ¬ (m + 1 = m + 4); omega) (by show ¬ (0 = m + 4); omega)
     have h41 := SL.ev h41 E140 (by show ¬ (0 = m + 4); omega) (by show ¬ (0 = m + 4); omega)
     have h51 := TB.ev h51 E140 (by show ¬ (m + 2 = m + 4); omega) (by show ¬ (0 = m + 4); omega)
     have E := E.trans E140 (fun x q => by replace q : x = m + 4 := q; show False ∨ m ≤ x; omega)
     refine q_val F rfl rfl (by decide) (r_move F rfl) fun a F => ?_
     refine q_eff F rfl rfl (by decide) (e_buildSlice (n := 1) (e := 5) (c := c136) (k := (Kint .u8)) (i := 0) F [(0, .int .u8 a9)] [.int .u8 a9] ([a9] : List Int) (by exact ⟨rfl, rfl, trivial⟩) (fun w => by kernel_rfl) rfl (by decide) rfl ⟨rfl, trivial⟩ (fun q => q) 0) ?_
     rintro v w144 a ⟨c143, A145, C146, rfl, E147, h148, B149⟩ F
     have B := B149 _ B (by omega)
     have h8 := SL.ev h8 E147 (fun q => q.elim) (fun q => q.elim)
     have h30 := TB.ev h30 E147 (fun q => q.elim) (fun q => q.elim)
     have h41 := SL.ev h41 E147 (fun q => q.elim) (fun q => q.elim)
     have h51 := TB.ev h51 E147 (fun q => q.elim) (fun q => q.elim)
     have h141 := SL.ev h141 E147 (fun q => q.elim) (fun q => q.elim)
     have E := E.trans E147 (fun x q => q.elim)
     obtain ⟨g150, H⟩ := ifN H
     refine q_eff F rfl rfl (by decide) (e_append (k := (Kint .u8)) (xs := ([] ++ t33)) (ys := [a9]) (c := c143) (j := (m + 4)) (i := 0) F et_23 rfl rfl h141 h148 (by simpa using g150) (by have g_ := g150; unfold maxLen; simp at g_ ⊢; omega) (by omega)) ?_
     rintro v w152 a ⟨c151, A153, C154, rfl, E155, h156, B157⟩ F
     have B := B157 _ B (by omega)
     have h8 := SL.ev h8 E155 (by show ¬ (0 = m + 4); omega) (by show ¬ (0 = m + 4); omega)
     have h30 := TB.ev h30 E155 (by show ¬ (m + 1 = m + 4); omega) (by show ¬ (0 = m + 4); omega)
     have h41 := SL.ev h41 E155 (by show ¬ (0 = m + 4); omega) (by show ¬ (0 = m + 4); omega)
     have h51 := TB.ev h51 E155 (by show ¬ (m + 2 = m + 4); omega) (by show ¬ (0 = m + 4); omega)
     have h148 := SL.ev h148 E155 (by show ¬ (0 = m + 4); omega) (by show ¬ (0 = m + 4); omega)
     have E := E.trans E155 (fun x q => by replace q : x = m + 4 := q; show False ∨ m ≤ x; omega)
     obtain ⟨t158, q159, H⟩ := bind_some H
     refine q_call F rfl rfl (by decide) (r_call F Try.func29 rfl (by kernel_rfl) rfl) (table_Read.calls k (m := m + 8) (by omega) B h156.r (by omega) (m + 5) (by omega) _ q159) ?_
     rintro e w161 ⟨c160, p164, rfl, E162, B163, h165⟩
     refine ⟨_, rfl, fun a F => ?_⟩
     have B := B163
     have h8 := SL.ev h8 E162 (fun q => q.elim) (fun q => q.elim)
     have h30 := TB.ev h30 E162 (fun q => q.elim) (fun q => q.elim)
     have h41 := SL.ev h41 E162 (fun q => q.elim) (fun q => q.elim)
     have h51 := TB.ev h51 E162 (fun q => q.elim) (fun q => q.elim)
     have h148 := SL.ev h148 E162 (fun q => q.elim) (fun q => q.elim)
     have h156 := SL.ev h156 E162 (fun q => q.elim) (fun q => q.elim)
     have E := E.trans E162 (fun x q => q.elim)
     refine q_val F rfl rfl (by decide) (r_move F rfl) fun a F => ?_
     refine q_val F rfl rfl (by decide) (r_extract F rfl rfl) fun a F => ?_
     refine q_val F rfl rfl (by decide) (r_extract F rfl rfl) fun a F => ?_
     refine q_val F rfl rfl (by decide) (r_assign F rfl) fun a F => ?_
     refine q_val F rfl rfl (by decide) (r_assign F rfl) fun a F => ?_
     refine nil ?_
     refine hK127 _ _ ?_
     refine wp_seq_k fun K167 hK167 => ?_
     refine wp_seq_k fun K168 hK168 => ?_
     have J171 : ∀ (c172 : Nat → Nat) (w173 : World) (a : Act) (b170 : Bool), Fr a 163 [(1, .slice A6 a5.length C7), (7, .pointer p29), (9, .pointer p50), (92, .bool b170)] → Ev (fun x => False ∨ m ≤ x) c0 w0 c172 w173 → CB (m + 8) c172 w173 → SL false K_api_Op 0 0 c172 w173 A6 C7 a5 → TB (m + 1) c172 w173 p29 t23 → TB (m + 2) c172 w173 p50 t44.1 → haulagelaw13_TableBack.j6 k a5 t23 t44 b170 = some r → K168 a w173 := by
      intro c172 w173 a b170 F E B h8 h30 h51 H
      unfold haulagelaw13_TableBack.j6 at H
      refine hK168 _ _ ?_
      by_cases hb174 : b170 = true
      ·have H := (if_pos hb174).symm.trans H
       refine wp_cond_true ((F.ev rfl).trans (congrArg Value.bool hb174)) ?_
       refine wp_seq_k fun K175 hK175 => ?_
       refine reg ?_
       refine q_val F rfl rfl (by decide) (r_assign F rfl) fun a F => ?_
       refine nil ?_
       refine hK175 _ _ ?_
       refine wp_ret ?_
       refine thenR ?_
       have H := Option.some.inj H
       subst H
       refine out1 F rfl rfl ?_
       exact ⟨fun b_ => (fun x_ => if x_ < m then x_ else 0) (c172 b_), rfl, E.leave B0 (fun x_ => if x_ < m then x_ else 0) (by intro x_ hx_; show (if x_ < m then x_ else 0) = x_; ((repeat' split) <;> omega)), (fun b_ hb_ => by show (if (c172 b_) < m then (c172 b_) else 0) < m; ((repeat' split) <;> omega))⟩
      ·have H := (if_neg hb174).symm.trans H
       refine wp_cond_false ((F.ev rfl).trans (congrArg Value.bool (bfalse hb174))) ?_
       refine wp_skip ?_
       refine hK167 _ _ ?_
       refine wp_seq_k fun K176 hK176 => ?_
       refine wp_seq_k fun K177 hK177 => ?_
       refine reg ?_
       refine q_val F rfl rfl (by decide) (r_assign F rfl) fun a F => ?_
       refine nil ?_
       refine hK177 _ _ ?_
       refine wp_block ?_
       obtain ⟨x335, HL, HR334⟩ := bind_some H
       have J461 : ∀ (c462 : Nat → Nat) (w463 : World) (a : Act) (o458 : Option Tab) (o460 : Option Tab), Fr a 163 [(7, .pointer p29), (9, .pointer p50)] → Ev (fun x => False ∨ m ≤ x) c0 w0 c462 w463 → CB (m + 8) c462 w463 → TB (m + 1) c462 w463 p29 o458 → TB (m + 2) c462 w463 p50 o460 → haulagelaw13_TableBack.j10 k o458 o460 = some r → K176 a w463 := by
        intro c462 w463 a o458 o460 F E B h457 h459 H
        unfold haulagelaw13_TableBack.j10 at H
        refine hK176 _ _ ?_
        refine wp_seq_k fun K464 hK464 => ?_
        refine reg ?_
        refine q_val F rfl rfl (by decide) (r_move F rfl) fun a F => ?_
        obtain ⟨t465, q466, H⟩ := bind_some H
        refine q_call F rfl rfl (by decide) (r_call F Try.func20 rfl (by kernel_rfl) rfl) (table_Table_Bytes.calls k (m := m + 8) (by omega) B h457 (by omega) _ q466) ?_
        rintro e w468 ⟨c467, A471, C472, rfl, E469, B470, h473⟩
        refine ⟨_, rfl, fun a F => ?_⟩
        have B := B470
        have h457 := TB.ev h457 E469 (fun q => q.elim) (fun q => q.elim)
        have h459 := TB.ev h459 E469 (fun q => q.elim) (fun q => q.elim)
        have E := E.trans E469 (fun x q => q.elim)
        refine q_val F rfl rfl (by decide) (r_move F rfl) fun a F => ?_
        obtain ⟨t475, q476, H⟩ := bind_some H
        refine q_call F rfl rfl (by decide) (r_call F Try.func20 rfl (by kernel_rfl) rfl) (table_Table_Bytes.calls k (m := m + 8) (by omega) B h459 (by omega) _ q476) ?_
        rintro e w478 ⟨c477, A481, C482, rfl, E479, B480, h483⟩
        refine ⟨_, rfl, fun a F => ?_⟩
        have B := B480
        have h457 := TB.ev h457 E479 (fun q => q.elim) (fun q => q.elim)
        have h459 := TB.ev h459 E479 (fun q => q.elim) (fun q => q.elim)
        have h473 := SL.ev h473 E479 (fun q => q.elim) (fun q => q.elim)
        have E := E.trans E479 (fun x q => q.elim)
        obtain ⟨t485, q486, H⟩ := bind_some H
        refine q_call F rfl rfl (by decide) (r_call F Try.func18 rfl (by kernel_rfl) rfl) (haulagelaw13_same.calls k (m := m + 8) (by omega) B h473 h483 _ q486) ?_
        rintro e w488 ⟨c487, rfl, E489, B490⟩
        refine ⟨_, rfl, fun a F => ?_⟩
        have B := B490
        have h457 := TB.ev h457 E489 (fun q => q.elim) (fun q => q.elim)
        have h459 := TB.ev h459 E489 (fun q => q.elim) (fun q => q.elim)
        have h473 := SL.ev h473 E489 (fun q => q.elim) (fun q => q.elim)
        have h483 := SL.ev h483 E489 (fun q => q.elim) (fun q => q.elim)
        have E := E.trans E489 (fun x q => q.elim)
        refine q_val F rfl rfl (by decide) (r_assign F rfl) fun a F => ?_
        refine nil ?_
        refine hK464 _ _ ?_
        refine wp_ret ?_
        have H := Option.some.inj H
        subst H
        refine out1 F rfl rfl ?_
        exact ⟨fun b_ => (fun x_ => if x_ < m then x_ else 0) (c487 b_), rfl, E.leave B0 (fun x_ => if x_ < m then x_ else 0) (by intro x_ hx_; show (if x_ < m then x_ else 0) = x_; ((repeat' split) <;> omega)), (fun b_ hb_ => by show (if (c487 b_) < m then (c487 b_) else 0) < m; ((repeat' split) <;> omega))⟩
       refine loop_fuel (I := fun n a w => ∃ (o321 : Option Tab) (o324 : Option Tab) (i325 : Int) (c : Nat → Nat), Fr a 163 [(1, .slice A6 a5.length C7), (7, .pointer p29), (9, .pointer p50), (16, .int .i64 i325)] ∧ Ev (fun x => False ∨ m ≤ x) c0 w0 c w ∧ CB (m + 8) c w ∧ SL false K_api_Op 0 0 c w A6 C7 a5 ∧ TB (m + 1) c w p29 o321 ∧ TB (m + 2) c w p50 o324 ∧ loop (fun (s_ : (Option Tab) × (Option Tab) × Int) => haulagelaw13_TableBack.b9 k a5 s_.1 s_.2.1 s_.2.2) n (o321, o324, i325) = some x335) (k := k) ⟨t23, t44.1, 0, c172, F.sub ⟨rfl, rfl, rfl, rfl, trivial⟩, E, B, h8, h30, h51, HL⟩ ?_
       clear HL H E F B
       intro n332 X328 hX328 a w327 ⟨o321, o324, i325, c326, F, E, B, h8, h320, h323, HL⟩
       obtain ⟨n333, ctl331, rfl, HB, HN329, HD330⟩ := loop_some HL
       have H : haulagelaw13_TableBack.b9 k a5 o321 o324 i325 = some ctl331 := HB
       clear HB HL
       unfold haulagelaw13_TableBack.b9 at H
       refine wp_seq_k fun K336 hK336 => ?_
       refine wp_seq_k fun K337 hK337 => ?_
       refine reg ?_
       refine q_val F rfl rfl (by decide) (r_move F rfl) fun a F => ?_
       refine q_val F rfl rfl (by decide) (r_move F rfl) fun a F => ?_
       refine q_val F rfl rfl (by decide) (r_lensl F Try.underlying22 rfl) fun a F => ?_
       refine q_val F rfl rfl (by decide) (r_lss F rfl rfl) fun a F => ?_
       refine nil ?_
       refine hK337 _ _ ?_
       by_cases hb338 : i325 < (a5.length : Int)
       ·have H := (if_pos hb338).symm.trans H
        refine wp_cond_true ((F.ev rfl).trans (congrArg Value.bool (decide_eq_true hb338))) ?_
        refine wp_skip ?_
        refine hK336 _ _ ?_
        refine wp_seq_k fun K339 hK339 => ?_
        refine wp_block ?_
        refine wp_seq_k fun K340 hK340 => ?_
        refine reg ?_
        refine q_val F rfl rfl (by decide) (r_move F rfl) fun a F => ?_
        refine q_val F rfl rfl (by decide) (r_move F rfl) fun a F => ?_
        refine q_val F rfl rfl (by decide) (r_move F rfl) fun a F => ?_
        obtain ⟨g341, H⟩ := ifN H
        obtain ⟨ad342, cs343, e344, h345, r346⟩ := SL.at h8 i325 g341.1 g341.2
        obtain ⟨A347, C348, A350, C351, rfl, h349, h352⟩ := r346
        have h349 := SL.fl (i' := 0) h349 (fun q => q)
        have h352 := SL.fl (i' := 0) h352 (fun q => q)
        obtain ⟨qa353, qqa353⟩ : ∃ q, q = (ad342.add (i325.toNat * 4)) := ⟨_, rfl⟩
        have h345 : AT false 0 c326 w327 qa353 [.int .i64 ((rd a5 i325).Kind), .slice A347 ((rd a5 i325).Key).length C348, .slice A350 ((rd a5 i325).Value).length C351, .int .i64 ((rd a5 i325).Rev)] := by rw [qqa353]; exact h345
        refine q_val F rfl rfl (by decide) (r_indexAddr' F Try.underlying22 sz_33 rfl rfl g341.1 g341.2 e344 qqa353) fun a F => ?_
        refine q_val F rfl rfl (by decide) (r_loads (cs := [.int .i64 ((rd a5 i325).Kind), .slice A347 ((rd a5 i325).Key).length C348, .slice A350 ((rd a5 i325).Value).length C351, .int .i64 ((rd a5 i325).Rev)]) F rfl ag_33 sz_33 h345) fun a F => ?_
        obtain ⟨t208, q209, H⟩ := bind_some H
        refine q_call F rfl rfl (by decide) (r_call F Try.func31 rfl (by kernel_rfl) rfl) (table_Table_After.calls k (m := m + 8) (by omega) B h320 h349 h352 (by omega) _ q209) ?_
        rintro e w356 ⟨c355, rfl, E357, B358⟩
        refine ⟨_, rfl, fun a F => ?_⟩
        have B := B358
        have h8 := SL.ev h8 E357 (fun q => q.elim) (fun q => q.elim)
        have h320 := TB.ev h320 E357 (fun q => q.elim) (fun q => q.elim)
        have h323 := TB.ev h323 E357 (fun q => q.elim) (fun q => q.elim)
        have h349 := SL.ev h349 E357 (fun q => q.elim) (fun q => q.elim)
        have h352 := SL.ev h352 E357 (fun q => q.elim) (fun q => q.elim)
        have h345 := AT.ev h345 E357 (fun q => q.elim)
        have E := E.trans E357 (fun x q => q.elim)
        refine q_val F rfl rfl (by decide) (r_move F rfl) fun a F => ?_
        refine q_val F rfl rfl (by decide) (r_extract F rfl rfl) fun a F => ?_
        refine q_val F rfl rfl (by decide) (r_extract F rfl rfl) fun a F => ?_
        refine q_val F rfl rfl (by decide) (r_assign F rfl) fun a F => ?_
        refine q_val F rfl rfl (by decide) (r_assign F rfl) fun a F => ?_
        refine nil ?_
        refine hK340 _ _ ?_
        refine wp_seq_k fun K360 hK360 => ?_
        refine reg ?_
        refine q_val F rfl rfl (by decide) (r_move F rfl) fun a F => ?_
        refine q_val F rfl rfl (by decide) (r_move F rfl) fun a F => ?_
        refine q_val F rfl rfl (by decide) (r_move F rfl) fun a F => ?_
        obtain ⟨g361, H⟩ := ifN H
        obtain ⟨ad362, cs363, e364, h365, r366⟩ := SL.at h8 i325 g361.1 g361.2
        obtain ⟨A367, C368, A370, C371, rfl, h369, h372⟩ := r366
        have h369 := SL.fl (i' := 0) h369 (fun q => q)
        have h372 := SL.fl (i' := 0) h372 (fun q => q)
        obtain ⟨qa373, qqa373⟩ : ∃ q, q = (ad362.add (i325.toNat * 4)) := ⟨_, rfl⟩
        have h365 : AT false 0 c355 w356 qa373 [.int .i64 ((rd a5 i325).Kind), .slice A367 ((rd a5 i325).Key).length C368, .slice A370 ((rd a5 i325).Value).length C371, .int .i64 ((rd a5 i325).Rev)] := by rw [qqa373]; exact h365
        refine q_val F rfl rfl (by decide) (r_indexAddr' F Try.underlying22 sz_33 rfl rfl g361.1 g361.2 e364 qqa373) fun a F => ?_
        refine q_val F rfl rfl (by decide) (r_loads (cs := [.int .i64 ((rd a5 i325).Kind), .slice A367 ((rd a5 i325).Key).length C368, .slice A370 ((rd a5 i325).Value).length C371, .int .i64 ((rd a5 i325).Rev)]) F rfl ag_33 sz_33 h365) fun a F => ?_
        obtain ⟨t230, q231, H⟩ := bind_some H
        refine q_call F rfl rfl (by decide) (r_call F Try.func14 rfl (by kernel_rfl) rfl) (table_Table_Do.calls k (m := m + 8) (by omega) B h320 h369 h372 (by omega) _ q231) ?_
        rintro e w376 ⟨c375, A379, C380, A382, C383, rfl, E377, B378, h381, h384, h385⟩
        refine ⟨_, rfl, fun a F => ?_⟩
        have B := B378
        have h8 := SL.ev h8 E377 (by show ¬ (0 = m + 1); omega) (by show ¬ (0 = m + 1); omega)
        have h323 := TB.ev h323 E377 (by show ¬ (m + 2 = m + 1); omega) (by show ¬ (0 = m + 1); omega)
        have h349 := SL.ev h349 E377 (by show ¬ (0 = m + 1); omega) (by show ¬ (0 = m + 1); omega)
        have h352 := SL.ev h352 E377 (by show ¬ (0 = m + 1); omega) (by show ¬ (0 = m + 1); omega)
        have h345 := AT.ev h345 E377 (by show ¬ (0 = m + 1); omega)
        have h369 := SL.ev h369 E377 (by show ¬ (0 = m + 1); omega) (by show ¬ (0 = m + 1); omega)
        have h372 := SL.ev h372 E377 (by show ¬ (0 = m + 1); omega) (by show ¬ (0 = m + 1); omega)
        have h365 := AT.ev h365 E377 (by show ¬ (0 = m + 1); omega)
        have E := E.trans E377 (fun x q => by replace q : x = m + 1 := q; show False ∨ m ≤ x; omega)
        refine q_val F rfl rfl (by decide) (r_move F rfl) fun a F => ?_
        refine q_val F rfl rfl (by decide) (r_extract F rfl rfl) fun a F => ?_
        refine q_val F rfl rfl (by decide) (r_extract F rfl rfl) fun a F => ?_
        refine q_eff F rfl rfl (by decide) (e_alloc F zv_28 c375 (m + 6)) ?_
        rintro v w388 a ⟨c387, qa246, rfl, E389, h248, B390⟩ F
        have B := B390 _ B (by omega)
        have h8 := SL.ev h8 E389 (fun q => q.elim) (fun q => q.elim)
        have h323 := TB.ev h323 E389 (fun q => q.elim) (fun q => q.elim)
        have h349 := SL.ev h349 E389 (fun q => q.elim) (fun q => q.elim)
        have h352 := SL.ev h352 E389 (fun q => q.elim) (fun q => q.elim)
        have h345 := AT.ev h345 E389 (fun q => q.elim)
        have h369 := SL.ev h369 E389 (fun q => q.elim) (fun q => q.elim)
        have h372 := SL.ev h372 E389 (fun q => q.elim) (fun q => q.elim)
        have h365 := AT.ev h365 E389 (fun q => q.elim)
        have h381 := SL.ev h381 E389 (fun q => q.elim) (fun q => q.elim)
        have h384 := SL.ev h384 E389 (fun q => q.elim) (fun q => q.elim)
        have h385 := TB.ev h385 E389 (fun q => q.elim) (fun q => q.elim)
        have E := E.trans E389 (fun x q => q.elim)
        have h248 : AT true (m + 6) c387 w388 qa246 [.bool false, .slice none 0 0, .slice none 0 0, .int .i64 0, .int .i64 0] := h248
        refine q_eff0 F rfl rfl (e_storeN0 (us := [.bool t230.1.Done, .slice A379 t230.1.Key.length C380, .slice A382 t230.1.Value.length C383, .int .i64 t230.1.Rev, .int .i64 t230.1.At]) F rfl rfl sz_28 h248 (Nat.le_of_ble_eq_true rfl) (one_all rfl)) ?_
        rintro w391 a ⟨E392, h248, Z393⟩ F
        have B := B.size Z393
        have h8 := SL.ev h8 E392 (by show ¬ (0 = m + 6); omega) (by show ¬ (0 = m + 6); omega)
        have h323 := TB.ev h323 E392 (by show ¬ (m + 2 = m + 6); omega) (by show ¬ (0 = m + 6); omega)
        have h349 := SL.ev h349 E392 (by show ¬ (0 = m + 6); omega) (by show ¬ (0 = m + 6); omega)
        have h352 := SL.ev h352 E392 (by show ¬ (0 = m + 6); omega) (by show ¬ (0 = m + 6); omega)
        have h345 := AT.ev h345 E392 (by show ¬ (0 = m + 6); omega)
        have h369 := SL.ev h369 E392 (by show ¬ (0 = m + 6); omega) (by show ¬ (0 = m + 6); omega)
        have h372 := SL.ev h372 E392 (by show ¬ (0 = m + 6); omega) (by show ¬ (0 = m + 6); omega)
        have h365 := AT.ev h365 E392 (by show ¬ (0 = m + 6); omega)
        have h381 := SL.ev h381 E392 (by show ¬ (0 = m + 6); omega) (by show ¬ (0 = m + 6); omega)
        have h384 := SL.ev h384 E392 (by show ¬ (0 = m + 6); omega) (by show ¬ (0 = m + 6); omega)
        have h385 := TB.ev h385 E392 (by show ¬ (m + 1 = m + 6); omega) (by show ¬ (0 = m + 6); omega)
        have E := E.trans E392 (fun x q => by replace q : x = m + 6 := q; show False ∨ m ≤ x; omega)
        have h248 : AT true (m + 6) c387 w391 qa246 [.bool t230.1.Done, .slice A379 t230.1.Key.length C380, .slice A382 t230.1.Value.length C383, .int .i64 t230.1.Rev, .int .i64 t230.1.At] := h248
        refine q_val F rfl rfl (by decide) (r_assign F rfl) fun a F => ?_
        refine nil ?_
        refine hK360 _ _ ?_
        refine wp_seq_k fun K394 hK394 => ?_
        refine reg ?_
        refine q_val F rfl rfl (by decide) (r_move F rfl) fun a F => ?_
        refine q_val F rfl rfl (by decide) (r_move F rfl) fun a F => ?_
        refine q_val F rfl rfl (by decide) (r_move F rfl) fun a F => ?_
        obtain ⟨g395, H⟩ := ifN H
        obtain ⟨ad396, cs397, e398, h399, r400⟩ := SL.at h8 i325 g395.1 g395.2
        obtain ⟨A401, C402, A404, C405, rfl, h403, h406⟩ := r400
        have h403 := SL.fl (i' := 0) h403 (fun q => q)
        have h406 := SL.fl (i' := 0) h406 (fun q => q)
        obtain ⟨qa407, qqa407⟩ : ∃ q, q = (ad396.add (i325.toNat * 4)) := ⟨_, rfl⟩
        have h399 : AT false 0 c387 w391 qa407 [.int .i64 ((rd a5 i325).Kind), .slice A401 ((rd a5 i325).Key).length C402, .slice A404 ((rd a5 i325).Value).length C405, .int .i64 ((rd a5 i325).Rev)] := by rw [qqa407]; exact h399
        refine q_val F rfl rfl (by decide) (r_indexAddr' F Try.underlying22 sz_33 rfl rfl g395.1 g395.2 e398 qqa407) fun a F => ?_
        refine q_val F rfl rfl (by decide) (r_loads (cs := [.int .i64 ((rd a5 i325).Kind), .slice A401 ((rd a5 i325).Key).length C402, .slice A404 ((rd a5 i325).Value).length C405, .int .i64 ((rd a5 i325).Rev)]) F rfl ag_33 sz_33 h399) fun a F => ?_
        obtain ⟨t269, q270, H⟩ := bind_some H
        refine q_call F rfl rfl (by decide) (r_call F Try.func14 rfl (by kernel_rfl) rfl) (table_Table_Do.calls k (m := m + 8) (by omega) B h323 h403 h406 (by omega) _ q270) ?_
        rintro e w410 ⟨c409, A413, C414, A416, C417, rfl, E411, B412, h415, h418, h419⟩
        refine ⟨_, rfl, fun a F => ?_⟩
        have B := B412
        have h8 := SL.ev h8 E411 (by show ¬ (0 = m + 2); omega) (by show ¬ (0 = m + 2); omega)
        have h349 := SL.ev h349 E411 (by show ¬ (0 = m + 2); omega) (by show ¬ (0 = m + 2); omega)
        have h352 := SL.ev h352 E411 (by show ¬ (0 = m + 2); omega) (by show ¬ (0 = m + 2); omega)
        have h345 := AT.ev h345 E411 (by show ¬ (0 = m + 2); omega)
        have h369 := SL.ev h369 E411 (by show ¬ (0 = m + 2); omega) (by show ¬ (0 = m + 2); omega)
        have h372 := SL.ev h372 E411 (by show ¬ (0 = m + 2); omega) (by show ¬ (0 = m + 2); omega)
        have h365 := AT.ev h365 E411 (by show ¬ (0 = m + 2); omega)
        have h381 := SL.ev h381 E411 (by show ¬ (0 = m + 2); omega) (by show ¬ (0 = m + 2); omega)
        have h384 := SL.ev h384 E411 (by show ¬ (0 = m + 2); omega) (by show ¬ (0 = m + 2); omega)
        have h385 := TB.ev h385 E411 (by show ¬ (m + 1 = m + 2); omega) (by show ¬ (0 = m + 2); omega)
        have h248 := AT.ev h248 E411 (by show ¬ (m + 6 = m + 2); omega)
        have h403 := SL.ev h403 E411 (by show ¬ (0 = m + 2); omega) (by show ¬ (0 = m + 2); omega)
        have h406 := SL.ev h406 E411 (by show ¬ (0 = m + 2); omega) (by show ¬ (0 = m + 2); omega)
        have h399 := AT.ev h399 E411 (by show ¬ (0 = m + 2); omega)
        have E := E.trans E411 (fun x q => by replace q : x = m + 2 := q; show False ∨ m ≤ x; omega)
        refine q_val F rfl rfl (by decide) (r_move F rfl) fun a F => ?_
        refine q_val F rfl rfl (by decide) (r_extract F rfl rfl) fun a F => ?_
        refine q_val F rfl rfl (by decide) (r_extract F rfl rfl) fun a F => ?_
        refine q_eff F rfl rfl (by decide) (e_alloc F zv_28 c409 (m + 7)) ?_
        rintro v w422 a ⟨c421, qa285, rfl, E423, h287, B424⟩ F
        have B := B424 _ B (by omega)
        have h8 := SL.ev h8 E423 (fun q => q.elim) (fun q => q.elim)
        have h349 := SL.ev h349 E423 (fun q => q.elim) (fun q => q.elim)
        have h352 := SL.ev h352 E423 (fun q => q.elim) (fun q => q.elim)
        have h345 := AT.ev h345 E423 (fun q => q.elim)
        have h369 := SL.ev h369 E423 (fun q => q.elim) (fun q => q.elim)
        have h372 := SL.ev h372 E423 (fun q => q.elim) (fun q => q.elim)
        have h365 := AT.ev h365 E423 (fun q => q.elim)
        have h381 := SL.ev h381 E423 (fun q => q.elim) (fun q => q.elim)
        have h384 := SL.ev h384 E423 (fun q => q.elim) (fun q => q.elim)
        have h385 := TB.ev h385 E423 (fun q => q.elim) (fun q => q.elim)
        have h248 := AT.ev h248 E423 (fun q => q.elim)
        have h403 := SL.ev h403 E423 (fun q => q.elim) (fun q => q.elim)
        have h406 := SL.ev h406 E423 (fun q => q.elim) (fun q => q.elim)
        have h399 := AT.ev h399 E423 (fun q => q.elim)
        have h415 := SL.ev h415 E423 (fun q => q.elim) (fun q => q.elim)
        have h418 := SL.ev h418 E423 (fun q => q.elim) (fun q => q.elim)
        have h419 := TB.ev h419 E423 (fun q => q.elim) (fun q => q.elim)
        have E := E.trans E423 (fun x q => q.elim)
        have h287 : AT true (m + 7) c421 w422 qa285 [.bool false, .slice none 0 0, .slice none 0 0, .int .i64 0, .int .i64 0] := h287
        refine q_eff0 F rfl rfl (e_storeN0 (us := [.bool t269.1.Done, .slice A413 t269.1.Key.length C414, .slice A416 t269.1.Value.length C417, .int .i64 t269.1.Rev, .int .i64 t269.1.At]) F rfl rfl sz_28 h287 (Nat.le_of_ble_eq_true rfl) (one_all rfl)) ?_
        rintro w425 a ⟨E426, h287, Z427⟩ F
        have B := B.size Z427
        have h8 := SL.ev h8 E426 (by show ¬ (0 = m + 7); omega) (by show ¬ (0 = m + 7); omega)
        have h349 := SL.ev h349 E426 (by show ¬ (0 = m + 7); omega) (by show ¬ (0 = m + 7); omega)
        have h352 := SL.ev h352 E426 (by show ¬ (0 = m + 7); omega) (by show ¬ (0 = m + 7); omega)
        have h345 := AT.ev h345 E426 (by show ¬ (0 = m + 7); omega)
        have h369 := SL.ev h369 E426 (by show ¬ (0 = m + 7); omega) (by show ¬ (0 = m + 7); omega)
        have h372 := SL.ev h372 E426 (by show ¬ (0 = m + 7); omega) (by show ¬ (0 = m + 7); omega)
        have h365 := AT.ev h365 E426 (by show ¬ (0 = m + 7); omega)
        have h381 := SL.ev h381 E426 (by show ¬ (0 = m + 7); omega) (by show ¬ (0 = m + 7); omega)
        have h384 := SL.ev h384 E426 (by show ¬ (0 = m + 7); omega) (by show ¬ (0 = m + 7); omega)
        have h385 := TB.ev h385 E426 (by show ¬ (m + 1 = m + 7); omega) (by show ¬ (0 = m + 7); omega)
        have h248 := AT.ev h248 E426 (by show ¬ (m + 6 = m + 7); omega)
        have h403 := SL.ev h403 E426 (by show ¬ (0 = m + 7); omega) (by show ¬ (0 = m + 7); omega)
        have h406 := SL.ev h406 E426 (by show ¬ (0 = m + 7); omega) (by show ¬ (0 = m + 7); omega)
        have h399 := AT.ev h399 E426 (by show ¬ (0 = m + 7); omega)
        have h415 := SL.ev h415 E426 (by show ¬ (0 = m + 7); omega) (by show ¬ (0 = m + 7); omega)
        have h418 := SL.ev h418 E426 (by show ¬ (0 = m + 7); omega) (by show ¬ (0 = m + 7); omega)
        have h419 := TB.ev h419 E426 (by show ¬ (m + 2 = m + 7); omega) (by show ¬ (0 = m + 7); omega)
        have E := E.trans E426 (fun x q => by replace q : x = m + 7 := q; show False ∨ m ≤ x; omega)
        have h287 : AT true (m + 7) c421 w425 qa285 [.bool t269.1.Done, .slice A413 t269.1.Key.length C414, .slice A416 t269.1.Value.length C417, .int .i64 t269.1.Rev, .int .i64 t269.1.At] := h287
        refine q_val F rfl rfl (by decide) (r_assign F rfl) fun a F => ?_
        refine nil ?_
        refine hK394 _ _ ?_
        refine wp_seq_k fun K428 hK428 => ?_
        have J445 : ∀ (c446 : Nat → Nat) (w447 : World) (a : Act) (b444 : Bool), Fr a 163 [(1, .slice A6 a5.length C7), (7, .pointer p29), (9, .pointer p50), (16, .int .i64 i325), (157, .bool b444)] → Ev (fun x => False ∨ m ≤ x) c0 w0 c446 w447 → CB (m + 8) c446 w447 → SL false K_api_Op 0 0 c446 w447 A6 C7 a5 → TB (m + 1) c446 w447 p29 t230.2.2 → TB (m + 2) c446 w447 p50 t269.2.2 → haulagelaw13_TableBack.j8 t230 t269 i325 b444 = some ctl331 → K428 a w447 := by
         intro c446 w447 a b444 F E B h8 h385 h419 H
         unfold haulagelaw13_TableBack.j8 at H
         refine hK428 _ _ ?_
         by_cases hb448 : b444 = true
         ·have H := (if_pos hb448).symm.trans H
          refine wp_cond_true ((F.ev rfl).trans (congrArg Value.bool hb448)) ?_
          refine wp_seq_k fun K449 hK449 => ?_
          refine reg ?_
          refine q_val F rfl rfl (by decide) (r_assign F rfl) fun a F => ?_
          refine nil ?_
          refine hK449 _ _ ?_
          refine wp_ret ?_
          refine inbR ?_
          refine thenR ?_
          refine thenR ?_
          refine inbR ?_
          refine thenR ?_
          have hx_ := HD330 _ (Option.some.inj H).symm
          have H := HR334
          rw [← hx_] at H
          replace H : some false = some r := H
          have H := Option.some.inj H
          subst H
          refine out1 F rfl rfl ?_
          exact ⟨fun b_ => (fun x_ => if x_ < m then x_ else 0) (c446 b_), rfl, E.leave B0 (fun x_ => if x_ < m then x_ else 0) (by intro x_ hx_; show (if x_ < m then x_ else 0) = x_; ((repeat' split) <;> omega)), (fun b_ hb_ => by show (if (c446 b_) < m then (c446 b_) else 0) < m; ((repeat' split) <;> omega))⟩
         ·have H := (if_neg hb448).symm.trans H
          refine wp_cond_false ((F.ev rfl).trans (congrArg Value.bool (bfalse hb448))) ?_
          refine wp_skip ?_
          refine hK339 _ _ ?_
          refine reg ?_
          refine q_val F rfl rfl (by decide) (r_move F rfl) fun a F => ?_
          refine q_val F rfl rfl (by decide) (r_add F rfl rfl) fun a F => ?_
          refine q_val F rfl rfl (by decide) (r_assign F rfl) fun a F => ?_
          refine nil ?_
          have H := HN329 _ (Option.some.inj H).symm
          exact hX328 _ _ _ (Nat.lt_succ_self _) ⟨t230.2.2, t269.2.2, (IntKind.i64.wrap (i325 + 1)), c446, F.sub ⟨rfl, rfl, rfl, rfl, trivial⟩, E, B, h8, h385, h419, H⟩
        refine reg ?_
        refine q_val F rfl rfl (by decide) (r_move F rfl) fun a F => ?_
        refine q_val F rfl rfl (by decide) (r_move F rfl) fun a F => ?_
        refine q_val F rfl rfl (by decide) (r_neq F rfl rfl) fun a F => ?_
        refine q_val F rfl rfl (by decide) (r_move F rfl) fun a F => ?_
        by_cases hb429 : t230.2.1 = t269.2.1
        ·have H := (if_pos hb429).symm.trans H
         refine q_yes F rfl (by decide) rfl (congrArg not (decide_eq_true hb429)) ?_
         refine q_val F rfl rfl (by decide) (r_move F rfl) fun a F => ?_
         refine q_yes F rfl (by decide) rfl (congrArg not (decide_eq_true hb429)) ?_
         refine q_val F rfl rfl (by decide) (r_move F rfl) fun a F => ?_
         refine q_yes F rfl (by decide) rfl (congrArg not (decide_eq_true hb429)) ?_
         refine q_val F rfl rfl (by decide) (r_neq F rfl rfl) fun a F => ?_
         refine q_val F rfl rfl (by decide) (r_pick_f F rfl (congrArg not (decide_eq_true hb429)) rfl) fun a F => ?_
         refine q_val F rfl rfl (by decide) (r_move F rfl) fun a F => ?_
         by_cases hb430 : t208.2 = t230.2.1
         ·have H := (if_pos hb430).symm.trans H
          refine q_yes F rfl (by decide) rfl (congrArg not (decide_eq_true hb430)) ?_
          refine q_val F rfl rfl (by decide) (r_loads (cs := [.bool t230.1.Done, .slice A379 t230.1.Key.length C380, .slice A382 t230.1.Value.length C383, .int .i64 t230.1.Rev, .int .i64 t230.1.At]) F rfl ag_28 sz_28 h248) fun a F => ?_
          refine q_yes F rfl (by decide) rfl (congrArg not (decide_eq_true hb430)) ?_
          refine q_val F rfl rfl (by decide) (r_loads (cs := [.bool t269.1.Done, .slice A413 t269.1.Key.length C414, .slice A416 t269.1.Value.length C417, .int .i64 t269.1.Rev, .int .i64 t269.1.At]) F rfl ag_28 sz_28 h287) fun a F => ?_
          obtain ⟨t296, q297, H⟩ := bind_some H
          refine q_yes F rfl (by decide) rfl (congrArg not (decide_eq_true hb430)) ?_
          refine q_call F rfl rfl (by decide) (r_call F Try.func22 rfl (by kernel_rfl) rfl) (haulagelaw13_sameAnswer.calls k (m := m + 8) (by omega) B h381 h384 h415 h418 _ q297) ?_
          rintro e w432 ⟨c431, rfl, E433, B434⟩
          refine ⟨_, rfl, fun a F => ?_⟩
          have B := B434
          have h8 := SL.ev h8 E433 (fun q => q.elim) (fun q => q.elim)
          have h349 := SL.ev h349 E433 (fun q => q.elim) (fun q => q.elim)
          have h352 := SL.ev h352 E433 (fun q => q.elim) (fun q => q.elim)
          have h345 := AT.ev h345 E433 (fun q => q.elim)
          have h369 := SL.ev h369 E433 (fun q => q.elim) (fun q => q.elim)
          have h372 := SL.ev h372 E433 (fun q => q.elim) (fun q => q.elim)
          have h365 := AT.ev h365 E433 (fun q => q.elim)
          have h381 := SL.ev h381 E433 (fun q => q.elim) (fun q => q.elim)
          have h384 := SL.ev h384 E433 (fun q => q.elim) (fun q => q.elim)
          have h385 := TB.ev h385 E433 (fun q => q.elim) (fun q => q.elim)
          have h248 := AT.ev h248 E433 (fun q => q.elim)
          have h403 := SL.ev h403 E433 (fun q => q.elim) (fun q => q.elim)
          have h406 := SL.ev h406 E433 (fun q => q.elim) (fun q => q.elim)
          have h399 := AT.ev h399 E433 (fun q => q.elim)
          have h415 := SL.ev h415 E433 (fun q => q.elim) (fun q => q.elim)
          have h418 := SL.ev h418 E433 (fun q => q.elim) (fun q => q.elim)
          have h419 := TB.ev h419 E433 (fun q => q.elim) (fun q => q.elim)
          have h287 := AT.ev h287 E433 (fun q => q.elim)
          have E := E.trans E433 (fun x q => q.elim)
          refine q_yes F rfl (by decide) rfl (congrArg not (decide_eq_true hb430)) ?_
          refine q_val F rfl rfl (by decide) (r_not F rfl) fun a F => ?_
          refine q_val F rfl rfl (by decide) (r_pick_f F rfl (congrArg not (decide_eq_true hb430)) rfl) fun a F => ?_
          refine q_val F rfl rfl (by decide) (r_move F rfl) fun a F => ?_
          by_cases hb436 : t296 = true
          ·have H := (if_pos hb436).symm.trans H
           refine q_yes F rfl (by decide) rfl (congrArg not hb436) ?_
           refine q_val F rfl rfl (by decide) (r_move F rfl) fun a F => ?_
           refine q_yes F rfl (by decide) rfl (congrArg not hb436) ?_
           refine q_val F rfl rfl (by decide) (r_eql F rfl rfl) fun a F => ?_
           refine q_yes F rfl (by decide) rfl (congrArg not hb436) ?_
           refine q_val F rfl rfl (by decide) (r_move F rfl) fun a F => ?_
           by_cases hb437 : t230.2.1 = 0
           ·have H := (if_pos hb437).symm.trans H
            refine q_yes F rfl (by decide) rfl (decide_eq_true hb437) ?_
            refine q_val F rfl rfl (by decide) (r_move F rfl) fun a F => ?_
            refine q_yes F rfl (by decide) rfl (decide_eq_true hb437) ?_
            refine q_val F rfl rfl (by decide) (r_move F rfl) fun a F => ?_
            obtain ⟨t305, q306, H⟩ := bind_some H
            refine q_yes F rfl (by decide) rfl (decide_eq_true hb437) ?_
            refine q_call F rfl rfl (by decide) (r_call F Try.func30 rfl (by kernel_rfl) rfl) (table_Table_Size.calls k (m := m + 8) (by omega) B h385 (by omega) _ q306) ?_
            rintro e w439 ⟨c438, rfl, E440, B441⟩
            refine ⟨_, rfl, fun a F => ?_⟩
            have B := B441
            have h8 := SL.ev h8 E440 (fun q => q.elim) (fun q => q.elim)
            have h349 := SL.ev h349 E440 (fun q => q.elim) (fun q => q.elim)
            have h352 := SL.ev h352 E440 (fun q => q.elim) (fun q => q.elim)
            have h345 := AT.ev h345 E440 (fun q => q.elim)
            have h369 := SL.ev h369 E440 (fun q => q.elim) (fun q => q.elim)
            have h372 := SL.ev h372 E440 (fun q => q.elim) (fun q => q.elim)
            have h365 := AT.ev h365 E440 (fun q => q.elim)
            have h381 := SL.ev h381 E440 (fun q => q.elim) (fun q => q.elim)
            have h384 := SL.ev h384 E440 (fun q => q.elim) (fun q => q.elim)
            have h385 := TB.ev h385 E440 (fun q => q.elim) (fun q => q.elim)
            have h248 := AT.ev h248 E440 (fun q => q.elim)
            have h403 := SL.ev h403 E440 (fun q => q.elim) (fun q => q.elim)
            have h406 := SL.ev h406 E440 (fun q => q.elim) (fun q => q.elim)
            have h399 := AT.ev h399 E440 (fun q => q.elim)
            have h415 := SL.ev h415 E440 (fun q => q.elim) (fun q => q.elim)
            have h418 := SL.ev h418 E440 (fun q => q.elim) (fun q => q.elim)
            have h419 := TB.ev h419 E440 (fun q => q.elim) (fun q => q.elim)
            have h287 := AT.ev h287 E440 (fun q => q.elim)
            have E := E.trans E440 (fun x q => q.elim)
            refine q_yes F rfl (by decide) rfl (decide_eq_true hb437) ?_
            refine q_val F rfl rfl (by decide) (r_neq F rfl rfl) fun a F => ?_
            refine q_yes F rfl (by decide) rfl (congrArg not hb436) ?_
            refine q_val F rfl rfl (by decide) (r_pick_t F rfl (decide_eq_true hb437) rfl) fun a F => ?_
            refine q_val F rfl rfl (by decide) (r_pick_f F rfl (congrArg not hb436) rfl) fun a F => ?_
            refine q_val F rfl rfl (by decide) (r_move F rfl) fun a F => ?_
            by_cases hb443 : t208.1 = t305
            ·have H := (if_pos hb443).symm.trans H
             refine q_yes F rfl (by decide) rfl (congrArg not (decide_eq_true hb443)) ?_
             refine q_val F rfl rfl (by decide) (r_move F rfl) fun a F => ?_
             refine q_yes F rfl (by decide) rfl (congrArg not (decide_eq_true hb443)) ?_
             refine q_val F rfl rfl (by decide) (r_neq F rfl rfl) fun a F => ?_
             refine q_yes F rfl (by decide) rfl (congrArg not (decide_eq_true hb443)) ?_
             refine q_val F rfl rfl (by decide) (r_move F rfl) fun a F => ?_
             refine q_no F rfl (by decide) rfl (congrArg not (decide_eq_true hb437)) (by decide) fun a F => ?_
             refine q_no F rfl (by decide) rfl (congrArg not (decide_eq_true hb437)) (by decide) fun a F => ?_
             refine q_yes F rfl (by decide) rfl (congrArg not (decide_eq_true hb443)) ?_
             refine q_val F rfl rfl (by decide) (r_pick_f F rfl (congrArg not (decide_eq_true hb437)) rfl) fun a F => ?_
             refine q_val F rfl rfl (by decide) (r_pick_f F rfl (congrArg not (decide_eq_true hb443)) rfl) fun a F => ?_
             refine nil ?_
             exact J445 c438 w439 a false (F.sub ⟨rfl, rfl, rfl, rfl, rfl, trivial⟩) E B h8 h385 h419 H
            ·have H := (if_neg hb443).symm.trans H
             refine q_no F rfl (by decide) rfl (congrArg not (decide_eq_false hb443)) (by decide) fun a F => ?_
             refine q_no F rfl (by decide) rfl (congrArg not (decide_eq_false hb443)) (by decide) fun a F => ?_
             refine q_no F rfl (by decide) rfl (congrArg not (decide_eq_false hb443)) (by decide) fun a F => ?_
             refine q_nu F rfl (by decide) rfl (by decide) fun a F => ?_
             refine q_nu F rfl (by decide) rfl (by decide) fun a F => ?_
             refine q_no F rfl (by decide) rfl (congrArg not (decide_eq_false hb443)) (by decide) fun a F => ?_
             refine q_val F rfl rfl (by decide) (r_pick_t F rfl (congrArg not (decide_eq_false hb443)) rfl) fun a F => ?_
             refine nil ?_
             exact J445 c438 w439 a true (F.sub ⟨rfl, rfl, rfl, rfl, rfl, trivial⟩) E B h8 h385 h419 H
           ·have H := (if_neg hb437).symm.trans H
            refine q_no F rfl (by decide) rfl (decide_eq_false hb437) (by decide) fun a F => ?_
            refine q_no F rfl (by decide) rfl (decide_eq_false hb437) (by decide) fun a F => ?_
            refine q_no F rfl (by decide) rfl (decide_eq_false hb437) (by decide) fun a F => ?_
            refine q_no F rfl (by decide) rfl (decide_eq_false hb437) (by decide) fun a F => ?_
            refine q_yes F rfl (by decide) rfl (congrArg not hb436) ?_
            refine q_val F rfl rfl (by decide) (r_pick_f F rfl (decide_eq_false hb437) rfl) fun a F => ?_
            refine q_val F rfl rfl (by decide) (r_pick_f F rfl (congrArg not hb436) rfl) fun a F => ?_
            refine q_val F rfl rfl (by decide) (r_move F rfl) fun a F => ?_
            refine q_yes F rfl (by decide) rfl rfl ?_
            refine q_val F rfl rfl (by decide) (r_move F rfl) fun a F => ?_
            refine q_yes F rfl (by decide) rfl rfl ?_
            refine q_val F rfl rfl (by decide) (r_neq F rfl rfl) fun a F => ?_
            refine q_yes F rfl (by decide) rfl rfl ?_
            refine q_val F rfl rfl (by decide) (r_move F rfl) fun a F => ?_
            refine q_yes F rfl (by decide) rfl (congrArg not (decide_eq_false hb437)) ?_
            refine q_val F rfl rfl (by decide) (r_move F rfl) fun a F => ?_
            refine q_yes F rfl (by decide) rfl (congrArg not (decide_eq_false hb437)) ?_
            refine q_val F rfl rfl (by decide) (r_neq F rfl rfl) fun a F => ?_
            refine q_yes F rfl (by decide) rfl rfl ?_
            refine q_val F rfl rfl (by decide) (r_pick_t F rfl (congrArg not (decide_eq_false hb437)) rfl) fun a F => ?_
            refine q_val F rfl rfl (by decide) (r_pick_f F rfl rfl rfl) fun a F => ?_
            refine nil ?_
            exact J445 c431 w432 a (!decide (t208.1 = 0)) (F.sub ⟨rfl, rfl, rfl, rfl, rfl, trivial⟩) E B h8 h385 h419 H
          ·have H := (if_neg hb436).symm.trans H
           refine q_no F rfl (by decide) rfl (congrArg not (bfalse hb436)) (by decide) fun a F => ?_
           refine q_no F rfl (by decide) rfl (congrArg not (bfalse hb436)) (by decide) fun a F => ?_
           refine q_no F rfl (by decide) rfl (congrArg not (bfalse hb436)) (by decide) fun a F => ?_
           refine q_nu F rfl (by decide) rfl (by decide) fun a F => ?_
           refine q_nu F rfl (by decide) rfl (by decide) fun a F => ?_
           refine q_nu F rfl (by decide) rfl (by decide) fun a F => ?_
           refine q_nu F rfl (by decide) rfl (by decide) fun a F => ?_
           refine q_no F rfl (by decide) rfl (congrArg not (bfalse hb436)) (by decide) fun a F => ?_
           refine q_val F rfl rfl (by decide) (r_pick_t F rfl (congrArg not (bfalse hb436)) rfl) fun a F => ?_
           refine q_val F rfl rfl (by decide) (r_move F rfl) fun a F => ?_
           refine q_no F rfl (by decide) rfl rfl (by decide) fun a F => ?_
           refine q_no F rfl (by decide) rfl rfl (by decide) fun a F => ?_
           refine q_no F rfl (by decide) rfl rfl (by decide) fun a F => ?_
           refine q_nu F rfl (by decide) rfl (by decide) fun a F => ?_
           refine q_nu F rfl (by decide) rfl (by decide) fun a F => ?_
           refine q_no F rfl (by decide) rfl rfl (by decide) fun a F => ?_
           refine q_val F rfl rfl (by decide) (r_pick_t F rfl rfl rfl) fun a F => ?_
           refine nil ?_
           exact J445 c431 w432 a true (F.sub ⟨rfl, rfl, rfl, rfl, rfl, trivial⟩) E B h8 h385 h419 H
         ·have H := (if_neg hb430).symm.trans H
          refine q_no F rfl (by decide) rfl (congrArg not (decide_eq_false hb430)) (by decide) fun a F => ?_
          refine q_no F rfl (by decide) rfl (congrArg not (decide_eq_false hb430)) (by decide) fun a F => ?_
          refine q_no F rfl (by decide) rfl (congrArg not (decide_eq_false hb430)) (by decide) fun a F => ?_
          refine q_no F rfl (by decide) rfl (congrArg not (decide_eq_false hb430)) (by decide) fun a F => ?_
          refine q_val F rfl rfl (by decide) (r_pick_t F rfl (congrArg not (decide_eq_false hb430)) rfl) fun a F => ?_
          refine q_val F rfl rfl (by decide) (r_move F rfl) fun a F => ?_
          refine q_no F rfl (by decide) rfl rfl (by decide) fun a F => ?_
          refine q_no F rfl (by decide) rfl rfl (by decide) fun a F => ?_
          refine q_no F rfl (by decide) rfl rfl (by decide) fun a F => ?_
          refine q_nu F rfl (by decide) rfl (by decide) fun a F => ?_
          refine q_nu F rfl (by decide) rfl (by decide) fun a F => ?_
          refine q_nu F rfl (by decide) rfl (by decide) fun a F => ?_
          refine q_nu F rfl (by decide) rfl (by decide) fun a F => ?_
          refine q_no F rfl (by decide) rfl rfl (by decide) fun a F => ?_
          refine q_val F rfl rfl (by decide) (r_pick_t F rfl rfl rfl) fun a F => ?_
          refine q_val F rfl rfl (by decide) (r_move F rfl) fun a F => ?_
          refine q_no F rfl (by decide) rfl rfl (by decide) fun a F => ?_
          refine q_no F rfl (by decide) rfl rfl (by decide) fun a F => ?_
          refine q_no F rfl (by decide) rfl rfl (by decide) fun a F => ?_
          refine q_nu F rfl (by decide) rfl (by decide) fun a F => ?_
          refine q_nu F rfl (by decide) rfl (by decide) fun a F => ?_
          refine q_no F rfl (by decide) rfl rfl (by decide) fun a F => ?_
          refine q_val F rfl rfl (by decide) (r_pick_t F rfl rfl rfl) fun a F => ?_
          refine nil ?_
          exact J445 c421 w425 a true (F.sub ⟨rfl, rfl, rfl, rfl, rfl, trivial⟩) E B h8 h385 h419 H
        ·have H := (if_neg hb429).symm.trans H
         refine q_no F rfl (by decide) rfl (congrArg not (decide_eq_false hb429)) (by decide) fun a F => ?_
         refine q_no F rfl (by decide) rfl (congrArg not (decide_eq_false hb429)) (by decide) fun a F => ?_
         refine q_no F rfl (by decide) rfl (congrArg not (decide_eq_false hb429)) (by decide) fun a F => ?_
         refine q_val F rfl rfl (by decide) (r_pick_t F rfl (congrArg not (decide_eq_false hb429)) rfl) fun a F => ?_
         refine q_val F rfl rfl (by decide) (r_move F rfl) fun a F => ?_
         refine q_no F rfl (by decide) rfl rfl (by decide) fun a F => ?_
         refine q_no F rfl (by decide) rfl rfl (by decide) fun a F => ?_
         refine q_no F rfl (by decide) rfl rfl (by decide) fun a F => ?_
         refine q_no F rfl (by decide) rfl rfl (by decide) fun a F => ?_
         refine q_val F rfl rfl (by decide) (r_pick_t F rfl rfl rfl) fun a F => ?_
         refine q_val F rfl rfl (by decide) (r_move F rfl) fun a F => ?_
         refine q_no F rfl (by decide) rfl rfl (by decide) fun a F => ?_
         refine q_no F rfl (by decide) rfl rfl (by decide) fun a F => ?_
         refine q_no F rfl (by decide) rfl rfl (by decide) fun a F => ?_
         refine q_nu F rfl (by decide) rfl (by decide) fun a F => ?_
         refine q_nu F rfl (by decide) rfl (by decide) fun a F => ?_
         refine q_nu F rfl (by decide) rfl (by decide) fun a F => ?_
         refine q_nu F rfl (by decide) rfl (by decide) fun a F => ?_
         refine q_no F rfl (by decide) rfl rfl (by decide) fun a F => ?_
         refine q_val F rfl rfl (by decide) (r_pick_t F rfl rfl rfl) fun a F => ?_
         refine q_val F rfl rfl (by decide) (r_move F rfl) fun a F => ?_
         refine q_no F rfl (by decide) rfl rfl (by decide) fun a F => ?_
         refine q_no F rfl (by decide) rfl rfl (by decide) fun a F => ?_
         refine q_no F rfl (by decide) rfl rfl (by decide) fun a F => ?_
         refine q_nu F rfl (by decide) rfl (by decide) fun a F => ?_
         refine q_nu F rfl (by decide) rfl (by decide) fun a F => ?_
         refine q_no F rfl (by decide) rfl rfl (by decide) fun a F => ?_
         refine q_val F rfl rfl (by decide) (r_pick_t F rfl rfl rfl) fun a F => ?_
         refine nil ?_
         exact J445 c421 w425 a true (F.sub ⟨rfl, rfl, rfl, rfl, rfl, trivial⟩) E B h8 h385 h419 H
       ·have H := (if_neg hb338).symm.trans H
        refine wp_cond_false ((F.ev rfl).trans (congrArg Value.bool (decide_eq_false hb338))) ?_
        refine wp_exit ?_
        refine thenE ?_
        refine thenE ?_
        refine inbE ?_
        have hx_ := HD330 _ (Option.some.inj H).symm
        have H := HR334
        rw [← hx_] at H
        exact J461 c326 w327 a o321 o324 (F.sub ⟨rfl, rfl, trivial⟩) E B h320 h323 H
     refine reg ?_
     refine q_val F rfl rfl (by decide) (r_move F rfl) fun a F => ?_
     refine q_val F rfl rfl (by decide) (r_neq F rfl rfl) fun a F => ?_
     refine q_val F rfl rfl (by decide) (r_move F rfl) fun a F => ?_
     by_cases hb169 : t158.2 = 130
     ·have H := (if_pos hb169).symm.trans H
      refine q_yes F rfl (by decide) rfl (congrArg not (decide_eq_true hb169)) ?_
      refine q_val F rfl rfl (by decide) (r_move F rfl) fun a F => ?_
      refine q_yes F rfl (by decide) rfl (congrArg not (decide_eq_true hb169)) ?_
      refine q_val F rfl rfl (by decide) (r_pneqA F Try.underlying25 rfl rfl (TB.isNone h165)) fun a F => ?_
      refine q_val F rfl rfl (by decide) (r_pick_f F rfl (congrArg not (decide_eq_true hb169)) rfl) fun a F => ?_
      refine nil ?_
      exact J171 c160 w161 a (!Option.isNone t158.1) (F.sub ⟨rfl, rfl, rfl, rfl, trivial⟩) E B h8 h30 h51 H
     ·have H := (if_neg hb169).symm.trans H
      refine q_no F rfl (by decide) rfl (congrArg not (decide_eq_false hb169)) (by decide) fun a F => ?_
      refine q_no F rfl (by decide) rfl (congrArg not (decide_eq_false hb169)) (by decide) fun a F => ?_
      refine q_val F rfl rfl (by decide) (r_pick_t F rfl (congrArg not (decide_eq_false hb169)) rfl) fun a F => ?_
      refine nil ?_
      exact J171 c160 w161 a true (F.sub ⟨rfl, rfl, rfl, rfl, trivial⟩) E B h8 h30 h51 H
    refine loop_fuel (I := fun n a w => ∃ (i80 : Int) (c : Nat → Nat), Fr a 163 [(1, .slice A6 a5.length C7), (2, .int .u8 a9), (7, .pointer p29), (8, .slice A39 t33.length C40), (9, .pointer p50), (11, .int .i64 i80)] ∧ Ev (fun x => False ∨ m ≤ x) c0 w0 c w ∧ CB (m + 8) c w ∧ SL false K_api_Op 0 0 c w A6 C7 a5 ∧ TB (m + 1) c w p29 t23 ∧ SL false (Kint .u8) 0 0 c w A39 C40 t33 ∧ TB (m + 2) c w p50 t44.1 ∧ loop (fun (s_ : Int) => haulagelaw13_TableBack.b4 k t33 s_) n i80 = some x90) (k := k) ⟨0, c74, F.sub ⟨rfl, rfl, rfl, rfl, rfl, rfl, trivial⟩, E, B, h8, h30, h41, h51, HL⟩ ?_
    clear HL H E F B
    intro n87 X83 hX83 a w82 ⟨i80, c81, F, E, B, h8, h30, h41, h51, HL⟩
    obtain ⟨n88, ctl86, rfl, HB, HN84, HD85⟩ := loop_some HL
    have H : haulagelaw13_TableBack.b4 k t33 i80 = some ctl86 := HB
    clear HB HL
    unfold haulagelaw13_TableBack.b4 at H
    refine wp_seq_k fun K91 hK91 => ?_
    refine wp_seq_k fun K92 hK92 => ?_
    have J95 : ∀ (c96 : Nat → Nat) (w97 : World) (a : Act) (b94 : Bool), Fr a 163 [(1, .slice A6 a5.length C7), (2, .int .u8 a9), (7, .pointer p29), (8, .slice A39 t33.length C40), (9, .pointer p50), (11, .int .i64 i80), (61, .bool b94)] → Ev (fun x => False ∨ m ≤ x) c0 w0 c96 w97 → CB (m + 8) c96 w97 → SL false K_api_Op 0 0 c96 w97 A6 C7 a5 → TB (m + 1) c96 w97 p29 t23 → SL false (Kint .u8) 0 0 c96 w97 A39 C40 t33 → TB (m + 2) c96 w97 p50 t44.1 → haulagelaw13_TableBack.j2 k t33 i80 b94 = some ctl86 → K92 a w97 := by
     intro c96 w97 a b94 F E B h8 h30 h41 h51 H
     unfold haulagelaw13_TableBack.j2 at H
     refine hK92 _ _ ?_
     by_cases hb98 : b94 = true
     ·have H := (if_pos hb98).symm.trans H
      refine wp_cond_true ((F.ev rfl).trans (congrArg Value.bool hb98)) ?_
      refine wp_skip ?_
      refine hK91 _ _ ?_
      refine wp_seq_k fun K99 hK99 => ?_
      refine wp_block ?_
      refine wp_seq_k fun K100 hK100 => ?_
      refine reg ?_
      refine q_val F rfl rfl (by decide) (r_move F rfl) fun a F => ?_
      refine q_val F rfl rfl (by decide) (r_move F rfl) fun a F => ?_
      obtain ⟨g101, H⟩ := ifN H
      obtain ⟨A102, C103, r104, h105⟩ := cut_h (kh := .i64) Try.underlying23 sz_5 h41 g101
      refine q_val F rfl rfl (by decide) (r_slice (vl := none) (vh := some (.int .i64 i80)) (vm := none) F rfl rfl rfl rfl r104) fun a F => ?_
      obtain ⟨t106, q107, H⟩ := bind_some H
      refine q_call F rfl rfl (by decide) (r_call F Try.func29 rfl (by kernel_rfl) rfl) (table_Read.calls k (m := m + 8) (by omega) B h105 (by omega) (m + 3) (by omega) _ q107) ?_
      rintro e w109 ⟨c108, p112, rfl, E110, B111, h113⟩
      refine ⟨_, rfl, fun a F => ?_⟩
      have B := B111
      have h8 := SL.ev h8 E110 (fun q => q.elim) (fun q => q.elim)
      have h30 := TB.ev h30 E110 (fun q => q.elim) (fun q => q.elim)
      have h41 := SL.ev h41 E110 (fun q => q.elim) (fun q => q.elim)
      have h51 := TB.ev h51 E110 (fun q => q.elim) (fun q => q.elim)
      have h105 := SL.ev h105 E110 (fun q => q.elim) (fun q => q.elim)
      have E := E.trans E110 (fun x q => q.elim)
      refine q_val F rfl rfl (by decide) (r_move F rfl) fun a F => ?_
      refine q_val F rfl rfl (by decide) (r_extract F rfl rfl) fun a F => ?_
      refine q_val F rfl rfl (by decide) (r_extract F rfl rfl) fun a F => ?_
      refine q_val F rfl rfl (by decide) (r_assign F rfl) fun a F => ?_
      refine q_val F rfl rfl (by decide) (r_assign F rfl) fun a F => ?_
      refine nil ?_
      refine hK100 _ _ ?_
      refine wp_seq_k fun K115 hK115 => ?_
      have J118 : ∀ (c119 : Nat → Nat) (w120 : World) (a : Act) (b117 : Bool), Fr a 163 [(1, .slice A6 a5.length C7), (2, .int .u8 a9), (7, .pointer p29), (8, .slice A39 t33.length C40), (9, .pointer p50), (11, .int .i64 i80), (76, .bool b117)] → Ev (fun x => False ∨ m ≤ x) c0 w0 c119 w120 → CB (m + 8) c119 w120 → SL false K_api_Op 0 0 c119 w120 A6 C7 a5 → TB (m + 1) c119 w120 p29 t23 → SL false (Kint .u8) 0 0 c119 w120 A39 C40 t33 → TB (m + 2) c119 w120 p50 t44.1 → haulagelaw13_TableBack.j3 i80 b117 = some ctl86 → K115 a w120 := by
       intro c119 w120 a b117 F E B h8 h30 h41 h51 H
       unfold haulagelaw13_TableBack.j3 at H
       refine hK115 _ _ ?_
       by_cases hb121 : b117 = true
       ·have H := (if_pos hb121).symm.trans H
        refine wp_cond_true ((F.ev rfl).trans (congrArg Value.bool hb121)) ?_
        refine wp_seq_k fun K122 hK122 => ?_
        refine reg ?_
        refine q_val F rfl rfl (by decide) (r_assign F rfl) fun a F => ?_
        refine nil ?_
        refine hK122 _ _ ?_
        refine wp_ret ?_
        refine inbR ?_
        refine thenR ?_
        refine thenR ?_
        refine inbR ?_
        refine thenR ?_
        have hx_ := HD85 _ (Option.some.inj H).symm
        have H := HR89
        rw [← hx_] at H
        replace H : some false = some r := H
        have H := Option.some.inj H
        subst H
        refine out1 F rfl rfl ?_
        exact ⟨fun b_ => (fun x_ => if x_ < m then x_ else 0) (c119 b_), rfl, E.leave B0 (fun x_ => if x_ < m then x_ else 0) (by intro x_ hx_; show (if x_ < m then x_ else 0) = x_; ((repeat' split) <;> omega)), (fun b_ hb_ => by show (if (c119 b_) < m then (c119 b_) else 0) < m; ((repeat' split) <;> omega))⟩
       ·have H := (if_neg hb121).symm.trans H
        refine wp_cond_false ((F.ev rfl).trans (congrArg Value.bool (bfalse hb121))) ?_
        refine wp_skip ?_
        refine hK99 _ _ ?_
        refine reg ?_
        refine q_val F rfl rfl (by decide) (r_move F rfl) fun a F => ?_
        refine q_val F rfl rfl (by decide) (r_add F rfl rfl) fun a F => ?_
        refine q_val F rfl rfl (by decide) (r_assign F rfl) fun a F => ?_
        refine nil ?_
        have H := HN84 _ (Option.some.inj H).symm
        exact hX83 _ _ _ (Nat.lt_succ_self _) ⟨(IntKind.i64.wrap (i80 + 1)), c119, F.sub ⟨rfl, rfl, rfl, rfl, rfl, rfl, trivial⟩, E, B, h8, h30, h41, h51, H⟩
      refine reg ?_
      refine q_val F rfl rfl (by decide) (r_move F rfl) fun a F => ?_
      refine q_val F rfl rfl (by decide) (r_neq F rfl rfl) fun a F => ?_
      refine q_val F rfl rfl (by decide) (r_move F rfl) fun a F => ?_
      by_cases hb116 : t106.2 = 130
      ·have H := (if_pos hb116).symm.trans H
       refine q_yes F rfl (by decide) rfl (congrArg not (decide_eq_true hb116)) ?_
       refine q_val F rfl rfl (by decide) (r_move F rfl) fun a F => ?_
       refine q_yes F rfl (by decide) rfl (congrArg not (decide_eq_true hb116)) ?_
       refine q_val F rfl rfl (by decide) (r_pneqA F Try.underlying25 rfl rfl (TB.isNone h113)) fun a F => ?_
       refine q_val F rfl rfl (by decide) (r_pick_f F rfl (congrArg not (decide_eq_true hb116)) rfl) fun a F => ?_
       refine nil ?_
       exact J118 c108 w109 a (!Option.isNone t106.1) (F.sub ⟨rfl, rfl, rfl, rfl, rfl, rfl, rfl, trivial⟩) E B h8 h30 h41 h51 H
      ·have H := (if_neg hb116).symm.trans H
       refine q_no F rfl (by decide) rfl (congrArg not (decide_eq_false hb116)) (by decide) fun a F => ?_
       refine q_no F rfl (by decide) rfl (congrArg not (decide_eq_false hb116)) (by decide) fun a F => ?_
       refine q_val F rfl rfl (by decide) (r_pick_t F rfl (congrArg not (decide_eq_false hb116)) rfl) fun a F => ?_
       refine nil ?_
       exact J118 c108 w109 a true (F.sub ⟨rfl, rfl, rfl, rfl, rfl, rfl, rfl, trivial⟩) E B h8 h30 h41 h51 H
     ·have H := (if_neg hb98).symm.trans H
      refine wp_cond_false ((F.ev rfl).trans (congrArg Value.bool (bfalse hb98))) ?_
      refine wp_exit ?_
      refine thenE ?_
      refine thenE ?_
      refine inbE ?_
      have hx_ := HD85 _ (Option.some.inj H).symm
      have H := HR89
      rw [← hx_] at H
      exact J124 c96 w97 a  (F.sub ⟨rfl, rfl, rfl, rfl, rfl, trivial⟩) E B h8 h30 h41 h51 H
    refine reg ?_
    refine q_val F rfl rfl (by decide) (r_move F rfl) fun a F => ?_
    refine q_val F rfl rfl (by decide) (r_move F rfl) fun a F => ?_
    refine q_val F rfl rfl (by decide) (r_lensl F Try.underlying23 rfl) fun a F => ?_
    refine q_val F rfl rfl (by decide) (r_lss F rfl rfl) fun a F => ?_
    refine q_val F rfl rfl (by decide) (r_move F rfl) fun a F => ?_
    by_cases hb93 : i80 < (t33.length : Int)
    ·have H := (if_pos hb93).symm.trans H
     refine q_yes F rfl (by decide) rfl (decide_eq_true hb93) ?_
     refine q_val F rfl rfl (by decide) (r_move F rfl) fun a F => ?_
     refine q_yes F rfl (by decide) rfl (decide_eq_true hb93) ?_
     refine q_val F rfl rfl (by decide) (r_lss F rfl rfl) fun a F => ?_
     refine q_val F rfl rfl (by decide) (r_pick_t F rfl (decide_eq_true hb93) rfl) fun a F => ?_
     refine nil ?_
     exact J95 c81 w82 a (decide (i80 < 40)) (F.sub ⟨rfl, rfl, rfl, rfl, rfl, rfl, rfl, trivial⟩) E B h8 h30 h41 h51 H
    ·have H := (if_neg hb93).symm.trans H
     refine q_no F rfl (by decide) rfl (decide_eq_false hb93) (by decide) fun a F => ?_
     refine q_no F rfl (by decide) rfl (decide_eq_false hb93) (by decide) fun a F => ?_
     refine q_val F rfl rfl (by decide) (r_pick_f F rfl (decide_eq_false hb93) rfl) fun a F => ?_
     refine nil ?_
     exact J95 c81 w82 a false (F.sub ⟨rfl, rfl, rfl, rfl, rfl, rfl, rfl, trivial⟩) E B h8 h30 h41 h51 H
  refine reg ?_
  refine q_val F rfl rfl (by decide) (r_move F rfl) fun a F => ?_
  refine q_val F rfl rfl (by decide) (r_neq F rfl rfl) fun a F => ?_
  refine q_val F rfl rfl (by decide) (r_move F rfl) fun a F => ?_
  by_cases hb55 : t44.2 = 0
  ·have H := (if_pos hb55).symm.trans H
   refine q_yes F rfl (by decide) rfl (congrArg not (decide_eq_true hb55)) ?_
   refine q_val F rfl rfl (by decide) (r_move F rfl) fun a F => ?_
   refine q_yes F rfl (by decide) rfl (congrArg not (decide_eq_true hb55)) ?_
   refine q_val F rfl rfl (by decide) (r_peqlA F Try.underlying25 rfl rfl (TB.isNone h51)) fun a F => ?_
   refine q_val F rfl rfl (by decide) (r_pick_f F rfl (congrArg not (decide_eq_true hb55)) rfl) fun a F => ?_
   refine q_val F rfl rfl (by decide) (r_move F rfl) fun a F => ?_
   by_cases hb56 : (Option.isNone t44.1) = true
   ·have H := (if_pos hb56).symm.trans H
    refine q_no F rfl (by decide) rfl hb56 (by decide) fun a F => ?_
    refine q_no F rfl (by decide) rfl hb56 (by decide) fun a F => ?_
    refine q_no F rfl (by decide) rfl hb56 (by decide) fun a F => ?_
    refine q_no F rfl (by decide) rfl hb56 (by decide) fun a F => ?_
    refine q_no F rfl (by decide) rfl hb56 (by decide) fun a F => ?_
    refine q_val F rfl rfl (by decide) (r_pick_t F rfl hb56 rfl) fun a F => ?_
    refine q_val F rfl rfl (by decide) (r_move F rfl) fun a F => ?_
    refine q_no F rfl (by decide) rfl rfl (by decide) fun a F => ?_
    refine q_no F rfl (by decide) rfl rfl (by decide) fun a F => ?_
    refine q_no F rfl (by decide) rfl rfl (by decide) fun a F => ?_
    refine q_no F rfl (by decide) rfl rfl (by decide) fun a F => ?_
    refine q_no F rfl (by decide) rfl rfl (by decide) fun a F => ?_
    refine q_val F rfl rfl (by decide) (r_pick_t F rfl rfl rfl) fun a F => ?_
    refine nil ?_
    exact J73 c46 w47 a true (F.sub ⟨rfl, rfl, rfl, rfl, rfl, rfl, trivial⟩) E B h8 h30 h41 h51 H
   ·have H := (if_neg hb56).symm.trans H
    refine q_yes F rfl (by decide) rfl (bfalse hb56) ?_
    refine q_val F rfl rfl (by decide) (r_move F rfl) fun a F => ?_
    obtain ⟨t57, q58, H⟩ := bind_some H
    refine q_yes F rfl (by decide) rfl (bfalse hb56) ?_
    refine q_call F rfl rfl (by decide) (r_call F Try.func30 rfl (by kernel_rfl) rfl) (table_Table_Size.calls k (m := m + 8) (by omega) B h30 (by omega) _ q58) ?_
    rintro e w60 ⟨c59, rfl, E61, B62⟩
    refine ⟨_, rfl, fun a F => ?_⟩
    have B := B62
    have h4 := SL.ev h4 E61 (fun q => q.elim) (fun q => q.elim)
    have h8 := SL.ev h8 E61 (fun q => q.elim) (fun q => q.elim)
    have h30 := TB.ev h30 E61 (fun q => q.elim) (fun q => q.elim)
    have h41 := SL.ev h41 E61 (fun q => q.elim) (fun q => q.elim)
    have h51 := TB.ev h51 E61 (fun q => q.elim) (fun q => q.elim)
    have E := E.trans E61 (fun x q => q.elim)
    refine q_yes F rfl (by decide) rfl (bfalse hb56) ?_
    refine q_val F rfl rfl (by decide) (r_move F rfl) fun a F => ?_
    refine q_yes F rfl (by decide) rfl (bfalse hb56) ?_
    refine q_val F rfl rfl (by decide) (r_lensl F Try.underlying23 rfl) fun a F => ?_
    refine q_yes F rfl (by decide) rfl (bfalse hb56) ?_
    refine q_val F rfl rfl (by decide) (r_neq F rfl rfl) fun a F => ?_
    refine q_val F rfl rfl (by decide) (r_pick_f F rfl (bfalse hb56) rfl) fun a F => ?_
    refine q_val F rfl rfl (by decide) (r_move F rfl) fun a F => ?_
    by_cases hb64 : t57 = (t33.length : Int)
    ·have H := (if_pos hb64).symm.trans H
     refine q_yes F rfl (by decide) rfl (congrArg not (decide_eq_true hb64)) ?_
     refine q_val F rfl rfl (by decide) (r_move F rfl) fun a F => ?_
     obtain ⟨t65, q66, H⟩ := bind_some H
     refine q_yes F rfl (by decide) rfl (congrArg not (decide_eq_true hb64)) ?_
     refine q_call F rfl rfl (by decide) (r_call F Try.func30 rfl (by kernel_rfl) rfl) (table_Table_Size.calls k (m := m + 8) (by omega) B h51 (by omega) _ q66) ?_
     rintro e w68 ⟨c67, rfl, E69, B70⟩
     refine ⟨_, rfl, fun a F => ?_⟩
     have B := B70
     have h4 := SL.ev h4 E69 (fun q => q.elim) (fun q => q.elim)
     have h8 := SL.ev h8 E69 (fun q => q.elim) (fun q => q.elim)
     have h30 := TB.ev h30 E69 (fun q => q.elim) (fun q => q.elim)
     have h41 := SL.ev h41 E69 (fun q => q.elim) (fun q => q.elim)
     have h51 := TB.ev h51 E69 (fun q => q.elim) (fun q => q.elim)
     have E := E.trans E69 (fun x q => q.elim)
     refine q_yes F rfl (by decide) rfl (congrArg not (decide_eq_true hb64)) ?_
     refine q_val F rfl rfl (by decide) (r_move F rfl) fun a F => ?_
     refine q_yes F rfl (by decide) rfl (congrArg not (decide_eq_true hb64)) ?_
     refine q_val F rfl rfl (by decide) (r_lensl F Try.underlying23 rfl) fun a F => ?_
     refine q_yes F rfl (by decide) rfl (congrArg not (decide_eq_true hb64)) ?_
     refine q_val F rfl rfl (by decide) (r_neq F rfl rfl) fun a F => ?_
     refine q_val F rfl rfl (by decide) (r_pick_f F rfl (congrArg not (decide_eq_true hb64)) rfl) fun a F => ?_
     refine nil ?_
     exact J73 c67 w68 a (!decide (t65 = (t33.length : Int))) (F.sub ⟨rfl, rfl, rfl, rfl, rfl, rfl, trivial⟩) E B h8 h30 h41 h51 H
    ·have H := (if_neg hb64).symm.trans H
     refine q_no F rfl (by decide) rfl (congrArg not (decide_eq_false hb64)) (by decide) fun a F => ?_
     refine q_no F rfl (by decide) rfl (congrArg not (decide_eq_false hb64)) (by decide) fun a F => ?_
     refine q_no F rfl (by decide) rfl (congrArg not (decide_eq_false hb64)) (by decide) fun a F => ?_
     refine q_no F rfl (by decide) rfl (congrArg not (decide_eq_false hb64)) (by decide) fun a F => ?_
     refine q_no F rfl (by decide) rfl (congrArg not (decide_eq_false hb64)) (by decide) fun a F => ?_
     refine q_val F rfl rfl (by decide) (r_pick_t F rfl (congrArg not (decide_eq_false hb64)) rfl) fun a F => ?_
     refine nil ?_
     exact J73 c59 w60 a true (F.sub ⟨rfl, rfl, rfl, rfl, rfl, rfl, trivial⟩) E B h8 h30 h41 h51 H
  ·have H := (if_neg hb55).symm.trans H
   refine q_no F rfl (by decide) rfl (congrArg not (decide_eq_false hb55)) (by decide) fun a F => ?_
   refine q_no F rfl (by decide) rfl (congrArg not (decide_eq_false hb55)) (by decide) fun a F => ?_
   refine q_val F rfl rfl (by decide) (r_pick_t F rfl (congrArg not (decide_eq_false hb55)) rfl) fun a F => ?_
   refine q_val F rfl rfl (by decide) (r_move F rfl) fun a F => ?_
   refine q_no F rfl (by decide) rfl rfl (by decide) fun a F => ?_
   refine q_no F rfl (by decide) rfl rfl (by decide) fun a F => ?_
   refine q_no F rfl (by decide) rfl rfl (by decide) fun a F => ?_
   refine q_no F rfl (by decide) rfl rfl (by decide) fun a F => ?_
   refine q_no F rfl (by decide) rfl rfl (by decide) fun a F => ?_
   refine q_val F rfl rfl (by decide) (r_pick_t F rfl rfl rfl) fun a F => ?_
   refine q_val F rfl rfl (by decide) (r_move F rfl) fun a F => ?_
   refine q_no F rfl (by decide) rfl rfl (by decide) fun a F => ?_
   refine q_no F rfl (by decide) rfl rfl (by decide) fun a F => ?_
   refine q_no F rfl (by decide) rfl rfl (by decide) fun a F => ?_
   refine q_no F rfl (by decide) rfl rfl (by decide) fun a F => ?_
   refine q_no F rfl (by decide) rfl rfl (by decide) fun a F => ?_
   refine q_val F rfl rfl (by decide) (r_pick_t F rfl rfl rfl) fun a F => ?_
   refine nil ?_
   exact J73 c46 w47 a true (F.sub ⟨rfl, rfl, rfl, rfl, rfl, rfl, trivial⟩) E B h8 h30 h41 h51 H
 ·have H := (if_neg hb20).symm.trans H
  refine wp_cond_true ((F.ev rfl).trans (congrArg Value.bool (congrArg not (bfalse hb20)))) ?_
  refine wp_seq_k fun K21 hK21 => ?_
  refine reg ?_
  refine q_val F rfl rfl (by decide) (r_assign F rfl) fun a F => ?_
  refine nil ?_
  refine hK21 _ _ ?_
  refine wp_ret ?_
  refine thenR ?_
  have H := Option.some.inj H
  subst H
  refine out1 F rfl rfl ?_
  exact ⟨fun b_ => (fun x_ => if x_ < m then x_ else 0) (c15 b_), rfl, E.leave B0 (fun x_ => if x_ < m then x_ else 0) (by intro x_ hx_; show (if x_ < m then x_ else 0) = x_; ((repeat' split) <;> omega)), (fun b_ hb_ => by show (if (c15 b_) < m then (c15 b_) else 0) < m; ((repeat' split) <;> omega))⟩
end Go.Proofs.Ytcolmmjcdlmcoaa.G
/-! awake; TableCopies; TableSwaps. -/
namespace Go.Proofs.Ytcolmmjcdlmcoaa.G
open Go
set_option linter.unusedVariables false
set_option linter.unusedSimpArgs false
theorem loop_inv {S X : Type} {f : S → Option (Ctl S X)} {I : Nat → S → Prop} {P : X → Prop} {N : Nat}
    (step : ∀ i s, i < N → I i s → (∃ s', f s = some (.next s') ∧ I (i + 1) s') ∨ (∃ x, f s = some (.done x) ∧ P x))
    (last : ∀ s, I N s → ∃ x, f s = some (.done x) ∧ P x) : ∀ (n i : Nat) (s : S) (m : Nat), I i s → i + n = N → n < m → ∃ x, loop f m s = some x ∧ P x
  | _, _, _, 0, _, _, h => absurd h (by omega)
  | 0, i, s, m + 1, hI, hN, _ => by
    obtain rfl : i = N := by omega
    obtain ⟨x, h1, h2⟩ := last s hI
    exact ⟨x, loop_done h1, h2⟩
  | n + 1, i, s, m + 1, hI, hN, hm => by
    rcases step i s (by omega) hI with ⟨s', h1, h2⟩ | ⟨x, h1, h2⟩
    · rw [loop_next h1]
      exact loop_inv step last n (i + 1) s' m h2 (by omega) (by omega)
    · exact ⟨x, loop_done h1, h2⟩
theorem act1 : act [] 0 (api_Op.mk 2 [97] [49] 0) = (⟨true, [], [], 0, 1⟩, 0, [(bs [97], ⟨[49], 1⟩)], 1) := by
  simp [act, right, keyok, look, ins, told]
theorem act2 : act [(bs [97], ⟨[49], 1⟩)] 1 (api_Op.mk 2 [97] [50] 0) = (⟨true, sb (bs [97]), [49], 1, 2⟩, 0, [(bs [97], ⟨[50], 2⟩)], 2) := by
  simp [act, right, keyok, look, ins, told, lt_irr]
theorem act3 : act [(bs [97], ⟨[50], 2⟩)] 2 (api_Op.mk 1 [97] [] 0) = (⟨true, sb (bs [97]), [50], 2, 2⟩, 0, [(bs [97], ⟨[50], 2⟩)], 2) := by
  simp [act, right, keyok, look, ins, told, lt_irr]
theorem act4 : act [(bs [97], ⟨[50], 2⟩)] 2 (api_Op.mk 0 [] [] 0) = (zeroA, 131, [(bs [97], ⟨[50], 2⟩)], 2) := by
  simp [act, right, keyok]
theorem awake_eq {k : Nat} (hk : Fuel k) : haulagelaw13_awake.f k = some true := by
  obtain ⟨t0, e0, R0⟩ := new_rep
  obtain ⟨t1, e1, R1⟩ := do_eq hk (by omega) R0 (api_Op.mk 2 [97] [49] 0)
  rw [act1] at e1 R1
  obtain ⟨t2, e2, R2⟩ := do_eq hk (by simp) R1 (api_Op.mk 2 [97] [50] 0)
  rw [act2] at e2 R2
  obtain ⟨t3, e3, R3⟩ := do_eq hk (by simp) R2 (api_Op.mk 1 [97] [] 0)
  rw [act3] at e3 R3
  obtain ⟨t4, e4, R4⟩ := do_eq hk (by simp) R3 (api_Op.mk 0 [] [] 0)
  rw [act4] at e4 R4
  have R4' : RepS t4 ([(bs [97], ⟨[50], 2⟩)], 2) := R4
  have eb := bytes_eq hk (by simp) R4'
  have ef : form ([(bs [97], ⟨[50], 2⟩)], 2) = [2, 1, 1, 97, 1, 50, 2] := by decide
  unfold haulagelaw13_awake.f haulagelaw13_put.f haulagelaw13_get.f
  rw [bind_eq e0, Option.bind_some, bind_eq e1, Option.bind_some, bind_eq e2, Option.bind_some, bind_eq e3, bind_eq e4]
  simp only [if_true]
  rw [bind_eq (same_eq hk _ _ (by simp)), if_pos (by simp), bind_eq (same_eq hk _ _ (by simp)), if_pos (by simp), bind_eq eb, ef, bind_eq (same_eq hk _ _ (by simp))]
  simp
/-! ### TableCopies -/
theorem run_lt {ops : List api_Op} {n : Nat} (h : ops.length < n) : (run ([], 0) ops).2 < n := by
  have := run_r ops ([], 0)
  simp only at this; omega
theorem half {k : Nat} (hk : Fuel k) {ahead ops : List api_Op} {i : Nat} {t : Option Tab} (hl : ahead.length + ops.length < 4000000) (hR : RepS t (run ([], 0) (ahead ++ ops.take i))) :
    (i < ops.length → ∃ x y t', table_Table_Do.f k t (rd ops (i : Int)) = some (x, y, t') ∧ RepS t' (run ([], 0) (ahead ++ ops.take (i + 1)))) ∧ (¬ i < ops.length → RepS t (run ([], 0) (ahead ++ ops.take (i + 1)))) := by
  refine ⟨fun h => ?_, fun h => ?_⟩
  · have hr : (run ([], 0) (ahead ++ ops.take i)).2 < 4000000 := run_lt (by simp; omega)
    obtain ⟨t', e, R⟩ := do_step hk (by omega) hR ops[i]
    refine ⟨_, _, t', by rw [rd_eq h]; exact e, ?_⟩
    rw [take_one h, ← List.append_assoc, run_snoc]; exact R
  · rw [List.take_of_length_le (by omega)] at hR ⊢; exact hR
theorem form_short {s : St} (hs : s.2 < 4194304) {t : Option Tab} (hR : RepS t s) : (form s).length < 4000000000 := by
  obtain ⟨rows, rfl, hw, hl, hI⟩ := hR
  have hlen := hI.len
  have hsz := sz_le hI.ent
  have h1 := nm_le s.2; have h2 := nm_le s.1.length
  have f1 := fm_len s.2; have f2 := fm_len s.1.length
  have hfl := flat_len s.1
  unfold form
  simp only [List.length_append]; omega
theorem TableCopies_true {k : Nat} (hk : Fuel k) (ahead one two : List api_Op) (h1 : ahead.length + one.length < 4000000) (h2 : ahead.length + two.length < 4000000) :
    haulagelaw13_TableCopies.f k ahead one two = some true := by
  have h24 : 1099511627776 ≤ k := hk
  obtain ⟨t, et, Rt⟩ := made_eq hk ahead (by omega)
  unfold haulagelaw13_TableCopies.f
  rw [bind_eq (awake_eq hk), if_pos rfl, bind_eq et, bind_eq (copy_eq Rt)]
  have hns : Option.isNone t = false := by obtain ⟨rows, rfl, _⟩ := Rt; rfl
  rw [if_neg (by rw [hns]; simp)]
  have L := loop_inv (f := fun (s_ : (Option Tab) × (Option Tab) × Int) => haulagelaw13_TableCopies.b5 k one two s_.1 s_.2.1 s_.2.2)
    (I := fun i s => s.2.2 = (i : Int) ∧ RepS s.1 (run ([], 0) (ahead ++ one.take i)) ∧ RepS s.2.1 (run ([], 0) (ahead ++ two.take i)))
    (P := fun x => RepS x.1 (run ([], 0) (ahead ++ one)) ∧ RepS x.2 (run ([], 0) (ahead ++ two))) (N := max one.length two.length) ?_ ?_ (max one.length two.length) 0 (t, t, 0) k ⟨rfl, by simpa using Rt, by simpa using Rt⟩ (by omega) (by omega)
  · obtain ⟨x, ex, r1, r2⟩ := L
    rw [bind_eq ex]
    unfold haulagelaw13_TableCopies.j6
    obtain ⟨v, ev, Rv⟩ := made_eq hk (ahead ++ one) (by simp; omega)
    obtain ⟨w, ew, Rw⟩ := made_eq hk (ahead ++ two) (by simp; omega)
    have g1 : (run ([], 0) (ahead ++ one)).2 < 4194304 := run_lt (by simp; omega)
    have g2 : (run ([], 0) (ahead ++ two)).2 < 4194304 := run_lt (by simp; omega)
    simp only [List.nil_append]
    rw [if_pos (by omega), if_pos (by omega), bind_eq ev, if_pos (by omega), if_pos (by omega), bind_eq ew, bind_eq (bytes_eq hk g1 r1), bind_eq (bytes_eq hk g1 Rv)]
    rw [bind_eq (same_eq hk _ _ (Or.inl (form_short g1 r1))), if_pos (by simp), bind_eq (bytes_eq hk g2 r2), bind_eq (bytes_eq hk g2 Rw), bind_eq (same_eq hk _ _ (Or.inl (form_short g2 r2)))]
    simp
  · rintro i ⟨a, b, c⟩ hi ⟨rfl, r1, r2⟩
    left
    simp only at r1 r2
    have m1 := half hk h1 r1
    have m2 := half hk h2 r2
    have hj : ∀ a', RepS a' (run ([], 0) (ahead ++ one.take (i + 1))) → ∃ s', haulagelaw13_TableCopies.j4 k two b (i : Int) a' = some (.next s') ∧ s'.2.2 = ((i + 1 : Nat) : Int) ∧ RepS s'.1 (run ([], 0) (ahead ++ one.take (i + 1))) ∧ RepS s'.2.1 (run ([], 0) (ahead ++ two.take (i + 1))) := by
      intro a' ra
      unfold haulagelaw13_TableCopies.j4
      by_cases c : i < two.length
      · obtain ⟨x, y, b', eb, rb⟩ := m2.1 c
        rw [if_pos (by omega), if_pos (by omega), bind_eq eb, wrS i (by omega)]
        exact ⟨_, rfl, rfl, ra, rb⟩
      · rw [if_neg (by omega), wrS i (by omega)]
        exact ⟨_, rfl, rfl, ra, m2.2 c⟩
    have hb : haulagelaw13_TableCopies.b5 k one two a b (i : Int) = haulagelaw13_TableCopies.j3 k one two a b (i : Int) true := by
      unfold haulagelaw13_TableCopies.b5
      by_cases c : i < one.length
      · rw [if_pos (by omega)]
      · rw [if_neg (by omega), decide_eq_true (by omega)]
    show ∃ s', haulagelaw13_TableCopies.b5 k one two a b (i : Int) = _ ∧ _
    rw [hb]
    unfold haulagelaw13_TableCopies.j3
    rw [if_pos rfl]
    by_cases c : i < one.length
    · obtain ⟨x, y, a', ea, ra⟩ := m1.1 c
      rw [if_pos (by omega), if_pos (by omega), bind_eq ea]
      exact hj a' ra
    · rw [if_neg (by omega)]
      exact hj a (m1.2 c)
  · rintro ⟨a, b, c⟩ ⟨rfl, r1, r2⟩
    simp only at r1 r2
    rw [List.take_of_length_le (by omega)] at r1 r2
    refine ⟨(a, b), ?_, r1, r2⟩
    show haulagelaw13_TableCopies.b5 k one two a b ((max one.length two.length : Nat) : Int) = _
    have q1 := Nat.le_max_left one.length two.length; have q2 := Nat.le_max_right one.length two.length
    unfold haulagelaw13_TableCopies.b5 haulagelaw13_TableCopies.j3
    rw [if_neg (by omega), decide_eq_false (by omega), if_neg (by simp)]
end Go.Proofs.Ytcolmmjcdlmcoaa.G
/-! TableSwaps. -/
namespace Go.Proofs.Ytcolmmjcdlmcoaa.G
open Go
set_option linter.unusedVariables false
set_option linter.unusedSimpArgs false
theorem step_ge (s : St) (o : api_Op) : s.2 ≤ (stepS s o).2 := by rcases step_r s o with h | h <;> omega
theorem run_ge : ∀ (ops : List api_Op) (s : St), s.2 ≤ (run s ops).2
  | [], s => Nat.le_refl _
  | o :: ops, s => Nat.le_trans (step_ge s o) (run_ge ops (stepS s o))
theorem act_right {L : List Ent} {r : Nat} {o : api_Op} : (act L r o).2.1 = if right o = true then 0 else 131 := by
  unfold act
  cases right o <;> simp
  repeat' split
  all_goals rfl
theorem act_other {L : List Ent} {r : Nat} {o : api_Op} {K : ByteArray} (hI : Inv L r) (h : right o = false ∨ isW o = false ∨ bs o.Key ≠ K) : look K (act L r o).2.2.1 = look K L := by
  unfold act
  split
  · rfl
  · rename_i c0
    split
    · rfl
    · rename_i c5
      split
      · rfl
      · rename_i c1
        have hk : bs o.Key ≠ K := by
          rcases h with h | h | h
          · exact absurd h c0
          · have hr : right o = true := by simpa using c0
            have := (right_key hr).2.2.2
            unfold isW at h
            simp at h
            omega
          · exact h
        split
        · exact look_del_ne (Ne.symm hk) L hI.ord
        · split
          · exact look_ins_ne _ (Ne.symm hk) L
          · rfl
theorem act_key {L : List Ent} {r : Nat} {o : api_Op} (hI : Inv L r) (h : right o = true) (hw : isW o = true) :
    ((act L r o).1.Done = false → look (bs o.Key) (act L r o).2.2.1 = look (bs o.Key) L) ∧
    ((act L r o).1.Done = true → look (bs o.Key) (act L r o).2.2.1 = none ∨ ∃ c, look (bs o.Key) (act L r o).2.2.1 = some c ∧ c.rev = (r : Int) + 1) := by
  have hkind : o.Kind ≠ 5 ∧ o.Kind ≠ 1 := by
    unfold isW at hw
    simp at hw
    omega
  unfold act
  rw [if_neg (by simp [h]), if_neg hkind.1, if_neg hkind.2]
  split
  · refine ⟨fun hd => ?_, fun _ => Or.inl (look_del L hI.ord)⟩
    cases hq : look (bs o.Key) L with
    | none => rw [del_none L hq]; exact hq
    | some c => rw [hq] at hd; simp [told] at hd
  · split
    · refine ⟨fun hd => by simp at hd, fun _ => Or.inr ⟨_, look_ins _ _ L, rfl⟩⟩
    · exact ⟨fun _ => rfl, fun hd => by simp at hd⟩
def brange (xs : List Int) : Prop := ∀ n ∈ xs, 0 ≤ n ∧ n ≤ 255
theorem sb_bs {xs : List Int} (h : brange xs) : sb (bs xs) = xs := by
  unfold sb bs
  simp only [List.map_map]
  have : ∀ l : List Int, brange l → l.map ((fun b : UInt8 => (b.toNat : Int)) ∘ fun n => UInt8.ofNat n.toNat) = l := by
    intro l
    induction l with
    | nil => intro _; rfl
    | cons a l ih =>
      intro hl
      have ha := hl a (by simp)
      rw [List.map_cons, ih (fun n hn => hl n (by simp [hn]))]
      congr 1
      show ((UInt8.ofNat a.toNat).toNat : Int) = a
      rw [UInt8.toNat_ofNat']
      omega
  exact this xs h
theorem bs_inj {a b : List Int} (ha : brange a) (hb : brange b) (h : bs a = bs b) : a = b := by rw [← sb_bs ha, ← sb_bs hb, h]
theorem TableSwaps_true {k : Nat} (hk : Fuel k) (ahead : List api_Op) (key value : List Int) (between : List api_Op) (hn : ahead.length + between.length < 1200000) (hkl : key.length < 3000000) (hvl : value.length < 3000000)
    (hkr : brange key) (hbr : ∀ o ∈ between, brange o.Key) : haulagelaw13_TableSwaps.f k ahead key value between = some true := by
  have h24 : 1099511627776 ≤ k := hk
  obtain ⟨t, et, Rt⟩ := made_eq hk ahead (by omega)
  have hr0 : (run ([], 0) ahead).2 < 1200000 := run_lt (by omega)
  generalize run ([], 0) ahead = s0 at Rt hr0
  have hI0 : Inv s0.1 s0.2 := by obtain ⟨rows, _, _, _, hI⟩ := Rt; exact hI
  unfold haulagelaw13_TableSwaps.f haulagelaw13_get.f
  rw [bind_eq (awake_eq hk), if_pos rfl, bind_eq et, Option.bind_some]
  obtain ⟨t1, e1, R1⟩ := do_step hk (by omega) Rt (api_Op.mk 1 key [] 0)
  rw [bind_eq e1]
  have hright : right (api_Op.mk 1 key [] 0) = keyok (api_Op.mk 1 key [] 0) := by simp [right]
  by_cases hko : keyok (api_Op.mk 1 key [] 0) = true
  · have ha : act s0.1 s0.2 (api_Op.mk 1 key [] 0) = (told s0.2 (bs key) (look (bs key) s0.1), 0, s0.1, s0.2) := by
      unfold act
      rw [if_neg (by rw [hright, hko]; simp), if_neg (by simp), if_pos rfl]
    unfold stepS at R1
    rw [ha] at R1
    rw [ha]
    have R1' : RepS t1 s0 := R1
    rw [if_pos rfl]
    have L := loop_inv (f := fun (s_ : (Option Tab) × Bool × Int) => haulagelaw13_TableSwaps.b3 k key between s_.1 s_.2.1 s_.2.2)
      (I := fun i s => s.2.2 = (i : Int) ∧ RepS s.1 (run s0 (between.take i)) ∧ (s.2.1 = false → look (bs key) (run s0 (between.take i)).1 = look (bs key) s0.1) ∧ (s.2.1 = true → look (bs key) (run s0 (between.take i)).1 = none ∨ ∃ c, look (bs key) (run s0 (between.take i)).1 = some c ∧ (s0.2 : Int) < c.rev))
      (P := fun x => RepS x.1 (run s0 between) ∧ (x.2 = false → look (bs key) (run s0 between).1 = look (bs key) s0.1) ∧ (x.2 = true → look (bs key) (run s0 between).1 = none ∨ ∃ c, look (bs key) (run s0 between).1 = some c ∧ (s0.2 : Int) < c.rev)) (N := between.length) ?_ ?_ between.length 0 (t1, false, 0) k ⟨rfl, R1', fun _ => rfl, fun h => by simp at h⟩ (by omega) (by omega)
    · obtain ⟨⟨u, ch⟩, ex, Ru, hf, ht⟩ := L
      rw [bind_eq ex]
      simp only at Ru hf ht
      have hrs : (run s0 between).2 < 3500000 := by have := run_r between s0; omega
      generalize run s0 between = s at Ru hf ht hrs
      have hI : Inv s.1 s.2 := by obtain ⟨rows, _, _, _, hI⟩ := Ru; exact hI
      unfold haulagelaw13_TableSwaps.j4 haulagelaw13_get.f
      have hrev : (told s0.2 (bs key) (look (bs key) s0.1)).Rev = (look (bs key) s0.1).elim 0 (fun c => c.rev) := by cases look (bs key) s0.1 <;> rfl
      have hdone : (told s0.2 (bs key) (look (bs key) s0.1)).Done = (look (bs key) s0.1).isSome := by cases look (bs key) s0.1 <;> rfl
      have hrange : 0 ≤ (look (bs key) s0.1).elim 0 (fun c => c.rev) ∧ (look (bs key) s0.1).elim 0 (fun c => c.rev) ≤ (s0.2 : Int) := by
        cases hq : look (bs key) s0.1 with
        | none => simp
        | some c => have := hI0.look hq; exact ⟨by show 0 ≤ c.rev; omega, by show c.rev ≤ _; omega⟩
      simp only [hrev, hdone]
      generalize hq0 : look (bs key) s0.1 = q0 at hf hrange
      obtain ⟨u1, eu, Ru1⟩ := do_step hk (by omega) Ru (api_Op.mk 4 key value (q0.elim 0 (fun c => c.rev)))
      rw [bind_eq eu]
      have hsw : right (api_Op.mk 4 key value (q0.elim 0 (fun c => c.rev))) = decide (value.length ≤ 256) := by
        unfold right
        rw [if_pos rfl]
        have : keyok (api_Op.mk 4 key value (q0.elim 0 (fun c => c.rev))) = true := hko
        rw [this, decide_eq_true (show 0 ≤ (api_Op.mk 4 key value (q0.elim 0 (fun c => c.rev))).Rev from hrange.1), decide_eq_true (show (api_Op.mk 4 key value (q0.elim 0 (fun c => c.rev))).Rev ≤ 1099511627776 from by show q0.elim 0 (fun c => c.rev) ≤ _; omega)]
        simp
      by_cases hv : value.length ≤ 256
      · have hact : act s.1 s.2 (api_Op.mk 4 key value (q0.elim 0 (fun c => c.rev))) = if (look (bs key) s.1).elim 0 (fun c => c.rev) = q0.elim 0 (fun c => c.rev) then ({ told ((s.2 : Int) + 1) (bs key) (look (bs key) s.1) with Done := true }, 0, ins (bs key) ⟨value, s.2 + 1⟩ s.1, s.2 + 1) else ({ told ((s.2 : Int) + 1) (bs key) (look (bs key) s.1) with Done := false }, 0, s.1, s.2 + 1) := by
          unfold act
          rw [if_neg (by rw [hsw]; simp [hv]), if_neg (by simp), if_neg (by simp), if_neg (by simp)]
          simp
        have hr2 : (stepS s (api_Op.mk 4 key value (q0.elim 0 (fun c => c.rev)))).2 < 4000000 := by rcases step_r s (api_Op.mk 4 key value (q0.elim 0 (fun c => c.rev))) with h | h <;> omega
        obtain ⟨u2, eu2, Ru2⟩ := do_step hk (by omega) Ru1 (api_Op.mk 1 key [] 0)
        have hget : ∀ s' : St, act s'.1 s'.2 (api_Op.mk 1 key [] 0) = (told s'.2 (bs key) (look (bs key) s'.1), 0, s'.1, s'.2) := by
          intro s'
          unfold act
          rw [if_neg (by rw [hright, hko]; simp), if_neg (by simp), if_pos rfl]
        rw [hget] at eu2
        unfold stepS at eu2
        rw [hact] at eu2
        rw [hact]
        by_cases c : (look (bs key) s.1).elim 0 (fun c => c.rev) = q0.elim 0 (fun c => c.rev)
        · rw [if_pos c] at eu2 ⊢
          rw [if_pos rfl, Option.bind_some, bind_eq eu2, if_pos rfl]
          simp only [look_ins, if_true]
          have e3 : (told ((s.2 + 1 : Nat) : Int) (bs key) (some ⟨value, (s.2 : Int) + 1⟩)) = ⟨true, sb (bs key), value, (s.2 : Int) + 1, ((s.2 + 1 : Nat) : Int)⟩ := rfl
          simp only [e3, if_true]
          rw [bind_eq (same_eq hk _ _ (by omega)), if_pos (by simp), if_pos (by show (s.2 : Int) + 1 = (told ((s.2 : Int) + 1) (bs key) (look (bs key) s.1)).At; cases look (bs key) s.1 <;> rfl)]
          cases ch with
          | false => simp
          | true =>
            rw [if_pos rfl]
            cases q0 with
            | none => simp
            | some c0 =>
              exfalso
              have h0 := hI0.look hq0
              simp only [Option.elim] at c hrange
              rcases ht rfl with h | ⟨c1, h1, h2⟩
              · rw [h] at c; simp only at c; omega
              · rw [h1] at c; simp only at c; omega
        · rw [if_neg c] at eu2 ⊢
          rw [if_pos rfl, Option.bind_some, bind_eq eu2, if_pos rfl]
          rw [if_neg (by simp)]
          cases ch with
          | false => exact absurd (by rw [hf rfl]) c
          | true =>
            rw [if_pos rfl]
            rw [if_pos (by cases look (bs key) s.1 <;> rfl)]
            have hval : (told ((s.2 + 1 : Nat) : Int) (bs key) (look (bs key) s.1)).Value = (told ((s.2 : Int) + 1) (bs key) (look (bs key) s.1)).Value := by cases look (bs key) s.1 <;> rfl
            have hlen : (told ((s.2 + 1 : Nat) : Int) (bs key) (look (bs key) s.1)).Value.length < 4000000000 := by
              cases hq : look (bs key) s.1 with
              | none => simp [told]
              | some c1 => have := hI.look hq; show c1.value.length < _; omega
            rw [bind_eq (same_eq hk _ _ (Or.inl hlen)), if_pos (by simp [hval])]
            by_cases hp : 0 < q0.elim 0 (fun c => c.rev)
            · rw [if_pos hp]
            · rw [if_neg hp]
              cases hq : look (bs key) s.1 with
              | none => rw [hq] at c; exact absurd (by simp only [Option.elim] at hrange hp ⊢; omega) c
              | some c1 => rfl
      · rw [if_neg]
        · simp; omega
        · rw [act_right, hsw]; simp [hv]
    · rintro i ⟨a, ch, j⟩ hi ⟨rfl, r1, r2, r3⟩
      left
      simp only at r1 r2 r3
      have hlt : (run s0 (between.take i)).2 < 4000000 := by
        have := run_r (between.take i) s0
        rw [List.length_take] at this; omega
      obtain ⟨a', ea, ra⟩ := do_step hk (by omega) r1 between[i]
      have htk : run s0 (between.take (i + 1)) = stepS (run s0 (between.take i)) between[i] := by rw [take_one hi, run_snoc]
      rw [htk]
      have hge : s0.2 ≤ (run s0 (between.take i)).2 := run_ge _ _
      generalize run s0 (between.take i) = s at r1 r2 r3 ra ea hlt hge
      have hI : Inv s.1 s.2 := by obtain ⟨rows, _, _, _, hI⟩ := r1; exact hI
      have hmem : between[i] ∈ between := List.getElem_mem hi
      generalize ho : between[i] = o at ea ra hmem
      have hrd : rd between (i : Int) = o := by rw [rd_eq hi, ho]
      show ∃ s', haulagelaw13_TableSwaps.b3 k key between a ch (i : Int) = _ ∧ _
      unfold haulagelaw13_TableSwaps.b3
      rw [if_pos (by omega), if_pos (by omega), hrd, bind_eq ea]
      have keep : ∀ b, b = true → look (bs key) (stepS s o).1 = look (bs key) s.1 → ∃ s', haulagelaw13_TableSwaps.j2 ((act s.1 s.2 o).1, (act s.1 s.2 o).2.1, a') ch (i : Int) b = some (.next s') ∧ s'.2.2 = ((i + 1 : Nat) : Int) ∧ RepS s'.1 (stepS s o) ∧ (s'.2.1 = false → look (bs key) (stepS s o).1 = look (bs key) s0.1) ∧ (s'.2.1 = true → look (bs key) (stepS s o).1 = none ∨ ∃ c, look (bs key) (stepS s o).1 = some c ∧ (s0.2 : Int) < c.rev) := by
        intro b hb hl
        subst hb
        unfold haulagelaw13_TableSwaps.j2
        rw [if_pos rfl, wrS i (by omega), hl]
        exact ⟨_, rfl, rfl, ra, r2, r3⟩
      by_cases hR : right o = true
      · rw [if_pos (by rw [act_right, if_pos hR])]
        rw [if_pos (by omega), bind_eq (writes_eq' o)]
        by_cases hw : isW o = true
        · rw [if_pos hw, if_pos (by omega)]
          have hkk := (right_key hR).1
          rw [bind_eq (same_eq hk _ _ (Or.inl (by omega)))]
          by_cases hkey : o.Key = key
          · have K := act_key hI hR hw
            rw [hkey] at K
            unfold haulagelaw13_TableSwaps.j2
            rw [if_neg (by simp [hkey]), wrS i (by omega)]
            cases ch with
            | true =>
              rw [if_pos rfl]
              refine ⟨_, rfl, rfl, ra, fun h => by simp at h, fun _ => ?_⟩
              cases hd : (act s.1 s.2 o).1.Done with
              | false =>
                show look (bs key) (act s.1 s.2 o).2.2.1 = none ∨ ∃ c, look (bs key) (act s.1 s.2 o).2.2.1 = some c ∧ _
                rw [K.1 hd]; exact r3 rfl
              | true =>
                rcases K.2 hd with h | ⟨c, h1, h2⟩
                · exact Or.inl h
                · exact Or.inr ⟨c, h1, by omega⟩
            | false =>
              rw [if_neg (by simp)]
              refine ⟨_, rfl, rfl, ra, fun hd => ?_, fun hd => ?_⟩
              · show look (bs key) (act s.1 s.2 o).2.2.1 = _
                rw [K.1 hd]; exact r2 rfl
              · rcases K.2 hd with h | ⟨c, h1, h2⟩
                · exact Or.inl h
                · exact Or.inr ⟨c, h1, by omega⟩
          · exact keep _ (by simp [hkey]) (act_other hI (Or.inr (Or.inr (fun h => hkey (bs_inj (hbr o hmem) hkr h)))))
        · rw [if_neg hw]
          exact keep _ rfl (act_other hI (Or.inr (Or.inl (by simpa using hw))))
      · rw [if_neg (by rw [act_right, if_neg hR]; simp)]
        exact keep _ rfl (act_other hI (Or.inl (by simpa using hR)))
    · rintro ⟨a, ch, j⟩ ⟨rfl, r1, r2, r3⟩
      simp only at r1 r2 r3
      rw [List.take_of_length_le (by omega)] at r1 r2 r3
      refine ⟨(a, ch), ?_, r1, r2, r3⟩
      show haulagelaw13_TableSwaps.b3 k key between a ch ((between.length : Nat) : Int) = _
      unfold haulagelaw13_TableSwaps.b3
      rw [if_neg (by omega)]
  · have ha : act s0.1 s0.2 (api_Op.mk 1 key [] 0) = (zeroA, 131, s0.1, s0.2) := by
      unfold act
      rw [if_pos (by rw [hright]; simpa using hko)]
    rw [ha, if_neg (by simp), Option.bind_some, bind_eq (right_eq _), hright]
    simp only [Bool.not_eq_true] at hko
    rw [hko]; rfl
end Go.Proofs.Ytcolmmjcdlmcoaa.G
/-! TableMap. -/
namespace Go.Proofs.Ytcolmmjcdlmcoaa.G
open Go
set_option linter.unusedVariables false
set_option linter.unusedSimpArgs false
def cellOf (ρ : api_Row) : Option table_cell := if ρ.Rev = 0 then none else some ⟨ρ.Value, ρ.Rev⟩
structure Mp (s : St) (R : List api_Row) : Prop where
  dis : ∀ i j (hi : i < R.length) (hj : j < R.length), i ≠ j → R[i].Key ≠ R[j].Key
  rng : ∀ i (hi : i < R.length), brange R[i].Key
  cel : ∀ i (hi : i < R.length), cellOf R[i] = look (bs R[i].Key) s.1
  cov : ∀ e ∈ s.1, ∃ i, ∃ hi : i < R.length, bs R[i].Key = e.1
theorem Mp.set {s s' : St} {R : List api_Row} (h : Mp s R) {n : Nat} (hn : n < R.length) {ρ : api_Row} (hk : ρ.Key = R[n].Key) (h1 : ∀ K, K ≠ bs R[n].Key → look K s'.1 = look K s.1) (h2 : cellOf ρ = look (bs R[n].Key) s'.1)
    (h3 : ∀ e ∈ s'.1, e ∈ s.1 ∨ e.1 = bs R[n].Key) : Mp s' (R.set n ρ) := by
  have key : ∀ i (hi : i < (R.set n ρ).length), (R.set n ρ)[i].Key = (R[i]'(by simpa using hi)).Key := by
    intro i hi
    rw [List.getElem_set]
    split
    · rename_i e; subst e; exact hk
    · rfl
  refine ⟨fun i j hi hj hij => ?_, fun i hi => ?_, fun i hi => ?_, fun e he => ?_⟩
  · rw [key, key]; exact h.dis i j _ _ hij
  · rw [key]; exact h.rng i _
  · have hi' : i < R.length := by simpa using hi
    rw [key]
    by_cases e : n = i
    · subst e
      rw [List.getElem_set, if_pos rfl]; exact h2
    · rw [List.getElem_set, if_neg e, h.cel i hi', h1]
      intro q
      exact h.dis i n hi' hn (Ne.symm e) (bs_inj (h.rng i hi') (h.rng n hn) q)
  · rcases h3 e he with q | q
    · obtain ⟨i, hi, g⟩ := h.cov e q
      exact ⟨i, by simpa using hi, by rw [key]; exact g⟩
    · exact ⟨n, by simpa using hn, by rw [key]; exact q.symm⟩
theorem Mp.push {s : St} {R : List api_Row} (h : Mp s R) {key : List Int} (hr : brange key) (hn : ∀ i (hi : i < R.length), R[i].Key ≠ key) : Mp s (R ++ [⟨key, [], 0⟩]) := by
  have lt : ∀ i (hi : i < (R ++ [api_Row.mk key [] 0]).length), i < R.length ∨ i = R.length := by intro i hi; simp at hi; omega
  have gl : ∀ i (hi : i < R.length) (hi' : i < (R ++ [api_Row.mk key [] 0]).length), (R ++ [api_Row.mk key [] 0])[i] = R[i] := fun i hi hi' => List.getElem_append_left hi
  have gr : ∀ (hi' : R.length < (R ++ [api_Row.mk key [] 0]).length), (R ++ [api_Row.mk key [] 0])[R.length] = ⟨key, [], 0⟩ := fun hi' => by simp
  refine ⟨fun i j hi hj hij => ?_, fun i hi => ?_, fun i hi => ?_, fun e he => ?_⟩
  · rcases lt i hi with a | a <;> rcases lt j hj with b | b
    · rw [gl i a, gl j b]; exact h.dis i j a b hij
    · subst b; rw [gl i a, gr]; exact hn i a
    · subst a; rw [gl j b, gr]; exact Ne.symm (hn j b)
    · omega
  · rcases lt i hi with a | a
    · rw [gl i a]; exact h.rng i a
    · subst a; rw [gr]; exact hr
  · rcases lt i hi with a | a
    · rw [gl i a]; exact h.cel i a
    · subst a; rw [gr]
      show none = look (bs key) s.1
      cases hq : look (bs key) s.1 with
      | none => rfl
      | some c =>
        obtain ⟨i, hi, g⟩ := h.cov _ (look_mem s.1 hq)
        exact absurd (bs_inj (h.rng i hi) hr g) (hn i hi)
  · obtain ⟨i, hi, g⟩ := h.cov e he
    exact ⟨i, by simp; omega, by rw [gl i hi]; exact g⟩
/-! ### finding a row -/
theorem find_eq {k : Nat} (hk : Fuel k) (ops : List api_Op) (i : Nat) (R : List api_Row) (hR : R.length < 3000000) (hi : i < ops.length) (hl : ops[i].Key.length < 4000000) :
    ∃ x, loop (fun (s_ : Int × Int) => haulagelaw13_TableMap.b8 k ops R (i : Int) s_.1 s_.2) k ((-1), 0) = some x ∧ ((x = -1 ∧ ∀ m (hm : m < R.length), R[m].Key ≠ ops[i].Key) ∨ ∃ n, ∃ hn : n < R.length, x = (n : Int) ∧ R[n].Key = ops[i].Key) := by
  have h24 : 1099511627776 ≤ k := hk
  refine loop_inv (f := fun (s_ : Int × Int) => haulagelaw13_TableMap.b8 k ops R (i : Int) s_.1 s_.2)
    (I := fun j q => q.2 = (j : Int) ∧ ((q.1 = -1 ∧ ∀ m (hm : m < R.length), m < j → R[m].Key ≠ ops[i].Key) ∨ ∃ n, ∃ hn : n < R.length, q.1 = (n : Int) ∧ R[n].Key = ops[i].Key)) (N := R.length) ?_ ?_ R.length 0 (-1, 0) k ⟨rfl, Or.inl ⟨rfl, fun m hm h => by omega⟩⟩ (by omega) (by omega)
  · rintro j ⟨a, b⟩ hj ⟨rfl, h⟩
    left
    show ∃ s', haulagelaw13_TableMap.b8 k ops R (i : Int) a (j : Int) = _ ∧ _
    unfold haulagelaw13_TableMap.b8
    rw [if_pos (by omega), if_pos (by omega), rd_eq hj, rd_eq hi, bind_eq (same_eq hk _ _ (Or.inr (by omega)))]
    by_cases c : R[j].Key = ops[i].Key
    · rw [if_pos (by simp [c]), wrS j (by omega)]
      exact ⟨_, rfl, rfl, Or.inr ⟨j, hj, rfl, c⟩⟩
    · rw [if_neg (by simp [c]), wrS j (by omega)]
      refine ⟨_, rfl, rfl, ?_⟩
      rcases h with ⟨h1, h2⟩ | h
      · left
        refine ⟨h1, fun m hm hlt => ?_⟩
        by_cases e : m = j
        · subst e; exact c
        · exact h2 m hm (by omega)
      · exact Or.inr h
  · rintro ⟨a, b⟩ ⟨rfl, h⟩
    refine ⟨a, ?_, ?_⟩
    · show haulagelaw13_TableMap.b8 k ops R (i : Int) a ((R.length : Nat) : Int) = _
      unfold haulagelaw13_TableMap.b8
      rw [if_neg (by omega)]
    · rcases h with ⟨h1, h2⟩ | h
      · exact Or.inl ⟨h1, fun m hm => h2 m hm hm⟩
      · exact Or.inr h
/-! ### one write -/
theorem step_put {s : St} {R : List api_Row} (hM : Mp s R) {n : Nat} (hn : n < R.length) {o : api_Op} (hk : R[n].Key = o.Key) {s' : St} (hs : s'.1 = ins (bs o.Key) ⟨o.Value, (s.2 : Int) + 1⟩ s.1) : Mp s' (R.set n ⟨o.Key, o.Value, (s.2 : Int) + 1⟩) := by
  refine hM.set hn hk.symm (fun K hK => ?_) ?_ (fun e he => ?_)
  · rw [hs, look_ins_ne]; rw [← hk]; exact hK
  · rw [hs, hk, look_ins]
    unfold cellOf
    rw [if_neg (by show ¬ ((s.2 : Int) + 1 = 0); omega)]
  · rw [hs] at he
    rcases mem_ins s.1 he with rfl | h
    · right; rw [hk]
    · exact Or.inl h
theorem step_del {s : St} {R : List api_Row} (hM : Mp s R) (hI : Inv s.1 s.2) {n : Nat} (hn : n < R.length) {o : api_Op} (hk : R[n].Key = o.Key) {s' : St} (hs : s'.1 = del (bs o.Key) s.1) : Mp s' (R.set n ⟨R[n].Key, R[n].Value, 0⟩) := by
  refine hM.set hn rfl (fun K hK => ?_) ?_ (fun e he => ?_)
  · rw [hs]; exact look_del_ne (by rw [← hk]; exact hK) s.1 hI.ord
  · rw [hs, hk, look_del s.1 hI.ord]; rfl
  · rw [hs] at he; exact Or.inl (mem_del s.1 he)
theorem Mp.look {s s' : St} {R : List api_Row} (h : Mp s R) (e : s'.1 = s.1) : Mp s' R := ⟨h.dis, h.rng, by rw [e]; exact h.cel, by rw [e]; exact h.cov⟩
/-- behind the search: what is checked, and what is next -/
theorem write_eq {k : Nat} (hk : Fuel k) (ops : List api_Op) (i : Nat) (hi : i < ops.length) (hb : ops.length < 3000000) {s : St} (hI : Inv s.1 s.2) (hr : s.2 < 4000000) {R : List api_Row} (hM : Mp s R) {n : Nat} (hn : n < R.length)
    (hkey : R[n].Key = ops[i].Key) (hR : right ops[i] = true) (hw : isW ops[i] = true) (t' : Option Tab) :
    ∃ R', haulagelaw13_TableMap.j10 k ops ((act s.1 s.2 ops[i]).1, (act s.1 s.2 ops[i]).2.1, t') (s.2 : Int) (i : Int) R (n : Int) = some (.next (t', R', ((stepS s ops[i]).2 : Int), ((i + 1 : Nat) : Int))) ∧ Mp (stepS s ops[i]) R' ∧ R'.length = R.length := by
  have hrd : rd ops (i : Int) = ops[i] := rd_eq hi
  have hcel := hM.cel n hn
  generalize ho : ops[i] = o at hkey hR hw hrd ⊢
  rw [hkey] at hcel
  have hkk := right_key hR
  have hkind : o.Kind ≠ 5 ∧ o.Kind ≠ 1 := by
    unfold isW at hw
    simp at hw
    omega
  have hk1 := hkk.2.2.1 hkind.1
  have hK : ∀ q c, (told q (bs o.Key) (some c)).Key.length = o.Key.length := fun q c => by show (sb (bs o.Key)).length = _; rw [sb_len, bs_size]
  unfold haulagelaw13_TableMap.j10
  rw [if_pos (by omega)]
  have hRn : rd R (n : Int) = R[n] := rd_eq hn
  rw [hRn]
  -- the answer's row
  have hact : (act s.1 s.2 o).1.Rev = R[n].Rev ∧ (act s.1 s.2 o).1.At = (s.2 : Int) + 1 ∧ (0 < R[n].Rev → (act s.1 s.2 o).1.Value = R[n].Value ∧ 0 < (act s.1 s.2 o).1.Key.length ∧ (act s.1 s.2 o).1.Value.length ≤ 256) ∧ (¬ 0 < R[n].Rev → (act s.1 s.2 o).1.Key = []) ∧
      (act s.1 s.2 o).1 = { told ((s.2 : Int) + 1) (bs o.Key) (look (bs o.Key) s.1) with Done := (act s.1 s.2 o).1.Done } := by
    have base : (told ((s.2 : Int) + 1) (bs o.Key) (look (bs o.Key) s.1)).Rev = R[n].Rev ∧ (told ((s.2 : Int) + 1) (bs o.Key) (look (bs o.Key) s.1)).At = (s.2 : Int) + 1 ∧ (0 < R[n].Rev → (told ((s.2 : Int) + 1) (bs o.Key) (look (bs o.Key) s.1)).Value = R[n].Value ∧ 0 < (told ((s.2 : Int) + 1) (bs o.Key) (look (bs o.Key) s.1)).Key.length ∧ (told ((s.2 : Int) + 1) (bs o.Key) (look (bs o.Key) s.1)).Value.length ≤ 256) ∧ (¬ 0 < R[n].Rev → (told ((s.2 : Int) + 1) (bs o.Key) (look (bs o.Key) s.1)).Key = []) := by
      unfold cellOf at hcel
      by_cases c : R[n].Rev = 0
      · rw [if_pos c] at hcel
        rw [← hcel]
        exact ⟨c.symm, rfl, fun h => by omega, fun _ => rfl⟩
      · rw [if_neg c] at hcel
        have := hI.look hcel.symm
        rw [← hcel]
        exact ⟨rfl, rfl, fun _ => ⟨rfl, by rw [hK]; omega, this.2.2.1⟩, fun h => by have h4 : (1 : Int) ≤ R[n].Rev := this.2.2.2.1; omega⟩
    unfold act
    rw [if_neg (by simp [hR]), if_neg hkind.1, if_neg hkind.2]
    split
    · exact ⟨base.1, base.2.1, base.2.2.1, base.2.2.2, rfl⟩
    · split
      · exact ⟨base.1, base.2.1, base.2.2.1, base.2.2.2, rfl⟩
      · exact ⟨base.1, base.2.1, base.2.2.1, base.2.2.2, rfl⟩
  obtain ⟨a1, a2, a3, a4, a5⟩ := hact
  rw [if_pos a1]
  have j11 : ∃ R', haulagelaw13_TableMap.j11 ops ((act s.1 s.2 o).1, (act s.1 s.2 o).2.1, t') (s.2 : Int) (i : Int) R (n : Int) false = some (.next (t', R', ((stepS s o).2 : Int), ((i + 1 : Nat) : Int))) ∧ Mp (stepS s o) R' ∧ R'.length = R.length := by
    unfold haulagelaw13_TableMap.j11
    rw [if_neg (by simp), hrd]
    have hr1 : ((s.2 + 1 : Nat) : Int) = (s.2 : Int) + 1 := by omega
    have j12 : ∀ b, (act s.1 s.2 o).1.Done = b → (o.Kind = 3 → (stepS s o) = (del (bs o.Key) s.1, s.2 + 1)) → (o.Kind ≠ 3 → b = true → (stepS s o) = (ins (bs o.Key) ⟨o.Value, (s.2 : Int) + 1⟩ s.1, s.2 + 1)) → (o.Kind ≠ 3 → b = false → (stepS s o) = (s.1, s.2 + 1)) →
        ∃ R', haulagelaw13_TableMap.j12 ops ((act s.1 s.2 o).1, (act s.1 s.2 o).2.1, t') (s.2 : Int) (i : Int) R (n : Int) b = some (.next (t', R', ((stepS s o).2 : Int), ((i + 1 : Nat) : Int))) ∧ Mp (stepS s o) R' ∧ R'.length = R.length := by
      intro b hd h3 h4 h5
      unfold haulagelaw13_TableMap.j12
      rw [if_pos (by rw [hd]; simp), hrd, hRn, wrS i (by omega), wrS s.2 (by omega), Int.toNat_natCast]
      by_cases c3 : o.Kind = 3
      · rw [if_pos c3, if_pos (by omega), h3 c3]
        exact ⟨_, rfl, step_del hM hI hn hkey rfl, by simp⟩
      · rw [if_neg c3]
        cases b with
        | true =>
          rw [if_pos rfl, if_pos (by omega), h4 c3 rfl, hr1]
          exact ⟨_, by rfl, step_put hM hn hkey rfl, by simp⟩
        | false =>
          rw [if_neg (by simp), h5 c3 rfl]
          exact ⟨_, rfl, hM.look rfl, rfl⟩
    have hun : act s.1 s.2 o = if o.Kind = 3 then (told ((s.2 : Int) + 1) (bs o.Key) (look (bs o.Key) s.1), 0, del (bs o.Key) s.1, s.2 + 1)
        else if o.Kind = 2 ∨ (look (bs o.Key) s.1).elim 0 (fun c => c.rev) = o.Rev then ({ told ((s.2 : Int) + 1) (bs o.Key) (look (bs o.Key) s.1) with Done := true }, 0, ins (bs o.Key) ⟨o.Value, s.2 + 1⟩ s.1, s.2 + 1)
        else ({ told ((s.2 : Int) + 1) (bs o.Key) (look (bs o.Key) s.1) with Done := false }, 0, s.1, s.2 + 1) := by
      conv => lhs; unfold act
      rw [if_neg (by simp [hR]), if_neg hkind.1, if_neg hkind.2]
    have hel : (look (bs o.Key) s.1).elim 0 (fun c => c.rev) = R[n].Rev := by
      rw [← hcel]; unfold cellOf
      by_cases c : R[n].Rev = 0
      · rw [if_pos c, c]; rfl
      · rw [if_neg c]; rfl
    by_cases c2 : o.Kind = 2
    · rw [if_pos c2]
      have e : act s.1 s.2 o = ({ told ((s.2 : Int) + 1) (bs o.Key) (look (bs o.Key) s.1) with Done := true }, 0, ins (bs o.Key) ⟨o.Value, s.2 + 1⟩ s.1, s.2 + 1) := by
        rw [hun, if_neg (by omega), if_pos (Or.inl c2)]
      refine j12 true (by rw [e]) (fun h => by omega) (fun _ _ => ?_) (fun _ h => by cases h)
      unfold stepS; rw [e]
    · rw [if_neg c2]
      by_cases c3 : o.Kind = 3
      · rw [if_pos c3]
        have e : act s.1 s.2 o = (told ((s.2 : Int) + 1) (bs o.Key) (look (bs o.Key) s.1), 0, del (bs o.Key) s.1, s.2 + 1) := by rw [hun, if_pos c3]
        have hd : (act s.1 s.2 o).1.Done = decide (0 < R[n].Rev) := by
          rw [e, ← hcel]; unfold cellOf
          by_cases c : R[n].Rev = 0
          · rw [if_pos c, c]; rfl
          · rw [if_neg c]
            unfold cellOf at hcel
            rw [if_neg c] at hcel
            have h4 : (1 : Int) ≤ R[n].Rev := (hI.look hcel.symm).2.2.2.1
            rw [decide_eq_true (by omega)]; rfl
        by_cases c : 0 < R[n].Rev
        · rw [if_pos (by show 0 < (act s.1 s.2 o).1.Rev; rw [a1]; exact c)]
          refine j12 true (by rw [hd]; simp [c]) (fun _ => by unfold stepS; rw [e]) (fun h => absurd c3 h) (fun h => absurd c3 h)
        · rw [if_neg (by show ¬ 0 < (act s.1 s.2 o).1.Rev; rw [a1]; exact c), if_neg (by omega)]
          refine j12 false (by rw [hd]; simp [c]) (fun _ => by unfold stepS; rw [e]) (fun h => absurd c3 h) (fun h => absurd c3 h)
      · rw [if_neg c3]
        have c4 : o.Kind = 4 := by omega
        rw [if_pos c4]
        have hrv : ((act s.1 s.2 o).1, (act s.1 s.2 o).2.1, t').1.Rev = R[n].Rev := a1
        rw [hrv]
        by_cases c : R[n].Rev = o.Rev
        · have e : act s.1 s.2 o = ({ told ((s.2 : Int) + 1) (bs o.Key) (look (bs o.Key) s.1) with Done := true }, 0, ins (bs o.Key) ⟨o.Value, s.2 + 1⟩ s.1, s.2 + 1) := by
            rw [hun, if_neg c3, if_pos (Or.inr (by rw [hel]; exact c))]
          rw [decide_eq_true c]
          refine j12 true (by rw [e]) (fun h => by omega) (fun _ _ => ?_) (fun _ h => by cases h)
          unfold stepS; rw [e]
        · have e : act s.1 s.2 o = ({ told ((s.2 : Int) + 1) (bs o.Key) (look (bs o.Key) s.1) with Done := false }, 0, s.1, s.2 + 1) := by
            rw [hun, if_neg c3, if_neg (by rw [hel]; rintro (h | h); exact c2 h; exact c h)]
          rw [decide_eq_false c]
          refine j12 false (by rw [e]) (fun h => by omega) (fun _ h => by cases h) (fun _ _ => ?_)
          unfold stepS; rw [e]
  have hrv : ((act s.1 s.2 o).1, (act s.1 s.2 o).2.1, t').1.Rev = R[n].Rev := a1
  by_cases c : 0 < R[n].Rev
  · obtain ⟨b1, b2, b3⟩ := a3 c
    rw [hrv, if_pos c, if_pos (by omega)]
    have hsame : haulagelaw13_same.f k ((act s.1 s.2 o).1, (act s.1 s.2 o).2.1, t').1.Value R[n].Value = some true := by
      show haulagelaw13_same.f k (act s.1 s.2 o).1.Value R[n].Value = some true
      rw [same_eq hk _ _ (Or.inl (by omega)), b1]; simp
    rw [bind_eq hsame, if_pos rfl, decide_eq_true (show 0 < ((((act s.1 s.2 o).1, (act s.1 s.2 o).2.1, t').1.Key.length : Nat) : Int) by show 0 < (((act s.1 s.2 o).1.Key.length : Nat) : Int); omega), decide_eq_true c]
    exact j11
  · have b := a4 c
    rw [hrv, if_neg c, decide_eq_false c, decide_eq_false (show ¬ 0 < ((((act s.1 s.2 o).1, (act s.1 s.2 o).2.1, t').1.Key.length : Nat) : Int) by show ¬ 0 < (((act s.1 s.2 o).1.Key.length : Nat) : Int); rw [b]; simp)]
    exact j11
end Go.Proofs.Ytcolmmjcdlmcoaa.G
/-! TableMap: the loop; the end. -/
namespace Go.Proofs.Ytcolmmjcdlmcoaa.G
open Go
set_option linter.unusedVariables false
set_option linter.unusedSimpArgs false
theorem act_keep {s : St} {o : api_Op} (h : ¬ (right o = true ∧ isW o = true)) : stepS s o = s := by
  unfold stepS
  by_cases hR : right o = true
  · by_cases hw : isW o = true
    · exact absurd ⟨hR, hw⟩ h
    · have hkind := (right_key hR).2.2.2
      unfold isW at hw
      simp at hw
      unfold act
      rw [if_neg (by simp [hR])]
      split
      · rfl
      · rw [if_pos (by omega)]
  · unfold act
    rw [if_pos (by simpa using hR)]
/-! ### the order of keys as the law asks for it -/
def cm : List Int → List Int → Bool
  | [], [] => false
  | [], _ :: _ => true
  | _ :: _, [] => false
  | a :: x, b :: y => if a = b then cm x y else decide (a < b)
theorem cm_bl : ∀ x y : List UInt8, cm (x.map fun b => (b.toNat : Int)) (y.map fun b => (b.toNat : Int)) = Op.bytesLess x y
  | [], [] => rfl
  | [], _ :: _ => rfl
  | _ :: _, [] => rfl
  | a :: x, b :: y => by
    simp only [List.map_cons, cm, Op.bytesLess]
    by_cases c : a = b
    · subst c
      rw [if_pos rfl, cm_bl x y]
      simp
    · have h1 : ¬ ((a.toNat : Int) = (b.toNat : Int)) := fun h => c (UInt8.toNat_inj.1 (by omega))
      rw [if_neg h1]
      have h2 : (a == b) = false := by simpa using c
      rw [h2, Bool.false_and, Bool.or_false]
      apply decide_eq_decide.2
      rw [UInt8.lt_iff_toNat_lt]
      omega
theorem comes_loop (a b : List Int) (ha : a.length < 4000000) : ∀ (n i m : Nat), i + n = a.length → n < m → i ≤ b.length →
    (∃ x, loop (fun (s_ : Int) => haulagelaw13_comes.b2 a b s_) m (i : Int) = some x ∧ (match x with | .inl _ => haulagelaw13_comes.j3 a b | .inr q => some q) = some (cm (a.drop i) (b.drop i)))
  | _, _, 0, _, h, _ => absurd h (by omega)
  | 0, i, m + 1, h, _, hb => by
    refine ⟨Sum.inl (), loop_done ?_, ?_⟩
    · unfold haulagelaw13_comes.b2 haulagelaw13_comes.j1
      rw [if_neg (by omega), if_neg (by simp)]
    · show haulagelaw13_comes.j3 a b = _
      unfold haulagelaw13_comes.j3
      rw [List.drop_of_length_le (by omega)]
      congr 1
      by_cases c : i < b.length
      · rw [List.drop_eq_getElem_cons c, decide_eq_true (by omega)]; rfl
      · rw [List.drop_of_length_le (by omega), decide_eq_false (by omega)]; rfl
  | n + 1, i, m + 1, h, hm, hb => by
    have hi : i < a.length := by omega
    rw [List.drop_eq_getElem_cons hi]
    by_cases c : i < b.length
    · rw [List.drop_eq_getElem_cons c]
      by_cases e : a[i] = b[i]
      · rw [loop_next (s' := ((i + 1 : Nat) : Int))]
        · have := comes_loop a b ha n (i + 1) m (by omega) (by omega) (by omega)
          simp only [cm, e, if_true]
          exact this
        · unfold haulagelaw13_comes.b2 haulagelaw13_comes.j1
          rw [if_pos (by omega), if_pos (by simp; omega), if_pos (by omega), if_pos (by omega), rd_eq hi, rd_eq c, if_pos e, wrS i (by omega)]
      · refine ⟨Sum.inr (decide (a[i] < b[i])), loop_done ?_, ?_⟩
        · unfold haulagelaw13_comes.b2 haulagelaw13_comes.j1
          rw [if_pos (by omega), if_pos (by simp; omega), if_pos (by omega), if_pos (by omega), rd_eq hi, rd_eq c, if_neg e, if_pos (by omega), if_pos (by omega)]
        · simp only [cm, if_neg e]
    · refine ⟨Sum.inl (), loop_done ?_, ?_⟩
      · unfold haulagelaw13_comes.b2 haulagelaw13_comes.j1
        rw [if_pos (by omega), if_neg (by simp; omega)]
      · show haulagelaw13_comes.j3 a b = _
        unfold haulagelaw13_comes.j3
        rw [List.drop_of_length_le (show b.length ≤ i by omega)]
        congr 1
        rw [decide_eq_false (by omega)]; rfl
theorem comes_eq {k : Nat} (hk : Fuel k) (a b : List Int) (ha : a.length < 4000000) : haulagelaw13_comes.f k a b = some (cm a b) := by
  have h24 : 1099511627776 ≤ k := hk
  obtain ⟨x, e, h⟩ := comes_loop a b ha a.length 0 k (by omega) (by omega) (Nat.zero_le _)
  unfold haulagelaw13_comes.f
  rw [show (0 : Int) = ((0 : Nat) : Int) from rfl, bind_eq e]
  rw [List.drop_zero, List.drop_zero] at h
  cases x <;> exact h
/-! ### how many -/
theorem len_sub {α : Type} [DecidableEq α] : ∀ F G : List α, F.Nodup → (∀ x ∈ F, x ∈ G) → F.length ≤ G.length
  | [], G, _, _ => Nat.zero_le _
  | x :: F, G, hn, hs => by
    rw [List.nodup_cons] at hn
    have hx := hs x (by simp)
    have := len_sub F (G.erase x) hn.2 (fun y hy => (List.mem_erase_of_ne (fun e => hn.1 (by rw [← e]; exact hy))).2 (hs y (by simp [hy])))
    rw [List.length_erase_of_mem hx] at this
    have := List.length_pos_of_mem hx
    simp only [List.length_cons]; omega
def live (R : List api_Row) : List api_Row := R.filter fun ρ => decide (ρ.Rev ≠ 0)
theorem Mp.count {s : St} {R : List api_Row} (h : Mp s R) (hI : Inv s.1 s.2) : (live R).length = s.1.length := by
  have hpw : R.Pairwise fun a b => bs a.Key ≠ bs b.Key := by
    rw [List.pairwise_iff_getElem]
    intro i j hi hj hij q
    exact h.dis i j hi hj (by omega) (bs_inj (h.rng i hi) (h.rng j hj) q)
  have n1 : ((live R).map fun ρ => bs ρ.Key).Nodup := by
    unfold List.Nodup
    rw [List.pairwise_map]
    exact hpw.filter _
  have n2 : (s.1.map fun e => e.1).Nodup := by
    unfold List.Nodup
    rw [List.pairwise_map]
    exact hI.ord.imp (fun {a b} h => lt_ne h)
  have s1 : ∀ x ∈ (live R).map fun ρ => bs ρ.Key, x ∈ s.1.map fun e => e.1 := by
    intro x hx
    obtain ⟨ρ, hρ, rfl⟩ := List.mem_map.1 hx
    obtain ⟨hρ1, hρ2⟩ := List.mem_filter.1 hρ
    obtain ⟨i, hi, rfl⟩ := List.getElem_of_mem hρ1
    have hc := h.cel i hi
    unfold cellOf at hc
    rw [if_neg (by simpa using hρ2)] at hc
    exact List.mem_map.2 ⟨_, look_mem s.1 hc.symm, rfl⟩
  have s2 : ∀ x ∈ s.1.map fun e => e.1, x ∈ (live R).map fun ρ => bs ρ.Key := by
    intro x hx
    obtain ⟨e, he, rfl⟩ := List.mem_map.1 hx
    obtain ⟨i, hi, g⟩ := h.cov e he
    have hc := h.cel i hi
    rw [g, mem_look (k := e.1) (x := e.2) s.1 hI.ord he] at hc
    refine List.mem_map.2 ⟨R[i], List.mem_filter.2 ⟨List.getElem_mem hi, ?_⟩, g⟩
    unfold cellOf at hc
    by_cases c : R[i].Rev = 0
    · rw [if_pos c] at hc; cases hc
    · simpa using c
  have l1 := len_sub _ _ n1 s1
  have l2 := len_sub _ _ n2 s2
  simp only [List.length_map] at l1 l2
  omega
theorem live_snoc {R : List api_Row} {j : Nat} (hj : j < R.length) : (live (R.take (j + 1))).length = (live (R.take j)).length + (if R[j].Rev = 0 then 0 else 1) := by
  rw [take_one hj]
  unfold live
  rw [List.filter_append, List.length_append]
  congr 1
  by_cases c : R[j].Rev = 0
  · simp [c]
  · simp [c]
/-! ### a row is among those told -/
theorem among_eq {k : Nat} (hk : Fuel k) {s : St} (hI : Inv s.1 s.2) (hs : s.2 < 4000000) (R : List api_Row) (i : Nat) (hi : i < R.length) (hm : R[i] ∈ s.1.map rowOf) :
    loop (fun (s_ : Bool × Int) => haulagelaw13_TableMap.b15 k R (s.1.map rowOf) (i : Int) s_.1 s_.2) k (false, 0) = some true := by
  have h24 : 1099511627776 ≤ k := hk
  have hlen := hI.len
  have hml : (s.1.map rowOf).length = s.1.length := by simp
  have L := loop_inv (f := fun (s_ : Bool × Int) => haulagelaw13_TableMap.b15 k R (s.1.map rowOf) (i : Int) s_.1 s_.2)
    (I := fun j q => q.2 = (j : Int) ∧ (q.1 = true ∨ ∀ m (hm : m < (s.1.map rowOf).length), m < j → (s.1.map rowOf)[m] ≠ R[i])) (P := fun x => x = true) (N := s.1.length) ?_ ?_ s.1.length 0 (false, 0) k ⟨rfl, Or.inr (fun m hm h => by omega)⟩ (by omega) (by omega)
  · obtain ⟨x, ex, rfl⟩ := L
    exact ex
  · rintro j ⟨b, q⟩ hj ⟨rfl, h⟩
    left
    simp only at h
    have hj' : j < (s.1.map rowOf).length := by omega
    show ∃ s', haulagelaw13_TableMap.b15 k R (s.1.map rowOf) (i : Int) b (j : Int) = _ ∧ _
    unfold haulagelaw13_TableMap.b15
    rw [if_pos (by omega)]
    cases b with
    | true =>
      rw [if_pos rfl, wrS j (by omega)]
      exact ⟨_, rfl, rfl, Or.inl rfl⟩
    | false =>
      rw [if_neg (by simp), if_pos (by omega), if_pos (by omega), rd_eq hj', rd_eq hi]
      have hE := hI.ent _ (List.getElem_mem hj)
      have hsz : (s.1.map rowOf)[j].Key.length < 4000000000 ∧ (s.1.map rowOf)[j].Value.length < 4000000000 := by
        rw [List.getElem_map]
        exact ⟨by show (sb _).length < _; rw [sb_len]; omega, by show s.1[j].2.value.length < _; omega⟩
      rw [bind_eq (sameRow_eq hk _ _ (Or.inl hsz.1) (Or.inl hsz.2)), wrS j (by omega)]
      refine ⟨_, rfl, rfl, ?_⟩
      by_cases c : (s.1.map rowOf)[j] = R[i]
      · exact Or.inl (by simp [c])
      · right
        intro m hm hlt
        by_cases e : m = j
        · subst e; exact c
        · rcases h with h | h
          · cases h
          · exact h m hm (by omega)
  · rintro ⟨b, q⟩ ⟨rfl, h⟩
    simp only at h
    refine ⟨b, ?_, ?_⟩
    · show haulagelaw13_TableMap.b15 k R (s.1.map rowOf) (i : Int) b ((s.1.length : Nat) : Int) = _
      unfold haulagelaw13_TableMap.b15
      rw [if_neg (by omega)]
    · rcases h with h | h
      · exact h
      · obtain ⟨m, hm', e⟩ := List.getElem_of_mem hm
        exact absurd e (h m hm' (by omega))
theorem end_eq {k : Nat} (hk : Fuel k) {s : St} {t : Option Tab} (hT : RepS t s) (hs : s.2 < 4000000) {R : List api_Row} (hM : Mp s R) (hR : R.length < 4000000) : haulagelaw13_TableMap.j14 k t R (s.2 : Int) = some true := by
  have h24 : 1099511627776 ≤ k := hk
  have hI : Inv s.1 s.2 := by obtain ⟨rows, _, _, _, hI⟩ := hT; exact hI
  have hlen := hI.len
  have hml : (s.1.map rowOf).length = s.1.length := by simp
  have hcount := hM.count hI
  unfold haulagelaw13_TableMap.j14
  rw [bind_eq (Rows_eq (by omega) hT)]
  have L := loop_inv (f := fun (s_ : Int × Int) => haulagelaw13_TableMap.b17 k R (s.1.map rowOf) s_.1 s_.2)
    (I := fun j q => q.2 = (j : Int) ∧ q.1 = ((live (R.take j)).length : Int)) (P := fun x => x = Sum.inl (s.1.length : Int)) (N := R.length) ?_ ?_ R.length 0 (0, 0) k ⟨rfl, rfl⟩ (by omega) (by omega)
  · obtain ⟨x, ex, rfl⟩ := L
    rw [bind_eq ex]
    show haulagelaw13_TableMap.j18 k t (s.2 : Int) (s.1.map rowOf) (s.1.length : Int) = some true
    unfold haulagelaw13_TableMap.j18
    have L2 := loop_inv (f := fun (s_ : Int) => haulagelaw13_TableMap.b19 k (s.1.map rowOf) s_) (I := fun j q => q = ((j + 1 : Nat) : Int)) (P := fun x => x = Sum.inl ()) (N := s.1.length - 1) ?_ ?_ (s.1.length - 1) 0 1 k rfl (by omega) (by omega)
    · obtain ⟨x, ex2, rfl⟩ := L2
      rw [bind_eq ex2]
      show haulagelaw13_TableMap.j20 t (s.2 : Int) (s.1.map rowOf) (s.1.length : Int) = some true
      unfold haulagelaw13_TableMap.j20
      rw [if_pos (by rw [hml]), bind_eq (Len_eq hT), if_pos rfl, bind_eq (Rev_eq hT)]
      simp
    · rintro j q hj rfl
      left
      have hj1 : j + 1 < s.1.length := by omega
      have hj0 : j < s.1.length := by omega
      show ∃ s', haulagelaw13_TableMap.b19 k (s.1.map rowOf) (((j + 1 : Nat)) : Int) = _ ∧ _
      unfold haulagelaw13_TableMap.b19
      have e1 : IntKind.i64.wrap (((j + 1 : Nat) : Int) - 1) = (j : Int) := by rw [wr (by omega) (by omega)]; omega
      rw [e1, if_pos (by omega), if_pos (by omega), if_pos (by omega), rd_eq (show j < (s.1.map rowOf).length by omega), rd_eq (show j + 1 < (s.1.map rowOf).length by omega)]
      have hE := hI.ent _ (List.getElem_mem hj0)
      have hlt : lt s.1[j].1 s.1[j + 1].1 = true := by
        have := hI.ord
        unfold Ord at this
        rw [List.pairwise_iff_getElem] at this
        exact this j (j + 1) hj0 hj1 (by omega)
      have hcm : cm ((s.1.map rowOf)[j]'(by omega)).Key ((s.1.map rowOf)[j + 1]'(by omega)).Key = true := by
        rw [List.getElem_map, List.getElem_map]
        show cm (sb s.1[j].1) (sb s.1[j + 1].1) = true
        unfold lt at hlt
        rw [ByteArray.toList_eq, ByteArray.toList_eq] at hlt
        unfold sb
        rw [cm_bl]; exact hlt
      rw [bind_eq (comes_eq hk _ _ (by rw [List.getElem_map]; show (sb s.1[j].1).length < _; rw [sb_len]; omega)), hcm, if_pos rfl, wrS (j + 1) (by omega)]
      exact ⟨_, rfl, rfl⟩
    · rintro q rfl
      refine ⟨_, ?_, rfl⟩
      show haulagelaw13_TableMap.b19 k (s.1.map rowOf) (((s.1.length - 1 + 1 : Nat)) : Int) = _
      unfold haulagelaw13_TableMap.b19
      rw [if_neg (by omega)]
  · rintro j ⟨a, b⟩ hj ⟨rfl, ha⟩
    left
    simp only at ha
    subst ha
    have hle : (live (R.take j)).length ≤ R.length := by
      unfold live
      have h1 := List.length_filter_le (fun ρ : api_Row => decide (ρ.Rev ≠ 0)) (R.take j)
      rw [List.length_take] at h1; omega
    show ∃ s', haulagelaw13_TableMap.b17 k R (s.1.map rowOf) ((live (R.take j)).length : Int) (j : Int) = _ ∧ _
    unfold haulagelaw13_TableMap.b17
    rw [if_pos (by omega), if_pos (by omega), rd_eq hj]
    have hl := live_snoc hj
    by_cases c : R[j].Rev = 0
    · rw [if_pos c, wrS j (by omega)]
      rw [if_pos c] at hl
      exact ⟨_, rfl, rfl, by rw [hl]; rfl⟩
    · rw [if_neg c]
      rw [if_neg c] at hl
      have hc := hM.cel j hj
      unfold cellOf at hc
      rw [if_neg c] at hc
      have hmem : R[j] ∈ s.1.map rowOf := by
        refine List.mem_map.2 ⟨_, look_mem s.1 hc.symm, ?_⟩
        unfold rowOf
        simp only
        rw [sb_bs (hM.rng j hj)]
      rw [bind_eq (among_eq hk hI hs R j hj hmem)]
      unfold haulagelaw13_TableMap.j16
      rw [if_pos rfl, wrS _ (by omega), wrS j (by omega)]
      exact ⟨_, rfl, rfl, by rw [hl]⟩
  · rintro ⟨a, b⟩ ⟨rfl, ha⟩
    simp only at ha
    rw [List.take_length, hcount] at ha
    subst ha
    refine ⟨_, ?_, rfl⟩
    show haulagelaw13_TableMap.b17 k R (s.1.map rowOf) (s.1.length : Int) ((R.length : Nat) : Int) = _
    unfold haulagelaw13_TableMap.b17
    rw [if_neg (by omega)]
theorem TableMap_true {k : Nat} (hk : Fuel k) (ops : List api_Op) (hn : ops.length < 3000000) (hbr : ∀ o ∈ ops, brange o.Key) : haulagelaw13_TableMap.f k ops = some true := by
  have h24 : 1099511627776 ≤ k := hk
  obtain ⟨t, et, Rt⟩ := new_rep
  unfold haulagelaw13_TableMap.f
  rw [bind_eq (awake_eq hk), if_pos rfl, bind_eq et]
  have L := loop_inv (f := fun (s_ : (Option Tab) × (List api_Row) × Int × Int) => haulagelaw13_TableMap.b13 k ops s_.1 s_.2.1 s_.2.2.1 s_.2.2.2)
    (I := fun i q => q.2.2.2 = (i : Int) ∧ RepS q.1 (run ([], 0) (ops.take i)) ∧ q.2.2.1 = ((run ([], 0) (ops.take i)).2 : Int) ∧ Mp (run ([], 0) (ops.take i)) q.2.1 ∧ q.2.1.length ≤ i)
    (P := fun x => ∃ y, x = Sum.inl y ∧ RepS y.1 (run ([], 0) ops) ∧ y.2.2 = ((run ([], 0) ops).2 : Int) ∧ Mp (run ([], 0) ops) y.2.1 ∧ y.2.1.length ≤ ops.length) (N := ops.length) ?_ ?_ ops.length 0 (t, [], 0, 0) k
      ⟨rfl, Rt, rfl, ⟨fun i j hi => by simp at hi, fun i hi => by simp at hi, fun i hi => by simp at hi, fun e he => by simp [run] at he⟩, Nat.le_refl _⟩ (by omega) (by omega)
  · obtain ⟨x, ex, ⟨u, R, rev⟩, rfl, Ru, hrev, hM, hl⟩ := L
    rw [bind_eq ex]
    simp only at Ru hrev hM hl
    subst hrev
    have hs : (run ([], 0) ops).2 < 4000000 := run_lt (by omega)
    exact end_eq hk Ru hs hM (Nat.lt_of_le_of_lt hl (by omega))
  · rintro i ⟨u, R, rev, j⟩ hi ⟨rfl, r1, hrev, hM, hl⟩
    left
    simp only at r1 hrev hM hl
    subst hrev
    have hlt : (run ([], 0) (ops.take i)).2 < 4000000 := run_lt (by rw [List.length_take]; omega)
    obtain ⟨u', eu, ru⟩ := do_step hk (by omega) r1 ops[i]
    have htk : run ([], 0) (ops.take (i + 1)) = stepS (run ([], 0) (ops.take i)) ops[i] := by rw [take_one hi, run_snoc]
    rw [htk]
    generalize run ([], 0) (ops.take i) = s at r1 hM ru eu hlt
    have hI : Inv s.1 s.2 := by obtain ⟨rows, _, _, _, hI⟩ := r1; exact hI
    have hrd : rd ops (i : Int) = ops[i] := rd_eq hi
    show ∃ s', haulagelaw13_TableMap.b13 k ops u R (s.2 : Int) (i : Int) = _ ∧ _
    unfold haulagelaw13_TableMap.b13
    rw [if_pos (by omega), if_pos (by omega), hrd, bind_eq eu]
    have skip : ∀ b, b = true → ¬ (right ops[i] = true ∧ isW ops[i] = true) → ∃ s', haulagelaw13_TableMap.j7 k ops ((act s.1 s.2 ops[i]).1, (act s.1 s.2 ops[i]).2.1, u') R (s.2 : Int) (i : Int) b = some (.next s') ∧ s'.2.2.2 = ((i + 1 : Nat) : Int) ∧ RepS s'.1 (stepS s ops[i]) ∧ s'.2.2.1 = ((stepS s ops[i]).2 : Int) ∧ Mp (stepS s ops[i]) s'.2.1 ∧ s'.2.1.length ≤ i + 1 := by
      intro b hb hnot
      subst hb
      rw [act_keep hnot] at ru ⊢
      unfold haulagelaw13_TableMap.j7
      rw [if_pos rfl, wrS i (by omega)]
      exact ⟨_, rfl, rfl, ru, rfl, hM, Nat.le_succ_of_le hl⟩
    by_cases hR : right ops[i] = true
    · rw [if_pos (by rw [act_right, if_pos hR]), bind_eq (writes_eq' _)]
      by_cases hw : isW ops[i] = true
      · rw [hw]
        unfold haulagelaw13_TableMap.j7
        rw [if_neg (by simp)]
        have hkey := (right_key hR).1
        have hval := (right_key hR).2.1
        obtain ⟨x, ex, hx⟩ := find_eq hk ops i R (by omega) hi (by omega)
        rw [bind_eq ex]
        have fin : ∀ (R1 : List api_Row) (n : Nat) (hn1 : n < R1.length), Mp s R1 → R1[n].Key = ops[i].Key → R1.length ≤ i + 1 → ∃ s', haulagelaw13_TableMap.j10 k ops ((act s.1 s.2 ops[i]).1, (act s.1 s.2 ops[i]).2.1, u') (s.2 : Int) (i : Int) R1 (n : Int) = some (.next s') ∧ s'.2.2.2 = ((i + 1 : Nat) : Int) ∧ RepS s'.1 (stepS s ops[i]) ∧ s'.2.2.1 = ((stepS s ops[i]).2 : Int) ∧ Mp (stepS s ops[i]) s'.2.1 ∧ s'.2.1.length ≤ i + 1 := by
          intro R1 n hn1 hM1 hk1 hl1
          obtain ⟨R', e', hM', hl'⟩ := write_eq hk ops i hi hn hI (by omega) hM1 hn1 hk1 hR hw u'
          exact ⟨_, e', rfl, ru, rfl, hM', by show R'.length ≤ _; omega⟩
        unfold haulagelaw13_TableMap.j9
        rcases hx with ⟨rfl, hno⟩ | ⟨n, hnlt, rfl, hkn⟩
        · rw [if_pos (by omega), hrd, if_pos (by simp; omega)]
          have e1 : IntKind.i64.wrap (((R ++ [api_Row.mk ops[i].Key [] 0]).length : Int) - 1) = ((R.length : Nat) : Int) := by
            have el : (R ++ [api_Row.mk ops[i].Key [] 0]).length = R.length + 1 := by simp
            rw [el, wr (by omega) (by omega)]; omega
          rw [e1]
          exact fin _ R.length (by simp) (hM.push (hbr _ (List.getElem_mem hi)) hno) (by simp) (by simp; omega)
        · rw [if_neg (by omega)]
          exact fin R n hnlt hM hkn (by omega)
      · rw [show (!isW ops[i]) = true by simpa using hw]
        exact skip true rfl (fun h => hw h.2)
    · rw [if_neg (by rw [act_right, if_neg hR]; simp)]
      exact skip true rfl (fun h => hR h.1)
  · rintro ⟨u, R, rev, j⟩ ⟨rfl, r1, hrev, hM, hl⟩
    simp only at r1 hrev hM hl
    rw [List.take_of_length_le (Nat.le_refl _)] at r1 hrev hM
    refine ⟨Sum.inl (u, R, rev), ?_, _, rfl, r1, hrev, hM, hl⟩
    show haulagelaw13_TableMap.b13 k ops u R rev ((ops.length : Nat) : Int) = _
    unfold haulagelaw13_TableMap.b13
    rw [if_neg (by omega)]
end Go.Proofs.Ytcolmmjcdlmcoaa.G
/-! Numbers and texts, read back. -/
namespace Go.Proofs.Ytcolmmjcdlmcoaa.G
open Go
set_option linter.unusedVariables false
set_option linter.unusedSimpArgs false
theorem or128 : ∀ x : Fin 256, x.val ||| 128 = x.val % 128 + 128 := by decide +kernel
theorem and127 : ∀ x : Fin 256, x.val &&& 127 = x.val % 128 := by decide +kernel
theorem wr8 (n : Nat) : IntKind.u8.wrap (n : Int) = ((n % 256 : Nat) : Int) := by
  simp only [IntKind.wrap, IntKind.bits, IntKind.signed]; simp
theorem bv8 (n : Nat) (h : n < 256) : (BitVec.ofInt IntKind.u8.bits (n : Int)) = BitVec.ofNat 8 n := by
  show BitVec.ofInt 8 (n : Int) = _
  rw [BitVec.ofInt_natCast]
theorem bor8 (n : Nat) : bor .u8 (IntKind.u8.wrap (n : Int)) 128 = ((n % 128 + 128 : Nat) : Int) := by
  rw [wr8]
  unfold bor
  rw [bv8 (n % 256) (by omega)]
  show IntKind.u8.wrap ((BitVec.ofNat 8 (n % 256) ||| BitVec.ofInt 8 128).toNat : Int) = _
  have e : (BitVec.ofNat 8 (n % 256) ||| BitVec.ofInt 8 128).toNat = (n % 256) ||| 128 := by
    rw [BitVec.toNat_or, BitVec.toNat_ofNat]
    have : (BitVec.ofInt 8 128).toNat = 128 := by decide
    rw [this, Nat.mod_eq_of_lt (show n % 256 < 2 ^ 8 by omega)]
  rw [e, or128 ⟨n % 256, by omega⟩, wr8]
  congr 1
  show (n % 256 % 128 + 128) % 256 = n % 128 + 128
  omega
theorem band8 {c : Int} (h0 : 0 ≤ c) (h1 : c ≤ 255) : band .u8 c 127 = c % 128 := by
  obtain ⟨n, rfl⟩ := Int.eq_ofNat_of_zero_le h0
  unfold band
  rw [bv8 n (by omega)]
  show IntKind.u8.wrap ((BitVec.ofNat 8 n &&& BitVec.ofInt 8 127).toNat : Int) = _
  have e : (BitVec.ofNat 8 n &&& BitVec.ofInt 8 127).toNat = n &&& 127 := by
    rw [BitVec.toNat_and, BitVec.toNat_ofNat]
    have : (BitVec.ofInt 8 127).toNat = 127 := by decide
    rw [this, Nat.mod_eq_of_lt (show n < 2 ^ 8 by omega)]
  rw [e, and127 ⟨n, by omega⟩, wr8]
  show ((n % 128 % 256 : Nat) : Int) = (n : Int) % 128
  omega
theorem wr64 {n : Nat} (h : n < 2 ^ 64) : IntKind.u64.wrap (n : Int) = (n : Int) := by
  simp only [IntKind.wrap, IntKind.bits, IntKind.signed]; simp; omega
theorem shl64 {d k : Nat} (hk : k ≤ 9) (h : d * 2 ^ (7 * k) < 2 ^ 64) : shl .u64 (IntKind.u64.wrap (d : Int)) (7 * (k : Int)) = ((d * 2 ^ (7 * k) : Nat) : Int) := by
  have hd : d < 2 ^ 64 := Nat.lt_of_le_of_lt (Nat.le_mul_of_pos_right _ (Nat.two_pow_pos _)) h
  rw [wr64 hd]
  unfold shl
  have e1 : (7 * (k : Int)).toNat = 7 * k := by omega
  rw [e1, show min (7 * k) IntKind.u64.bits = 7 * k from Nat.min_eq_left (by show 7 * k ≤ 64; omega)]
  have e2 : (d : Int) * 2 ^ (7 * k) = ((d * 2 ^ (7 * k) : Nat) : Int) := by push_cast; rfl
  rw [e2, wr64 h]
theorem bor64 {a d k : Nat} (ha : a < 2 ^ (7 * k)) (h : a + d * 2 ^ (7 * k) < 2 ^ 64) : bor .u64 (a : Int) ((d * 2 ^ (7 * k) : Nat) : Int) = ((a + d * 2 ^ (7 * k) : Nat) : Int) := by
  unfold bor
  show IntKind.u64.wrap ((BitVec.ofInt 64 (a : Int) ||| BitVec.ofInt 64 ((d * 2 ^ (7 * k) : Nat) : Int)).toNat : Int) = _
  rw [BitVec.ofInt_natCast, BitVec.ofInt_natCast, BitVec.toNat_or, BitVec.toNat_ofNat, BitVec.toNat_ofNat, Nat.mod_eq_of_lt (by omega), Nat.mod_eq_of_lt (by omega)]
  have e : a ||| d * 2 ^ (7 * k) = a + d * 2 ^ (7 * k) := by
    rw [Nat.or_comm, Nat.mul_comm d, ← Nat.two_pow_add_eq_or_of_lt ha, Nat.add_comm]
  rw [e, wr64 h]
def acc (k : Nat) (n c : Int) : Int := bor .u64 n (shl .u64 (IntKind.u64.wrap (band .u8 c 127)) (7 * (k : Int)))
theorem acc_eq {k n c : Nat} (hk : k ≤ 9) (hc : c ≤ 255) (hn : n < 2 ^ (7 * k)) (ht : n + c % 128 * 2 ^ (7 * k) < 2 ^ 64) : acc k (n : Int) (c : Int) = ((n + c % 128 * 2 ^ (7 * k) : Nat) : Int) := by
  unfold acc
  rw [band8 (by omega) (by omega), show (c : Int) % 128 = ((c % 128 : Nat) : Int) by omega, shl64 hk (by omega), bor64 hn ht]
theorem rnum_nil (f : Int) (k : Nat) (n : Int) : rnum f [] k n = .inl ([], f) := rfl
theorem rnum_cons (f c : Int) (xs : List Int) (k : Nat) (n : Int) : rnum f (c :: xs) k n = if (k = 9 ∧ 1 < c) ∨ (0 < k ∧ c = 0) then .inr (0, xs, 11) else if c < 128 then .inr (acc k n c, xs, f) else rnum f xs (k + 1) (acc k n c) := rfl
theorem pow_step (k : Nat) : 2 ^ (7 * (k + 1)) = 128 * 2 ^ (7 * k) := by
  rw [Nat.mul_add, Nat.pow_add, Nat.mul_comm]
theorem tot (n m B : Nat) : n + m % 128 * B + m / 128 * (128 * B) = n + m * B := by
  have h : m % 128 * B + m / 128 * (128 * B) = m * B := by
    rw [← Nat.mul_assoc, ← Nat.add_mul, Nat.mul_comm (m / 128), Nat.mod_add_div]
  omega
theorem small {n d B : Nat} (hn : n < B) (hd : d < 128) : n + d * B < 128 * B := by
  have : d * B ≤ 127 * B := Nat.mul_le_mul_right B (by omega)
  omega
theorem k9 {k c n : Nat} (hk : k ≤ 9) (hn : n < 2 ^ (7 * k)) (hc : c < 128) (h9 : k = 9 → c ≤ 1) : n + c * 2 ^ (7 * k) < 2 ^ 64 := by
  by_cases h : k = 9
  · subst h
    have : c * 2 ^ (7 * 9) ≤ 1 * 2 ^ (7 * 9) := Nat.mul_le_mul_right _ (h9 rfl)
    omega
  · have h1 := small hn hc
    have h2 : 2 ^ (7 * k) ≤ 2 ^ 56 := Nat.pow_le_pow_right (by omega) (by omega)
    omega
theorem rnum_fm (ou : List Int) : ∀ (f m k n : Nat), m < 128 ^ (f + 1) → k + f ≤ 9 → n < 2 ^ (7 * k) → n + m * 2 ^ (7 * k) < 2 ^ 64 → (k = 0 ∨ 0 < m) →
    rnum 0 (fmP f m ++ (IntKind.u8.wrap (fmL f m) :: ou)) k (n : Int) = .inr (((n + m * 2 ^ (7 * k) : Nat) : Int), ou, 0) := by
  have base : ∀ (m k n : Nat), m < 128 → k ≤ 9 → n < 2 ^ (7 * k) → n + m * 2 ^ (7 * k) < 2 ^ 64 → (k = 0 ∨ 0 < m) → rnum 0 (IntKind.u8.wrap (m : Int) :: ou) k (n : Int) = .inr (((n + m * 2 ^ (7 * k) : Nat) : Int), ou, 0) := by
    intro m k n hm hk hn ht h0
    have e : IntKind.u8.wrap (m : Int) = (m : Int) := by rw [wr8]; congr 1; omega
    rw [e, rnum_cons, if_neg, if_pos (by omega), acc_eq hk (by omega) hn (by rw [Nat.mod_eq_of_lt hm]; exact ht), Nat.mod_eq_of_lt hm]
    rintro (⟨rfl, h⟩ | ⟨h1, h2⟩)
    · have : 2 * 2 ^ (7 * 9) ≤ m * 2 ^ (7 * 9) := Nat.mul_le_mul_right _ (by omega)
      omega
    · omega
  intro f
  induction f with
  | zero =>
    intro m k n hm hk hn ht h0
    exact base m k n (by simpa using hm) (by omega) hn ht h0
  | succ f ih =>
    intro m k n hm hk hn ht h0
    by_cases c : m ≤ 127
    · have e1 : fmP (f + 1) m = [] := by simp [fmP, c]
      have e2 : fmL (f + 1) m = m := by simp [fmL, c]
      rw [e1, e2]
      exact base m k n (by omega) (by omega) hn ht h0
    · have e1 : fmP (f + 1) m = ((m % 128 + 128 : Nat) : Int) :: fmP f (m / 128) := by
        conv => lhs; unfold fmP
        rw [if_neg c, bor8]
      have e2 : fmL (f + 1) m = fmL f (m / 128) := by
        conv => lhs; unfold fmL
        rw [if_neg c]
      rw [e1, e2, List.cons_append, rnum_cons, if_neg (by omega), if_neg (by omega)]
      have hmod : (m % 128 + 128) % 128 = m % 128 := by omega
      have hd : m % 128 * 2 ^ (7 * k) ≤ m * 2 ^ (7 * k) := Nat.mul_le_mul_right _ (Nat.mod_le _ _)
      rw [acc_eq (by omega) (by omega) hn (by rw [hmod]; omega), hmod]
      have hB := pow_step k
      have ht2 := tot n m (2 ^ (7 * k))
      rw [ih (m / 128) (k + 1) (n + m % 128 * 2 ^ (7 * k)) (by rw [Nat.pow_succ] at hm; omega) (by omega) (by rw [hB]; exact small hn (by omega)) (by rw [hB, ht2]; exact ht) (Or.inr (by omega)), hB, ht2]
theorem rnum_form {m : Nat} (hm : m < 2 ^ 64) (ou : List Int) : rnum 0 (fm m ++ ou) 0 0 = .inr ((m : Int), ou, 0) := by
  have := rnum_fm ou 9 m 0 0 (by omega) (by omega) (by decide) (by simpa using hm) (Or.inl rfl)
  unfold fm
  rw [List.append_assoc]
  simpa using this
def bytesR (l : List Int) : Prop := ∀ c ∈ l, 0 ≤ c ∧ c ≤ 255
/-- what reading a number comes to -/
theorem rnum_inv : ∀ (l : List Int) (k n : Nat), bytesR l → k ≤ 9 → n < 2 ^ (7 * k) →
    (∃ l', rnum 0 l k (n : Int) = .inl (l', 0)) ∨ (∃ rest, rnum 0 l k (n : Int) = .inr (0, rest, 11)) ∨
    ∃ m rest, rnum 0 l k (n : Int) = .inr (((n + m * 2 ^ (7 * k) : Nat) : Int), rest, 0) ∧ (k = 0 ∨ 0 < m) ∧ n + m * 2 ^ (7 * k) < 2 ^ 64 ∧ l = fmP (9 - k) m ++ (IntKind.u8.wrap (fmL (9 - k) m) :: rest)
  | [], k, n, _, _, _ => Or.inl ⟨[], rfl⟩
  | c :: xs, k, n, hb, hk, hn => by
    obtain ⟨h0, h1⟩ := hb c (by simp)
    obtain ⟨d, rfl⟩ := Int.eq_ofNat_of_zero_le h0
    rw [rnum_cons]
    by_cases bad : (k = 9 ∧ 1 < (d : Int)) ∨ (0 < k ∧ (d : Int) = 0)
    · rw [if_pos bad]; exact Or.inr (Or.inl ⟨xs, rfl⟩)
    · rw [if_neg bad]
      have hb9 : k = 9 → d ≤ 1 := fun e => by
        rcases Nat.lt_or_ge 1 d with g | g
        · exact absurd (Or.inl ⟨e, by omega⟩) bad
        · exact g
      have hb0 : k = 0 ∨ 0 < d := by
        rcases Nat.eq_zero_or_pos k with g | g
        · exact Or.inl g
        · right
          rcases Nat.eq_zero_or_pos d with g2 | g2
          · exact absurd (Or.inr ⟨g, by omega⟩) bad
          · exact g2
      by_cases c : d < 128
      · rw [if_pos (by omega)]
        have ht := k9 hk hn c hb9
        right; right
        refine ⟨d, xs, ?_, hb0, ht, ?_⟩
        · rw [acc_eq hk (by omega) hn (by rw [Nat.mod_eq_of_lt c]; exact ht), Nat.mod_eq_of_lt c]
        · have e1 : fmP (9 - k) d = [] := by cases 9 - k with | zero => rfl | succ q => simp [fmP]; omega
          have e2 : fmL (9 - k) d = d := by cases 9 - k with | zero => rfl | succ q => simp [fmL]; omega
          rw [e1, e2, wr8, Nat.mod_eq_of_lt (by omega)]; rfl
      · rw [if_neg (by omega)]
        have hk8 : k ≤ 8 := by
          rcases Nat.lt_or_ge k 9 with g | g
          · omega
          · have := hb9 (by omega); omega
        have ht : n + d % 128 * 2 ^ (7 * k) < 2 ^ 64 := k9 hk hn (by omega) (by omega)
        rw [acc_eq hk (by omega) hn ht]
        have hB := pow_step k
        rcases rnum_inv xs (k + 1) (n + d % 128 * 2 ^ (7 * k)) (fun x hx => hb x (by simp [hx])) (by omega) (by rw [hB]; exact small hn (by omega)) with h | h | ⟨m, rest, e, hm, htt, hl⟩
        · exact Or.inl h
        · exact Or.inr (Or.inl h)
        · right; right
          have hm0 : 0 < m := by omega
          have hq1 : (d % 128 + 128 * m) % 128 = d % 128 := by omega
          have hq2 : (d % 128 + 128 * m) / 128 = m := by omega
          have T := tot n (d % 128 + 128 * m) (2 ^ (7 * k))
          rw [hq1, hq2] at T
          rw [hB] at e htt
          rw [T] at e htt
          refine ⟨d % 128 + 128 * m, rest, e, Or.inr (by omega), htt, ?_⟩
          have e9 : 9 - k = (9 - (k + 1)) + 1 := by omega
          have e1 : fmP (9 - k) (d % 128 + 128 * m) = (d : Int) :: fmP (9 - (k + 1)) m := by
            rw [e9]
            conv => lhs; unfold fmP
            rw [if_neg (by omega), bor8, hq1, hq2]
            congr 1; omega
          have e2 : fmL (9 - k) (d % 128 + 128 * m) = fmL (9 - (k + 1)) m := by
            rw [e9]
            conv => lhs; unfold fmL
            rw [if_neg (by omega), hq2]
          rw [e1, e2, hl]; rfl
end Go.Proofs.Ytcolmmjcdlmcoaa.G
/-! Pieces read back: numbers and texts through the reader. -/
namespace Go.Proofs.Ytcolmmjcdlmcoaa.G
open Go
set_option linter.unusedVariables false
set_option linter.unusedSimpArgs false
theorem bytesR_app {a b : List Int} : bytesR (a ++ b) ↔ bytesR a ∧ bytesR b := by
  unfold bytesR
  constructor
  · intro h; exact ⟨fun c hc => h c (by simp [hc]), fun c hc => h c (by simp [hc])⟩
  · rintro ⟨h1, h2⟩ c hc
    rcases List.mem_append.1 hc with h | h
    · exact h1 c h
    · exact h2 c h
theorem Num_fault {r : Rdr} (h : r.fault ≠ 0) : parcel_Reader_Num.f (some r) = some (0, some r) := by
  unfold parcel_Reader_Num.f; simp only [if_neg h]
theorem Text_fault {r : Rdr} (h : r.fault ≠ 0) (most : Int) : parcel_Reader_Text.f (some r) most = some ([], some r) := by
  unfold parcel_Reader_Text.f; simp only [if_neg h]
theorem Num_fwd {m : Nat} (hm : m < 2 ^ 64) (rest : List Int) (ou : List (List Int)) : parcel_Reader_Num.f (some ⟨fm m ++ rest, ou, 0⟩) = some ((m : Int), some ⟨rest, ou, 0⟩) := by
  unfold parcel_Reader_Num.f
  simp only [if_true, rnum_form hm, rtake]
theorem Num_inv (l : List Int) (ou : List (List Int)) (hb : bytesR l) : ∃ v r', parcel_Reader_Num.f (some ⟨l, ou, 0⟩) = some (v, some r') ∧
    ((r'.fault = 0 ∧ ∃ m rest, v = ((m : Nat) : Int) ∧ m < 2 ^ 64 ∧ l = fm m ++ rest ∧ r' = ⟨rest, ou, 0⟩) ∨ (r'.fault ≠ 0 ∧ v = 0)) := by
  unfold parcel_Reader_Num.f
  simp only [if_true]
  rcases rnum_inv l 0 0 hb (by omega) (by decide) with ⟨l', e⟩ | ⟨rest, e⟩ | ⟨m, rest, e, -, ht, hl⟩
  · rw [show ((0 : Nat) : Int) = 0 from rfl] at e
    rw [e]
    exact ⟨0, ⟨l', ou, 10⟩, rfl, Or.inr ⟨(by show ¬ _; simp), rfl⟩⟩
  · rw [show ((0 : Nat) : Int) = 0 from rfl] at e
    rw [e]
    exact ⟨0, ⟨rest, ou, 11⟩, rfl, Or.inr ⟨(by show ¬ _; simp), rfl⟩⟩
  · rw [show ((0 : Nat) : Int) = 0 from rfl] at e
    rw [e]
    have e0 : 0 + m * 2 ^ (7 * 0) = m := by omega
    rw [e0] at ht ⊢
    refine ⟨(m : Int), ⟨rest, ou, 0⟩, rfl, Or.inl ⟨rfl, m, rest, rfl, ht, ?_, rfl⟩⟩
    unfold fm
    rw [List.append_assoc]
    exact hl
theorem rnum_short : ∀ (l : List Int) (k : Nat) (n : Int) (rest : List Int) (x f' : Int), rnum 0 l k n = .inr (x, rest, f') → rest.length ≤ l.length
  | [], k, n, rest, x, f', h => by rw [rnum_nil] at h; cases h
  | c :: xs, k, n, rest, x, f', h => by
    rw [rnum_cons] at h
    split at h
    · cases h; simp
    · split at h
      · cases h; simp
      · have := rnum_short xs (k + 1) _ rest x f' h; simp; omega
theorem fm_pos (n : Nat) : 1 ≤ (fm n).length := by rw [fm_len]; exact (nm_le n).1
theorem wrapmax {most : Int} (h0 : 0 ≤ most) (h1 : most ≤ 1000000) : IntKind.u64.wrap (max most 0) = most := by
  rw [Int.max_eq_left h0, wru h0 (by omega)]
theorem Text_fwd {v : List Int} {most : Int} (h0 : 0 ≤ most) (h1 : most ≤ 1000000) (hv : (v.length : Int) ≤ most) (rest : List Int) (hr : (v ++ rest).length ≤ 140737488355328) (ou : List (List Int)) :
    parcel_Reader_Text.f (some ⟨fm v.length ++ (v ++ rest), ou, 0⟩) most = some (v, some ⟨rest, ou, 0⟩) := by
  have hlen : (v ++ rest).length = v.length + rest.length := List.length_append
  have e : rtext (fm v.length ++ (v ++ rest)) 0 most = some (.inr (v, rest, 0)) := by
    unfold rtext rsize
    rw [wrapmax h0 h1, rnum_form (by omega)]
    simp only [if_true]
    rw [if_neg (by omega), if_neg (by omega)]
    simp only
    rw [wr (by omega) (by omega), if_pos (by omega)]
    simp
  unfold parcel_Reader_Text.f
  simp only [if_true, e, Option.bind_some, rtake]
theorem Text_inv (l : List Int) (ou : List (List Int)) (hb : bytesR l) (hl : l.length ≤ 140737488355328) {most : Int} (h0 : 0 ≤ most) (h1 : most ≤ 1000000) :
    ∃ v r', parcel_Reader_Text.f (some ⟨l, ou, 0⟩) most = some (v, some r') ∧
      ((r'.fault = 0 ∧ ∃ rest, l = fm v.length ++ (v ++ rest) ∧ (v.length : Int) ≤ most ∧ r' = ⟨rest, ou, 0⟩) ∨ (r'.fault ≠ 0 ∧ v = [])) := by
  unfold parcel_Reader_Text.f rtext rsize
  simp only [if_true, wrapmax h0 h1]
  rcases rnum_inv l 0 0 hb (by omega) (by decide) with ⟨l', e⟩ | ⟨rest, e⟩ | ⟨m, rest, e, -, ht, he⟩
  · rw [show ((0 : Nat) : Int) = 0 from rfl] at e
    rw [e]
    exact ⟨[], ⟨l', ou, 10⟩, rfl, Or.inr ⟨(by show ¬ _; simp), rfl⟩⟩
  · have hrl : rest.length ≤ l.length := by
      rw [show ((0 : Nat) : Int) = 0 from rfl] at e
      exact rnum_short l 0 0 rest 0 11 e
    rw [show ((0 : Nat) : Int) = 0 from rfl] at e
    rw [e]
    simp only [show ¬ ((11 : Int) = 0) by decide, if_false]
    rw [if_pos (by omega)]
    exact ⟨[], ⟨rest, ou, 11⟩, rfl, Or.inr ⟨(by show ¬ _; simp), rfl⟩⟩
  · have e0 : 0 + m * 2 ^ (7 * 0) = m := by omega
    rw [show ((0 : Nat) : Int) = 0 from rfl, e0] at e
    rw [e]
    have hfm : l = fm m ++ rest := by unfold fm; rw [List.append_assoc]; exact he
    have hrl : rest.length ≤ l.length := by rw [hfm, List.length_append]; omega
    simp only [if_true]
    by_cases g1 : most < (m : Int)
    · rw [if_pos g1]
      simp only
      rw [if_pos (by omega)]
      exact ⟨[], ⟨rest, ou, 11⟩, rfl, Or.inr ⟨(by show ¬ _; simp), rfl⟩⟩
    · rw [if_neg g1]
      by_cases g2 : (rest.length : Int) < (m : Int)
      · rw [if_pos g2]
        simp only
        rw [if_pos (by omega)]
        exact ⟨[], ⟨rest, ou, 10⟩, rfl, Or.inr ⟨(by show ¬ _; simp), rfl⟩⟩
      · rw [if_neg g2]
        simp only
        rw [wr (by omega) (by omega), if_pos (by omega), Int.toNat_natCast]
        refine ⟨rest.take m, ⟨rest.drop m, ou, 0⟩, rfl, Or.inl ⟨rfl, rest.drop m, ?_, ?_, rfl⟩⟩
        · rw [List.take_append_drop, List.length_take, Nat.min_eq_left (by omega)]; exact hfm
        · rw [List.length_take]; omega
end Go.Proofs.Ytcolmmjcdlmcoaa.G
/-! Read: what is read back of a form. -/
namespace Go.Proofs.Ytcolmmjcdlmcoaa.G
open Go
set_option linter.unusedVariables false
set_option linter.unusedSimpArgs false
theorem num_any {k : Nat} (hk : Fuel k) {n : Int} (hn : n < 9223372036854775808) : ∃ y, table_num.f k n = some y ∧ 1 ≤ y ∧ y ≤ 10 := by
  by_cases h : 0 ≤ n
  · obtain ⟨q, rfl⟩ := Int.eq_ofNat_of_zero_le h
    have := nm_le q
    exact ⟨_, num_eq hk (by omega), by omega, by omega⟩
  · have h24 : 1099511627776 ≤ k := hk
    obtain ⟨q, rfl⟩ : ∃ q, k = q + 1 := ⟨k - 1, by omega⟩
    refine ⟨1, ?_, by omega, by omega⟩
    unfold table_num.f
    rw [bind_eq (loop_done (x := (1 : Int)) ?_)]
    · rfl
    · unfold table_num.b1; rw [if_neg (by omega)]
theorem long_any {k : Nat} (hk : Fuel k) {key : ByteArray} {c : table_cell} (h1 : key.size ≤ 64) (h2 : c.value.length ≤ 256) (h4 : c.rev < 9223372036854775808) : ∃ y, table_long.f k key c = some y := by
  obtain ⟨y, e, _⟩ := num_any hk h4
  unfold table_long.f
  rw [bind_eq (num_eq hk (n := key.size) (by omega)), bind_eq (num_eq hk (n := c.value.length) (by omega)), bind_eq e]
  exact ⟨_, rfl⟩
theorem set_any {k : Nat} (hk : Fuel k) {rows : Tr} {L : List Ent} {R z : Int} (hlen : L.length < 10000000000) (hw : rows.WF) (hl : rows.list = L) (ho : Ord L) (hE : ∀ e ∈ L, okE e) {key : ByteArray} {c : table_cell} (h1 : key.size ≤ 64) (h2 : c.value.length ≤ 256) (h4 : c.rev < 9223372036854775808) :
    ∃ t, table_Table_set.f k (some ⟨rows, R, z⟩) key c true = some t := by
  subst hl
  have hh := rows.hgt_le
  have h24 : 1099511627776 ≤ k := hk
  obtain ⟨u, eu, wu, lu⟩ := put_eq k rows key c (by omega) hw ho (by unfold big; omega)
  obtain ⟨y, ey⟩ := long_any hk h1 h2 h4
  have j1 : ∀ x, ∃ t, table_Table_set.j1 k key c true ⟨rows, R, z⟩ x = some t := by
    intro x
    unfold table_Table_set.j1
    rw [if_pos rfl, bind_eq eu, bind_eq ey]
    exact ⟨_, rfl⟩
  unfold table_Table_set.f
  simp only [Option.bind_some]
  rw [bind_eq (get_eq k rows key (by omega) ho)]
  cases h : look key rows.list with
  | none => rw [if_neg (by simp [gotQ])]; exact j1 _
  | some x =>
    have hx := hE _ (look_mem _ h)
    obtain ⟨y2, ey2⟩ := long_any hk (key := key) (c := x) hx.1 hx.2.1 (by have h3 : x.rev ≤ 1099511627776 := hx.2.2.2; omega)
    rw [if_pos (show (gotQ (some x)).2 = true from rfl), bind_eq (show table_long.f k key (gotQ (some x)).1 = some y2 from ey2)]
    exact j1 _
theorem ins_end {key : ByteArray} {c : table_cell} : ∀ L : List Ent, (∀ e ∈ L, lt e.1 key = true) → ins key c L = L ++ [(key, c)]
  | [], _ => rfl
  | (a, x) :: L, h => by
    have h1 : lt a key = true := h (a, x) (by simp)
    simp only [ins, h1, lt_asym h1]
    rw [ins_end L (fun e he => h e (by simp [he]))]
    simp
theorem lt_empty {k : ByteArray} (h : 1 ≤ k.size) : lt .empty k = true := by
  unfold lt
  rw [ByteArray.toList_eq, ByteArray.toList_eq]
  have : k.data.toList ≠ [] := by
    intro e
    have : k.data.toList.length = 0 := by rw [e]; rfl
    rw [Array.length_toList] at this
    exact absurd h (by show ¬ 1 ≤ k.data.size; omega)
  cases hq : k.data.toList with
  | nil => exact absurd hq this
  | cons a l => rfl
theorem lt_size {a k : ByteArray} (h : lt a k = true) : 1 ≤ k.size := by
  unfold lt at h
  rw [ByteArray.toList_eq k] at h
  rcases Nat.eq_zero_or_pos k.size with q | q
  · have : k.data.toList = [] := by
      apply List.length_eq_zero_iff.1
      rw [Array.length_toList]; exact q
    rw [this] at h
    cases a.toList <;> simp [Op.bytesLess] at h
  · exact q
theorem notless {a b : ByteArray} : (Op.bytesLess a.toList b.toList || (a.toList == b.toList)) = !lt b a := by
  rw [keq]
  cases h : lt b a with
  | true =>
    have h1 : Op.bytesLess a.toList b.toList = false := lt_asym h
    have h2 : ¬ a = b := fun e => by subst e; rw [lt_irr] at h; cases h
    simp [h1, h2]
  | false =>
    by_cases e : a = b
    · simp [e]
    · cases h2 : Op.bytesLess a.toList b.toList with
      | true => simp
      | false => exact absurd (lt_tri h2 h) e
abbrev revs (L : List Ent) : List Int := L.map fun e => e.2.rev
structure Part (R : Nat) (L : List Ent) (last : ByteArray) (m : MpV Bool) : Prop where
  ord : Ord L
  ent : ∀ e ∈ L, 1 ≤ e.1.size ∧ e.1.size ≤ 64 ∧ e.2.value.length ≤ 256 ∧ 1 ≤ e.2.rev ∧ e.2.rev ≤ (R : Int)
  low : ∀ e ∈ L, e.1 = last ∨ lt e.1 last = true
  top : (L = [] ∧ last = .empty) ∨ ∃ e ∈ L, e.1 = last
  map : ∀ a, m.f a = if a ∈ revs L then some true else none
  dis : (revs L).Nodup
  cnt : m.n = L.length
def TabR (t : Option Tab) (R : Int) (L : List Ent) : Prop := ∃ rows, t = some ⟨rows, R, sz L⟩ ∧ rows.WF ∧ rows.list = L
theorem Part.next {R : Nat} {L : List Ent} {last : ByteArray} {m : MpV Bool} (h : Part R L last m) {key : ByteArray} {v : List Int} {at_ : Int} (h1 : lt last key = true) (h2 : key.size ≤ 64) (h3 : v.length ≤ 256) (h4 : 1 ≤ at_) (h5 : at_ ≤ (R : Int)) (h6 : at_ ∉ revs L) :
    Part R (L ++ [(key, ⟨v, at_⟩)]) key ⟨fun i => if i = at_ then some true else m.f i, m.n + 1⟩ := by
  have below : ∀ e ∈ L, lt e.1 key = true := fun e he => by
    rcases h.low e he with q | q
    · rw [q]; exact h1
    · exact lt_tr q h1
  refine ⟨?_, ?_, ?_, Or.inr ⟨_, List.mem_append.2 (Or.inr (List.mem_singleton.2 rfl)), rfl⟩, ?_, ?_, ?_⟩
  · unfold Ord
    rw [List.pairwise_append]
    refine ⟨h.ord, by simp, fun x hx y hy => ?_⟩
    rw [List.mem_singleton] at hy
    subst hy
    exact below x hx
  · intro e he
    rcases List.mem_append.1 he with q | q
    · exact h.ent e q
    · rw [List.mem_singleton] at q; subst q; exact ⟨lt_size h1, h2, h3, h4, h5⟩
  · intro e he
    rcases List.mem_append.1 he with q | q
    · exact Or.inr (below e q)
    · rw [List.mem_singleton] at q; subst q; exact Or.inl rfl
  · intro a
    show (if a = at_ then some true else m.f a) = _
    rw [h.map a]
    unfold revs
    rw [List.map_append]
    by_cases q : a = at_
    · subst q; simp
    · rw [if_neg q]
      by_cases q2 : a ∈ revs L
      · rw [if_pos q2, if_pos (List.mem_append.2 (Or.inl q2))]
      · rw [if_neg q2, if_neg]
        intro h'
        rcases List.mem_append.1 h' with g | g
        · exact q2 g
        · simp at g; exact q g
  · unfold revs
    rw [List.map_append]
    refine List.nodup_append.2 ⟨h.dis, by simp, fun x hx y hy => ?_⟩
    simp at hy
    subst hy
    intro e
    subst e
    exact h6 hx
  · rw [List.length_append, ← h.cnt]; rfl
/-- behind the three pieces of a row -/
theorem row_eq {k : Nat} (hk : Fuel k) {R : Nat} (hR : R ≤ 1099511627776) {L : List Ent} {last : ByteArray} {m : MpV Bool} (hP : Part R L last m) (hlen : L.length < 8000000000) {tab : Option Tab} (hT : TabR tab R L) {t17 : Int × Option Rdr} (h17 : t17.1 = (R : Int))
    {kb vb : List Int} (hkb : kb.length ≤ 64) (hvb : vb.length ≤ 256) {r1 r2 r3 : Option Rdr} {a : Int} (ha0 : 0 ≤ a) (ha1 : a < 18446744073709551616) {many : Int} (hm0 : 0 < many) (hm1 : many < 18446744073709551616) (hN : parcel_Reader_Num.f r2 = some (a, r3)) :
    ∃ tab' g m', table_Read.j5 k t17 (kb, r1) (vb, r2) many tab m last = some (.next (r3, many - 1, tab', g, m', bs kb)) ∧
      (g = true ↔ (lt last (bs kb) = true ∧ 0 < a ∧ a ≤ (R : Int) ∧ a ∉ revs L)) ∧ (g = true → TabR tab' R (L ++ [(bs kb, ⟨vb, a⟩)]) ∧ Part R (L ++ [(bs kb, ⟨vb, a⟩)]) (bs kb) m') := by
  obtain ⟨rows, rfl, hw, hl⟩ := hT
  have hE : ∀ e ∈ L, okE e := fun e he => by have := hP.ent e he; exact ⟨this.2.1, this.2.2.1, by omega, by omega⟩
  have hwf : (Lit.int .u64 a).wf = true := by
    simp [Lit.wf, IntKind.min, IntKind.max, IntKind.signed, IntKind.bits]; omega
  have hwm : IntKind.u64.wrap (many - 1) = many - 1 := by
    simp only [IntKind.wrap, IntKind.bits, IntKind.signed]; simp; omega
  have hks : (bs kb).size ≤ 64 := by rw [bs_size]; omega
  have hwr : IntKind.i64.wrap a < 9223372036854775808 := by rw [IntKind.wrap_i64]; omega
  have hn : m.n < 140737488355328 := by rw [hP.cnt]; omega
  -- the row is put, whatever it is
  have j6 : ∀ g, ∃ tab' m', table_Read.j6 k (kb, r1) (vb, r2) (a, r3) many (some ⟨rows, R, sz L⟩) m g = some (.next (r3, many - 1, tab', g, m', bs kb)) ∧
      (lt last (bs kb) = true → 0 < a → a ≤ (R : Int) → a ∉ revs L → TabR tab' R (L ++ [(bs kb, ⟨vb, a⟩)]) ∧ Part R (L ++ [(bs kb, ⟨vb, a⟩)]) (bs kb) m') := by
    intro g
    unfold table_Read.j6
    rw [if_pos ⟨hwf, hn⟩]
    by_cases c : lt last (bs kb) = true ∧ 0 < a ∧ a ≤ (R : Int) ∧ a ∉ revs L
    · obtain ⟨c1, c2, c3, c4⟩ := c
      have hwa : IntKind.i64.wrap a = a := wr (by omega) (by omega)
      obtain ⟨u, eu, wu, lu⟩ := set_put0 hk (R := (R : Int)) (Nat.lt_trans hlen (by omega)) hw hl hP.ord hE (key := bs kb) (c := ⟨vb, a⟩) ⟨hks, hvb, ha0, by show a ≤ _; omega⟩
      simp only [hwa]
      rw [bind_eq eu, hwm]
      have hne : ins (bs kb) ⟨vb, a⟩ L = L ++ [(bs kb, ⟨vb, a⟩)] := ins_end L (fun e he => by
        rcases hP.low e he with q | q
        · rw [q]; exact c1
        · exact lt_tr q c1)
      refine ⟨_, _, rfl, fun _ _ _ _ => ⟨⟨u, by rw [hne], wu, by rw [lu, hne]⟩, hP.next c1 hks hvb (by omega) c3 c4⟩⟩
    · obtain ⟨t, et⟩ := set_any hk (R := (R : Int)) (z := sz L) (Nat.lt_trans hlen (by omega)) hw hl hP.ord hE (key := bs kb) (c := ⟨vb, IntKind.i64.wrap a⟩) hks hvb hwr
      simp only
      rw [bind_eq et, hwm]
      exact ⟨_, _, rfl, fun c1 c2 c3 c4 => absurd ⟨c1, c2, c3, c4⟩ c⟩
  unfold table_Read.j5
  simp only
  rw [bind_eq hN]
  simp only
  rw [notless]
  cases c1 : lt last (bs kb) with
  | false =>
    rw [if_pos (by simp)]
    obtain ⟨tab', m', e, _⟩ := j6 false
    exact ⟨tab', false, m', e, by simp, fun h => by cases h⟩
  | true =>
    rw [if_neg (by simp)]
    by_cases c2 : 0 < a
    · rw [if_pos c2, h17]
      by_cases c3 : a ≤ (R : Int)
      · rw [if_pos c3, if_pos hwf]
        by_cases c4 : a ∈ revs L
        · rw [hP.map a, if_pos c4]
          obtain ⟨tab', m', e, _⟩ := j6 false
          exact ⟨tab', false, m', e, by simp [c4], fun h => by cases h⟩
        · rw [hP.map a, if_neg c4]
          obtain ⟨tab', m', e, h⟩ := j6 true
          exact ⟨tab', true, m', e, by simp [c2, c3, c4], fun _ => h c1 c2 c3 c4⟩
      · rw [if_neg c3]
        obtain ⟨tab', m', e, _⟩ := j6 false
        exact ⟨tab', false, m', e, by simp [c3], fun h => by cases h⟩
    · rw [if_neg c2]
      obtain ⟨tab', m', e, _⟩ := j6 false
      exact ⟨tab', false, m', e, by simp [c2], fun h => by cases h⟩
abbrev RS := (Option Rdr) × Int × (Option Tab) × Bool × (MpV Bool) × ByteArray
abbrev rloop (k : Nat) (t17 : Int × Option Rdr) (n : Nat) (s : RS) : Option ((Option Rdr) × (Option Tab) × Bool) := loop (fun (s_ : RS) => table_Read.b7 k t17 s_.1 s_.2.1 s_.2.2.1 s_.2.2.2.1 s_.2.2.2.2.1 s_.2.2.2.2.2) n s
theorem rloop_end {k : Nat} {t17 : Int × Option Rdr} {n : Nat} {r : Option Rdr} {many : Int} {tab : Option Tab} {g : Bool} {m : MpV Bool} {last : ByteArray} (h : ¬ 0 < many ∨ g = false) (hn : 0 < n) : rloop k t17 n (r, many, tab, g, m, last) = some (r, tab, g) := by
  obtain ⟨q, rfl⟩ : ∃ q, n = q + 1 := ⟨n - 1, by omega⟩
  refine loop_done ?_
  show table_Read.b7 k t17 r many tab g m last = _
  unfold table_Read.b7 table_Read.j4
  by_cases c : 0 < many
  · rcases h with h | h
    · exact absurd c h
    · rw [if_pos c, h, if_neg (by simp)]
  · rw [if_neg c, if_neg (by simp)]
theorem ef_split {kb vb : List Int} {a : Nat} (hk : bytesR kb) (rest : List Int) : fm kb.length ++ (kb ++ (fm vb.length ++ (vb ++ (fm a ++ rest)))) = ef (bs kb, ⟨vb, (a : Int)⟩) ++ rest := by
  unfold ef
  simp only [bs_size, sb_bs (show brange kb from hk), Int.toNat_natCast, List.append_assoc]
theorem bytesR_ef {l : List Int} {e : Ent} {rest : List Int} (h : bytesR l) (e1 : l = ef e ++ rest) : bytesR rest := by rw [e1] at h; exact (bytesR_app.1 h).2
/-- whatever the bytes are -/
theorem rloop_any {k : Nat} (hk : Fuel k) {R : Nat} (hR : R ≤ 1099511627776) {t17 : Int × Option Rdr} (h17 : t17.1 = (R : Int)) (ou : List (List Int)) : ∀ (q : Nat) (l : List Int) (many : Int) (tab : Option Tab) (L : List Ent) (m : MpV Bool) (last : ByteArray) (n : Nat),
    l.length ≤ q → bytesR l → l.length + L.length < 8000000000 → 0 ≤ many → many < 18446744073709551616 → TabR tab R L → Part R L last m → q + 2 < n →
    ∃ r' tab' g, rloop k t17 n (some ⟨l, ou, 0⟩, many, tab, true, m, last) = some (some r', tab', g) ∧
      (g = true → ∃ M l', l = M.flatMap ef ++ l' ∧ (M.length : Int) = many ∧ r' = ⟨l', ou, 0⟩ ∧ TabR tab' R (L ++ M) ∧ ∃ last' m', Part R (L ++ M) last' m') := by
  intro q
  induction q with
  | zero =>
    intro l many tab L m last n hl hb hs hm0 hm1 hT hP hn
    have : l = [] := List.length_eq_zero_iff.1 (by omega)
    subst this
    by_cases c : 0 < many
    · -- nothing can be read
      have e1 : parcel_Reader_Text.f (some ⟨[], ou, 0⟩) 64 = some ([], some ⟨[], ou, 10⟩) := rfl
      have e2 : parcel_Reader_Text.f (some ⟨[], ou, 10⟩) 256 = some ([], some ⟨[], ou, 10⟩) := rfl
      have e3 : parcel_Reader_Num.f (some ⟨[], ou, 10⟩) = some (0, some ⟨[], ou, 10⟩) := rfl
      obtain ⟨tab', g, m', e, hg, _⟩ := row_eq hk hR hP (by omega) hT h17 (kb := []) (vb := []) (by simp) (by simp) (r1 := some ⟨[], ou, 10⟩) (r2 := some ⟨[], ou, 10⟩) (r3 := some ⟨[], ou, 10⟩) (a := 0) (by omega) (by omega) c hm1 e3
      have hgf : g = false := by
        cases g with
        | false => rfl
        | true => have := (hg.1 rfl).2.1; omega
      obtain ⟨n, rfl⟩ : ∃ p, n = p + 1 := ⟨n - 1, by omega⟩
      refine ⟨⟨[], ou, 10⟩, tab', false, ?_, fun h => by cases h⟩
      show loop _ (n + 1) _ = _
      rw [loop_next (s' := (some ⟨[], ou, 10⟩, many - 1, tab', g, m', bs []))]
      · rw [hgf]; exact rloop_end (Or.inr rfl) (by omega)
      · show table_Read.b7 k t17 _ many tab true m last = _
        unfold table_Read.b7 table_Read.j4
        rw [if_pos c, if_pos rfl, bind_eq e1, bind_eq e2]
        exact e
    · exact ⟨⟨[], ou, 0⟩, tab, true, rloop_end (Or.inl c) (by omega), fun _ => ⟨[], [], rfl, by simp; omega, rfl, by simpa using hT, last, m, by simpa using hP⟩⟩
  | succ q ih =>
    intro l many tab L m last n hl hb hs hm0 hm1 hT hP hn
    by_cases c : 0 < many
    · obtain ⟨n, rfl⟩ : ∃ p, n = p + 1 := ⟨n - 1, by omega⟩
      obtain ⟨kb, r1, e1, h1⟩ := Text_inv l ou hb (by omega) (most := 64) (by omega) (by omega)
      -- the value
      obtain ⟨vb, r2, e2, h2⟩ : ∃ vb r2, parcel_Reader_Text.f (some r1) 256 = some (vb, some r2) ∧
          ((r2.fault = 0 ∧ ∃ l1 rest, r1 = ⟨l1, ou, 0⟩ ∧ l1 = fm vb.length ++ (vb ++ rest) ∧ (vb.length : Int) ≤ 256 ∧ r2 = ⟨rest, ou, 0⟩) ∨ (r2.fault ≠ 0 ∧ vb = [])) := by
        rcases h1 with ⟨f1, rest, hl1, hk1, rfl⟩ | ⟨f1, rfl⟩
        · have hb1 : bytesR rest := by rw [hl1] at hb; exact (bytesR_app.1 (bytesR_app.1 hb).2).2
          have hlen1 : rest.length ≤ l.length := by rw [hl1]; simp only [List.length_append]; omega
          obtain ⟨vb, r2, e2, h2⟩ := Text_inv rest ou hb1 (by omega) (most := 256) (by omega) (by omega)
          refine ⟨vb, r2, e2, ?_⟩
          rcases h2 with ⟨f2, rest2, hl2, hv2, rfl⟩ | ⟨f2, hv⟩
          · exact Or.inl ⟨f2, rest, rest2, rfl, hl2, hv2, rfl⟩
          · exact Or.inr ⟨f2, hv⟩
        · exact ⟨[], r1, Text_fault f1 256, Or.inr ⟨f1, rfl⟩⟩
      obtain ⟨a, r3, e3, h3⟩ : ∃ a r3, parcel_Reader_Num.f (some r2) = some (a, some r3) ∧
          ((r3.fault = 0 ∧ ∃ l2 p rest, r2 = ⟨l2, ou, 0⟩ ∧ a = ((p : Nat) : Int) ∧ p < 2 ^ 64 ∧ l2 = fm p ++ rest ∧ r3 = ⟨rest, ou, 0⟩) ∨ (r3.fault ≠ 0 ∧ a = 0)) := by
        rcases h2 with ⟨f2, l1, rest, hr1, hl2, hv2, rfl⟩ | ⟨f2, rfl⟩
        · have hb1 : bytesR rest := by
            rcases h1 with ⟨f1, rest0, hl1, hk1, hr0⟩ | ⟨f1, -⟩
            · rw [hr1] at hr0; cases hr0
              rw [hl1] at hb
              have := (bytesR_app.1 (bytesR_app.1 hb).2).2
              rw [hl2] at this
              exact (bytesR_app.1 (bytesR_app.1 this).2).2
            · rw [hr1] at f1; exact absurd rfl f1
          obtain ⟨v, r3, e3, h3⟩ := Num_inv rest ou hb1
          refine ⟨v, r3, e3, ?_⟩
          rcases h3 with ⟨f3, p, rest3, hv, hp, hl3, rfl⟩ | ⟨f3, hv⟩
          · exact Or.inl ⟨f3, rest, p, rest3, rfl, hv, hp, hl3, rfl⟩
          · exact Or.inr ⟨f3, hv⟩
        · exact ⟨0, r2, Num_fault f2, Or.inr ⟨f2, rfl⟩⟩
      have hkb : kb.length ≤ 64 := by
        rcases h1 with ⟨_, _, _, hk1, _⟩ | ⟨_, rfl⟩
        · omega
        · simp
      have hvb : vb.length ≤ 256 := by
        rcases h2 with ⟨_, _, _, _, _, hk1, _⟩ | ⟨_, rfl⟩
        · omega
        · simp
      have ha : 0 ≤ a ∧ a < 18446744073709551616 := by
        rcases h3 with ⟨_, _, p, _, _, rfl, hp, _⟩ | ⟨_, rfl⟩
        · omega
        · omega
      obtain ⟨tab', g, m', e, hg, hgo⟩ := row_eq hk hR hP (by omega) hT h17 hkb hvb (r1 := some r1) (r2 := some r2) (r3 := some r3) ha.1 ha.2 c hm1 e3
      have hstep : table_Read.b7 k t17 (some ⟨l, ou, 0⟩) many tab true m last = some (.next (some r3, many - 1, tab', g, m', bs kb)) := by
        unfold table_Read.b7 table_Read.j4
        rw [if_pos c, if_pos rfl, bind_eq e1, bind_eq e2]
        exact e
      have hloop : rloop k t17 (n + 1) (some ⟨l, ou, 0⟩, many, tab, true, m, last) = rloop k t17 n (some r3, many - 1, tab', g, m', bs kb) := loop_next (by exact hstep)
      cases g with
      | false => exact ⟨r3, tab', false, by rw [hloop]; exact rloop_end (Or.inr rfl) (by omega), fun h => by cases h⟩
      | true =>
        have hgt := hg.1 rfl
        obtain ⟨hT', hP'⟩ := hgo rfl
        -- all three were read
        rcases h3 with ⟨f3, l2, p, rest3, hr2, rfl, hp, hl3, rfl⟩ | ⟨f3, rfl⟩
        · rcases h2 with ⟨f2, l1, rest2, hr1, hl2, hv2, hr2'⟩ | ⟨f2, -⟩
          · rw [hr2] at hr2'; cases hr2'
            rcases h1 with ⟨f1, rest1, hl1, hk1, hr1'⟩ | ⟨f1, -⟩
            · rw [hr1] at hr1'; cases hr1'
              have hkr : bytesR kb := by rw [hl1] at hb; exact (bytesR_app.1 (bytesR_app.1 hb).2).1
              have hle : l = ef (bs kb, ⟨vb, (p : Int)⟩) ++ rest3 := by rw [hl1, hl2, hl3, ef_split hkr]
              have hlen3 : rest3.length + 1 ≤ l.length := by
                rw [hle, List.length_append]
                have : 1 ≤ (ef (bs kb, ⟨vb, (p : Int)⟩)).length := by
                  unfold ef; simp only [List.length_append]; have := fm_pos (bs kb).size; omega
                omega
              obtain ⟨r', tab2, g2, e2', h2'⟩ := ih rest3 (many - 1) tab' (L ++ [(bs kb, ⟨vb, (p : Int)⟩)]) m' (bs kb) n (by omega) (bytesR_ef hb hle) (by simp; omega) (by omega) (by omega) hT' hP' (by omega)
              refine ⟨r', tab2, g2, by rw [hloop]; exact e2', fun hg2 => ?_⟩
              obtain ⟨M, l', hl', hM, hr', hT2, last2, m2, hP2⟩ := h2' hg2
              refine ⟨(bs kb, ⟨vb, (p : Int)⟩) :: M, l', ?_, by simp; omega, hr', by simpa using hT2, last2, m2, by simpa using hP2⟩
              rw [hle, hl', List.flatMap_cons, List.append_assoc]
            · rw [hr1] at f1; exact absurd rfl f1
          · rw [hr2] at f2; exact absurd rfl f2
        · exact absurd hgt.2.1 (by omega)
    · exact ⟨⟨l, ou, 0⟩, tab, true, rloop_end (Or.inl c) (by omega), fun _ => ⟨[], l, rfl, by simp; omega, rfl, by simpa using hT, last, m, by simpa using hP⟩⟩
theorem Num_outer {l : List Int} {ou : List (List Int)} {f v : Int} {r' : Rdr} (h : parcel_Reader_Num.f (some ⟨l, ou, f⟩) = some (v, some r')) : r'.outer = ou := by
  unfold parcel_Reader_Num.f at h
  simp only at h
  split at h
  · unfold rtake at h
    split at h
    · simp only [Option.some.injEq, Prod.mk.injEq] at h; rw [← h.2]
    · split at h
      · simp only [Option.some.injEq, Prod.mk.injEq] at h; rw [← h.2]
      · simp only [Option.some.injEq, Prod.mk.injEq] at h; rw [← h.2]
  · simp only [Option.some.injEq, Prod.mk.injEq] at h; rw [← h.2]
theorem Done_eq (l : List Int) (f : Int) : parcel_Reader_Done.f (some ⟨l, [], f⟩) = some (if f = 0 then (if 0 < l.length then 12 else 0) else f) := by
  unfold parcel_Reader_Done.f parcel_Reader_Done.j1
  by_cases c : f = 0
  · by_cases c2 : 0 < l.length
    · simp [c, c2]
    · simp [c, c2]
  · simp [c]
theorem Part.empty (R : Nat) : Part R [] { data := #[] } ⟨fun _ => none, 0⟩ :=
  ⟨List.Pairwise.nil, fun e he => (by cases he), fun e he => (by cases he), Or.inl ⟨rfl, rfl⟩, fun a => by simp, List.nodup_nil, rfl⟩
/-- the rows' revisions are each other's unlike, so there are no more rows than revisions -/
theorem revs_len {R : Nat} {L : List Ent} (hd : (revs L).Nodup) (h : ∀ e ∈ L, 1 ≤ e.2.rev ∧ e.2.rev ≤ (R : Int)) : L.length ≤ R := by
  have := len_sub ((revs L)) ((List.range R).map fun i => ((i + 1 : Nat) : Int)) hd (fun x hx => by
    obtain ⟨e, he, rfl⟩ := List.mem_map.1 hx
    have := h e he
    exact List.mem_map.2 ⟨(e.2.rev - 1).toNat, List.mem_range.2 (by omega), by omega⟩)
  simpa using this
/-- a sound table, as it may be read -/
structure Sound (s : St) : Prop where
  inv : Inv s.1 s.2
  dis : (revs s.1).Nodup
  top : s.2 ≤ 1099511627776
theorem Sound.of {R : Nat} (hR : R ≤ 1099511627776) {L : List Ent} {last : ByteArray} {m : MpV Bool} (h : Part R L last m) : Sound (L, R) :=
  ⟨⟨h.ord, revs_len h.dis (fun e he => (h.ent e he).2.2.2), h.ent⟩, h.dis, hR⟩
theorem TabR.rep {t : Option Tab} {s : St} (h : TabR t s.2 s.1) (hS : Sound s) : RepS t s := by
  obtain ⟨rows, e, hw, hl⟩ := h
  exact ⟨rows, e, hw, hl, hS.inv⟩
theorem new_eq : table_New.f = some (some (Tab.mk .nil 0 0)) := rfl
/-- Read of any bytes: a sound table's form, or none's. -/
theorem read_any {k : Nat} (hk : Fuel k) (p : List Int) (hb : bytesR p) (hl : p.length < 2000000000) :
    ∃ t e, table_Read.f k p = some (t, e) ∧ ((e = 130 ∧ t = none) ∨ (e = 0 ∧ ∃ s, RepS t s ∧ Sound s ∧ p = form s)) := by
  have h24 : 1099511627776 ≤ k := hk
  have e0 : parcel_Read.f p = some (some ⟨p, [], 0⟩) := by unfold parcel_Read.f; rw [if_pos (by omega)]
  obtain ⟨rv, r1, e1, h1⟩ := Num_inv p [] hb
  have fail : ∀ (o : Option Rdr) (tb : Option Tab), table_Read.j8 o tb false = some (none, 130) := fun o tb => by
    unfold table_Read.j8 table_Read.j9; rw [if_neg (by simp), if_pos rfl]
  have failD : ∀ (r : Rdr) (tb : Option Tab), r.fault ≠ 0 → r.outer = [] → table_Read.j8 (some r) tb true = some (none, 130) := fun r tb hf ho => by
    obtain ⟨l, ou, f⟩ := r
    simp only at hf ho
    subst ho
    unfold table_Read.j8
    rw [if_pos rfl, bind_eq (Done_eq l f), if_neg hf]
    unfold table_Read.j9
    rw [if_pos (by simp [hf])]
  unfold table_Read.f
  rw [bind_eq e0, bind_eq e1]
  rcases h1 with ⟨f1, m, rest, rfl, hm, hp, rfl⟩ | ⟨f1, rfl⟩
  · have hb1 : bytesR rest := by rw [hp] at hb; exact (bytesR_app.1 hb).2
    have hlr : rest.length ≤ p.length := by rw [hp, List.length_append]; omega
    obtain ⟨mv, r2, e2, h2⟩ := Num_inv rest [] hb1
    simp only
    rw [bind_eq e2, bind_eq new_eq, Option.bind_some]
    by_cases hg : (m : Int) ≤ 1099511627776
    · have hwm : IntKind.i64.wrap (min (m : Int) 1099511627776) = (m : Int) := by rw [Int.min_eq_left hg, wr (by omega) (by omega)]
      simp only [hwm, decide_eq_true hg]
      rcases h2 with ⟨f2, q, rest2, rfl, hq, hp2, rfl⟩ | ⟨f2, rfl⟩
      · have hb2 : bytesR rest2 := by rw [hp2] at hb1; exact (bytesR_app.1 hb1).2
        have hlr2 : rest2.length ≤ rest.length := by rw [hp2, List.length_append]; omega
        obtain ⟨r', tab', g, e3, h3⟩ := rloop_any hk (R := m) (by omega) (t17 := ((m : Int), some ⟨rest, [], 0⟩)) rfl [] rest2.length rest2 (q : Int) (some ⟨.nil, (m : Int), 0⟩) [] ⟨fun _ => none, 0⟩ { data := #[] } k
          (Nat.le_refl _) hb2 (by simp; omega) (by omega) (by omega) ⟨.nil, rfl, trivial, rfl⟩ (Part.empty m) (by omega)
        rw [bind_eq e3]
        cases g with
        | false => exact ⟨none, 130, fail _ _, Or.inl ⟨rfl, rfl⟩⟩
        | true =>
          obtain ⟨M, l', hl', hM, rfl, hT, last', m', hP⟩ := h3 rfl
          rw [List.nil_append] at hT hP
          unfold table_Read.j8
          simp only [if_true]
          rw [bind_eq (Done_eq l' 0)]
          by_cases hle : 0 < l'.length
          · rw [if_pos rfl, if_pos hle]
            exact ⟨none, 130, rfl, Or.inl ⟨rfl, rfl⟩⟩
          · rw [if_pos rfl, if_neg hle]
            have hl0 : l' = [] := List.length_eq_zero_iff.1 (by omega)
            subst hl0
            have hS : Sound (M, m) := Sound.of (by omega) hP
            refine ⟨tab', 0, rfl, Or.inr ⟨rfl, (M, m), TabR.rep hT hS, hS, ?_⟩⟩
            have hMq : M.length = q := by omega
            rw [hp, hp2, hl', List.append_nil]
            unfold form
            simp only [hMq, List.append_assoc]
      · -- the count isn't read
        obtain ⟨l2, ou2, f2'⟩ := r2
        have hou : ou2 = [] := Num_outer e2
        rw [bind_eq (rloop_end (k := k) (Or.inl (by omega)) (by omega))]
        exact ⟨none, 130, failD _ _ f2 hou, Or.inl ⟨rfl, rfl⟩⟩
    · simp only [decide_eq_false hg]
      rw [bind_eq (rloop_end (k := k) (Or.inr rfl) (by omega))]
      exact ⟨none, 130, fail _ _, Or.inl ⟨rfl, rfl⟩⟩
  · -- the revision isn't read
    have e2 := Num_fault f1
    have hou : r1.outer = [] := Num_outer e1
    simp only
    rw [bind_eq e2, bind_eq new_eq, Option.bind_some]
    simp only
    rw [bind_eq (rloop_end (k := k) (Or.inl (by omega)) (by omega))]
    rw [decide_eq_true (by omega)]
    exact ⟨none, 130, failD _ _ f1 hou, Or.inl ⟨rfl, rfl⟩⟩
end Go.Proofs.Ytcolmmjcdlmcoaa.G
/-! TableWalk. -/
namespace Go.Proofs.Ytcolmmjcdlmcoaa.G
open Go
set_option linter.unusedVariables false
set_option linter.unusedSimpArgs false
theorem bl_snoc : ∀ x : List UInt8, Op.bytesLess x (x ++ [0]) = true
  | [] => rfl
  | a :: x => by simp [Op.bytesLess, bl_snoc x]
theorem bl_gap : ∀ x y : List UInt8, Op.bytesLess x y = true → Op.bytesLess y (x ++ [0]) = false
  | x, [], h => by cases x <;> simp [Op.bytesLess] at h
  | [], b :: y, _ => by
    have : Op.bytesLess y [] = false := by cases y <;> rfl
    simp [Op.bytesLess, this]
  | a :: x, b :: y, h => by
    simp only [Op.bytesLess, Bool.or_eq_true, Bool.and_eq_true, decide_eq_true_eq, beq_iff_eq] at h
    simp only [List.cons_append, Op.bytesLess, Bool.or_eq_false_iff, Bool.and_eq_false_iff, decide_eq_false_iff_not, beq_eq_false_iff_ne]
    simp only [UInt8.lt_iff_toNat_lt] at h ⊢
    rcases h with h | ⟨rfl, h⟩
    · exact ⟨by omega, Or.inl (fun e => by rw [e] at h; omega)⟩
    · exact ⟨by omega, Or.inr (bl_gap x y h)⟩
theorem bs_toList (l : List Int) : (bs l).toList = l.map fun n => UInt8.ofNat n.toNat := by
  rw [ByteArray.toList_eq]; simp [bs]
theorem next_toList (k : ByteArray) : (bs (sb k ++ [0])).toList = k.toList ++ [0] := by
  rw [bs_toList, List.map_append, ByteArray.toList_eq]
  congr 1
  unfold sb
  rw [List.map_map]
  have : ∀ l : List UInt8, l.map ((fun n : Int => UInt8.ofNat n.toNat) ∘ fun b : UInt8 => (b.toNat : Int)) = l := by
    intro l
    induction l with
    | nil => rfl
    | cons a l ih =>
      rw [List.map_cons, ih]
      congr 1
      show UInt8.ofNat ((a.toNat : Int).toNat) = a
      rw [Int.toNat_natCast]
      exact UInt8.ofNat_toNat
  exact this _
theorem above_next {A B : List Ent} {e : Ent} (ho : Ord (A ++ e :: B)) : above (bs (sb e.1 ++ [0])) (A ++ e :: B) = B := by
  obtain ⟨oA, oB, hA, hB⟩ := Ord.split ho
  have h1 : lt e.1 (bs (sb e.1 ++ [0])) = true := by unfold lt; rw [next_toList]; exact bl_snoc _
  have h2 : ∀ y ∈ B, lt y.1 (bs (sb e.1 ++ [0])) = false := fun y hy => by
    have := hB y hy
    unfold lt at this ⊢
    rw [next_toList]; exact bl_gap _ _ this
  unfold above
  rw [List.filter_append, List.filter_cons, if_neg (by simp [h1])]
  have e1 : A.filter (fun y => !lt y.1 (bs (sb e.1 ++ [0]))) = [] := by
    rw [List.filter_eq_nil_iff]
    intro y hy
    simp [lt_tr (hA y hy) h1]
  have e2 : B.filter (fun y => !lt y.1 (bs (sb e.1 ++ [0]))) = B := by
    rw [List.filter_eq_self]
    intro y hy
    simp [h2 y hy]
  rw [e1, e2]; rfl
theorem above_empty (L : List Ent) : above (bs []) L = L := by
  unfold above
  rw [List.filter_eq_self]
  intro y hy
  have : lt y.1 (bs []) = false := by
    unfold lt
    rw [bs_toList]
    cases y.1.toList <;> rfl
  simp [this]
theorem TableWalk_true {k : Nat} (hk : Fuel k) (ops : List api_Op) (hn : ops.length < 3000000) : haulagelaw13_TableWalk.f k ops = some true := by
  have h24 : 1099511627776 ≤ k := hk
  obtain ⟨t, et, Rt⟩ := made_eq hk ops (by omega)
  have hr : (run ([], 0) ops).2 < 3000000 := run_lt (by omega)
  generalize run ([], 0) ops = s at Rt hr
  have hI : Inv s.1 s.2 := by obtain ⟨rows, _, _, _, hI⟩ := Rt; exact hI
  have hlen := hI.len
  unfold haulagelaw13_TableWalk.f
  rw [bind_eq (awake_eq hk), if_pos rfl, bind_eq et, bind_eq (Rows_eq (by omega) Rt)]
  have hml : (s.1.map rowOf).length = s.1.length := by simp
  have seek : ∀ (fr : List Int) (i : Nat), fr.length ≤ 65 → above (bs fr) s.1 = s.1.drop i → act s.1 s.2 (api_Op.mk 5 fr [] 0) = ((match s.1.drop i with | [] => told s.2 .empty none | (k, v) :: _ => told s.2 k (some v)), 0, s.1, s.2) := by
    intro fr i hf ha
    unfold act
    have hR : right (api_Op.mk 5 fr [] 0) = true := by simp [right]; exact hf
    rw [if_neg (by rw [hR]; simp), if_pos rfl, ha]
    generalize s.1.drop i = D
    cases D <;> rfl
  have L := loop_inv (f := fun (s_ : (Option Tab) × (List Int) × Int) => haulagelaw13_TableWalk.b3 k (s.1.map rowOf) s_.1 s_.2.1 s_.2.2)
    (I := fun i q => q.2.2 = (i : Int) ∧ RepS q.1 s ∧ q.2.1.length ≤ 65 ∧ above (bs q.2.1) s.1 = s.1.drop i)
    (P := fun x => x = Sum.inr true) (N := s.1.length) ?_ ?_ s.1.length 0 (t, [], 0) k ⟨rfl, Rt, by simp, above_empty _⟩ (by omega) (by omega)
  · obtain ⟨x, ex, rfl⟩ := L
    rw [bind_eq ex]
  · rintro i ⟨u, fr, j⟩ hi ⟨rfl, r1, h1, h2⟩
    left
    simp only at r1 h1 h2
    obtain ⟨u', eu, ru⟩ := do_step hk (by omega) r1 (api_Op.mk 5 fr [] 0)
    have hd : s.1.drop i = s.1[i] :: s.1.drop (i + 1) := List.drop_eq_getElem_cons hi
    have hE := hI.ent _ (List.getElem_mem hi)
    have hact := seek fr i h1 h2
    have hsplit : s.1 = s.1.take i ++ s.1[i] :: s.1.drop (i + 1) := by rw [← hd, List.take_append_drop]
    have hnext : above (bs (sb s.1[i].1 ++ [0])) s.1 = s.1.drop (i + 1) := by
      have ho := hI.ord
      generalize s.1[i] = e at hsplit ⊢
      generalize s.1.drop (i + 1) = B at hsplit ⊢
      generalize s.1.take i = A at hsplit
      rw [hsplit] at ho ⊢
      exact above_next ho
    have hrow : rd (s.1.map rowOf) (i : Int) = rowOf s.1[i] := by rw [rd_eq (by simpa using hi)]; simp
    rw [hd] at hact
    unfold stepS at ru
    rw [hact] at eu ru
    have ru' : RepS u' s := ru
    generalize s.1[i] = e at hact hnext hrow hE eu
    obtain ⟨ek, ev⟩ := e
    have hsl := sb_len ek
    simp only at hE eu hnext
    show ∃ s', haulagelaw13_TableWalk.b3 k (s.1.map rowOf) u fr (i : Int) = _ ∧ _
    unfold haulagelaw13_TableWalk.b3
    rw [if_pos (by omega), bind_eq eu, if_pos rfl, bind_eq (Rev_eq ru')]
    rw [if_pos (by rfl)]
    unfold haulagelaw13_TableWalk.j2
    rw [hml, decide_eq_true (show (i : Int) < (s.1.length : Int) by omega)]
    rw [if_neg (by simp [told]), if_neg (by omega), if_pos (by omega), hrow]
    have hsame : haulagelaw13_sameRow.f k (api_Row.mk (sb ek) ev.value ev.rev) (rowOf (ek, ev)) = some true := by
      rw [sameRow_eq hk _ _ (Or.inl (by show (sb ek).length < _; omega)) (Or.inl (by show ev.value.length < _; omega))]
      simp [rowOf]
    show ∃ s', (haulagelaw13_sameRow.f k (api_Row.mk (sb ek) ev.value ev.rev) (rowOf (ek, ev))).bind _ = _ ∧ _
    rw [bind_eq hsame, if_pos rfl]
    rw [if_pos (by show (sb ek).length * 1 ≤ _; omega), if_pos (by show ((([] : List Int) ++ sb ek).length + 1) * 1 ≤ 140737488355328; rw [List.nil_append]; omega), wrS i (by omega)]
    exact ⟨_, rfl, rfl, ru', by show ((([] : List Int) ++ sb ek) ++ [0]).length ≤ 65; simp; omega, hnext⟩
  · rintro ⟨u, fr, j⟩ ⟨rfl, r1, h1, h2⟩
    simp only at r1 h1 h2
    obtain ⟨u', eu, ru⟩ := do_step hk (by omega) r1 (api_Op.mk 5 fr [] 0)
    have hact := seek fr s.1.length h1 h2
    rw [List.drop_of_length_le (Nat.le_refl _)] at hact
    unfold stepS at ru
    rw [hact] at eu ru
    have ru' : RepS u' s := ru
    refine ⟨_, ?_, rfl⟩
    show haulagelaw13_TableWalk.b3 k (s.1.map rowOf) u fr ((s.1.length : Nat) : Int) = _
    unfold haulagelaw13_TableWalk.b3
    rw [if_pos (by omega), bind_eq eu, if_pos rfl, bind_eq (Rev_eq ru'), if_pos (by rfl)]
    unfold haulagelaw13_TableWalk.j2
    rw [hml, decide_eq_false (show ¬ ((s.1.length : Int) < (s.1.length : Int)) by omega)]
    rw [if_neg (by simp [told]), if_pos rfl, if_pos (by rfl), if_pos (by rfl)]
    rfl
end Go.Proofs.Ytcolmmjcdlmcoaa.G
/-! Read of a form, and of one with more behind it; TableForm. -/
namespace Go.Proofs.Ytcolmmjcdlmcoaa.G
open Go
set_option linter.unusedVariables false
set_option linter.unusedSimpArgs false
theorem bs_sb (k : ByteArray) : bs (sb k) = k := by
  apply toList_inj
  rw [bs_toList, ByteArray.toList_eq]
  unfold sb
  rw [List.map_map]
  have : ∀ l : List UInt8, l.map ((fun n : Int => UInt8.ofNat n.toNat) ∘ fun b : UInt8 => (b.toNat : Int)) = l := by
    intro l
    induction l with
    | nil => rfl
    | cons a l ih =>
      rw [List.map_cons, ih]
      congr 1
      show UInt8.ofNat ((a.toNat : Int).toNat) = a
      rw [Int.toNat_natCast]
      exact UInt8.ofNat_toNat
  exact this _
theorem ef_flat (e : Ent) (rest : List Int) : ef e ++ rest = fm (sb e.1).length ++ (sb e.1 ++ (fm e.2.value.length ++ (e.2.value ++ (fm e.2.rev.toNat ++ rest)))) := by
  unfold ef
  rw [sb_len]
  simp only [List.append_assoc]
theorem ef_pos (e : Ent) : 1 ≤ (ef e).length := by
  unfold ef; simp only [List.length_append]; have := fm_pos e.1.size; omega
theorem flat_pos : ∀ L : List Ent, L.length ≤ (L.flatMap ef).length
  | [] => Nat.le_refl _
  | e :: L => by rw [List.flatMap_cons, List.length_append, List.length_cons]; have := flat_pos L; have := ef_pos e; omega
theorem form_len (s : St) : s.1.length ≤ (form s).length := by
  unfold form; simp only [List.length_append]; have := flat_pos s.1; omega
theorem rloop_fwd {k : Nat} (hk : Fuel k) {R : Nat} (hR : R ≤ 1099511627776) {t17 : Int × Option Rdr} (h17 : t17.1 = (R : Int)) (ou : List (List Int)) (y : List Int) : ∀ (M : List Ent) (tab : Option Tab) (L : List Ent) (m : MpV Bool) (last : ByteArray) (n : Nat),
    (M.flatMap ef ++ y).length + L.length < 8000000000 → TabR tab R L → Part R L last m → Ord (L ++ M) → (revs (L ++ M)).Nodup →
    (∀ e ∈ M, 1 ≤ e.1.size ∧ e.1.size ≤ 64 ∧ e.2.value.length ≤ 256 ∧ 1 ≤ e.2.rev ∧ e.2.rev ≤ (R : Int)) → M.length < n →
    ∃ tab', rloop k t17 n (some ⟨M.flatMap ef ++ y, ou, 0⟩, (M.length : Int), tab, true, m, last) = some (some ⟨y, ou, 0⟩, tab', true) ∧ TabR tab' R (L ++ M)
  | [], tab, L, m, last, n, _, hT, _, _, _, _, hn => ⟨tab, rloop_end (Or.inl (by simp)) hn, by simpa using hT⟩
  | e :: M, tab, L, m, last, n, hs, hT, hP, ho, hd, hE, hn => by
    obtain ⟨n, rfl⟩ : ∃ p, n = p + 1 := ⟨n - 1, by omega⟩
    obtain ⟨key, v, a⟩ := e
    obtain ⟨e1, e2, e3, e4, e5⟩ := hE (key, ⟨v, a⟩) (by simp)
    simp only at e1 e2 e3 e4 e5
    have hML : M.length ≤ (M.flatMap ef).length := flat_pos M
    have hlen : (((key, (⟨v, a⟩ : table_cell)) :: M).flatMap ef ++ y).length = (ef (key, ⟨v, a⟩)).length + ((M.flatMap ef).length + y.length) := by
      rw [List.flatMap_cons]; simp only [List.length_append]; omega
    rw [hlen] at hs
    have hflat : ((key, (⟨v, a⟩ : table_cell)) :: M).flatMap ef ++ y = fm (sb key).length ++ (sb key ++ (fm v.length ++ (v ++ (fm a.toNat ++ (M.flatMap ef ++ y))))) := by
      rw [List.flatMap_cons, List.append_assoc, ef_flat]
    have hall : (fm (sb key).length ++ (sb key ++ (fm v.length ++ (v ++ (fm a.toNat ++ (M.flatMap ef ++ y)))))).length < 8000000000 := by
      rw [← hflat, hlen]; omega
    simp only [List.length_append] at hall
    have hks : (sb key).length = key.size := sb_len key
    have t1 := Text_fwd (v := sb key) (most := 64) (by omega) (by omega) (by omega) (fm v.length ++ (v ++ (fm a.toNat ++ (M.flatMap ef ++ y)))) (by simp only [List.length_append]; omega) ou
    have t2 := Text_fwd (v := v) (most := 256) (by omega) (by omega) (by omega) (fm a.toNat ++ (M.flatMap ef ++ y)) (by simp only [List.length_append]; omega) ou
    have t3 := Num_fwd (m := a.toNat) (by omega) (M.flatMap ef ++ y) ou
    have ha : ((a.toNat : Nat) : Int) = a := by omega
    rw [ha] at t3
    have hmany : ((((key, (⟨v, a⟩ : table_cell)) :: M).length : Nat) : Int) = (M.length : Int) + 1 := by simp
    obtain ⟨tab', g, m', e, hg, hgo⟩ := row_eq hk hR hP (by omega) hT h17 (kb := sb key) (vb := v) (by omega) e3 (r1 := some ⟨fm v.length ++ (v ++ (fm a.toNat ++ (M.flatMap ef ++ y))), ou, 0⟩) (r2 := some ⟨fm a.toNat ++ (M.flatMap ef ++ y), ou, 0⟩) (r3 := some ⟨M.flatMap ef ++ y, ou, 0⟩) (a := a) (by omega) (by omega) (many := (M.length : Int) + 1) (by omega) (by omega) t3
    rw [bs_sb] at e hg hgo
    have hord : ∀ x ∈ L, lt x.1 key = true := fun x hx => by
      unfold Ord at ho
      rw [List.pairwise_append] at ho
      exact ho.2.2 x hx (key, ⟨v, a⟩) (by simp)
    have hlt : lt last key = true := by
      rcases hP.top with ⟨_, q⟩ | ⟨x, hx, q⟩
      · rw [q]; exact lt_empty e1
      · rw [← q]; exact hord x hx
    have hnot : a ∉ revs L := by
      unfold revs at hd ⊢
      rw [List.map_append, List.nodup_append] at hd
      intro q
      exact hd.2.2 a q a (by simp) rfl
    have hgt : g = true := hg.2 ⟨hlt, by omega, e5, hnot⟩
    subst hgt
    obtain ⟨hT', hP'⟩ := hgo rfl
    obtain ⟨tab2, e', hT2⟩ := rloop_fwd hk hR h17 ou y M tab' (L ++ [(key, ⟨v, a⟩)]) m' key n (by simp only [List.length_append, List.length_singleton]; have := ef_pos (key, (⟨v, a⟩ : table_cell)); omega) hT' hP' (by simpa using ho) (by simpa using hd) (fun x hx => hE x (by simp [hx])) (by simp at hn; omega)
    refine ⟨tab2, ?_, by simpa using hT2⟩
    have hstep : table_Read.b7 k t17 (some ⟨((key, (⟨v, a⟩ : table_cell)) :: M).flatMap ef ++ y, ou, 0⟩) ((((key, (⟨v, a⟩ : table_cell)) :: M).length : Nat) : Int) tab true m last = some (.next (some ⟨M.flatMap ef ++ y, ou, 0⟩, (M.length : Int), tab', true, m', key)) := by
      rw [hflat, hmany]
      unfold table_Read.b7 table_Read.j4
      rw [if_pos (by omega), if_pos rfl, bind_eq t1, bind_eq t2]
      rw [show (M.length : Int) + 1 - 1 = (M.length : Int) by omega] at e
      exact e
    exact (loop_next (by exact hstep)).trans e'
/-- Read of a form with more behind it -/
theorem read_fwd {k : Nat} (hk : Fuel k) {s : St} (hS : Sound s) (y : List Int) (hl : (form s ++ y).length < 4000000000) :
    ∃ t, table_Read.f k (form s ++ y) = some (if y = [] then (t, 0) else (none, 130)) ∧ RepS t s := by
  have h24 : 1099511627776 ≤ k := hk
  have hR := hS.top
  have hflen := form_len s
  rw [List.length_append] at hl
  have hp : form s ++ y = fm s.2 ++ (fm s.1.length ++ (s.1.flatMap ef ++ y)) := by unfold form; simp only [List.append_assoc]
  have hlen2 : (s.1.flatMap ef ++ y).length ≤ (form s ++ y).length := by rw [hp]; simp only [List.length_append]; omega
  rw [show (form s ++ y).length = (form s).length + y.length from List.length_append] at hlen2
  have e0 : parcel_Read.f (form s ++ y) = some (some ⟨fm s.2 ++ (fm s.1.length ++ (s.1.flatMap ef ++ y)), [], 0⟩) := by
    unfold parcel_Read.f; rw [if_pos (by rw [List.length_append]; omega), hp]
  have e1 := Num_fwd (m := s.2) (by omega) (fm s.1.length ++ (s.1.flatMap ef ++ y)) []
  have e2 := Num_fwd (m := s.1.length) (by omega) (s.1.flatMap ef ++ y) []
  obtain ⟨tab', e3, hT⟩ := rloop_fwd hk hR (t17 := ((s.2 : Int), some ⟨fm s.1.length ++ (s.1.flatMap ef ++ y), [], 0⟩)) rfl [] y s.1 (some ⟨.nil, (s.2 : Int), 0⟩) [] ⟨fun _ => none, 0⟩ { data := #[] } k
    (by simp only [List.length_nil]; omega) ⟨.nil, rfl, trivial, rfl⟩ (Part.empty s.2) (by simpa using hS.inv.ord) (by simpa using hS.dis) hS.inv.ent (by omega)
  rw [List.nil_append] at hT
  refine ⟨tab', ?_, TabR.rep hT hS⟩
  unfold table_Read.f
  rw [bind_eq e0, bind_eq e1]
  simp only
  rw [bind_eq e2, bind_eq new_eq, Option.bind_some]
  have hwm : IntKind.i64.wrap (min (s.2 : Int) 1099511627776) = (s.2 : Int) := by rw [Int.min_eq_left (by omega), wr (by omega) (by omega)]
  simp only [hwm, decide_eq_true (show (s.2 : Int) ≤ 1099511627776 by omega)]
  rw [bind_eq e3]
  unfold table_Read.j8
  simp only [if_true]
  rw [bind_eq (Done_eq y 0)]
  by_cases hy : y = []
  · subst hy
    rfl
  · have hp : 0 < y.length := by
      rcases Nat.eq_zero_or_pos y.length with q | q
      · exact absurd (List.length_eq_zero_iff.1 q) hy
      · exact q
    rw [if_neg hy, if_pos rfl, if_pos hp]
    rfl
theorem form_size (s : St) : ((form s).length : Int) = nm s.2 + nm s.1.length + sz s.1 := by
  have h := flat_len s.1
  unfold form
  simp only [List.length_append, fm_len]
  omega
/-! ### TableForm -/
theorem comes_rows {k : Nat} (hk : Fuel k) {s : St} (hI : Inv s.1 s.2) {i : Nat} (hi : i + 1 < s.1.length) : haulagelaw13_comes.f k (rowOf s.1[i]).Key (rowOf s.1[i + 1]).Key = some true := by
  have hE := hI.ent _ (List.getElem_mem (show i < s.1.length by omega))
  have hlt : lt s.1[i].1 s.1[i + 1].1 = true := by
    have := hI.ord
    unfold Ord at this
    rw [List.pairwise_iff_getElem] at this
    exact this i (i + 1) (by omega) hi (by omega)
  have hcm : cm (sb s.1[i].1) (sb s.1[i + 1].1) = true := by
    unfold lt at hlt
    rw [ByteArray.toList_eq, ByteArray.toList_eq] at hlt
    unfold sb
    rw [cm_bl]; exact hlt
  show haulagelaw13_comes.f k (sb s.1[i].1) (sb s.1[i + 1].1) = some true
  rw [comes_eq hk _ _ (by rw [sb_len]; omega), hcm]
theorem TableForm_true {k : Nat} (hk : Fuel k) (p : List Int) (hb : bytesR p) (hl : p.length < 3000000) : haulagelaw13_TableForm.f k p = some true := by
  have h24 : 1099511627776 ≤ k := hk
  obtain ⟨t, e, er, hc⟩ := read_any hk p hb (by omega)
  unfold haulagelaw13_TableForm.f
  rw [bind_eq (awake_eq hk), if_pos rfl, bind_eq er]
  rcases hc with ⟨rfl, rfl⟩ | ⟨rfl, s, hT, hS, hp⟩
  · rw [if_neg (by simp)]
    unfold haulagelaw13_TableForm.j1
    rw [if_pos rfl, if_pos rfl]
    rfl
  · have hI := hS.inv
    have hll : s.1.length < 3000000 := by have := form_len s; rw [← hp] at this; omega
    have htop := hS.top
    have hml : (s.1.map rowOf).length = s.1.length := by simp
    rw [if_pos rfl]
    have hns : Option.isNone t = false := by obtain ⟨rows, rfl, _⟩ := hT; rfl
    unfold haulagelaw13_TableForm.j1
    rw [hns, if_neg (by simp)]
    simp only
    rw [bind_eq (Rows_eq0 (by omega) hT)]
    have rowAt : ∀ i (h : i < s.1.length), rd (s.1.map rowOf) (i : Int) = rowOf s.1[i] := fun i h => by rw [rd_eq (by simpa using h)]; simp
    have L := loop_inv (f := fun (s_ : Int) => haulagelaw13_TableForm.b5 k (t, 0) (s.1.map rowOf) s_) (I := fun i q => q = (i : Int)) (P := fun x => x = Sum.inl ()) (N := s.1.length) ?_ ?_ s.1.length 0 0 k rfl (by omega) (by omega)
    · obtain ⟨x, ex, rfl⟩ := L
      rw [bind_eq ex]
      show haulagelaw13_TableForm.j6 k p (t, 0) = some true
      unfold haulagelaw13_TableForm.j6
      simp only
      rw [bind_eq (bytes_eq0 hk (by omega) htop hT), bind_eq (same_eq hk _ _ (Or.inr (by omega))), if_pos (by simp [← hp]), bind_eq (size_eq0 hk (by omega) htop hT), if_pos (by rw [hp, form_size]), bind_eq (Rev_eq hT)]
      simp; omega
    · rintro i q hi rfl
      left
      have hE := hI.ent _ (List.getElem_mem hi)
      have hsl : (rowOf s.1[i]).Key.length = s.1[i].1.size := sb_len _
      refine ⟨((i + 1 : Nat) : Int), ?_, rfl⟩
      have j2 : haulagelaw13_TableForm.j2 k (s.1.map rowOf) (i : Int) false = some (.next ((i + 1 : Nat) : Int)) := by
        unfold haulagelaw13_TableForm.j2
        rw [if_neg (by simp)]
        have L2 := loop_inv (f := fun (s_ : Int) => haulagelaw13_TableForm.b3 (s.1.map rowOf) (i : Int) s_) (I := fun j q => q = (j : Int)) (P := fun x => x = Sum.inl ()) (N := i) ?_ ?_ i 0 0 k rfl (by omega) (by omega)
        · obtain ⟨x, ex, rfl⟩ := L2
          rw [bind_eq ex]
          show haulagelaw13_TableForm.j4 (i : Int) = _
          unfold haulagelaw13_TableForm.j4
          rw [wrS i (by omega)]
        · rintro j q hj rfl
          left
          refine ⟨((j + 1 : Nat) : Int), ?_, rfl⟩
          have hjl : j < s.1.length := by omega
          have hne : ¬ (rowOf s.1[j]).Rev = (rowOf s.1[i]).Rev := by
            have hd := hS.dis
            unfold revs List.Nodup at hd
            rw [List.pairwise_map, List.pairwise_iff_getElem] at hd
            exact hd j i hjl hi hj
          show haulagelaw13_TableForm.b3 (s.1.map rowOf) (i : Int) (j : Int) = _
          unfold haulagelaw13_TableForm.b3
          rw [if_pos (by omega), if_pos (by omega), rowAt j hjl, rowAt i hi, if_neg hne, wrS j (by omega)]
        · rintro q rfl
          refine ⟨_, ?_, rfl⟩
          show haulagelaw13_TableForm.b3 (s.1.map rowOf) (i : Int) (i : Int) = _
          unfold haulagelaw13_TableForm.b3
          rw [if_neg (by omega)]
      show haulagelaw13_TableForm.b5 k (t, 0) (s.1.map rowOf) (i : Int) = _
      unfold haulagelaw13_TableForm.b5
      rw [if_pos (by omega), if_pos (by omega), rowAt i hi, if_neg (by omega), if_neg (by omega), if_neg (by show ¬ 256 < (s.1[i].2.value.length : Int); omega), if_neg (by show ¬ s.1[i].2.rev < 1; omega)]
      simp only
      rw [bind_eq (Rev_eq hT), if_neg (by show ¬ (s.2 : Int) < s.1[i].2.rev; omega)]
      by_cases h0 : 0 < i
      · have ew : IntKind.i64.wrap ((i : Int) - 1) = ((i - 1 : Nat) : Int) := by rw [wr (by omega) (by omega)]; omega
        rw [if_pos (by omega), ew, if_pos (by omega), rowAt (i - 1) (by omega)]
        have hcc := comes_rows hk hI (i := i - 1) (by omega)
        simp only [show i - 1 + 1 = i by omega] at hcc
        rw [bind_eq hcc]
        exact j2
      · rw [if_neg (by omega)]
        exact j2
    · rintro q rfl
      refine ⟨_, ?_, rfl⟩
      show haulagelaw13_TableForm.b5 k (t, 0) (s.1.map rowOf) ((s.1.length : Nat) : Int) = _
      unfold haulagelaw13_TableForm.b5
      rw [if_neg (by omega)]
end Go.Proofs.Ytcolmmjcdlmcoaa.G
/-! TablePlace. -/
namespace Go.Proofs.Ytcolmmjcdlmcoaa.G
open Go
set_option linter.unusedVariables false
set_option linter.unusedSimpArgs false
theorem act_wrong {L : List Ent} {r : Nat} {o : api_Op} (h : right o = false) : act L r o = (zeroA, 131, L, r) := by
  unfold act; rw [if_pos h]
theorem told_At (r : Int) (k : ByteArray) (q : Option table_cell) : (told r k q).At = r := by cases q <;> rfl
theorem act_write {L : List Ent} {r : Nat} {o : api_Op} (h : right o = true) (hw : isW o = true) : (act L r o).1.At = (r : Int) + 1 ∧ (act L r o).2.1 = 0 ∧ (act L r o).2.2.2 = r + 1 := by
  have hkind : o.Kind ≠ 5 ∧ o.Kind ≠ 1 := by
    unfold isW at hw
    simp at hw
    omega
  unfold act
  rw [if_neg (by simp [h]), if_neg hkind.1, if_neg hkind.2]
  split
  · exact ⟨told_At .., rfl, rfl⟩
  · split
    · exact ⟨told_At .., rfl, rfl⟩
    · exact ⟨told_At .., rfl, rfl⟩
theorem act_read {L : List Ent} {r : Nat} {o : api_Op} (h : right o = true) (hw : isW o = false) : (act L r o).1.At = (r : Int) ∧ (act L r o).2.1 = 0 ∧ (act L r o).2.2 = (L, r) := by
  have hkind := (right_key h).2.2.2
  unfold isW at hw
  simp at hw
  unfold act
  rw [if_neg (by simp [h])]
  split
  · refine ⟨?_, rfl, rfl⟩
    cases above (bs o.Key) L <;> exact told_At ..
  · rw [if_pos (by omega)]
    exact ⟨told_At .., rfl, rfl⟩
theorem told_short {L : List Ent} {n : Nat} (hI : Inv L n) {r : Int} {K : ByteArray} (hK : K.size ≤ 65) : (told r K (look K L)).Key.length ≤ 65 ∧ (told r K (look K L)).Value.length ≤ 256 := by
  cases h : look K L with
  | none => simp [told]
  | some c => have := hI.look h; exact ⟨by show (sb K).length ≤ 65; rw [sb_len]; omega, this.2.2.1⟩
theorem act_short {L : List Ent} {r : Nat} {o : api_Op} (hI : Inv L r) : (act L r o).1.Key.length ≤ 65 ∧ (act L r o).1.Value.length ≤ 256 := by
  by_cases hR : right o = true
  · have hk : (bs o.Key).size ≤ 65 := by rw [bs_size]; exact (right_key hR).1
    unfold act
    rw [if_neg (by simp [hR])]
    split
    · cases hA : above (bs o.Key) L with
      | nil => simp [told]
      | cons e M =>
        have := hI.ent e (above_mem hA)
        exact ⟨by show (sb e.1).length ≤ 65; rw [sb_len]; omega, this.2.2.1⟩
    · split
      · exact told_short hI hk
      · split
        · exact told_short hI hk
        · split
          · exact told_short (r := (r : Int) + 1) hI hk
          · exact told_short (r := (r : Int) + 1) hI hk
  · rw [act_wrong (by simpa using hR)]; simp [zeroA]
theorem round_eq {a : Int} {n : Nat} (hn : 0 < n) (hb : n < 4000000) : ∃ i, i < n ∧ haulagelaw13_round.f a (n : Int) = some ((i : Nat) : Int) := by
  unfold haulagelaw13_round.f
  rw [if_pos (by omega)]
  have h1 : Int.tmod a n < n := Int.tmod_lt_of_pos a (by omega)
  have h2 : -(n : Int) < Int.tmod a n := by
    have := Int.neg_tmod a n
    have h3 : Int.tmod (-a) n < n := Int.tmod_lt_of_pos (-a) (by omega)
    omega
  by_cases c : Int.tmod a n < 0
  · rw [if_pos c, wr (by omega) (by omega)]
    exact ⟨(Int.tmod a n + n).toNat, by omega, by congr 1; omega⟩
  · rw [if_neg c]
    exact ⟨(Int.tmod a n).toNat, by omega, by congr 1; omega⟩
def Told (done : List api_Op) (a : api_Answer) (o : api_Op) : Prop :=
  right o = true ∧ ∃ m : Nat, m ≤ done.length ∧ a.At = (if isW o = true then (m : Int) + 1 else (m : Int)) ∧ (act (run ([], 0) (done.take m)).1 (run ([], 0) (done.take m)).2 o).1 = a ∧ a.Key.length ≤ 65 ∧ a.Value.length ≤ 256
theorem Told.more {done : List api_Op} {a : api_Answer} {o p : api_Op} (h : Told done a o) : Told (done ++ [p]) a o := by
  obtain ⟨h1, m, h2, h3, h4, h5⟩ := h
  refine ⟨h1, m, by simp; omega, h3, ?_, h5⟩
  rw [List.take_append_of_le_length h2]; exact h4
structure Pl (i : Nat) (s : St) (done : List api_Op) (answers : List api_Answer) (asked : List api_Op) : Prop where
  same : run ([], 0) done = s
  rev : s.2 = done.length
  len : done.length ≤ asked.length
  le : asked.length ≤ i
  two : answers.length = asked.length
  all : ∀ j (h : j < asked.length) (h' : j < answers.length), Told done answers[j] asked[j]
theorem TablePlace_true {k : Nat} (hk : Fuel k) (ops : List api_Op) (which : Int) (hn : ops.length < 3000000) : haulagelaw13_TablePlace.f k ops which = some true := by
  have h24 : 1099511627776 ≤ k := hk
  obtain ⟨t, et, Rt⟩ := new_rep
  unfold haulagelaw13_TablePlace.f
  rw [bind_eq (awake_eq hk), if_pos rfl, bind_eq et]
  have L := loop_inv (f := fun (s_ : (Option Tab) × (List api_Op) × (List api_Answer) × (List api_Op) × Int) => haulagelaw13_TablePlace.b7 k ops s_.1 s_.2.1 s_.2.2.1 s_.2.2.2.1 s_.2.2.2.2)
    (I := fun i s => s.2.2.2.2 = (i : Int) ∧ RepS s.1 (run ([], 0) (ops.take i)) ∧ Pl i (run ([], 0) (ops.take i)) s.2.1 s.2.2.1 s.2.2.2.1)
    (P := fun x => ∃ y, x = Sum.inl y ∧ RepS y.1 (run ([], 0) ops) ∧ Pl ops.length (run ([], 0) ops) y.2.1 y.2.2.1 y.2.2.2) (N := ops.length) ?_ ?_ ops.length 0 (t, [], [], [], 0) k
      ⟨rfl, Rt, ⟨rfl, rfl, Nat.le_refl _, Nat.le_refl _, rfl, fun j h => by simp at h⟩⟩ (by omega) (by omega)
  · obtain ⟨x, ex, ⟨u, done, answers, asked⟩, rfl, Ru, hP⟩ := L
    rw [bind_eq ex]
    simp only at Ru hP ⊢
    unfold haulagelaw13_TablePlace.j8
    have hle := hP.le; have hdl := hP.len; have htwo := hP.two
    by_cases c0 : asked.length = 0
    · rw [if_pos (by omega), bind_eq (Len_eq Ru)]
      have : done = [] := List.length_eq_zero_iff.1 (by omega)
      have hs := hP.same
      rw [this] at hs
      rw [← hs]
      rfl
    · rw [if_neg (by omega)]
      obtain ⟨i, hi, er⟩ := round_eq (a := which) (n := asked.length) (by omega) (by omega)
      rw [bind_eq er, if_pos (by omega), if_pos (by omega), rd_eq hi, bind_eq (writes_eq' _), rd_eq (show i < answers.length by omega)]
      obtain ⟨hR, m, hm, hAt, hact, hl1, hl2⟩ := hP.all i hi (by omega)
      generalize hoo : asked[i] = o at hR hAt hact
      generalize haa : answers[i]'(by omega) = a at hAt hact hl1 hl2
      have fin : haulagelaw13_TablePlace.j9 k done answers asked (i : Int) (m : Int) = some true := by
        unfold haulagelaw13_TablePlace.j9
        rw [if_pos (by omega), Int.toNat_natCast]
        obtain ⟨v, ev, Rv⟩ := made_eq hk (done.take m) (by rw [List.length_take]; omega)
        have hr : (run ([], 0) (done.take m)).2 < 3000000 := run_lt (by rw [List.length_take]; omega)
        obtain ⟨v', ev', Rv'⟩ := do_step hk (by omega) Rv o
        rw [bind_eq ev, if_pos (by omega), rd_eq hi, hoo, bind_eq ev']
        have he : (act (run ([], 0) (done.take m)).1 (run ([], 0) (done.take m)).2 o).2.1 = 0 := by
          by_cases hw : isW o = true
          · exact (act_write hR hw).2.1
          · exact (act_read hR (by simpa using hw)).2.1
        rw [if_pos he, if_pos (by omega), rd_eq (show i < answers.length by omega), haa, hact, bind_eq (sameAnswer_eq hk _ _ (Or.inl (by omega)) (Or.inl (by omega)))]
        simp
      by_cases hw : isW o = true
      · rw [if_pos hw, hAt, if_pos hw, wr (by omega) (by omega), show (m : Int) + 1 - 1 = (m : Int) by omega]
        exact fin
      · rw [if_neg hw, hAt, if_neg hw]
        exact fin
  · rintro i ⟨u, done, answers, asked, j⟩ hi ⟨rfl, r1, hP⟩
    left
    simp only at r1 hP
    have hlt : (run ([], 0) (ops.take i)).2 < 4000000 := run_lt (by rw [List.length_take]; omega)
    obtain ⟨u', eu, ru⟩ := do_step hk (by omega) r1 ops[i]
    have htk : run ([], 0) (ops.take (i + 1)) = stepS (run ([], 0) (ops.take i)) ops[i] := by rw [take_one hi, run_snoc]
    rw [htk]
    generalize hss : run ([], 0) (ops.take i) = s at r1 hP ru eu hlt
    have hI : Inv s.1 s.2 := by obtain ⟨rows, _, _, _, hI⟩ := r1; exact hI
    generalize ho : ops[i] = o at eu ru
    have hrd : rd ops (i : Int) = o := by rw [rd_eq hi, ho]
    have hle := hP.le; have hdl := hP.len; have htwo := hP.two
    have hsh := act_short (o := o) hI
    show ∃ s', haulagelaw13_TablePlace.b7 k ops u done answers asked (i : Int) = _ ∧ _
    unfold haulagelaw13_TablePlace.b7
    rw [if_pos (by omega), if_pos (by omega), hrd, bind_eq eu]
    by_cases hR : right o = true
    · by_cases hw : isW o = true
      · obtain ⟨w1, w2, w3⟩ := act_write (L := s.1) (r := s.2) hR hw
        rw [if_pos w2, if_pos (by omega), bind_eq (writes_eq' o), if_pos hw, if_pos (by omega), if_pos (by simp; omega)]
        unfold haulagelaw13_TablePlace.j5
        have hrev := hP.rev
        rw [if_pos (by rw [w1]; simp; omega), bind_eq (Rev_eq ru), if_pos (by show (((act s.1 s.2 o).2.2.2 : Nat) : Int) = _; rw [w3]; simp; omega), if_pos (by omega), hrd, bind_eq (right_eq o), hR]
        unfold haulagelaw13_TablePlace.j6
        rw [if_neg (by simp), if_pos (by simp; omega), if_pos (by omega), hrd, if_pos (by simp; omega), wrS i (by omega)]
        refine ⟨_, rfl, rfl, ru, ?_⟩
        have hsm : run ([], 0) (done ++ [o]) = stepS s o := by rw [run_snoc, hP.same]
        refine ⟨hsm, by show (act s.1 s.2 o).2.2.2 = _; rw [w3]; simp; omega, by simp; omega, by simp; omega, by simp; omega, fun j h h' => ?_⟩
        simp only [List.length_append, List.length_singleton] at h h'
        by_cases hj : j < asked.length
        · have := (hP.all j hj (by omega)).more (p := o)
          simp only [List.getElem_append_left hj, List.getElem_append_left (show j < answers.length by omega)]
          exact this
        · have hj' : j = asked.length := by omega
          subst hj'
          have g1 : (asked ++ [o])[asked.length]'(by simp) = o := by simp
          have g2 : (answers ++ [(act s.1 s.2 o).1])[asked.length]'(by simp; omega) = (act s.1 s.2 o).1 := by simp [← htwo]
          show Told (done ++ [o]) ((answers ++ [(act s.1 s.2 o).1])[asked.length]'(by simp; omega)) ((asked ++ [o])[asked.length]'(by simp))
          rw [g1, g2]
          refine ⟨hR, done.length, by simp, ?_, ?_, hsh⟩
          · rw [if_pos hw, w1]; omega
          · rw [List.take_left, hP.same]
      · obtain ⟨w1, w2, w3⟩ := act_read (L := s.1) (r := s.2) hR (by simpa using hw)
        rw [if_pos w2, if_pos (by omega), bind_eq (writes_eq' o), if_neg hw]
        unfold haulagelaw13_TablePlace.j5
        have hrev := hP.rev
        have hst : stepS s o = s := w3
        rw [hst] at ru ⊢
        rw [if_pos (by rw [w1]; omega), bind_eq (Rev_eq ru), if_pos (by omega), if_pos (by omega), hrd, bind_eq (right_eq o), hR]
        unfold haulagelaw13_TablePlace.j6
        rw [if_neg (by simp), if_pos (by simp; omega), if_pos (by omega), hrd, if_pos (by simp; omega), wrS i (by omega)]
        refine ⟨_, rfl, rfl, ru, ?_⟩
        refine ⟨hP.same, hrev, by simp; omega, by simp; omega, by simp; omega, fun j h h' => ?_⟩
        simp only [List.length_append, List.length_singleton] at h h'
        by_cases hj : j < asked.length
        · have := hP.all j hj (by omega)
          simp only [List.getElem_append_left hj, List.getElem_append_left (show j < answers.length by omega)]
          exact this
        · have hj' : j = asked.length := by omega
          subst hj'
          have g1 : (asked ++ [o])[asked.length]'(by simp) = o := by simp
          have g2 : (answers ++ [(act s.1 s.2 o).1])[asked.length]'(by simp; omega) = (act s.1 s.2 o).1 := by simp [← htwo]
          show Told done ((answers ++ [(act s.1 s.2 o).1])[asked.length]'(by simp; omega)) ((asked ++ [o])[asked.length]'(by simp))
          rw [g1, g2]
          refine ⟨hR, done.length, by omega, ?_, ?_, hsh⟩
          · rw [if_neg hw, w1]; omega
          · rw [List.take_length, hP.same]
    · have hw := act_wrong (L := s.1) (r := s.2) (by simpa using hR : right o = false)
      have hst : stepS s o = s := by unfold stepS; rw [hw]
      rw [hst] at ru ⊢
      rw [if_neg (by rw [hw]; simp), if_pos (by omega), bind_eq (right_eq o), if_neg hR, if_pos (by rw [hw])]
      rw [bind_eq (sameAnswer_eq hk _ _ (Or.inr (by simp)) (Or.inr (by simp))), hw]
      unfold haulagelaw13_TablePlace.j4
      rw [if_neg (by simp [zeroA]), wrS i (by omega)]
      exact ⟨_, rfl, rfl, ru, ⟨hP.same, hP.rev, hdl, Nat.le_succ_of_le hle, htwo, hP.all⟩⟩
  · rintro ⟨u, done, answers, asked, j⟩ ⟨rfl, r1, hP⟩
    simp only at r1 hP
    rw [List.take_of_length_le (Nat.le_refl _)] at r1 hP
    refine ⟨Sum.inl (u, done, answers, asked), ?_, _, rfl, r1, hP⟩
    show haulagelaw13_TablePlace.b7 k ops u done answers asked ((ops.length : Nat) : Int) = _
    unfold haulagelaw13_TablePlace.b7
    rw [if_neg (by omega)]
end Go.Proofs.Ytcolmmjcdlmcoaa.G
/-! TableBack. -/
namespace Go.Proofs.Ytcolmmjcdlmcoaa.G
open Go
set_option linter.unusedVariables false
set_option linter.unusedSimpArgs false
theorem revs_ins {a : Int} {k : ByteArray} {c : table_cell} : ∀ L : List Ent, a ∈ revs (ins k c L) → a = c.rev ∨ a ∈ revs L := by
  intro L h
  obtain ⟨e, he, rfl⟩ := List.mem_map.1 h
  rcases mem_ins L he with rfl | q
  · exact Or.inl rfl
  · exact Or.inr (List.mem_map.2 ⟨e, q, rfl⟩)
theorem ins_nodup {k : ByteArray} {c : table_cell} : ∀ L : List Ent, c.rev ∉ revs L → (revs L).Nodup → (revs (ins k c L)).Nodup
  | [], _, _ => by simp [ins, revs]
  | (a, x) :: L, h, hd => by
    have h1 : ¬ c.rev = x.rev := fun e => h (by simp [revs, e])
    have h2 : c.rev ∉ revs L := fun e => h (by unfold revs at e ⊢; simp [e])
    have hd' : x.rev ∉ revs L ∧ (revs L).Nodup := List.nodup_cons.1 hd
    simp only [ins]
    split
    · exact List.nodup_cons.2 ⟨h, hd⟩
    · split
      · refine List.nodup_cons.2 ⟨fun q => ?_, ins_nodup L h2 hd'.2⟩
        rcases revs_ins L q with e | e
        · exact h1 e.symm
        · exact hd'.1 e
      · exact List.nodup_cons.2 ⟨h2, hd'.2⟩
theorem del_sub (k : ByteArray) : ∀ L : List Ent, (del k L).Sublist L
  | [] => List.Sublist.refl _
  | (a, x) :: L => by
    simp only [del]
    split
    · exact List.Sublist.refl _
    · split
      · exact (del_sub k L).cons_cons _
      · exact List.sublist_cons_self _ _
theorem del_nodup {k : ByteArray} {L : List Ent} (hd : (revs L).Nodup) : (revs (del k L)).Nodup := ((del_sub k L).map _).nodup hd
/-- what a run of ops keeps -/
structure Good (s : St) : Prop where
  inv : Inv s.1 s.2
  dis : (revs s.1).Nodup
  val : ∀ e ∈ s.1, bytesR e.2.value
theorem fresh {s : St} (h : Good s) : ((s.2 : Int) + 1) ∉ revs s.1 := by
  intro q
  obtain ⟨e, he, e2⟩ := List.mem_map.1 q
  have := h.inv.ent e he
  omega
theorem Good.step {s : St} (h : Good s) {o : api_Op} (ho : bytesR o.Value) (hI : Inv (stepS s o).1 (stepS s o).2) : Good (stepS s o) := by
  refine ⟨hI, ?_, ?_⟩
  · unfold stepS act
    repeat' split
    all_goals first
      | exact h.dis
      | exact del_nodup h.dis
      | exact ins_nodup _ (fresh h) h.dis
  · unfold stepS act
    repeat' split
    all_goals first
      | exact h.val
      | exact fun e he => h.val e (mem_del _ he)
      | (intro e he
         rcases mem_ins _ he with rfl | q
         · exact ho
         · exact h.val e q)
theorem run_good {k : Nat} (hk : Fuel k) : ∀ (ops : List api_Op), ops.length < 4000000 → (∀ o ∈ ops, bytesR o.Value) → Good (run ([], 0) ops) := by
  have key : ∀ (n : Nat) (ops : List api_Op), ops.length = n → ops.length < 4000000 → (∀ o ∈ ops, bytesR o.Value) → Good (run ([], 0) ops) := by
    intro n
    induction n with
    | zero =>
      intro ops hl _ _
      have : ops = [] := List.length_eq_zero_iff.1 hl
      subst this
      exact ⟨⟨List.Pairwise.nil, Nat.le_refl _, fun e he => by cases he⟩, List.nodup_nil, fun e he => by cases he⟩
    | succ n ih =>
      intro ops hl hb hv
      have hne : ops ≠ [] := fun e => by rw [e] at hl; simp at hl
      obtain ⟨t, e, R⟩ := made_eq hk ops hb
      have hI := R.inv
      rw [← List.dropLast_concat_getLast hne] at hI hv ⊢
      rw [run_snoc] at hI ⊢
      exact (ih ops.dropLast (by simp; omega) (by simp; omega) (fun o ho => hv o (by simp [ho]))).step (hv _ (by simp)) hI
  intro ops hl hv
  exact key ops.length ops rfl hl hv
theorem fmP_bytes : ∀ f n, bytesR (fmP f n)
  | 0, _ => fun c hc => by simp [fmP] at hc
  | f + 1, n => by
    unfold fmP
    split
    · intro c hc; simp at hc
    · intro c hc
      rcases List.mem_cons.1 hc with rfl | h
      · rw [bor8]; omega
      · exact fmP_bytes f _ c h
theorem fm_bytes (n : Nat) : bytesR (fm n) := by
  unfold fm
  refine bytesR_app.2 ⟨fmP_bytes 9 n, fun c hc => ?_⟩
  rw [List.mem_singleton] at hc
  subst hc
  rw [wr8]; omega
theorem sb_bytes (k : ByteArray) : bytesR (sb k) := by
  intro c hc
  obtain ⟨b, _, rfl⟩ := List.mem_map.1 hc
  have := b.toNat_lt
  omega
theorem form_bytes {s : St} (h : ∀ e ∈ s.1, bytesR e.2.value) : bytesR (form s) := by
  unfold form
  refine bytesR_app.2 ⟨bytesR_app.2 ⟨fm_bytes _, fm_bytes _⟩, fun c hc => ?_⟩
  obtain ⟨e, he, hce⟩ := List.mem_flatMap.1 hc
  have : bytesR (ef e) := by
    unfold ef
    exact bytesR_app.2 ⟨bytesR_app.2 ⟨fm_bytes _, sb_bytes _⟩, bytesR_app.2 ⟨bytesR_app.2 ⟨fm_bytes _, h e he⟩, fm_bytes _⟩⟩
  exact this c hce
theorem bytesR_take {p : List Int} (h : bytesR p) (n : Nat) : bytesR (p.take n) := fun c hc => h c (List.mem_of_mem_take hc)
/-- no beginning of a form is one -/
theorem read_part {k : Nat} (hk : Fuel k) {s : St} (hS : Sound s) (hb : bytesR (form s)) (hl : (form s).length < 2000000000) {i : Nat} (hi : i < (form s).length) : table_Read.f k ((form s).take i) = some (none, 130) := by
  obtain ⟨t, e, er, hc⟩ := read_any hk ((form s).take i) (bytesR_take hb i) (by rw [List.length_take]; omega)
  rcases hc with ⟨rfl, rfl⟩ | ⟨rfl, s', hT, hS', hp⟩
  · exact er
  · exfalso
    have hsplit : form s = form s' ++ (form s).drop i := by rw [← hp, List.take_append_drop]
    have hne : (form s).drop i ≠ [] := fun q => by
      have := congrArg List.length q
      rw [List.length_drop] at this
      simp at this; omega
    obtain ⟨t1, e1, _⟩ := read_fwd hk hS' ((form s).drop i) (by rw [← hsplit]; omega)
    obtain ⟨t2, e2, _⟩ := read_fwd hk hS [] (by simp; omega)
    rw [← hsplit, if_neg hne] at e1
    rw [List.append_nil, if_pos rfl] at e2
    rw [e1] at e2
    simp at e2
theorem After_eq {k : Nat} (hk : Fuel k) {t : Option Tab} {s : St} (hr : s.2 < 4000000) (hT : RepS t s) (o : api_Op) :
    table_Table_After.f k t o = some (if (act s.1 s.2 o).2.1 = 0 then (((form (stepS s o)).length : Int), 0) else (0, (act s.1 s.2 o).2.1)) := by
  obtain ⟨t', e', R'⟩ := do_step hk (by omega) hT o
  have hr' : (stepS s o).2 < 4194304 := by rcases step_r s o with h | h <;> omega
  unfold table_Table_After.f
  rw [bind_eq (copy_eq hT), bind_eq e']
  by_cases c : (act s.1 s.2 o).2.1 = 0
  · rw [if_pos c, if_pos c, bind_eq (size_eq hk hr' R'), form_size]
  · rw [if_neg c, if_neg c]
theorem TableBack_true {k : Nat} (hk : Fuel k) (ops more : List api_Op) (extra : Int) (h1 : ops.length + more.length < 1200000) (hv : ∀ o ∈ ops, bytesR o.Value) : haulagelaw13_TableBack.f k ops more extra = some true := by
  have h24 : 1099511627776 ≤ k := hk
  obtain ⟨t, et, Rt⟩ := made_eq hk ops (by omega)
  have hG := run_good hk ops (by omega) hv
  have hr0 : (run ([], 0) ops).2 < 1200000 := run_lt (by omega)
  generalize run ([], 0) ops = s at Rt hG hr0
  have hS : Sound s := ⟨hG.inv, hG.dis, by omega⟩
  have hfb := form_bytes hG.val
  have hfl : (form s).length < 1000000000 := by
    have h := form_size s
    have h2 := sz_le hG.inv.ent
    have h3 := hG.inv.len
    have := nm_le s.2; have := nm_le s.1.length
    omega
  obtain ⟨u, eu, Ru⟩ := read_fwd hk hS [] (by rw [List.append_nil]; omega)
  rw [List.append_nil, if_pos rfl] at eu
  have hnu : Option.isNone u = false := by obtain ⟨rows, rfl, _⟩ := Ru; rfl
  unfold haulagelaw13_TableBack.f
  rw [bind_eq (awake_eq hk), if_pos rfl, bind_eq et, bind_eq (bytes_eq hk (by omega) Rt), bind_eq eu, if_pos rfl]
  simp only [hnu]
  rw [if_neg (by simp), bind_eq (size_eq hk (by omega) Rt), if_pos (by rw [form_size]), bind_eq (size_eq hk (by omega) Ru)]
  have hsz : (!decide ((nm s.2 : Int) + nm s.1.length + sz s.1 = ((form s).length : Int))) = false := by simp [form_size]
  rw [hsz]
  unfold haulagelaw13_TableBack.j1
  rw [if_neg (by simp)]
  have L := loop_inv (f := fun (s_ : Int) => haulagelaw13_TableBack.b4 k (form s) s_) (I := fun i q => q = (i : Int)) (P := fun x => x = Sum.inl ()) (N := min 40 (form s).length) ?_ ?_ (min 40 (form s).length) 0 0 k rfl (by omega) (by omega)
  · obtain ⟨x, ex, rfl⟩ := L
    rw [bind_eq ex]
    show haulagelaw13_TableBack.j5 k more extra t (form s) (u, 0) = some true
    unfold haulagelaw13_TableBack.j5
    obtain ⟨t2, e2, _⟩ := read_fwd hk hS [extra] (by simp; omega)
    rw [if_neg (by simp)] at e2
    rw [List.nil_append, if_pos (by omega), if_pos (by simp; omega), bind_eq e2, if_pos rfl]
    show haulagelaw13_TableBack.j6 k more t (u, 0) false = some true
    unfold haulagelaw13_TableBack.j6
    rw [if_neg (by simp)]
    have L2 := loop_inv (f := fun (s_ : (Option Tab) × (Option Tab) × Int) => haulagelaw13_TableBack.b9 k more s_.1 s_.2.1 s_.2.2)
      (I := fun i q => q.2.2 = (i : Int) ∧ RepS q.1 (run s (more.take i)) ∧ RepS q.2.1 (run s (more.take i))) (P := fun x => ∃ y, x = Sum.inl y ∧ RepS y.1 (run s more) ∧ RepS y.2 (run s more)) (N := more.length) ?_ ?_ more.length 0 (t, u, 0) k ⟨rfl, Rt, Ru⟩ (by omega) (by omega)
    · obtain ⟨x, ex2, ⟨a, b⟩, rfl, ra, rb⟩ := L2
      rw [bind_eq ex2]
      have hrs : (run s more).2 < 4194304 := by have := run_r more s; omega
      show haulagelaw13_TableBack.j10 k a b = some true
      unfold haulagelaw13_TableBack.j10
      rw [bind_eq (bytes_eq hk hrs ra), bind_eq (bytes_eq hk hrs rb), bind_eq (same_eq hk _ _ (Or.inl (form_short hrs ra)))]
      simp
    · rintro i ⟨a, b, j⟩ hi ⟨rfl, ra, rb⟩
      left
      simp only at ra rb
      have hlt : (run s (more.take i)).2 < 4000000 := by
        have := run_r (more.take i) s
        rw [List.length_take] at this; omega
      have htk : run s (more.take (i + 1)) = stepS (run s (more.take i)) more[i] := by rw [take_one hi, run_snoc]
      rw [htk]
      generalize run s (more.take i) = q at ra rb hlt
      obtain ⟨a', ea, ra'⟩ := do_step hk (by omega) ra more[i]
      obtain ⟨b', eb, rb'⟩ := do_step hk (by omega) rb more[i]
      have hsh := act_short (o := more[i]) ra.inv
      have hr' : (stepS q more[i]).2 < 4194304 := by rcases step_r q more[i] with h | h <;> omega
      refine ⟨(a', b', ((i + 1 : Nat) : Int)), ?_, rfl, ra', rb'⟩
      show haulagelaw13_TableBack.b9 k more a b (i : Int) = _
      unfold haulagelaw13_TableBack.b9
      rw [if_pos (by omega), if_pos (by omega), rd_eq hi, bind_eq (After_eq hk hlt ra more[i]), if_pos (by omega), bind_eq ea, if_pos (by omega), bind_eq eb, if_pos rfl]
      have hj8 : haulagelaw13_TableBack.j8 ((act q.1 q.2 more[i]).1, (act q.1 q.2 more[i]).2.1, a') ((act q.1 q.2 more[i]).1, (act q.1 q.2 more[i]).2.1, b') (i : Int) false = some (.next (a', b', ((i + 1 : Nat) : Int))) := by
        unfold haulagelaw13_TableBack.j8
        rw [if_neg (by simp), wrS i (by omega)]
      by_cases c : (act q.1 q.2 more[i]).2.1 = 0
      · rw [if_pos c, if_pos (by rw [c]), bind_eq (sameAnswer_eq hk _ _ (Or.inl (by show (act q.1 q.2 more[i]).1.Key.length < _; omega)) (Or.inl (by show (act q.1 q.2 more[i]).1.Value.length < _; omega))), if_pos (by simp), if_pos c, bind_eq (size_eq hk hr' ra'), if_pos (by rw [form_size])]
        exact hj8
      · rw [if_neg c, if_pos rfl, bind_eq (sameAnswer_eq hk _ _ (Or.inl (by show (act q.1 q.2 more[i]).1.Key.length < _; omega)) (Or.inl (by show (act q.1 q.2 more[i]).1.Value.length < _; omega))), if_pos (by simp), if_neg c]
        simp only [decide_true, Bool.not_true]
        exact hj8
    · rintro ⟨a, b, j⟩ ⟨rfl, ra, rb⟩
      simp only at ra rb
      rw [List.take_of_length_le (Nat.le_refl _)] at ra rb
      refine ⟨_, ?_, (a, b), rfl, ra, rb⟩
      show haulagelaw13_TableBack.b9 k more a b ((more.length : Nat) : Int) = _
      unfold haulagelaw13_TableBack.b9
      rw [if_neg (by omega)]
  · rintro i q hi rfl
    left
    refine ⟨((i + 1 : Nat) : Int), ?_, rfl⟩
    have h40 : i < 40 := Nat.lt_of_lt_of_le hi (Nat.min_le_left _ _)
    have hil : i < (form s).length := Nat.lt_of_lt_of_le hi (Nat.min_le_right _ _)
    show haulagelaw13_TableBack.b4 k (form s) (i : Int) = _
    unfold haulagelaw13_TableBack.b4 haulagelaw13_TableBack.j2
    rw [if_pos (by omega), if_pos (by simp; omega), if_pos (by omega), Int.toNat_natCast, bind_eq (read_part hk hS hfb (by omega) hil), if_pos rfl]
    unfold haulagelaw13_TableBack.j3
    rw [if_neg (by simp), wrS i (by omega)]
  · rintro q rfl
    refine ⟨_, ?_, rfl⟩
    show haulagelaw13_TableBack.b4 k (form s) ((min 40 (form s).length : Nat) : Int) = _
    unfold haulagelaw13_TableBack.b4 haulagelaw13_TableBack.j2
    by_cases c : (form s).length ≤ 40
    · rw [Nat.min_eq_right c, if_neg (by omega), if_neg (by simp)]
    · rw [Nat.min_eq_left (by omega), if_pos (by omega), if_neg (by simp)]
end Go.Proofs.Ytcolmmjcdlmcoaa.G
/- The row of 'TableBack' (its '..UptoSaid'): whatever the input of bulk at most 1048576, the law returns true and the input reads as it did. -/
namespace Go.Proofs.Ytcolmmjcdlmcoaa.tableBack
open Go.ChangeShapes Go.WideShapes Go.ChangeAt Go.RowKit
set_option linter.unusedVariables false
set_option maxRecDepth 100000 in
theorem contract (H : Type) (enc : TypeId × Value → H) (W : World) (base : Nat) (args : Array Value) (ds gs : List (DataW H)) (before : List MemPlace)
    (hval : ∀ (j : Nat) t v, Try.f8.params[j]? = some t → args[j]? = some v → Value.okWide Try.prog W .any base t v)
    (hW : DataW.Whole enc Try.prog Try.f8.params.toList Rows.tableBackSpec.vars false W args.toList ds gs before) (hk : Rows.uptoSmall H (ds ++ gs) = true) :
    Calls Try.prog 8 args W fun e W' => ∃ v, e = .returned v ∧ Rows.tableBackSpec.post enc Try.prog Try.f8 false true false false W args v W' := by
  have hW' := hW
  obtain ⟨p, q, hA0, hV, rfl, hfz, hnd⟩ := hW
  have hA : DataW.TrodAll enc Try.prog W 0 (fun _ => true) true Try.f8.params.toList args.toList ds p := hA0
  rw [Try.params8] at hA hval
  obtain ⟨v0, vs0, d0, ds0, p0, q0, hargs, rfl, rfl, h0, r0⟩ := trodAll_cons hA
  obtain ⟨v1, vs1, d1, ds1, p1, q1, rfl, rfl, rfl, h1, r1⟩ := trodAll_cons r0
  obtain ⟨v2, vs2, d2, ds2, p2, q2, rfl, rfl, rfl, h2, r2⟩ := trodAll_cons r1
  obtain ⟨rfl, rfl, rfl⟩ := trodAll_nil r2
  obtain rfl : args = #[v0, v1, v2] := by cases args; simp_all
  obtain ⟨rfl, rfl⟩ := trodVars_none hV
  have k0 := h0
  have lt0 : ∀ x ∈ p0, x.block < W.heap.size := by obtain ⟨m, hm⟩ := k0; exact DataW.trod_lt m _ _ _ hm
  obtain ⟨A0, C0, a0, rfl, s0, b0, o0⟩ := G.arg_ops (okWide_slice Try.underlying22 (hval 0 22 v0 rfl rfl)) h0
  have l0 := G.opsum_len a0
  have k1 := h1
  have lt1 : ∀ x ∈ p1, x.block < W.heap.size := by obtain ⟨m, hm⟩ := k1; exact DataW.trod_lt m _ _ _ hm
  obtain ⟨A1, C1, a1, rfl, s1, b1, o1⟩ := G.arg_ops (okWide_slice Try.underlying22 (hval 1 22 v1 rfl rfl)) h1
  have l1 := G.opsum_len a1
  obtain ⟨a2, rfl, rfl, rfl, w2⟩ := open_int Try.underlying5 (hval 2 5 v2 rfl rfl) h2
  have hb : Rows.uptoBulkAll [d0, d1, (DataW.lit (H := H) (.int .u8 a2))] ≤ 1048576 := of_decide_eq_true hk
  simp only [Rows.uptoBulkAll] at hb
  refine (G.haulagelaw13_TableBack.calls 1099511627776 (m := 1) (c0 := G.c0) (w0 := W) (Nat.lt_succ_self 0) (fun _ _ => Nat.lt_succ_self 0) s0 s1 true (G.TableBack_true (k := 1099511627776) (Nat.le_refl _) a0 a1 a2 (by omega) (fun o ho n hn => ((o0 o ho).2 n hn).range))).mono fun e W' ⟨c_, he, ev_, _⟩ => ?_
  subst he
  have bel : Below W.heap.size W W' := G.Ev.below ev_
  exact ⟨_, rfl, _, _, _, [], _, [], hW', trodAll_mk1 (shut_bool Try.underlying4 _), (trodAll_cons_mk (Below.trod G.row_laidOut (by kernel_rfl) (of_decide_eq_true (by kernel_rfl)) k0 bel lt0) (trodAll_cons_mk (Below.trod G.row_laidOut (by kernel_rfl) (of_decide_eq_true (by kernel_rfl)) k1 bel lt1) (trodAll_cons_mk (shut_int Try.underlying5 w2) trodAll_mk0))), rfl, bel.frame _, fun h => by cases h⟩
set_option maxRecDepth 100000 in
theorem lifted (os : Os) (started : os.Started) (H : Type) (enc : TypeId × Value → H) (F : Stop.Interp) :
    ReturnsInHanded {} Try.checked os 8 .any ((Rows.OpenSpec.upto Rows.tableBackSpec).pre6 enc Try.prog Try.f8 Rows.tableBackUptoRow.domain false) (((Rows.OpenSpec.upto Rows.tableBackSpec).at F).post enc Try.prog Try.f8 false true false false) := by
  refine returnsInHanded_of_cond (C := Try.checked) (s := Rows.OpenSpec.upto Rows.tableBackSpec) (k := Rows.uptoSmall) rfl G.row_own started (by kernel_rfl) Try.func8
    (OpenSpec.witness (enc := enc) (C := Try.checked) (s := Rows.OpenSpec.upto Rows.tableBackSpec) (k := Rows.uptoSmall) rfl false ⟨#[], #[.slice none 0 0, .slice none 0 0, .int .u8 0], []⟩ 8 (by kernel_rfl) (by kernel_rfl) (by kernel_rfl)
      (x := ([.nil, .nil, .lit (.int .u8 0)], [], [])) (by kernel_rfl) rfl (by kernel_rfl)) ?_
  intro W base args ds gs before hval hW _ hk _
  exact contract H enc W base args ds gs before hval hW hk
theorem over : Rows.tableBackUptoRow.holds Try.pinned (Rows.OpenSpec.upto Rows.tableBackSpec) :=
  OpenClaim.holds_of_cond 8 Try.f8 rfl rfl rfl rfl rfl rfl rfl ⟨rfl, rfl, rfl, rfl, rfl⟩ rfl rfl rfl rfl rfl (by kernel_rfl) Try.func8 (by kernel_rfl)
    (of_decide_eq_true (by kernel_rfl)) (by unfold Func.isWrapper; first | (rw [if_pos (by decide +kernel)]; kernel_rfl) | (rw [if_neg (by decide +kernel)]; exact ⟨rfl, rfl⟩))
    (fun os started H enc _ F => lifted os started H enc F)
theorem proved : Rows.TableBackUptoSaid := over
end Go.Proofs.Ytcolmmjcdlmcoaa.tableBack
namespace Go.Proofs.Ytcolmmjcdlmcoaa
/-- The row, under a short name, for the claim. -/
theorem tableBack_holds : Rows.TableBackUptoSaid := tableBack.proved
end Go.Proofs.Ytcolmmjcdlmcoaa
