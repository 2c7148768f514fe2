/- The row of 'TableMade', its '..UptoSaid': whatever the input of bulk at most 1048576, the law returns true and the input reads as it did; its walk, its plain law, the row. -/
import Derived.Test.YtcolmmjcdlmcoaaNB
import Derived.Test.YtcolmmjcdlmcoaaNC6
import Derived.Test.YtcolmmjcdlmcoaaNC5
import Derived.Test.YtcolmmjcdlmcoaaNC2
import Derived.Test.YtcolmmjcdlmcoaaNC4
import Derived.Test.YtcolmmjcdlmcoaaNC3
import Derived.Test.YtcolmmjcdlmcoaaNT
import Derived.Test.YtcolmmjcdlmcoaaRows
import Derived.WalkKit
import Derived.ProofKit
import Derived.OpenShut
import Derived.JoinedCond
import Derived.Below
import Derived.ChangeOld
namespace Go.Proofs.Ytcolmmjcdlmcoaa.G
open Go Go.RowKit
set_option linter.unusedVariables false
set_option linter.unusedSimpArgs false
set_option maxRecDepth 100000 in
set_option maxHeartbeats 4000000 in
theorem haulagelaw13_TableMade.calls (k : Nat) {m : Nat} {c0 : Nat → Nat} {w0 : World} {A2 : Option Addr} {C3 : Nat} {a1 : List Int} (hm0 : 0 < m) (B0 : CB m c0 w0) (h4 : SL false (Kint .u8) 0 0 c0 w0 A2 C3 a1) (r : Bool) (H : haulagelaw13_TableMade.f k a1 = some r) : Calls Try.prog 10 #[.slice A2 a1.length C3] w0 (fun e w_ => ∃ (c_ : Nat → Nat), e = .returned (.bool r) ∧ Ev (fun x => False) c0 w0 c_ w_ ∧ CB m c_ w_) := by
 unfold haulagelaw13_TableMade.f at H
 have B := B0.mono (show m ≤ m + 6 by omega)
 have E : Ev (fun x => False ∨ m ≤ x) c0 w0 c0 w0 := Ev.refl
 refine enter (N := 148) (l := [.slice A2 a1.length C3]) Try.func10 rfl rfl (Nat.le_of_ble_eq_true rfl) fun a F => ?_
 refine wp_seq_k fun K5 hK5 => ?_
 refine reg ?_
 refine q_val F rfl rfl (by decide) (r_assign F rfl) fun a F => ?_
 refine nil ?_
 refine hK5 _ _ ?_
 refine wp_seq_k fun K6 hK6 => ?_
 refine wp_seq_k fun K7 hK7 => ?_
 refine reg ?_
 obtain ⟨t8, q9, H⟩ := bind_some H
 refine q_call F rfl rfl (by decide) (r_call F Try.func12 rfl (by kernel_rfl) rfl) (haulagelaw13_awake.calls k (m := m + 6) (by omega) B _ q9) ?_
 rintro e w11 ⟨c10, rfl, E12, B13⟩
 refine ⟨_, rfl, fun a F => ?_⟩
 have B := B13
 have h4 := SL.ev h4 E12 (fun q => q.elim) (fun q => q.elim)
 have E := E.trans E12 (fun x q => q.elim)
 refine q_val F rfl rfl (by decide) (r_not F rfl) fun a F => ?_
 refine nil ?_
 refine hK7 _ _ ?_
 by_cases hb15 : t8 = true
 ·have H := (if_pos hb15).symm.trans H
  refine wp_cond_false ((F.ev rfl).trans (congrArg Value.bool (congrArg not hb15))) ?_
  refine wp_skip ?_
  refine hK6 _ _ ?_
  refine wp_seq_k fun K17 hK17 => ?_
  refine reg ?_
  refine q_val F rfl rfl (by decide) (r_move F rfl) fun a F => ?_
  obtain ⟨t18, q19, H⟩ := bind_some H
  refine q_call F rfl rfl (by decide) (r_call F Try.func29 rfl (by kernel_rfl) rfl) (table_Read.calls k (m := m + 6) (by omega) B h4 (by omega) (m + 1) (by omega) _ q19) ?_
  rintro e w21 ⟨c20, p24, rfl, E22, B23, h25⟩
  refine ⟨_, rfl, fun a F => ?_⟩
  have B := B23
  have h4 := SL.ev h4 E22 (fun q => q.elim) (fun q => q.elim)
  have E := E.trans E22 (fun x q => q.elim)
  refine q_val F rfl rfl (by decide) (r_move F rfl) fun a F => ?_
  refine q_val F rfl rfl (by decide) (r_extract F rfl rfl) fun a F => ?_
  refine q_val F rfl rfl (by decide) (r_extract F rfl rfl) fun a F => ?_
  refine q_val F rfl rfl (by decide) (r_assign F rfl) fun a F => ?_
  refine q_val F rfl rfl (by decide) (r_assign F rfl) fun a F => ?_
  refine nil ?_
  refine hK17 _ _ ?_
  refine wp_seq_k fun K27 hK27 => ?_
  refine wp_seq_k fun K28 hK28 => ?_
  have J39 : ∀ (c40 : Nat → Nat) (w41 : World) (a : Act) (b38 : Bool), Fr a 148 [(0, .slice A2 a1.length C3), (3, .pointer p24), (4, .int .i64 t18.2), (33, .bool b38)] → Ev (fun x => False ∨ m ≤ x) c0 w0 c40 w41 → CB (m + 6) c40 w41 → SL false (Kint .u8) 0 0 c40 w41 A2 C3 a1 → TB (m + 1) c40 w41 p24 t18.1 → haulagelaw13_TableMade.j1 k a1 t18 b38 = some r → K28 a w41 := by
   intro c40 w41 a b38 F E B h4 h25 H
   unfold haulagelaw13_TableMade.j1 at H
   refine hK28 _ _ ?_
   by_cases hb42 : b38 = true
   ·have H := (if_pos hb42).symm.trans H
    refine wp_cond_true ((F.ev rfl).trans (congrArg Value.bool hb42)) ?_
    refine wp_seq_k fun K43 hK43 => ?_
    refine reg ?_
    refine q_val F rfl rfl (by decide) (r_move F rfl) fun a F => ?_
    refine q_val F rfl rfl (by decide) (r_eql F rfl rfl) fun a F => ?_
    refine q_val F rfl rfl (by decide) (r_move F rfl) fun a F => ?_
    by_cases hb44 : t18.2 = 0
    ·have H := (if_pos hb44).symm.trans H
     refine q_no F rfl (by decide) rfl (decide_eq_true hb44) (by decide) fun a F => ?_
     refine q_no F rfl (by decide) rfl (decide_eq_true hb44) (by decide) fun a F => ?_
     refine q_val F rfl rfl (by decide) (r_pick_t F rfl (decide_eq_true hb44) rfl) fun a F => ?_
     refine q_val F rfl rfl (by decide) (r_assign F rfl) fun a F => ?_
     refine nil ?_
     refine hK43 _ _ ?_
     refine wp_ret ?_
     refine thenR ?_
     have H := Option.some.inj H
     subst H
     refine out1 F rfl rfl ?_
     exact ⟨fun b_ => (fun x_ => if x_ < m then x_ else 0) (c40 b_), rfl, E.leave B0 (fun x_ => if x_ < m then x_ else 0) (by intro x_ hx_; show (if x_ < m then x_ else 0) = x_; ((repeat' split) <;> omega)), (fun b_ hb_ => by show (if (c40 b_) < m then (c40 b_) else 0) < m; ((repeat' split) <;> omega))⟩
    ·have H := (if_neg hb44).symm.trans H
     refine q_yes F rfl (by decide) rfl (decide_eq_false hb44) ?_
     refine q_val F rfl rfl (by decide) (r_move F rfl) fun a F => ?_
     refine q_yes F rfl (by decide) rfl (decide_eq_false hb44) ?_
     refine q_val F rfl rfl (by decide) (r_eql F rfl rfl) fun a F => ?_
     refine q_val F rfl rfl (by decide) (r_pick_f F rfl (decide_eq_false hb44) rfl) fun a F => ?_
     refine q_val F rfl rfl (by decide) (r_assign F rfl) fun a F => ?_
     refine nil ?_
     refine hK43 _ _ ?_
     refine wp_ret ?_
     refine thenR ?_
     have H := Option.some.inj H
     subst H
     refine out1 F rfl rfl ?_
     exact ⟨fun b_ => (fun x_ => if x_ < m then x_ else 0) (c40 b_), rfl, E.leave B0 (fun x_ => if x_ < m then x_ else 0) (by intro x_ hx_; show (if x_ < m then x_ else 0) = x_; ((repeat' split) <;> omega)), (fun b_ hb_ => by show (if (c40 b_) < m then (c40 b_) else 0) < m; ((repeat' split) <;> omega))⟩
   ·have H := (if_neg hb42).symm.trans H
    refine wp_cond_false ((F.ev rfl).trans (congrArg Value.bool (bfalse hb42))) ?_
    refine wp_skip ?_
    refine hK27 _ _ ?_
    refine wp_seq_k fun K45 hK45 => ?_
    refine reg ?_
    refine q_val F rfl rfl (by decide) (r_move F rfl) fun a F => ?_
    obtain ⟨t46, q47, H⟩ := bind_some H
    refine q_call F rfl rfl (by decide) (r_call F Try.func26 rfl (by kernel_rfl) rfl) (table_Table_Rows.calls (m := m + 6) (by omega) B h25 (by omega) 0 (by omega) _ q47) ?_
    rintro e w49 ⟨c48, A52, C53, rfl, E50, B51, h54⟩
    refine ⟨_, rfl, fun a F => ?_⟩
    have B := B51
    have h4 := SL.ev h4 E50 (fun q => q.elim) (fun q => q.elim)
    have h25 := TB.ev h25 E50 (fun q => q.elim) (fun q => q.elim)
    have E := E.trans E50 (fun x q => q.elim)
    refine q_val F rfl rfl (by decide) (r_assign F rfl) fun a F => ?_
    refine nil ?_
    refine hK45 _ _ ?_
    refine wp_seq_k fun K56 hK56 => ?_
    refine reg ?_
    refine q_eff F rfl rfl (by decide) (e_buildSlice (n := 1) (e := 5) (c := c48) (k := (Kint .u8)) (i := 0) F [(0, .int .u8 0)] [.int .u8 0] ([0] : List Int) (by exact ⟨rfl, rfl, trivial⟩) (fun w => by kernel_rfl) rfl (by decide) rfl ⟨rfl, trivial⟩ (fun q => q) 0) ?_
    rintro v w58 a ⟨c57, A59, C60, rfl, E61, h62, B63⟩ F
    have B := B63 _ B (by omega)
    have h4 := SL.ev h4 E61 (fun q => q.elim) (fun q => q.elim)
    have h25 := TB.ev h25 E61 (fun q => q.elim) (fun q => q.elim)
    have h54 := SL.ev h54 E61 (fun q => q.elim) (fun q => q.elim)
    have E := E.trans E61 (fun x q => q.elim)
    refine q_val F rfl rfl (by decide) (r_assign F rfl) fun a F => ?_
    refine nil ?_
    refine hK56 _ _ ?_
    refine wp_seq_k fun K64 hK64 => ?_
    refine wp_seq_k fun K65 hK65 => ?_
    refine reg ?_
    refine q_val F rfl rfl (by decide) (r_assign F rfl) fun a F => ?_
    refine nil ?_
    refine hK65 _ _ ?_
    refine wp_block ?_
    obtain ⟨x143, HL, HR142⟩ := bind_some H
    have J200 : ∀ (c201 : Nat → Nat) (w202 : World) (a : Act) (l197 : List Int) (A198 : Option Addr) (C199 : Nat), Fr a 148 [(0, .slice A2 a1.length C3), (3, .pointer p24), (5, .slice A52 t46.length C53), (6, .slice A198 l197.length C199)] → Ev (fun x => False ∨ m ≤ x) c0 w0 c201 w202 → CB (m + 6) c201 w202 → SL false (Kint .u8) 0 0 c201 w202 A2 C3 a1 → TB (m + 1) c201 w202 p24 t18.1 → SL true K_api_Row 0 0 c201 w202 A52 C53 t46 → SL false (Kint .u8) 0 0 c201 w202 A198 C199 l197 → haulagelaw13_TableMade.j5 k a1 t18 t46 l197 = some r → K64 a w202 := by
     intro c201 w202 a l197 A198 C199 F E B h4 h25 h54 h196 H
     unfold haulagelaw13_TableMade.j5 at H
     refine hK64 _ _ ?_
     refine wp_seq_k fun K203 hK203 => ?_
     have J215 : ∀ (c216 : Nat → Nat) (w217 : World) (a : Act) (l214 : List Int) (A211 : Option Addr) (C212 : Nat), Fr a 148 [(0, .slice A2 a1.length C3), (3, .pointer p24), (5, .slice A52 t46.length C53), (6, .slice A211 l214.length C212)] → Ev (fun x => False ∨ m ≤ x) c0 w0 c216 w217 → CB (m + 6) c216 w217 → SL false (Kint .u8) 0 0 c216 w217 A2 C3 a1 → TB (m + 1) c216 w217 p24 t18.1 → SL true K_api_Row 0 0 c216 w217 A52 C53 t46 → SL false (Kint .u8) 0 0 c216 w217 A211 C212 l214 → haulagelaw13_TableMade.j6 k a1 t18 t46 l214 = some r → K203 a w217 := by
      intro c216 w217 a l214 A211 C212 F E B h4 h25 h54 h213 H
      unfold haulagelaw13_TableMade.j6 at H
      refine hK203 _ _ ?_
      refine wp_seq_k fun K218 hK218 => ?_
      refine wp_seq_k fun K219 hK219 => ?_
      refine reg ?_
      refine q_val F rfl rfl (by decide) (r_assign F rfl) fun a F => ?_
      refine nil ?_
      refine hK219 _ _ ?_
      refine wp_block ?_
      obtain ⟨x234, HL, HR233⟩ := bind_some H
      have J278 : ∀ (c279 : Nat → Nat) (w280 : World) (a : Act) (l275 : List Int) (A276 : Option Addr) (C277 : Nat), Fr a 148 [(0, .slice A2 a1.length C3), (3, .pointer p24), (5, .slice A52 t46.length C53), (6, .slice A276 l275.length C277)] → Ev (fun x => False ∨ m ≤ x) c0 w0 c279 w280 → CB (m + 6) c279 w280 → SL false (Kint .u8) 0 0 c279 w280 A2 C3 a1 → TB (m + 1) c279 w280 p24 t18.1 → SL true K_api_Row 0 0 c279 w280 A52 C53 t46 → SL false (Kint .u8) 0 0 c279 w280 A276 C277 l275 → haulagelaw13_TableMade.j8 k a1 t18 t46 l275 = some r → K218 a w280 := by
       intro c279 w280 a l275 A276 C277 F E B h4 h25 h54 h274 H
       unfold haulagelaw13_TableMade.j8 at H
       refine hK218 _ _ ?_
       refine wp_seq_k fun K281 hK281 => ?_
       refine wp_seq_k fun K282 hK282 => ?_
       refine reg ?_
       refine q_val F rfl rfl (by decide) (r_assign F rfl) fun a F => ?_
       refine nil ?_
       refine hK282 _ _ ?_
       refine wp_block ?_
       obtain ⟨x293, HL, HR292⟩ := bind_some H
       have J323 : ∀ (c324 : Nat → Nat) (w325 : World) (a : Act), Fr a 148 [(0, .slice A2 a1.length C3), (3, .pointer p24), (5, .slice A52 t46.length C53), (6, .slice A276 l275.length C277)] → Ev (fun x => False ∨ m ≤ x) c0 w0 c324 w325 → CB (m + 6) c324 w325 → SL false (Kint .u8) 0 0 c324 w325 A2 C3 a1 → TB (m + 1) c324 w325 p24 t18.1 → SL true K_api_Row 0 0 c324 w325 A52 C53 t46 → SL false (Kint .u8) 0 0 c324 w325 A276 C277 l275 → haulagelaw13_TableMade.j10 k a1 t18 t46 l275 = some r → K281 a w325 := by
        intro c324 w325 a  F E B h4 h25 h54 h274 H
        unfold haulagelaw13_TableMade.j10 at H
        refine hK281 _ _ ?_
        refine wp_seq_k fun K326 hK326 => ?_
        refine reg ?_
        obtain ⟨t327, q328, H⟩ := bind_some H
        refine q_call F rfl rfl (by decide) (r_call F Try.func21 rfl (by kernel_rfl) rfl) (table_New.calls (m := m + 6) (by omega) B (m + 3) (by omega) _ q328) ?_
        rintro e w330 ⟨c329, p333, rfl, E331, B332, h334⟩
        refine ⟨_, rfl, fun a F => ?_⟩
        have B := B332
        have h4 := SL.ev h4 E331 (fun q => q.elim) (fun q => q.elim)
        have h25 := TB.ev h25 E331 (fun q => q.elim) (fun q => q.elim)
        have h54 := SL.ev h54 E331 (fun q => q.elim) (fun q => q.elim)
        have h274 := SL.ev h274 E331 (fun q => q.elim) (fun q => q.elim)
        have E := E.trans E331 (fun x q => q.elim)
        refine q_val F rfl rfl (by decide) (r_assign F rfl) fun a F => ?_
        refine nil ?_
        refine hK326 _ _ ?_
        refine wp_seq_k fun K336 hK336 => ?_
        refine wp_seq_k fun K337 hK337 => ?_
        refine reg ?_
        refine q_val F rfl rfl (by decide) (r_assign F rfl) fun a F => ?_
        refine nil ?_
        refine hK337 _ _ ?_
        refine wp_block ?_
        obtain ⟨x600, HL, HR599⟩ := bind_some H
        have J833 : ∀ (c834 : Nat → Nat) (w835 : World) (a : Act) (o832 : Option Tab), Fr a 148 [(0, .slice A2 a1.length C3), (10, .pointer p333)] → Ev (fun x => False ∨ m ≤ x) c0 w0 c834 w835 → CB (m + 6) c834 w835 → SL false (Kint .u8) 0 0 c834 w835 A2 C3 a1 → TB (m + 3) c834 w835 p333 o832 → haulagelaw13_TableMade.j16 k a1 o832 = some r → K336 a w835 := by
         intro c834 w835 a o832 F E B h4 h831 H
         unfold haulagelaw13_TableMade.j16 at H
         refine hK336 _ _ ?_
         refine wp_seq_k fun K836 hK836 => ?_
         refine reg ?_
         refine q_val F rfl rfl (by decide) (r_move F rfl) fun a F => ?_
         obtain ⟨t837, q838, H⟩ := bind_some H
         refine q_call F rfl rfl (by decide) (r_call F Try.func20 rfl (by kernel_rfl) rfl) (table_Table_Bytes.calls k (m := m + 6) (by omega) B h831 (by omega) _ q838) ?_
         rintro e w840 ⟨c839, A843, C844, rfl, E841, B842, h845⟩
         refine ⟨_, rfl, fun a F => ?_⟩
         have B := B842
         have h4 := SL.ev h4 E841 (fun q => q.elim) (fun q => q.elim)
         have h831 := TB.ev h831 E841 (fun q => q.elim) (fun q => q.elim)
         have E := E.trans E841 (fun x q => q.elim)
         refine q_val F rfl rfl (by decide) (r_move F rfl) fun a F => ?_
         obtain ⟨t847, q848, H⟩ := bind_some H
         refine q_call F rfl rfl (by decide) (r_call F Try.func18 rfl (by kernel_rfl) rfl) (haulagelaw13_same.calls k (m := m + 6) (by omega) B h845 h4 _ q848) ?_
         rintro e w850 ⟨c849, rfl, E851, B852⟩
         refine ⟨_, rfl, fun a F => ?_⟩
         have B := B852
         have h4 := SL.ev h4 E851 (fun q => q.elim) (fun q => q.elim)
         have h831 := TB.ev h831 E851 (fun q => q.elim) (fun q => q.elim)
         have h845 := SL.ev h845 E851 (fun q => q.elim) (fun q => q.elim)
         have E := E.trans E851 (fun x q => q.elim)
         refine q_val F rfl rfl (by decide) (r_assign F rfl) fun a F => ?_
         refine nil ?_
         refine hK836 _ _ ?_
         refine wp_ret ?_
         have H := Option.some.inj H
         subst H
         refine out1 F rfl rfl ?_
         exact ⟨fun b_ => (fun x_ => if x_ < m then x_ else 0) (c849 b_), rfl, E.leave B0 (fun x_ => if x_ < m then x_ else 0) (by intro x_ hx_; show (if x_ < m then x_ else 0) = x_; ((repeat' split) <;> omega)), (fun b_ hb_ => by show (if (c849 b_) < m then (c849 b_) else 0) < m; ((repeat' split) <;> omega))⟩
        refine loop_fuel (I := fun n a w => ∃ (o589 : Option Tab) (i590 : Int) (c : Nat → Nat), Fr a 148 [(0, .slice A2 a1.length C3), (3, .pointer p24), (5, .slice A52 t46.length C53), (6, .slice A276 l275.length C277), (10, .pointer p333), (11, .int .i64 i590)] ∧ Ev (fun x => False ∨ m ≤ x) c0 w0 c w ∧ CB (m + 6) c w ∧ SL false (Kint .u8) 0 0 c w A2 C3 a1 ∧ TB (m + 1) c w p24 t18.1 ∧ SL true K_api_Row 0 0 c w A52 C53 t46 ∧ SL false (Kint .u8) 0 0 c w A276 C277 l275 ∧ TB (m + 3) c w p333 o589 ∧ loop (fun (s_ : (Option Tab) × Int) => haulagelaw13_TableMade.b15 k t18 t46 l275 s_.1 s_.2) n (o589, i590) = some x600) (k := k) ⟨t327, 1, c329, F.sub ⟨rfl, rfl, rfl, rfl, rfl, rfl, trivial⟩, E, B, h4, h25, h54, h274, h334, HL⟩ ?_
        clear HL H E F B
        intro n597 X593 hX593 a w592 ⟨o589, i590, c591, F, E, B, h4, h25, h54, h274, h588, HL⟩
        obtain ⟨n598, ctl596, rfl, HB, HN594, HD595⟩ := loop_some HL
        have H : haulagelaw13_TableMade.b15 k t18 t46 l275 o589 i590 = some ctl596 := HB
        clear HB HL
        unfold haulagelaw13_TableMade.b15 at H
        refine wp_seq_k fun K601 hK601 => ?_
        refine wp_seq_k fun K602 hK602 => ?_
        refine reg ?_
        refine q_val F rfl rfl (by decide) (r_move F rfl) fun a F => ?_
        refine q_val F rfl rfl (by decide) (r_move F rfl) fun a F => ?_
        obtain ⟨t351, q352, H⟩ := bind_some H
        refine q_call F rfl rfl (by decide) (r_call F Try.func23 rfl (by kernel_rfl) rfl) (table_Table_Rev.calls (m := m + 6) (by omega) B h25 (by omega) _ q352) ?_
        rintro e w604 ⟨c603, rfl, E605, B606⟩
        refine ⟨_, rfl, fun a F => ?_⟩
        have B := B606
        have h4 := SL.ev h4 E605 (fun q => q.elim) (fun q => q.elim)
        have h25 := TB.ev h25 E605 (fun q => q.elim) (fun q => q.elim)
        have h54 := SL.ev h54 E605 (fun q => q.elim) (fun q => q.elim)
        have h274 := SL.ev h274 E605 (fun q => q.elim) (fun q => q.elim)
        have h588 := TB.ev h588 E605 (fun q => q.elim) (fun q => q.elim)
        have E := E.trans E605 (fun x q => q.elim)
        refine q_val F rfl rfl (by decide) (r_leq F rfl rfl) fun a F => ?_
        refine nil ?_
        refine hK602 _ _ ?_
        by_cases hb608 : i590 ≤ t351
        ·have H := (if_pos hb608).symm.trans H
         refine wp_cond_true ((F.ev rfl).trans (congrArg Value.bool (decide_eq_true hb608))) ?_
         refine wp_skip ?_
         refine hK601 _ _ ?_
         refine wp_seq_k fun K609 hK609 => ?_
         refine wp_block ?_
         refine wp_seq_k fun K610 hK610 => ?_
         refine reg ?_
         refine q_val F rfl rfl (by decide) (r_move F rfl) fun a F => ?_
         refine q_val F rfl rfl (by decide) (r_build (v := .agg #[.int .i64 3, .slice A276 l275.length C277, .slice none 0 0, .int .i64 0]) F [(0, .int .i64 3), (1, .slice A276 l275.length C277)] (by exact ⟨rfl, rfl, rfl, rfl, trivial⟩) (fun w => by kernel_rfl)) fun a F => ?_
         refine q_eff F rfl rfl (by decide) (e_alloc F zv_33 c603 (m + 4)) ?_
         rintro v w612 a ⟨c611, qa363, rfl, E613, h365, B614⟩ F
         have B := B614 _ B (by omega)
         have h4 := SL.ev h4 E613 (fun q => q.elim) (fun q => q.elim)
         have h25 := TB.ev h25 E613 (fun q => q.elim) (fun q => q.elim)
         have h54 := SL.ev h54 E613 (fun q => q.elim) (fun q => q.elim)
         have h274 := SL.ev h274 E613 (fun q => q.elim) (fun q => q.elim)
         have h588 := TB.ev h588 E613 (fun q => q.elim) (fun q => q.elim)
         have E := E.trans E613 (fun x q => q.elim)
         have h365 : AT true (m + 4) c611 w612 qa363 [.int .i64 0, .slice none 0 0, .slice none 0 0, .int .i64 0] := h365
         refine q_eff0 F rfl rfl (e_storeN0 (us := [.int .i64 3, .slice A276 l275.length C277, .slice none 0 0, .int .i64 0]) F rfl rfl sz_33 h365 (Nat.le_of_ble_eq_true rfl) (one_all rfl)) ?_
         rintro w615 a ⟨E616, h365, Z617⟩ F
         have B := B.size Z617
         have h4 := SL.ev h4 E616 (by show ¬ (0 = m + 4); omega) (by show ¬ (0 = m + 4); omega)
         have h25 := TB.ev h25 E616 (by show ¬ (m + 1 = m + 4); omega) (by show ¬ (0 = m + 4); omega)
         have h54 := SL.ev h54 E616 (by show ¬ (0 = m + 4); omega) (by show ¬ (0 = m + 4); omega)
         have h274 := SL.ev h274 E616 (by show ¬ (0 = m + 4); omega) (by show ¬ (0 = m + 4); omega)
         have h588 := TB.ev h588 E616 (by show ¬ (m + 3 = m + 4); omega) (by show ¬ (0 = m + 4); omega)
         have E := E.trans E616 (fun x q => by replace q : x = m + 4 := q; show False ∨ m ≤ x; omega)
         have h365 : AT true (m + 4) c611 w615 qa363 [.int .i64 3, .slice A276 l275.length C277, .slice none 0 0, .int .i64 0] := h365
         refine nil ?_
         refine hK610 _ _ ?_
         refine wp_seq_k fun K618 hK618 => ?_
         refine wp_seq_k fun K619 hK619 => ?_
         refine reg ?_
         refine q_val F rfl rfl (by decide) (r_assign F rfl) fun a F => ?_
         refine nil ?_
         refine hK619 _ _ ?_
         refine wp_block ?_
         obtain ⟨x715, HL, HR714⟩ := bind_some H
         have J801 : ∀ (c802 : Nat → Nat) (w803 : World) (a : Act) (i791 : Int) (l793 : List Int) (A794 : Option Addr) (C795 : Nat) (l797 : List Int) (A798 : Option Addr) (C799 : Nat) (i800 : Int), Fr a 148 [(0, .slice A2 a1.length C3), (3, .pointer p24), (5, .slice A52 t46.length C53), (6, .slice A276 l275.length C277), (10, .pointer p333), (11, .int .i64 i590), (12, .pointer (some qa363))] → Ev (fun x => False ∨ m ≤ x) c0 w0 c802 w803 → CB (m + 6) c802 w803 → AT true (m + 4) c802 w803 qa363 [.int .i64 i791, .slice A794 l793.length C795, .slice A798 l797.length C799, .int .i64 i800] → SL false (Kint .u8) 0 0 c802 w803 A2 C3 a1 → TB (m + 1) c802 w803 p24 t18.1 → SL true K_api_Row 0 0 c802 w803 A52 C53 t46 → SL false (Kint .u8) 0 0 c802 w803 A276 C277 l275 → TB (m + 3) c802 w803 p333 o589 → SL false (Kint .u8) 0 0 c802 w803 A794 C795 l793 → SL false (Kint .u8) 0 0 c802 w803 A798 C799 l797 → haulagelaw13_TableMade.j14 k o589 i590 i791 l793 l797 i800 = some ctl596 → K618 a w803 := by
          intro c802 w803 a i791 l793 A794 C795 l797 A798 C799 i800 F E B h365 h4 h25 h54 h274 h588 h792 h796 H
          unfold haulagelaw13_TableMade.j14 at H
          refine hK618 _ _ ?_
          refine wp_seq_k fun K804 hK804 => ?_
          refine reg ?_
          refine q_val F rfl rfl (by decide) (r_move F rfl) fun a F => ?_
          refine q_val F rfl rfl (by decide) (r_loads (cs := [.int .i64 i791, .slice A794 l793.length C795, .slice A798 l797.length C799, .int .i64 i800]) F rfl ag_33 sz_33 h365) fun a F => ?_
          obtain ⟨t560, q561, H⟩ := bind_some H
          refine q_call F rfl rfl (by decide) (r_call F Try.func14 rfl (by kernel_rfl) rfl) (table_Table_Do.calls k (m := m + 6) (by omega) B h588 h792 h796 (by omega) _ q561) ?_
          rintro e w806 ⟨c805, A809, C810, A812, C813, rfl, E807, B808, h811, h814, h815⟩
          refine ⟨_, rfl, fun a F => ?_⟩
          have B := B808
          have h365 := AT.ev h365 E807 (by show ¬ (m + 4 = m + 3); omega)
          have h4 := SL.ev h4 E807 (by show ¬ (0 = m + 3); omega) (by show ¬ (0 = m + 3); omega)
          have h25 := TB.ev h25 E807 (by show ¬ (m + 1 = m + 3); omega) (by show ¬ (0 = m + 3); omega)
          have h54 := SL.ev h54 E807 (by show ¬ (0 = m + 3); omega) (by show ¬ (0 = m + 3); omega)
          have h274 := SL.ev h274 E807 (by show ¬ (0 = m + 3); omega) (by show ¬ (0 = m + 3); omega)
          have h792 := SL.ev h792 E807 (by show ¬ (0 = m + 3); omega) (by show ¬ (0 = m + 3); omega)
          have h796 := SL.ev h796 E807 (by show ¬ (0 = m + 3); omega) (by show ¬ (0 = m + 3); omega)
          have E := E.trans E807 (fun x q => by replace q : x = m + 3 := q; show False ∨ m ≤ x; omega)
          refine q_val F rfl rfl (by decide) (r_move F rfl) fun a F => ?_
          refine q_val F rfl rfl (by decide) (r_extract F rfl rfl) fun a F => ?_
          refine q_val F rfl rfl (by decide) (r_extract F rfl rfl) fun a F => ?_
          refine q_eff F rfl rfl (by decide) (e_alloc F zv_28 c805 (m + 5)) ?_
          rintro v w818 a ⟨c817, qa576, rfl, E819, h578, B820⟩ F
          have B := B820 _ B (by omega)
          have h365 := AT.ev h365 E819 (fun q => q.elim)
          have h4 := SL.ev h4 E819 (fun q => q.elim) (fun q => q.elim)
          have h25 := TB.ev h25 E819 (fun q => q.elim) (fun q => q.elim)
          have h54 := SL.ev h54 E819 (fun q => q.elim) (fun q => q.elim)
          have h274 := SL.ev h274 E819 (fun q => q.elim) (fun q => q.elim)
          have h792 := SL.ev h792 E819 (fun q => q.elim) (fun q => q.elim)
          have h796 := SL.ev h796 E819 (fun q => q.elim) (fun q => q.elim)
          have h811 := SL.ev h811 E819 (fun q => q.elim) (fun q => q.elim)
          have h814 := SL.ev h814 E819 (fun q => q.elim) (fun q => q.elim)
          have h815 := TB.ev h815 E819 (fun q => q.elim) (fun q => q.elim)
          have E := E.trans E819 (fun x q => q.elim)
          have h578 : AT true (m + 5) c817 w818 qa576 [.bool false, .slice none 0 0, .slice none 0 0, .int .i64 0, .int .i64 0] := h578
          refine q_eff0 F rfl rfl (e_storeN0 (us := [.bool t560.1.Done, .slice A809 t560.1.Key.length C810, .slice A812 t560.1.Value.length C813, .int .i64 t560.1.Rev, .int .i64 t560.1.At]) F rfl rfl sz_28 h578 (Nat.le_of_ble_eq_true rfl) (one_all rfl)) ?_
          rintro w821 a ⟨E822, h578, Z823⟩ F
          have B := B.size Z823
          have h365 := AT.ev h365 E822 (by show ¬ (m + 4 = m + 5); omega)
          have h4 := SL.ev h4 E822 (by show ¬ (0 = m + 5); omega) (by show ¬ (0 = m + 5); omega)
          have h25 := TB.ev h25 E822 (by show ¬ (m + 1 = m + 5); omega) (by show ¬ (0 = m + 5); omega)
          have h54 := SL.ev h54 E822 (by show ¬ (0 = m + 5); omega) (by show ¬ (0 = m + 5); omega)
          have h274 := SL.ev h274 E822 (by show ¬ (0 = m + 5); omega) (by show ¬ (0 = m + 5); omega)
          have h792 := SL.ev h792 E822 (by show ¬ (0 = m + 5); omega) (by show ¬ (0 = m + 5); omega)
          have h796 := SL.ev h796 E822 (by show ¬ (0 = m + 5); omega) (by show ¬ (0 = m + 5); omega)
          have h811 := SL.ev h811 E822 (by show ¬ (0 = m + 5); omega) (by show ¬ (0 = m + 5); omega)
          have h814 := SL.ev h814 E822 (by show ¬ (0 = m + 5); omega) (by show ¬ (0 = m + 5); omega)
          have h815 := TB.ev h815 E822 (by show ¬ (m + 3 = m + 5); omega) (by show ¬ (0 = m + 5); omega)
          have E := E.trans E822 (fun x q => by replace q : x = m + 5 := q; show False ∨ m ≤ x; omega)
          have h578 : AT true (m + 5) c817 w821 qa576 [.bool t560.1.Done, .slice A809 t560.1.Key.length C810, .slice A812 t560.1.Value.length C813, .int .i64 t560.1.Rev, .int .i64 t560.1.At] := h578
          refine q_val F rfl rfl (by decide) (r_assign F rfl) fun a F => ?_
          refine nil ?_
          refine hK804 _ _ ?_
          refine wp_seq_k fun K824 hK824 => ?_
          refine reg ?_
          refine q_val F rfl rfl (by decide) (r_move F rfl) fun a F => ?_
          refine q_val F rfl rfl (by decide) (r_neq F rfl rfl) fun a F => ?_
          refine nil ?_
          refine hK824 _ _ ?_
          by_cases hb825 : t560.2.1 = 0
          ·have H := (if_pos hb825).symm.trans H
           refine wp_cond_false ((F.ev rfl).trans (congrArg Value.bool (congrArg not (decide_eq_true hb825)))) ?_
           refine wp_skip ?_
           refine hK609 _ _ ?_
           refine reg ?_
           refine q_val F rfl rfl (by decide) (r_move F rfl) fun a F => ?_
           refine q_val F rfl rfl (by decide) (r_add F rfl rfl) fun a F => ?_
           refine q_val F rfl rfl (by decide) (r_assign F rfl) fun a F => ?_
           refine nil ?_
           have H := HN594 _ (Option.some.inj H).symm
           exact hX593 _ _ _ (Nat.lt_succ_self _) ⟨t560.2.2, (IntKind.i64.wrap (i590 + 1)), c817, F.sub ⟨rfl, rfl, rfl, rfl, rfl, rfl, trivial⟩, E, B, h4, h25, h54, h274, h815, H⟩
          ·have H := (if_neg hb825).symm.trans H
           refine wp_cond_true ((F.ev rfl).trans (congrArg Value.bool (congrArg not (decide_eq_false hb825)))) ?_
           refine wp_seq_k fun K826 hK826 => ?_
           refine reg ?_
           refine q_val F rfl rfl (by decide) (r_assign F rfl) fun a F => ?_
           refine nil ?_
           refine hK826 _ _ ?_
           refine wp_ret ?_
           refine inbR ?_
           refine thenR ?_
           refine thenR ?_
           refine inbR ?_
           refine thenR ?_
           have hx_ := HD595 _ (Option.some.inj H).symm
           have H := HR599
           rw [← hx_] at H
           replace H : some false = some r := H
           have H := Option.some.inj H
           subst H
           refine out1 F rfl rfl ?_
           exact ⟨fun b_ => (fun x_ => if x_ < m then x_ else 0) (c817 b_), rfl, E.leave B0 (fun x_ => if x_ < m then x_ else 0) (by intro x_ hx_; show (if x_ < m then x_ else 0) = x_; ((repeat' split) <;> omega)), (fun b_ hb_ => by show (if (c817 b_) < m then (c817 b_) else 0) < m; ((repeat' split) <;> omega))⟩
         refine loop_fuel (I := fun n a w => ∃ (i695 : Int) (i696 : Int) (l700 : List Int) (A697 : Option Addr) (C698 : Nat) (l704 : List Int) (A701 : Option Addr) (C702 : Nat) (i705 : Int) (c : Nat → Nat), Fr a 148 [(0, .slice A2 a1.length C3), (3, .pointer p24), (5, .slice A52 t46.length C53), (6, .slice A276 l275.length C277), (10, .pointer p333), (11, .int .i64 i590), (12, .pointer (some qa363)), (13, .int .i64 i695)] ∧ Ev (fun x => False ∨ m ≤ x) c0 w0 c w ∧ CB (m + 6) c w ∧ AT true (m + 4) c w qa363 [.int .i64 i696, .slice A697 l700.length C698, .slice A701 l704.length C702, .int .i64 i705] ∧ SL false (Kint .u8) 0 0 c w A2 C3 a1 ∧ TB (m + 1) c w p24 t18.1 ∧ SL true K_api_Row 0 0 c w A52 C53 t46 ∧ SL false (Kint .u8) 0 0 c w A276 C277 l275 ∧ TB (m + 3) c w p333 o589 ∧ SL false (Kint .u8) 0 0 c w A697 C698 l700 ∧ SL false (Kint .u8) 0 0 c w A701 C702 l704 ∧ loop (fun (s_ : Int × Int × (List Int) × (List Int) × Int) => haulagelaw13_TableMade.b13 t46 i590 s_.1 s_.2.1 s_.2.2.1 s_.2.2.2.1 s_.2.2.2.2) n (i695, i696, l700, l704, i705) = some x715) (k := k) ⟨0, 3, l275, A276, C277, [], none, 0, 0, c611, F.sub ⟨rfl, rfl, rfl, rfl, rfl, rfl, rfl, rfl, trivial⟩, E, B, h365, h4, h25, h54, h274, h588, h274, SL.nil, HL⟩ ?_
         clear HL H E F B
         intro n712 X708 hX708 a w707 ⟨i695, i696, l700, A697, C698, l704, A701, C702, i705, c706, F, E, B, h365, h4, h25, h54, h274, h588, h699, h703, HL⟩
         obtain ⟨n713, ctl711, rfl, HB, HN709, HD710⟩ := loop_some HL
         have H : haulagelaw13_TableMade.b13 t46 i590 i695 i696 l700 l704 i705 = some ctl711 := HB
         clear HB HL
         unfold haulagelaw13_TableMade.b13 at H
         refine wp_seq_k fun K716 hK716 => ?_
         refine wp_seq_k fun K717 hK717 => ?_
         refine reg ?_
         refine q_val F rfl rfl (by decide) (r_move F rfl) fun a F => ?_
         refine q_val F rfl rfl (by decide) (r_move F rfl) fun a F => ?_
         refine q_val F rfl rfl (by decide) (r_lensl F Try.underlying46 rfl) fun a F => ?_
         refine q_val F rfl rfl (by decide) (r_lss F rfl rfl) fun a F => ?_
         refine nil ?_
         refine hK717 _ _ ?_
         by_cases hb718 : i695 < (t46.length : Int)
         ·have H := (if_pos hb718).symm.trans H
          refine wp_cond_true ((F.ev rfl).trans (congrArg Value.bool (decide_eq_true hb718))) ?_
          refine wp_skip ?_
          refine hK716 _ _ ?_
          refine wp_seq_k fun K719 hK719 => ?_
          refine wp_block ?_
          refine wp_seq_k fun K720 hK720 => ?_
          refine reg ?_
          refine q_val F rfl rfl (by decide) (r_move F rfl) fun a F => ?_
          refine q_val F rfl rfl (by decide) (r_move F rfl) fun a F => ?_
          obtain ⟨g721, H⟩ := ifN H
          obtain ⟨ad722, cs723, e724, h725, r726⟩ := SL.at h54 i695 g721.1 g721.2
          obtain ⟨A727, C728, A730, C731, rfl, h729, h732⟩ := r726
          have h729 := SL.fl (i' := 0) h729 (fun q => q)
          have h732 := SL.fl (i' := 0) h732 (fun q => q)
          obtain ⟨qa733, qqa733⟩ : ∃ q, q = (ad722.add (i695.toNat * 3)) := ⟨_, rfl⟩
          have h725 : AT true 0 c706 w707 qa733 [.slice A727 ((rd t46 i695).Key).length C728, .slice A730 ((rd t46 i695).Value).length C731, .int .i64 ((rd t46 i695).Rev)] := by rw [qqa733]; exact h725
          refine q_val F rfl rfl (by decide) (r_indexAddr' F Try.underlying46 sz_50 rfl rfl g721.1 g721.2 e724 qqa733) fun a F => ?_
          refine q_val F rfl rfl (by decide) (r_fieldAddr F rfl ff_50_2) fun a F => ?_
          refine q_val F rfl rfl (by decide) (r_load F rfl ag_3 (AT.cell h725 rfl)) fun a F => ?_
          refine q_val F rfl rfl (by decide) (r_move F rfl) fun a F => ?_
          refine q_val F rfl rfl (by decide) (r_eql F rfl rfl) fun a F => ?_
          refine nil ?_
          refine hK720 _ _ ?_
          by_cases hb735 : ((rd t46 i695).Rev) = i590
          ·have H := (if_pos hb735).symm.trans H
           refine wp_cond_true ((F.ev rfl).trans (congrArg Value.bool (decide_eq_true hb735))) ?_
           refine regD (SB No c706 w707) 11 (.q 0 (.q 1 (.q 2 (.q 3 (.q 4 (.q 5 (.q 6 (.q 7 (.q 8 (.q 9 (.e 10 (.e 11 .nil)))))))))))) Try_hm (by decide +kernel) ?_
           intro w736 w1_ w2_ w3_ w4_
           have E737 : Ev No c706 w707 c706 w736 := Ev.same w1_ w2_ w3_ w4_
           have B := B.same w1_
           have zh365 := h365
           have zh4 := h4
           have zh25 := h25
           have zh54 := h54
           have zh274 := h274
           have zh588 := h588
           have zh699 := h699
           have zh703 := h703
           have zh729 := h729
           have zh732 := h732
           have zh725 := h725
           have ER : Ev No c706 w707 c706 w736 := Ev.same w1_ w2_ w3_ w4_
           have h365 := AT.ev h365 E737 (fun q => q.elim)
           have h4 := SL.ev h4 E737 (fun q => q.elim) (fun q => q.elim)
           have h25 := TB.ev h25 E737 (fun q => q.elim) (fun q => q.elim)
           have h54 := SL.ev h54 E737 (fun q => q.elim) (fun q => q.elim)
           have h274 := SL.ev h274 E737 (fun q => q.elim) (fun q => q.elim)
           have h588 := TB.ev h588 E737 (fun q => q.elim) (fun q => q.elim)
           have h699 := SL.ev h699 E737 (fun q => q.elim) (fun q => q.elim)
           have h703 := SL.ev h703 E737 (fun q => q.elim) (fun q => q.elim)
           have h729 := SL.ev h729 E737 (fun q => q.elim) (fun q => q.elim)
           have h732 := SL.ev h732 E737 (fun q => q.elim) (fun q => q.elim)
           have h725 := AT.ev h725 E737 (fun q => q.elim)
           have E := E.trans E737 (fun x q => q.elim)
           refine d_q F rfl rfl rfl (by decide) (fun wq hS => r_move F rfl) ER.sb fun a F => ?_
           refine d_q F rfl rfl rfl (by decide) (fun wq hS => r_move F rfl) ER.sb fun a F => ?_
           obtain ⟨g738, H⟩ := ifN H
           obtain ⟨ad739, cs740, e741, h742, r743⟩ := SL.at zh54 i695 g738.1 g738.2
           obtain ⟨A744, C745, A747, C748, rfl, h746, h749⟩ := r743
           have h746 := SL.fl (i' := 0) h746 (fun q => q)
           have h749 := SL.fl (i' := 0) h749 (fun q => q)
           obtain ⟨qa750, qqa750⟩ : ∃ q, q = (ad739.add (i695.toNat * 3)) := ⟨_, rfl⟩
           have h742 : AT true 0 c706 w707 qa750 [.slice A744 ((rd t46 i695).Key).length C745, .slice A747 ((rd t46 i695).Value).length C748, .int .i64 ((rd t46 i695).Rev)] := by rw [qqa750]; exact h742
           have zh746 := h746
           have h746 := SL.ev h746 ER (fun q => q.elim) (fun q => q.elim)
           have zh749 := h749
           have h749 := SL.ev h749 ER (fun q => q.elim) (fun q => q.elim)
           have zh742 := h742
           have h742 := AT.ev h742 ER (fun q => q.elim)
           refine d_q F rfl rfl rfl (by decide) (fun wq hS => r_indexAddr' F Try.underlying46 sz_50 rfl rfl g738.1 g738.2 e741 qqa750) ER.sb fun a F => ?_
           refine d_q F rfl rfl rfl (by decide) (fun wq hS => r_fieldAddr F rfl ff_50_0) ER.sb fun a F => ?_
           refine d_q F rfl rfl rfl (by decide) (fun wq hS => r_load F rfl ag_23 (AT.cell (AT.sb zh742 hS (fun q => q.elim)) rfl)) ER.sb fun a F => ?_
           refine d_q F rfl rfl rfl (by decide) (fun wq hS => r_move F rfl) ER.sb fun a F => ?_
           refine d_q F rfl rfl rfl (by decide) (fun wq hS => r_move F rfl) ER.sb fun a F => ?_
           obtain ⟨g752, H⟩ := ifN H
           obtain ⟨ad753, cs754, e755, h756, r757⟩ := SL.at zh54 i695 g752.1 g752.2
           obtain ⟨A758, C759, A761, C762, rfl, h760, h763⟩ := r757
           have h760 := SL.fl (i' := 0) h760 (fun q => q)
           have h763 := SL.fl (i' := 0) h763 (fun q => q)
           obtain ⟨qa764, qqa764⟩ : ∃ q, q = (ad753.add (i695.toNat * 3)) := ⟨_, rfl⟩
           have h756 : AT true 0 c706 w707 qa764 [.slice A758 ((rd t46 i695).Key).length C759, .slice A761 ((rd t46 i695).Value).length C762, .int .i64 ((rd t46 i695).Rev)] := by rw [qqa764]; exact h756
           have zh760 := h760
           have h760 := SL.ev h760 ER (fun q => q.elim) (fun q => q.elim)
           have zh763 := h763
           have h763 := SL.ev h763 ER (fun q => q.elim) (fun q => q.elim)
           have zh756 := h756
           have h756 := AT.ev h756 ER (fun q => q.elim)
           refine d_q F rfl rfl rfl (by decide) (fun wq hS => r_indexAddr' F Try.underlying46 sz_50 rfl rfl g752.1 g752.2 e755 qqa764) ER.sb fun a F => ?_
           refine d_q F rfl rfl rfl (by decide) (fun wq hS => r_fieldAddr F rfl ff_50_1) ER.sb fun a F => ?_
           refine d_q F rfl rfl rfl (by decide) (fun wq hS => r_load F rfl ag_23 (AT.cell (AT.sb zh756 hS (fun q => q.elim)) rfl)) ER.sb fun a F => ?_
           refine d_e ?_
           obtain ⟨t434, q435, H⟩ := bind_some H
           refine o_call F rfl (wanted_none rfl) rfl (by decide) (r_call F Try.func32 rfl (by kernel_rfl) rfl) (haulagelaw13_put.calls (m := m + 6) (by omega) B h746 h763 _ q435) ?_
           rintro e w767 ⟨c766, A770, C771, A773, C774, rfl, E768, B769, h772, h775⟩
           refine ⟨_, rfl, fun a F => ?_⟩
           have B := B769
           have ER := ER.trans E768 (fun x q => q.elim)
           have h365 := AT.ev h365 E768 (fun q => q.elim)
           have h4 := SL.ev h4 E768 (fun q => q.elim) (fun q => q.elim)
           have h25 := TB.ev h25 E768 (fun q => q.elim) (fun q => q.elim)
           have h54 := SL.ev h54 E768 (fun q => q.elim) (fun q => q.elim)
           have h274 := SL.ev h274 E768 (fun q => q.elim) (fun q => q.elim)
           have h588 := TB.ev h588 E768 (fun q => q.elim) (fun q => q.elim)
           have h699 := SL.ev h699 E768 (fun q => q.elim) (fun q => q.elim)
           have h703 := SL.ev h703 E768 (fun q => q.elim) (fun q => q.elim)
           have h729 := SL.ev h729 E768 (fun q => q.elim) (fun q => q.elim)
           have h732 := SL.ev h732 E768 (fun q => q.elim) (fun q => q.elim)
           have h725 := AT.ev h725 E768 (fun q => q.elim)
           have h746 := SL.ev h746 E768 (fun q => q.elim) (fun q => q.elim)
           have h749 := SL.ev h749 E768 (fun q => q.elim) (fun q => q.elim)
           have h742 := AT.ev h742 E768 (fun q => q.elim)
           have h760 := SL.ev h760 E768 (fun q => q.elim) (fun q => q.elim)
           have h763 := SL.ev h763 E768 (fun q => q.elim) (fun q => q.elim)
           have h756 := AT.ev h756 E768 (fun q => q.elim)
           have E := E.trans E768 (fun x q => q.elim)
           refine ⟨fun _ => ER.sb, ?_⟩
           refine d_e ?_
           refine o_eff0 F rfl rfl rfl (e_storeN0 (us := [.int .i64 t434.Kind, .slice A770 t434.Key.length C771, .slice A773 t434.Value.length C774, .int .i64 t434.Rev]) F rfl rfl sz_33 h365 (Nat.le_of_ble_eq_true rfl) (one_all rfl)) ?_
           rintro w777 a ⟨E778, h365, Z779⟩ F
           have B := B.size Z779
           have h4 := SL.ev h4 E778 (by show ¬ (0 = m + 4); omega) (by show ¬ (0 = m + 4); omega)
           have h25 := TB.ev h25 E778 (by show ¬ (m + 1 = m + 4); omega) (by show ¬ (0 = m + 4); omega)
           have h54 := SL.ev h54 E778 (by show ¬ (0 = m + 4); omega) (by show ¬ (0 = m + 4); omega)
           have h274 := SL.ev h274 E778 (by show ¬ (0 = m + 4); omega) (by show ¬ (0 = m + 4); omega)
           have h588 := TB.ev h588 E778 (by show ¬ (m + 3 = m + 4); omega) (by show ¬ (0 = m + 4); omega)
           have h699 := SL.ev h699 E778 (by show ¬ (0 = m + 4); omega) (by show ¬ (0 = m + 4); omega)
           have h703 := SL.ev h703 E778 (by show ¬ (0 = m + 4); omega) (by show ¬ (0 = m + 4); omega)
           have h729 := SL.ev h729 E778 (by show ¬ (0 = m + 4); omega) (by show ¬ (0 = m + 4); omega)
           have h732 := SL.ev h732 E778 (by show ¬ (0 = m + 4); omega) (by show ¬ (0 = m + 4); omega)
           have h725 := AT.ev h725 E778 (by show ¬ (0 = m + 4); omega)
           have h746 := SL.ev h746 E778 (by show ¬ (0 = m + 4); omega) (by show ¬ (0 = m + 4); omega)
           have h749 := SL.ev h749 E778 (by show ¬ (0 = m + 4); omega) (by show ¬ (0 = m + 4); omega)
           have h742 := AT.ev h742 E778 (by show ¬ (0 = m + 4); omega)
           have h760 := SL.ev h760 E778 (by show ¬ (0 = m + 4); omega) (by show ¬ (0 = m + 4); omega)
           have h763 := SL.ev h763 E778 (by show ¬ (0 = m + 4); omega) (by show ¬ (0 = m + 4); omega)
           have h756 := AT.ev h756 E778 (by show ¬ (0 = m + 4); omega)
           have h772 := SL.ev h772 E778 (by show ¬ (0 = m + 4); omega) (by show ¬ (0 = m + 4); omega)
           have h775 := SL.ev h775 E778 (by show ¬ (0 = m + 4); omega) (by show ¬ (0 = m + 4); omega)
           have E := E.trans E778 (fun x q => by replace q : x = m + 4 := q; show False ∨ m ≤ x; omega)
           have h365 : AT true (m + 4) c766 w777 qa363 [.int .i64 t434.Kind, .slice A770 t434.Key.length C771, .slice A773 t434.Value.length C774, .int .i64 t434.Rev] := h365
           refine ⟨fun q => absurd rfl q, ?_⟩
           refine d_nil ?_
           refine hK719 _ _ ?_
           refine reg ?_
           refine q_val F rfl rfl (by decide) (r_move F rfl) fun a F => ?_
           refine q_val F rfl rfl (by decide) (r_add F rfl rfl) fun a F => ?_
           refine q_val F rfl rfl (by decide) (r_assign F rfl) fun a F => ?_
           refine nil ?_
           have H := HN709 _ (Option.some.inj H).symm
           exact hX708 _ _ _ (Nat.lt_succ_self _) ⟨(IntKind.i64.wrap (i695 + 1)), t434.Kind, t434.Key, A770, C771, t434.Value, A773, C774, t434.Rev, c766, F.sub ⟨rfl, rfl, rfl, rfl, rfl, rfl, rfl, rfl, trivial⟩, E, B, h365, h4, h25, h54, h274, h588, h772, h775, H⟩
          ·have H := (if_neg hb735).symm.trans H
           refine wp_cond_false ((F.ev rfl).trans (congrArg Value.bool (decide_eq_false hb735))) ?_
           refine wp_skip ?_
           refine hK719 _ _ ?_
           refine reg ?_
           refine q_val F rfl rfl (by decide) (r_move F rfl) fun a F => ?_
           refine q_val F rfl rfl (by decide) (r_add F rfl rfl) fun a F => ?_
           refine q_val F rfl rfl (by decide) (r_assign F rfl) fun a F => ?_
           refine nil ?_
           have H := HN709 _ (Option.some.inj H).symm
           exact hX708 _ _ _ (Nat.lt_succ_self _) ⟨(IntKind.i64.wrap (i695 + 1)), i696, l700, A697, C698, l704, A701, C702, i705, c706, F.sub ⟨rfl, rfl, rfl, rfl, rfl, rfl, rfl, rfl, trivial⟩, E, B, h365, h4, h25, h54, h274, h588, h699, h703, H⟩
         ·have H := (if_neg hb718).symm.trans H
          refine wp_cond_false ((F.ev rfl).trans (congrArg Value.bool (decide_eq_false hb718))) ?_
          refine wp_exit ?_
          refine thenE ?_
          refine thenE ?_
          refine inbE ?_
          have hx_ := HD710 _ (Option.some.inj H).symm
          have H := HR714
          rw [← hx_] at H
          exact J801 c706 w707 a i696 l700 A697 C698 l704 A701 C702 i705 (F.sub ⟨rfl, rfl, rfl, rfl, rfl, rfl, rfl, trivial⟩) E B h365 h4 h25 h54 h274 h588 h699 h703 H
        ·have H := (if_neg hb608).symm.trans H
         refine wp_cond_false ((F.ev rfl).trans (congrArg Value.bool (decide_eq_false hb608))) ?_
         refine wp_exit ?_
         refine thenE ?_
         refine thenE ?_
         refine inbE ?_
         have hx_ := HD595 _ (Option.some.inj H).symm
         have H := HR599
         rw [← hx_] at H
         exact J833 c603 w604 a o589 (F.sub ⟨rfl, rfl, trivial⟩) E B h4 h588 H
       refine loop_fuel (I := fun n a w => ∃ (i283 : Int) (c : Nat → Nat), Fr a 148 [(0, .slice A2 a1.length C3), (3, .pointer p24), (5, .slice A52 t46.length C53), (6, .slice A276 l275.length C277), (9, .int .i64 i283)] ∧ Ev (fun x => False ∨ m ≤ x) c0 w0 c w ∧ CB (m + 6) c w ∧ SL false (Kint .u8) 0 0 c w A2 C3 a1 ∧ TB (m + 1) c w p24 t18.1 ∧ SL true K_api_Row 0 0 c w A52 C53 t46 ∧ SL false (Kint .u8) 0 0 c w A276 C277 l275 ∧ loop (fun (s_ : Int) => haulagelaw13_TableMade.b9 k t46 l275 s_) n i283 = some x293) (k := k) ⟨0, c279, F.sub ⟨rfl, rfl, rfl, rfl, rfl, trivial⟩, E, B, h4, h25, h54, h274, HL⟩ ?_
       clear HL H E F B
       intro n290 X286 hX286 a w285 ⟨i283, c284, F, E, B, h4, h25, h54, h274, HL⟩
       obtain ⟨n291, ctl289, rfl, HB, HN287, HD288⟩ := loop_some HL
       have H : haulagelaw13_TableMade.b9 k t46 l275 i283 = some ctl289 := HB
       clear HB HL
       unfold haulagelaw13_TableMade.b9 at H
       refine wp_seq_k fun K294 hK294 => ?_
       refine wp_seq_k fun K295 hK295 => ?_
       refine reg ?_
       refine q_val F rfl rfl (by decide) (r_move F rfl) fun a F => ?_
       refine q_val F rfl rfl (by decide) (r_move F rfl) fun a F => ?_
       refine q_val F rfl rfl (by decide) (r_lensl F Try.underlying46 rfl) fun a F => ?_
       refine q_val F rfl rfl (by decide) (r_lss F rfl rfl) fun a F => ?_
       refine nil ?_
       refine hK295 _ _ ?_
       by_cases hb296 : i283 < (t46.length : Int)
       ·have H := (if_pos hb296).symm.trans H
        refine wp_cond_true ((F.ev rfl).trans (congrArg Value.bool (decide_eq_true hb296))) ?_
        refine wp_skip ?_
        refine hK294 _ _ ?_
        refine wp_seq_k fun K297 hK297 => ?_
        refine wp_block ?_
        refine wp_seq_k fun K298 hK298 => ?_
        refine reg ?_
        refine q_val F rfl rfl (by decide) (r_move F rfl) fun a F => ?_
        refine q_val F rfl rfl (by decide) (r_move F rfl) fun a F => ?_
        obtain ⟨g299, H⟩ := ifN H
        obtain ⟨ad300, cs301, e302, h303, r304⟩ := SL.at h54 i283 g299.1 g299.2
        obtain ⟨A305, C306, A308, C309, rfl, h307, h310⟩ := r304
        have h307 := SL.fl (i' := 0) h307 (fun q => q)
        have h310 := SL.fl (i' := 0) h310 (fun q => q)
        obtain ⟨qa311, qqa311⟩ : ∃ q, q = (ad300.add (i283.toNat * 3)) := ⟨_, rfl⟩
        have h303 : AT true 0 c284 w285 qa311 [.slice A305 ((rd t46 i283).Key).length C306, .slice A308 ((rd t46 i283).Value).length C309, .int .i64 ((rd t46 i283).Rev)] := by rw [qqa311]; exact h303
        refine q_val F rfl rfl (by decide) (r_indexAddr' F Try.underlying46 sz_50 rfl rfl g299.1 g299.2 e302 qqa311) fun a F => ?_
        refine q_val F rfl rfl (by decide) (r_fieldAddr F rfl ff_50_0) fun a F => ?_
        refine q_val F rfl rfl (by decide) (r_load F rfl ag_23 (AT.cell h303 rfl)) fun a F => ?_
        refine q_val F rfl rfl (by decide) (r_move F rfl) fun a F => ?_
        obtain ⟨t313, q314, H⟩ := bind_some H
        refine q_call F rfl rfl (by decide) (r_call F Try.func18 rfl (by kernel_rfl) rfl) (haulagelaw13_same.calls k (m := m + 6) (by omega) B h307 h274 _ q314) ?_
        rintro e w316 ⟨c315, rfl, E317, B318⟩
        refine ⟨_, rfl, fun a F => ?_⟩
        have B := B318
        have h4 := SL.ev h4 E317 (fun q => q.elim) (fun q => q.elim)
        have h25 := TB.ev h25 E317 (fun q => q.elim) (fun q => q.elim)
        have h54 := SL.ev h54 E317 (fun q => q.elim) (fun q => q.elim)
        have h274 := SL.ev h274 E317 (fun q => q.elim) (fun q => q.elim)
        have h307 := SL.ev h307 E317 (fun q => q.elim) (fun q => q.elim)
        have h310 := SL.ev h310 E317 (fun q => q.elim) (fun q => q.elim)
        have h303 := AT.ev h303 E317 (fun q => q.elim)
        have E := E.trans E317 (fun x q => q.elim)
        refine nil ?_
        refine hK298 _ _ ?_
        by_cases hb320 : t313 = true
        ·have H := (if_pos hb320).symm.trans H
         refine wp_cond_true ((F.ev rfl).trans (congrArg Value.bool hb320)) ?_
         refine wp_seq_k fun K321 hK321 => ?_
         refine reg ?_
         refine q_val F rfl rfl (by decide) (r_assign F rfl) fun a F => ?_
         refine nil ?_
         refine hK321 _ _ ?_
         refine wp_ret ?_
         refine inbR ?_
         refine thenR ?_
         refine thenR ?_
         refine inbR ?_
         refine thenR ?_
         have hx_ := HD288 _ (Option.some.inj H).symm
         have H := HR292
         rw [← hx_] at H
         replace H : some true = some r := H
         have H := Option.some.inj H
         subst H
         refine out1 F rfl rfl ?_
         exact ⟨fun b_ => (fun x_ => if x_ < m then x_ else 0) (c315 b_), rfl, E.leave B0 (fun x_ => if x_ < m then x_ else 0) (by intro x_ hx_; show (if x_ < m then x_ else 0) = x_; ((repeat' split) <;> omega)), (fun b_ hb_ => by show (if (c315 b_) < m then (c315 b_) else 0) < m; ((repeat' split) <;> omega))⟩
        ·have H := (if_neg hb320).symm.trans H
         refine wp_cond_false ((F.ev rfl).trans (congrArg Value.bool (bfalse hb320))) ?_
         refine wp_skip ?_
         refine hK297 _ _ ?_
         refine reg ?_
         refine q_val F rfl rfl (by decide) (r_move F rfl) fun a F => ?_
         refine q_val F rfl rfl (by decide) (r_add F rfl rfl) fun a F => ?_
         refine q_val F rfl rfl (by decide) (r_assign F rfl) fun a F => ?_
         refine nil ?_
         have H := HN287 _ (Option.some.inj H).symm
         exact hX286 _ _ _ (Nat.lt_succ_self _) ⟨(IntKind.i64.wrap (i283 + 1)), c315, F.sub ⟨rfl, rfl, rfl, rfl, rfl, trivial⟩, E, B, h4, h25, h54, h274, H⟩
       ·have H := (if_neg hb296).symm.trans H
        refine wp_cond_false ((F.ev rfl).trans (congrArg Value.bool (decide_eq_false hb296))) ?_
        refine wp_exit ?_
        refine thenE ?_
        refine thenE ?_
        refine inbE ?_
        have hx_ := HD288 _ (Option.some.inj H).symm
        have H := HR292
        rw [← hx_] at H
        exact J323 c284 w285 a  (F.sub ⟨rfl, rfl, rfl, rfl, trivial⟩) E B h4 h25 h54 h274 H
      refine loop_fuel (I := fun n a w => ∃ (l220 : List Int) (A221 : Option Addr) (C222 : Nat) (i224 : Int) (c : Nat → Nat), Fr a 148 [(0, .slice A2 a1.length C3), (3, .pointer p24), (5, .slice A52 t46.length C53), (6, .slice A221 l220.length C222), (8, .int .i64 i224)] ∧ Ev (fun x => False ∨ m ≤ x) c0 w0 c w ∧ CB (m + 6) c w ∧ SL false (Kint .u8) 0 0 c w A2 C3 a1 ∧ TB (m + 1) c w p24 t18.1 ∧ SL true K_api_Row 0 0 c w A52 C53 t46 ∧ SL false (Kint .u8) 0 0 c w A221 C222 l220 ∧ loop (fun (s_ : (List Int) × Int) => haulagelaw13_TableMade.b7 k t46 s_.1 s_.2) n (l220, i224) = some x234) (k := k) ⟨l214, A211, C212, 0, c216, F.sub ⟨rfl, rfl, rfl, rfl, rfl, trivial⟩, E, B, h4, h25, h54, h213, HL⟩ ?_
      clear HL H E F B
      intro n231 X227 hX227 a w226 ⟨l220, A221, C222, i224, c225, F, E, B, h4, h25, h54, h223, HL⟩
      obtain ⟨n232, ctl230, rfl, HB, HN228, HD229⟩ := loop_some HL
      have H : haulagelaw13_TableMade.b7 k t46 l220 i224 = some ctl230 := HB
      clear HB HL
      unfold haulagelaw13_TableMade.b7 at H
      refine wp_seq_k fun K235 hK235 => ?_
      refine wp_seq_k fun K236 hK236 => ?_
      refine reg ?_
      refine q_val F rfl rfl (by decide) (r_move F rfl) fun a F => ?_
      refine q_val F rfl rfl (by decide) (r_move F rfl) fun a F => ?_
      refine q_val F rfl rfl (by decide) (r_lensl F Try.underlying46 rfl) fun a F => ?_
      refine q_val F rfl rfl (by decide) (r_lss F rfl rfl) fun a F => ?_
      refine nil ?_
      refine hK236 _ _ ?_
      by_cases hb237 : i224 < (t46.length : Int)
      ·have H := (if_pos hb237).symm.trans H
       refine wp_cond_true ((F.ev rfl).trans (congrArg Value.bool (decide_eq_true hb237))) ?_
       refine wp_skip ?_
       refine hK235 _ _ ?_
       refine wp_seq_k fun K238 hK238 => ?_
       refine wp_block ?_
       refine wp_seq_k fun K239 hK239 => ?_
       refine reg ?_
       refine q_val F rfl rfl (by decide) (r_move F rfl) fun a F => ?_
       refine q_val F rfl rfl (by decide) (r_move F rfl) fun a F => ?_
       obtain ⟨g240, H⟩ := ifN H
       obtain ⟨ad241, cs242, e243, h244, r245⟩ := SL.at h54 i224 g240.1 g240.2
       obtain ⟨A246, C247, A249, C250, rfl, h248, h251⟩ := r245
       have h248 := SL.fl (i' := 0) h248 (fun q => q)
       have h251 := SL.fl (i' := 0) h251 (fun q => q)
       obtain ⟨qa252, qqa252⟩ : ∃ q, q = (ad241.add (i224.toNat * 3)) := ⟨_, rfl⟩
       have h244 : AT true 0 c225 w226 qa252 [.slice A246 ((rd t46 i224).Key).length C247, .slice A249 ((rd t46 i224).Value).length C250, .int .i64 ((rd t46 i224).Rev)] := by rw [qqa252]; exact h244
       refine q_val F rfl rfl (by decide) (r_indexAddr' F Try.underlying46 sz_50 rfl rfl g240.1 g240.2 e243 qqa252) fun a F => ?_
       refine q_val F rfl rfl (by decide) (r_fieldAddr F rfl ff_50_0) fun a F => ?_
       refine q_val F rfl rfl (by decide) (r_load F rfl ag_23 (AT.cell h244 rfl)) fun a F => ?_
       refine q_val F rfl rfl (by decide) (r_move F rfl) fun a F => ?_
       obtain ⟨t254, q255, H⟩ := bind_some H
       refine q_call F rfl rfl (by decide) (r_call F Try.func18 rfl (by kernel_rfl) rfl) (haulagelaw13_same.calls k (m := m + 6) (by omega) B h248 h223 _ q255) ?_
       rintro e w257 ⟨c256, rfl, E258, B259⟩
       refine ⟨_, rfl, fun a F => ?_⟩
       have B := B259
       have h4 := SL.ev h4 E258 (fun q => q.elim) (fun q => q.elim)
       have h25 := TB.ev h25 E258 (fun q => q.elim) (fun q => q.elim)
       have h54 := SL.ev h54 E258 (fun q => q.elim) (fun q => q.elim)
       have h223 := SL.ev h223 E258 (fun q => q.elim) (fun q => q.elim)
       have h248 := SL.ev h248 E258 (fun q => q.elim) (fun q => q.elim)
       have h251 := SL.ev h251 E258 (fun q => q.elim) (fun q => q.elim)
       have h244 := AT.ev h244 E258 (fun q => q.elim)
       have E := E.trans E258 (fun x q => q.elim)
       refine nil ?_
       refine hK239 _ _ ?_
       by_cases hb261 : t254 = true
       ·have H := (if_pos hb261).symm.trans H
        refine wp_cond_true ((F.ev rfl).trans (congrArg Value.bool hb261)) ?_
        refine reg ?_
        refine q_eff F rfl rfl (by decide) (e_buildSlice (n := 9) (e := 5) (c := c256) (k := (Kint .u8)) (i := 0) F [(0, .int .u8 1), (1, .int .u8 2), (2, .int .u8 3), (3, .int .u8 4), (4, .int .u8 5), (5, .int .u8 6), (6, .int .u8 7), (7, .int .u8 8), (8, .int .u8 9)] [.int .u8 1, .int .u8 2, .int .u8 3, .int .u8 4, .int .u8 5, .int .u8 6, .int .u8 7, .int .u8 8, .int .u8 9] ([1, 2, 3, 4, 5, 6, 7, 8, 9] : List Int) (by exact ⟨rfl, rfl, rfl, rfl, rfl, rfl, rfl, rfl, rfl, rfl, rfl, rfl, rfl, rfl, rfl, rfl, rfl, rfl, trivial⟩) (fun w => by kernel_rfl) rfl (by decide) rfl ⟨rfl, rfl, rfl, rfl, rfl, rfl, rfl, rfl, rfl, trivial⟩ (fun q => q) 0) ?_
        rintro v w263 a ⟨c262, A264, C265, rfl, E266, h267, B268⟩ F
        have B := B268 _ B (by omega)
        have h4 := SL.ev h4 E266 (fun q => q.elim) (fun q => q.elim)
        have h25 := TB.ev h25 E266 (fun q => q.elim) (fun q => q.elim)
        have h54 := SL.ev h54 E266 (fun q => q.elim) (fun q => q.elim)
        have h223 := SL.ev h223 E266 (fun q => q.elim) (fun q => q.elim)
        have h248 := SL.ev h248 E266 (fun q => q.elim) (fun q => q.elim)
        have h251 := SL.ev h251 E266 (fun q => q.elim) (fun q => q.elim)
        have h244 := AT.ev h244 E266 (fun q => q.elim)
        have E := E.trans E266 (fun x q => q.elim)
        refine q_val F rfl rfl (by decide) (r_assign F rfl) fun a F => ?_
        refine nil ?_
        refine hK238 _ _ ?_
        refine reg ?_
        refine q_val F rfl rfl (by decide) (r_move F rfl) fun a F => ?_
        refine q_val F rfl rfl (by decide) (r_add F rfl rfl) fun a F => ?_
        refine q_val F rfl rfl (by decide) (r_assign F rfl) fun a F => ?_
        refine nil ?_
        have H := HN228 _ (Option.some.inj H).symm
        exact hX227 _ _ _ (Nat.lt_succ_self _) ⟨[1, 2, 3, 4, 5, 6, 7, 8, 9], A264, C265, (IntKind.i64.wrap (i224 + 1)), c262, F.sub ⟨rfl, rfl, rfl, rfl, rfl, trivial⟩, E, B, h4, h25, h54, h267.r, H⟩
       ·have H := (if_neg hb261).symm.trans H
        refine wp_cond_false ((F.ev rfl).trans (congrArg Value.bool (bfalse hb261))) ?_
        refine wp_skip ?_
        refine hK238 _ _ ?_
        refine reg ?_
        refine q_val F rfl rfl (by decide) (r_move F rfl) fun a F => ?_
        refine q_val F rfl rfl (by decide) (r_add F rfl rfl) fun a F => ?_
        refine q_val F rfl rfl (by decide) (r_assign F rfl) fun a F => ?_
        refine nil ?_
        have H := HN228 _ (Option.some.inj H).symm
        exact hX227 _ _ _ (Nat.lt_succ_self _) ⟨l220, A221, C222, (IntKind.i64.wrap (i224 + 1)), c256, F.sub ⟨rfl, rfl, rfl, rfl, rfl, trivial⟩, E, B, h4, h25, h54, h223, H⟩
      ·have H := (if_neg hb237).symm.trans H
       refine wp_cond_false ((F.ev rfl).trans (congrArg Value.bool (decide_eq_false hb237))) ?_
       refine wp_exit ?_
       refine thenE ?_
       refine thenE ?_
       refine inbE ?_
       have hx_ := HD229 _ (Option.some.inj H).symm
       have H := HR233
       rw [← hx_] at H
       exact J278 c225 w226 a l220 A221 C222 (F.sub ⟨rfl, rfl, rfl, rfl, trivial⟩) E B h4 h25 h54 h223 H
     refine wp_seq_k fun K204 hK204 => ?_
     refine reg ?_
     refine q_val F rfl rfl (by decide) (r_move F rfl) fun a F => ?_
     refine q_val F rfl rfl (by decide) (r_lensl F Try.underlying23 rfl) fun a F => ?_
     refine q_val F rfl rfl (by decide) (r_gtr F rfl rfl) fun a F => ?_
     refine nil ?_
     refine hK204 _ _ ?_
     by_cases hb205 : 64 < (l197.length : Int)
     ·have H := (if_pos hb205).symm.trans H
      refine wp_cond_true ((F.ev rfl).trans (congrArg Value.bool (decide_eq_true hb205))) ?_
      refine reg ?_
      refine q_val F rfl rfl (by decide) (r_move F rfl) fun a F => ?_
      obtain ⟨g206, H⟩ := ifN H
      obtain ⟨A207, C208, r209, h210⟩ := cut_h (kh := .i64) Try.underlying23 sz_5 h196 g206
      refine q_val F rfl rfl (by decide) (r_slice (vl := none) (vh := some (.int .i64 64)) (vm := none) F rfl rfl rfl rfl r209) fun a F => ?_
      refine q_val F rfl rfl (by decide) (r_assign F rfl) fun a F => ?_
      refine nil ?_
      exact J215 c201 w202 a (l197.take (64 : Int).toNat) A207 C208 (F.sub ⟨rfl, rfl, rfl, rfl, trivial⟩) E B h4 h25 h54 h210 H
     ·have H := (if_neg hb205).symm.trans H
      refine wp_cond_false ((F.ev rfl).trans (congrArg Value.bool (decide_eq_false hb205))) ?_
      refine wp_skip ?_
      exact J215 c201 w202 a l197 A198 C199 (F.sub ⟨rfl, rfl, rfl, rfl, trivial⟩) E B h4 h25 h54 h196 H
    refine loop_fuel (I := fun n a w => ∃ (l129 : List Int) (A130 : Option Addr) (C131 : Nat) (i133 : Int) (c : Nat → Nat), Fr a 148 [(0, .slice A2 a1.length C3), (3, .pointer p24), (5, .slice A52 t46.length C53), (6, .slice A130 l129.length C131), (7, .int .i64 i133)] ∧ Ev (fun x => False ∨ m ≤ x) c0 w0 c w ∧ CB (m + 6) c w ∧ SL false (Kint .u8) 0 0 c w A2 C3 a1 ∧ TB (m + 1) c w p24 t18.1 ∧ SL true K_api_Row 0 0 c w A52 C53 t46 ∧ SL false (Kint .u8) 0 0 c w A130 C131 l129 ∧ loop (fun (s_ : (List Int) × Int) => haulagelaw13_TableMade.b4 t46 s_.1 s_.2) n (l129, i133) = some x143) (k := k) ⟨[0], A59, C60, 0, c57, F.sub ⟨rfl, rfl, rfl, rfl, rfl, trivial⟩, E, B, h4, h25, h54, h62.r, HL⟩ ?_
    clear HL H E F B
    intro n140 X136 hX136 a w135 ⟨l129, A130, C131, i133, c134, F, E, B, h4, h25, h54, h132, HL⟩
    obtain ⟨n141, ctl139, rfl, HB, HN137, HD138⟩ := loop_some HL
    have H : haulagelaw13_TableMade.b4 t46 l129 i133 = some ctl139 := HB
    clear HB HL
    unfold haulagelaw13_TableMade.b4 at H
    refine wp_seq_k fun K144 hK144 => ?_
    refine wp_seq_k fun K145 hK145 => ?_
    refine reg ?_
    refine q_val F rfl rfl (by decide) (r_move F rfl) fun a F => ?_
    refine q_val F rfl rfl (by decide) (r_move F rfl) fun a F => ?_
    refine q_val F rfl rfl (by decide) (r_lensl F Try.underlying46 rfl) fun a F => ?_
    refine q_val F rfl rfl (by decide) (r_lss F rfl rfl) fun a F => ?_
    refine nil ?_
    refine hK145 _ _ ?_
    by_cases hb146 : i133 < (t46.length : Int)
    ·have H := (if_pos hb146).symm.trans H
     refine wp_cond_true ((F.ev rfl).trans (congrArg Value.bool (decide_eq_true hb146))) ?_
     refine wp_skip ?_
     refine hK144 _ _ ?_
     refine wp_seq_k fun K147 hK147 => ?_
     refine wp_block ?_
     refine wp_seq_k fun K148 hK148 => ?_
     have J165 : ∀ (c166 : Nat → Nat) (w167 : World) (a : Act) (b164 : Bool), Fr a 148 [(0, .slice A2 a1.length C3), (3, .pointer p24), (5, .slice A52 t46.length C53), (6, .slice A130 l129.length C131), (7, .int .i64 i133), (62, .bool b164)] → Ev (fun x => False ∨ m ≤ x) c0 w0 c166 w167 → CB (m + 6) c166 w167 → SL false (Kint .u8) 0 0 c166 w167 A2 C3 a1 → TB (m + 1) c166 w167 p24 t18.1 → SL true K_api_Row 0 0 c166 w167 A52 C53 t46 → SL false (Kint .u8) 0 0 c166 w167 A130 C131 l129 → haulagelaw13_TableMade.j3 t46 l129 i133 b164 = some ctl139 → K148 a w167 := by
      intro c166 w167 a b164 F E B h4 h25 h54 h132 H
      unfold haulagelaw13_TableMade.j3 at H
      refine hK148 _ _ ?_
      by_cases hb168 : b164 = true
      ·have H := (if_pos hb168).symm.trans H
       refine wp_cond_true ((F.ev rfl).trans (congrArg Value.bool hb168)) ?_
       refine reg ?_
       refine q_val F rfl rfl (by decide) (r_move F rfl) fun a F => ?_
       refine q_val F rfl rfl (by decide) (r_move F rfl) fun a F => ?_
       obtain ⟨g169, H⟩ := ifN H
       obtain ⟨ad170, cs171, e172, h173, r174⟩ := SL.at h54 i133 g169.1 g169.2
       obtain ⟨A175, C176, A178, C179, rfl, h177, h180⟩ := r174
       have h177 := SL.fl (i' := 0) h177 (fun q => q)
       have h180 := SL.fl (i' := 0) h180 (fun q => q)
       obtain ⟨qa181, qqa181⟩ : ∃ q, q = (ad170.add (i133.toNat * 3)) := ⟨_, rfl⟩
       have h173 : AT true 0 c166 w167 qa181 [.slice A175 ((rd t46 i133).Key).length C176, .slice A178 ((rd t46 i133).Value).length C179, .int .i64 ((rd t46 i133).Rev)] := by rw [qqa181]; exact h173
       refine q_val F rfl rfl (by decide) (r_indexAddr' F Try.underlying46 sz_50 rfl rfl g169.1 g169.2 e172 qqa181) fun a F => ?_
       refine q_val F rfl rfl (by decide) (r_fieldAddr F rfl ff_50_0) fun a F => ?_
       refine q_val F rfl rfl (by decide) (r_load F rfl ag_23 (AT.cell h173 rfl)) fun a F => ?_
       refine q_val F rfl rfl (by decide) (r_lensl F Try.underlying23 rfl) fun a F => ?_
       refine q_val F rfl rfl (by decide) (r_add F rfl rfl) fun a F => ?_
       obtain ⟨g120, H⟩ := ifN H
       refine q_eff F rfl rfl (by decide) (e_make (k := (Kint .u8)) (x0 := 0) F et_23 rfl rfl (fun _ _ _ => rfl) (by decide) g120 c166 (m + 2) 0) ?_
       rintro v w184 a ⟨c183, A185, C186, rfl, E187, h188, B189⟩ F
       have B := B189 _ B (by omega)
       have h4 := SL.ev h4 E187 (fun q => q.elim) (fun q => q.elim)
       have h25 := TB.ev h25 E187 (fun q => q.elim) (fun q => q.elim)
       have h54 := SL.ev h54 E187 (fun q => q.elim) (fun q => q.elim)
       have h132 := SL.ev h132 E187 (fun q => q.elim) (fun q => q.elim)
       have h177 := SL.ev h177 E187 (fun q => q.elim) (fun q => q.elim)
       have h180 := SL.ev h180 E187 (fun q => q.elim) (fun q => q.elim)
       have h173 := AT.ev h173 E187 (fun q => q.elim)
       have E := E.trans E187 (fun x q => q.elim)
       refine q_val F rfl rfl (by decide) (r_assign F rfl) fun a F => ?_
       obtain ⟨c190, hc190⟩ : ∃ c', c' = fun k => if c183 k = m + 2 then 0 else c183 k := ⟨_, rfl⟩
       have h4 := SL.rc (c' := c190) (j' := 0) (i' := 0) h4 (fun k_ hk_ => by rw [hc190]; show (if c183 k_ = m + 2 then 0 else c183 k_) = _; rw [hk_]; ((repeat' split) <;> omega)) (fun k_ hk_ => by rw [hc190]; show (if c183 k_ = m + 2 then 0 else c183 k_) = _; rw [hk_]; ((repeat' split) <;> omega))
       have h25 := TB.rc (c' := c190) (j' := m + 1) h25 (fun k_ hk_ => by rw [hc190]; show (if c183 k_ = m + 2 then 0 else c183 k_) = _; rw [hk_]; ((repeat' split) <;> omega)) (fun k_ hk_ => by rw [hc190]; show (if c183 k_ = m + 2 then 0 else c183 k_) = _; rw [hk_]; ((repeat' split) <;> omega))
       have h54 := SL.rc (c' := c190) (j' := 0) (i' := 0) h54 (fun k_ hk_ => by rw [hc190]; show (if c183 k_ = m + 2 then 0 else c183 k_) = _; rw [hk_]; ((repeat' split) <;> omega)) (fun k_ hk_ => by rw [hc190]; show (if c183 k_ = m + 2 then 0 else c183 k_) = _; rw [hk_]; ((repeat' split) <;> omega))
       have h132 := SL.rc (c' := c190) (j' := 0) (i' := 0) h132 (fun k_ hk_ => by rw [hc190]; show (if c183 k_ = m + 2 then 0 else c183 k_) = _; rw [hk_]; ((repeat' split) <;> omega)) (fun k_ hk_ => by rw [hc190]; show (if c183 k_ = m + 2 then 0 else c183 k_) = _; rw [hk_]; ((repeat' split) <;> omega))
       have h177 := SL.rc (c' := c190) (j' := 0) (i' := 0) h177 (fun k_ hk_ => by rw [hc190]; show (if c183 k_ = m + 2 then 0 else c183 k_) = _; rw [hk_]; ((repeat' split) <;> omega)) (fun k_ hk_ => by rw [hc190]; show (if c183 k_ = m + 2 then 0 else c183 k_) = _; rw [hk_]; ((repeat' split) <;> omega))
       have h180 := SL.rc (c' := c190) (j' := 0) (i' := 0) h180 (fun k_ hk_ => by rw [hc190]; show (if c183 k_ = m + 2 then 0 else c183 k_) = _; rw [hk_]; ((repeat' split) <;> omega)) (fun k_ hk_ => by rw [hc190]; show (if c183 k_ = m + 2 then 0 else c183 k_) = _; rw [hk_]; ((repeat' split) <;> omega))
       have h173 := AT.rc (c' := c190) (j' := 0) h173 (fun k_ hk_ => by rw [hc190]; show (if c183 k_ = m + 2 then 0 else c183 k_) = _; rw [hk_]; ((repeat' split) <;> omega))
       have h188 := SL.rc (c' := c190) (j' := 0) (i' := 0) h188.r (fun k_ hk_ => by rw [hc190]; show (if c183 k_ = m + 2 then 0 else c183 k_) = _; rw [hk_]; ((repeat' split) <;> omega)) (fun k_ hk_ => by rw [hc190]; show (if c183 k_ = m + 2 then 0 else c183 k_) = _; rw [hk_]; ((repeat' split) <;> omega))
       have E : Ev (fun x => False ∨ m ≤ x) c0 w0 c190 w184 := by rw [hc190]; exact E.freeze B0 (by omega)
       have B : CB (m + 6) c190 w184 := by rw [hc190]; exact B.freeze (by omega)
       refine nil ?_
       refine hK147 _ _ ?_
       refine reg ?_
       refine q_val F rfl rfl (by decide) (r_move F rfl) fun a F => ?_
       refine q_val F rfl rfl (by decide) (r_add F rfl rfl) fun a F => ?_
       refine q_val F rfl rfl (by decide) (r_assign F rfl) fun a F => ?_
       refine nil ?_
       have H := HN137 _ (Option.some.inj H).symm
       exact hX136 _ _ _ (Nat.lt_succ_self _) ⟨(List.replicate (IntKind.i64.wrap ((((rd t46 i133).Key).length : Int) + 1)).toNat (0 : Int)), A185, C186, (IntKind.i64.wrap (i133 + 1)), c190, F.sub ⟨rfl, rfl, rfl, rfl, rfl, trivial⟩, E, B, h4, h25, h54, h188, H⟩
      ·have H := (if_neg hb168).symm.trans H
       refine wp_cond_false ((F.ev rfl).trans (congrArg Value.bool (bfalse hb168))) ?_
       refine wp_skip ?_
       refine hK147 _ _ ?_
       refine reg ?_
       refine q_val F rfl rfl (by decide) (r_move F rfl) fun a F => ?_
       refine q_val F rfl rfl (by decide) (r_add F rfl rfl) fun a F => ?_
       refine q_val F rfl rfl (by decide) (r_assign F rfl) fun a F => ?_
       refine nil ?_
       have H := HN137 _ (Option.some.inj H).symm
       exact hX136 _ _ _ (Nat.lt_succ_self _) ⟨l129, A130, C131, (IntKind.i64.wrap (i133 + 1)), c166, F.sub ⟨rfl, rfl, rfl, rfl, rfl, trivial⟩, E, B, h4, h25, h54, h132, H⟩
     refine reg ?_
     refine q_val F rfl rfl (by decide) (r_move F rfl) fun a F => ?_
     refine q_val F rfl rfl (by decide) (r_move F rfl) fun a F => ?_
     obtain ⟨g149, H⟩ := ifN H
     obtain ⟨ad150, cs151, e152, h153, r154⟩ := SL.at h54 i133 g149.1 g149.2
     obtain ⟨A155, C156, A158, C159, rfl, h157, h160⟩ := r154
     have h157 := SL.fl (i' := 0) h157 (fun q => q)
     have h160 := SL.fl (i' := 0) h160 (fun q => q)
     obtain ⟨qa161, qqa161⟩ : ∃ q, q = (ad150.add (i133.toNat * 3)) := ⟨_, rfl⟩
     have h153 : AT true 0 c134 w135 qa161 [.slice A155 ((rd t46 i133).Key).length C156, .slice A158 ((rd t46 i133).Value).length C159, .int .i64 ((rd t46 i133).Rev)] := by rw [qqa161]; exact h153
     refine q_val F rfl rfl (by decide) (r_indexAddr' F Try.underlying46 sz_50 rfl rfl g149.1 g149.2 e152 qqa161) fun a F => ?_
     refine q_val F rfl rfl (by decide) (r_fieldAddr F rfl ff_50_0) fun a F => ?_
     refine q_val F rfl rfl (by decide) (r_load F rfl ag_23 (AT.cell h153 rfl)) fun a F => ?_
     refine q_val F rfl rfl (by decide) (r_lensl F Try.underlying23 rfl) fun a F => ?_
     refine q_val F rfl rfl (by decide) (r_move F rfl) fun a F => ?_
     refine q_val F rfl rfl (by decide) (r_lensl F Try.underlying23 rfl) fun a F => ?_
     refine q_val F rfl rfl (by decide) (r_geq F rfl rfl) fun a F => ?_
     refine q_val F rfl rfl (by decide) (r_move F rfl) fun a F => ?_
     by_cases hb163 : (l129.length : Int) ≤ (((rd t46 i133).Key).length : Int)
     ·have H := (if_pos hb163).symm.trans H
      refine q_yes F rfl (by decide) rfl (decide_eq_true hb163) ?_
      refine q_val F rfl rfl (by decide) (r_move F rfl) fun a F => ?_
      refine q_yes F rfl (by decide) rfl (decide_eq_true hb163) ?_
      refine q_val F rfl rfl (by decide) (r_lensl F Try.underlying23 rfl) fun a F => ?_
      refine q_yes F rfl (by decide) rfl (decide_eq_true hb163) ?_
      refine q_val F rfl rfl (by decide) (r_lss F rfl rfl) fun a F => ?_
      refine q_val F rfl rfl (by decide) (r_pick_t F rfl (decide_eq_true hb163) rfl) fun a F => ?_
      refine nil ?_
      exact J165 c134 w135 a (decide ((l129.length : Int) < 64)) (F.sub ⟨rfl, rfl, rfl, rfl, rfl, rfl, trivial⟩) E B h4 h25 h54 h132 H
     ·have H := (if_neg hb163).symm.trans H
      refine q_no F rfl (by decide) rfl (decide_eq_false hb163) (by decide) fun a F => ?_
      refine q_no F rfl (by decide) rfl (decide_eq_false hb163) (by decide) fun a F => ?_
      refine q_no F rfl (by decide) rfl (decide_eq_false hb163) (by decide) fun a F => ?_
      refine q_val F rfl rfl (by decide) (r_pick_f F rfl (decide_eq_false hb163) rfl) fun a F => ?_
      refine nil ?_
      exact J165 c134 w135 a false (F.sub ⟨rfl, rfl, rfl, rfl, rfl, rfl, trivial⟩) E B h4 h25 h54 h132 H
    ·have H := (if_neg hb146).symm.trans H
     refine wp_cond_false ((F.ev rfl).trans (congrArg Value.bool (decide_eq_false hb146))) ?_
     refine wp_exit ?_
     refine thenE ?_
     refine thenE ?_
     refine inbE ?_
     have hx_ := HD138 _ (Option.some.inj H).symm
     have H := HR142
     rw [← hx_] at H
     exact J200 c134 w135 a l129 A130 C131 (F.sub ⟨rfl, rfl, rfl, rfl, trivial⟩) E B h4 h25 h54 h132 H
  refine reg ?_
  refine q_val F rfl rfl (by decide) (r_move F rfl) fun a F => ?_
  refine q_val F rfl rfl (by decide) (r_neq F rfl rfl) fun a F => ?_
  refine q_val F rfl rfl (by decide) (r_move F rfl) fun a F => ?_
  by_cases hb29 : t18.2 = 0
  ·have H := (if_pos hb29).symm.trans H
   refine q_yes F rfl (by decide) rfl (congrArg not (decide_eq_true hb29)) ?_
   refine q_val F rfl rfl (by decide) (r_move F rfl) fun a F => ?_
   refine q_yes F rfl (by decide) rfl (congrArg not (decide_eq_true hb29)) ?_
   refine q_val F rfl rfl (by decide) (r_peqlA F Try.underlying25 rfl rfl (TB.isNone h25)) fun a F => ?_
   refine q_val F rfl rfl (by decide) (r_pick_f F rfl (congrArg not (decide_eq_true hb29)) rfl) fun a F => ?_
   refine q_val F rfl rfl (by decide) (r_move F rfl) fun a F => ?_
   by_cases hb30 : (Option.isNone t18.1) = true
   ·have H := (if_pos hb30).symm.trans H
    refine q_no F rfl (by decide) rfl hb30 (by decide) fun a F => ?_
    refine q_no F rfl (by decide) rfl hb30 (by decide) fun a F => ?_
    refine q_no F rfl (by decide) rfl hb30 (by decide) fun a F => ?_
    refine q_val F rfl rfl (by decide) (r_pick_t F rfl hb30 rfl) fun a F => ?_
    refine nil ?_
    exact J39 c20 w21 a true (F.sub ⟨rfl, rfl, rfl, rfl, trivial⟩) E B h4 h25 H
   ·have H := (if_neg hb30).symm.trans H
    refine q_yes F rfl (by decide) rfl (bfalse hb30) ?_
    refine q_val F rfl rfl (by decide) (r_move F rfl) fun a F => ?_
    obtain ⟨t31, q32, H⟩ := bind_some H
    refine q_yes F rfl (by decide) rfl (bfalse hb30) ?_
    refine q_call F rfl rfl (by decide) (r_call F Try.func23 rfl (by kernel_rfl) rfl) (table_Table_Rev.calls (m := m + 6) (by omega) B h25 (by omega) _ q32) ?_
    rintro e w34 ⟨c33, rfl, E35, B36⟩
    refine ⟨_, rfl, fun a F => ?_⟩
    have B := B36
    have h4 := SL.ev h4 E35 (fun q => q.elim) (fun q => q.elim)
    have h25 := TB.ev h25 E35 (fun q => q.elim) (fun q => q.elim)
    have E := E.trans E35 (fun x q => q.elim)
    refine q_yes F rfl (by decide) rfl (bfalse hb30) ?_
    refine q_val F rfl rfl (by decide) (r_gtr F rfl rfl) fun a F => ?_
    refine q_val F rfl rfl (by decide) (r_pick_f F rfl (bfalse hb30) rfl) fun a F => ?_
    refine nil ?_
    exact J39 c33 w34 a (decide (300 < t31)) (F.sub ⟨rfl, rfl, rfl, rfl, trivial⟩) E B h4 h25 H
  ·have H := (if_neg hb29).symm.trans H
   refine q_no F rfl (by decide) rfl (congrArg not (decide_eq_false hb29)) (by decide) fun a F => ?_
   refine q_no F rfl (by decide) rfl (congrArg not (decide_eq_false hb29)) (by decide) fun a F => ?_
   refine q_val F rfl rfl (by decide) (r_pick_t F rfl (congrArg not (decide_eq_false hb29)) rfl) fun a F => ?_
   refine q_val F rfl rfl (by decide) (r_move F rfl) fun a F => ?_
   refine q_no F rfl (by decide) rfl rfl (by decide) fun a F => ?_
   refine q_no F rfl (by decide) rfl rfl (by decide) fun a F => ?_
   refine q_no F rfl (by decide) rfl rfl (by decide) fun a F => ?_
   refine q_val F rfl rfl (by decide) (r_pick_t F rfl rfl rfl) fun a F => ?_
   refine nil ?_
   exact J39 c20 w21 a true (F.sub ⟨rfl, rfl, rfl, rfl, trivial⟩) E B h4 h25 H
 ·have H := (if_neg hb15).symm.trans H
  refine wp_cond_true ((F.ev rfl).trans (congrArg Value.bool (congrArg not (bfalse hb15)))) ?_
  refine wp_seq_k fun K16 hK16 => ?_
  refine reg ?_
  refine q_val F rfl rfl (by decide) (r_assign F rfl) fun a F => ?_
  refine nil ?_
  refine hK16 _ _ ?_
  refine wp_ret ?_
  refine thenR ?_
  have H := Option.some.inj H
  subst H
  refine out1 F rfl rfl ?_
  exact ⟨fun b_ => (fun x_ => if x_ < m then x_ else 0) (c10 b_), rfl, E.leave B0 (fun x_ => if x_ < m then x_ else 0) (by intro x_ hx_; show (if x_ < m then x_ else 0) = x_; ((repeat' split) <;> omega)), (fun b_ hb_ => by show (if (c10 b_) < m then (c10 b_) else 0) < m; ((repeat' split) <;> omega))⟩
end Go.Proofs.Ytcolmmjcdlmcoaa.G
/-! awake; TableCopies; TableSwaps. -/
namespace Go.Proofs.Ytcolmmjcdlmcoaa.G
open Go
set_option linter.unusedVariables false
set_option linter.unusedSimpArgs false
theorem loop_inv {S X : Type} {f : S → Option (Ctl S X)} {I : Nat → S → Prop} {P : X → Prop} {N : Nat}
    (step : ∀ i s, i < N → I i s → (∃ s', f s = some (.next s') ∧ I (i + 1) s') ∨ (∃ x, f s = some (.done x) ∧ P x))
    (last : ∀ s, I N s → ∃ x, f s = some (.done x) ∧ P x) : ∀ (n i : Nat) (s : S) (m : Nat), I i s → i + n = N → n < m → ∃ x, loop f m s = some x ∧ P x
  | _, _, _, 0, _, _, h => absurd h (by omega)
  | 0, i, s, m + 1, hI, hN, _ => by
    obtain rfl : i = N := by omega
    obtain ⟨x, h1, h2⟩ := last s hI
    exact ⟨x, loop_done h1, h2⟩
  | n + 1, i, s, m + 1, hI, hN, hm => by
    rcases step i s (by omega) hI with ⟨s', h1, h2⟩ | ⟨x, h1, h2⟩
    · rw [loop_next h1]
      exact loop_inv step last n (i + 1) s' m h2 (by omega) (by omega)
    · exact ⟨x, loop_done h1, h2⟩
theorem act1 : act [] 0 (api_Op.mk 2 [97] [49] 0) = (⟨true, [], [], 0, 1⟩, 0, [(bs [97], ⟨[49], 1⟩)], 1) := by
  simp [act, right, keyok, look, ins, told]
theorem act2 : act [(bs [97], ⟨[49], 1⟩)] 1 (api_Op.mk 2 [97] [50] 0) = (⟨true, sb (bs [97]), [49], 1, 2⟩, 0, [(bs [97], ⟨[50], 2⟩)], 2) := by
  simp [act, right, keyok, look, ins, told, lt_irr]
theorem act3 : act [(bs [97], ⟨[50], 2⟩)] 2 (api_Op.mk 1 [97] [] 0) = (⟨true, sb (bs [97]), [50], 2, 2⟩, 0, [(bs [97], ⟨[50], 2⟩)], 2) := by
  simp [act, right, keyok, look, ins, told, lt_irr]
theorem act4 : act [(bs [97], ⟨[50], 2⟩)] 2 (api_Op.mk 0 [] [] 0) = (zeroA, 131, [(bs [97], ⟨[50], 2⟩)], 2) := by
  simp [act, right, keyok]
theorem awake_eq {k : Nat} (hk : Fuel k) : haulagelaw13_awake.f k = some true := by
  obtain ⟨t0, e0, R0⟩ := new_rep
  obtain ⟨t1, e1, R1⟩ := do_eq hk (by omega) R0 (api_Op.mk 2 [97] [49] 0)
  rw [act1] at e1 R1
  obtain ⟨t2, e2, R2⟩ := do_eq hk (by simp) R1 (api_Op.mk 2 [97] [50] 0)
  rw [act2] at e2 R2
  obtain ⟨t3, e3, R3⟩ := do_eq hk (by simp) R2 (api_Op.mk 1 [97] [] 0)
  rw [act3] at e3 R3
  obtain ⟨t4, e4, R4⟩ := do_eq hk (by simp) R3 (api_Op.mk 0 [] [] 0)
  rw [act4] at e4 R4
  have R4' : RepS t4 ([(bs [97], ⟨[50], 2⟩)], 2) := R4
  have eb := bytes_eq hk (by simp) R4'
  have ef : form ([(bs [97], ⟨[50], 2⟩)], 2) = [2, 1, 1, 97, 1, 50, 2] := by decide
  unfold haulagelaw13_awake.f haulagelaw13_put.f haulagelaw13_get.f
  rw [bind_eq e0, Option.bind_some, bind_eq e1, Option.bind_some, bind_eq e2, Option.bind_some, bind_eq e3, bind_eq e4]
  simp only [if_true]
  rw [bind_eq (same_eq hk _ _ (by simp)), if_pos (by simp), bind_eq (same_eq hk _ _ (by simp)), if_pos (by simp), bind_eq eb, ef, bind_eq (same_eq hk _ _ (by simp))]
  simp
/-! ### TableCopies -/
theorem run_lt {ops : List api_Op} {n : Nat} (h : ops.length < n) : (run ([], 0) ops).2 < n := by
  have := run_r ops ([], 0)
  simp only at this; omega
theorem half {k : Nat} (hk : Fuel k) {ahead ops : List api_Op} {i : Nat} {t : Option Tab} (hl : ahead.length + ops.length < 4000000) (hR : RepS t (run ([], 0) (ahead ++ ops.take i))) :
    (i < ops.length → ∃ x y t', table_Table_Do.f k t (rd ops (i : Int)) = some (x, y, t') ∧ RepS t' (run ([], 0) (ahead ++ ops.take (i + 1)))) ∧ (¬ i < ops.length → RepS t (run ([], 0) (ahead ++ ops.take (i + 1)))) := by
  refine ⟨fun h => ?_, fun h => ?_⟩
  · have hr : (run ([], 0) (ahead ++ ops.take i)).2 < 4000000 := run_lt (by simp; omega)
    obtain ⟨t', e, R⟩ := do_step hk (by omega) hR ops[i]
    refine ⟨_, _, t', by rw [rd_eq h]; exact e, ?_⟩
    rw [take_one h, ← List.append_assoc, run_snoc]; exact R
  · rw [List.take_of_length_le (by omega)] at hR ⊢; exact hR
theorem form_short {s : St} (hs : s.2 < 4194304) {t : Option Tab} (hR : RepS t s) : (form s).length < 4000000000 := by
  obtain ⟨rows, rfl, hw, hl, hI⟩ := hR
  have hlen := hI.len
  have hsz := sz_le hI.ent
  have h1 := nm_le s.2; have h2 := nm_le s.1.length
  have f1 := fm_len s.2; have f2 := fm_len s.1.length
  have hfl := flat_len s.1
  unfold form
  simp only [List.length_append]; omega
theorem TableCopies_true {k : Nat} (hk : Fuel k) (ahead one two : List api_Op) (h1 : ahead.length + one.length < 4000000) (h2 : ahead.length + two.length < 4000000) :
    haulagelaw13_TableCopies.f k ahead one two = some true := by
  have h24 : 1099511627776 ≤ k := hk
  obtain ⟨t, et, Rt⟩ := made_eq hk ahead (by omega)
  unfold haulagelaw13_TableCopies.f
  rw [bind_eq (awake_eq hk), if_pos rfl, bind_eq et, bind_eq (copy_eq Rt)]
  have hns : Option.isNone t = false := by obtain ⟨rows, rfl, _⟩ := Rt; rfl
  rw [if_neg (by rw [hns]; simp)]
  have L := loop_inv (f := fun (s_ : (Option Tab) × (Option Tab) × Int) => haulagelaw13_TableCopies.b5 k one two s_.1 s_.2.1 s_.2.2)
    (I := fun i s => s.2.2 = (i : Int) ∧ RepS s.1 (run ([], 0) (ahead ++ one.take i)) ∧ RepS s.2.1 (run ([], 0) (ahead ++ two.take i)))
    (P := fun x => RepS x.1 (run ([], 0) (ahead ++ one)) ∧ RepS x.2 (run ([], 0) (ahead ++ two))) (N := max one.length two.length) ?_ ?_ (max one.length two.length) 0 (t, t, 0) k ⟨rfl, by simpa using Rt, by simpa using Rt⟩ (by omega) (by omega)
  · obtain ⟨x, ex, r1, r2⟩ := L
    rw [bind_eq ex]
    unfold haulagelaw13_TableCopies.j6
    obtain ⟨v, ev, Rv⟩ := made_eq hk (ahead ++ one) (by simp; omega)
    obtain ⟨w, ew, Rw⟩ := made_eq hk (ahead ++ two) (by simp; omega)
    have g1 : (run ([], 0) (ahead ++ one)).2 < 4194304 := run_lt (by simp; omega)
    have g2 : (run ([], 0) (ahead ++ two)).2 < 4194304 := run_lt (by simp; omega)
    simp only [List.nil_append]
    rw [if_pos (by omega), if_pos (by omega), bind_eq ev, if_pos (by omega), if_pos (by omega), bind_eq ew, bind_eq (bytes_eq hk g1 r1), bind_eq (bytes_eq hk g1 Rv)]
    rw [bind_eq (same_eq hk _ _ (Or.inl (form_short g1 r1))), if_pos (by simp), bind_eq (bytes_eq hk g2 r2), bind_eq (bytes_eq hk g2 Rw), bind_eq (same_eq hk _ _ (Or.inl (form_short g2 r2)))]
    simp
  · rintro i ⟨a, b, c⟩ hi ⟨rfl, r1, r2⟩
    left
    simp only at r1 r2
    have m1 := half hk h1 r1
    have m2 := half hk h2 r2
    have hj : ∀ a', RepS a' (run ([], 0) (ahead ++ one.take (i + 1))) → ∃ s', haulagelaw13_TableCopies.j4 k two b (i : Int) a' = some (.next s') ∧ s'.2.2 = ((i + 1 : Nat) : Int) ∧ RepS s'.1 (run ([], 0) (ahead ++ one.take (i + 1))) ∧ RepS s'.2.1 (run ([], 0) (ahead ++ two.take (i + 1))) := by
      intro a' ra
      unfold haulagelaw13_TableCopies.j4
      by_cases c : i < two.length
      · obtain ⟨x, y, b', eb, rb⟩ := m2.1 c
        rw [if_pos (by omega), if_pos (by omega), bind_eq eb, wrS i (by omega)]
        exact ⟨_, rfl, rfl, ra, rb⟩
      · rw [if_neg (by omega), wrS i (by omega)]
        exact ⟨_, rfl, rfl, ra, m2.2 c⟩
    have hb : haulagelaw13_TableCopies.b5 k one two a b (i : Int) = haulagelaw13_TableCopies.j3 k one two a b (i : Int) true := by
      unfold haulagelaw13_TableCopies.b5
      by_cases c : i < one.length
      · rw [if_pos (by omega)]
      · rw [if_neg (by omega), decide_eq_true (by omega)]
    show ∃ s', haulagelaw13_TableCopies.b5 k one two a b (i : Int) = _ ∧ _
    rw [hb]
    unfold haulagelaw13_TableCopies.j3
    rw [if_pos rfl]
    by_cases c : i < one.length
    · obtain ⟨x, y, a', ea, ra⟩ := m1.1 c
      rw [if_pos (by omega), if_pos (by omega), bind_eq ea]
      exact hj a' ra
    · rw [if_neg (by omega)]
      exact hj a (m1.2 c)
  · rintro ⟨a, b, c⟩ ⟨rfl, r1, r2⟩
    simp only at r1 r2
    rw [List.take_of_length_le (by omega)] at r1 r2
    refine ⟨(a, b), ?_, r1, r2⟩
    show haulagelaw13_TableCopies.b5 k one two a b ((max one.length two.length : Nat) : Int) = _
    have q1 := Nat.le_max_left one.length two.length; have q2 := Nat.le_max_right one.length two.length
    unfold haulagelaw13_TableCopies.b5 haulagelaw13_TableCopies.j3
    rw [if_neg (by omega), decide_eq_false (by omega), if_neg (by simp)]
end Go.Proofs.Ytcolmmjcdlmcoaa.G
/-! TableSwaps. -/
namespace Go.Proofs.Ytcolmmjcdlmcoaa.G
open Go
set_option linter.unusedVariables false
set_option linter.unusedSimpArgs false
theorem step_ge (s : St) (o : api_Op) : s.2 ≤ (stepS s o).2 := by rcases step_r s o with h | h <;> omega
theorem run_ge : ∀ (ops : List api_Op) (s : St), s.2 ≤ (run s ops).2
  | [], s => Nat.le_refl _
  | o :: ops, s => Nat.le_trans (step_ge s o) (run_ge ops (stepS s o))
theorem act_right {L : List Ent} {r : Nat} {o : api_Op} : (act L r o).2.1 = if right o = true then 0 else 131 := by
  unfold act
  cases right o <;> simp
  repeat' split
  all_goals rfl
theorem act_other {L : List Ent} {r : Nat} {o : api_Op} {K : ByteArray} (hI : Inv L r) (h : right o = false ∨ isW o = false ∨ bs o.Key ≠ K) : look K (act L r o).2.2.1 = look K L := by
  unfold act
  split
  · rfl
  · rename_i c0
    split
    · rfl
    · rename_i c5
      split
      · rfl
      · rename_i c1
        have hk : bs o.Key ≠ K := by
          rcases h with h | h | h
          · exact absurd h c0
          · have hr : right o = true := by simpa using c0
            have := (right_key hr).2.2.2
            unfold isW at h
            simp at h
            omega
          · exact h
        split
        · exact look_del_ne (Ne.symm hk) L hI.ord
        · split
          · exact look_ins_ne _ (Ne.symm hk) L
          · rfl
theorem act_key {L : List Ent} {r : Nat} {o : api_Op} (hI : Inv L r) (h : right o = true) (hw : isW o = true) :
    ((act L r o).1.Done = false → look (bs o.Key) (act L r o).2.2.1 = look (bs o.Key) L) ∧
    ((act L r o).1.Done = true → look (bs o.Key) (act L r o).2.2.1 = none ∨ ∃ c, look (bs o.Key) (act L r o).2.2.1 = some c ∧ c.rev = (r : Int) + 1) := by
  have hkind : o.Kind ≠ 5 ∧ o.Kind ≠ 1 := by
    unfold isW at hw
    simp at hw
    omega
  unfold act
  rw [if_neg (by simp [h]), if_neg hkind.1, if_neg hkind.2]
  split
  · refine ⟨fun hd => ?_, fun _ => Or.inl (look_del L hI.ord)⟩
    cases hq : look (bs o.Key) L with
    | none => rw [del_none L hq]; exact hq
    | some c => rw [hq] at hd; simp [told] at hd
  · split
    · refine ⟨fun hd => by simp at hd, fun _ => Or.inr ⟨_, look_ins _ _ L, rfl⟩⟩
    · exact ⟨fun _ => rfl, fun hd => by simp at hd⟩
def brange (xs : List Int) : Prop := ∀ n ∈ xs, 0 ≤ n ∧ n ≤ 255
theorem sb_bs {xs : List Int} (h : brange xs) : sb (bs xs) = xs := by
  unfold sb bs
  simp only [List.map_map]
  have : ∀ l : List Int, brange l → l.map ((fun b : UInt8 => (b.toNat : Int)) ∘ fun n => UInt8.ofNat n.toNat) = l := by
    intro l
    induction l with
    | nil => intro _; rfl
    | cons a l ih =>
      intro hl
      have ha := hl a (by simp)
      rw [List.map_cons, ih (fun n hn => hl n (by simp [hn]))]
      congr 1
      show ((UInt8.ofNat a.toNat).toNat : Int) = a
      rw [UInt8.toNat_ofNat']
      omega
  exact this xs h
theorem bs_inj {a b : List Int} (ha : brange a) (hb : brange b) (h : bs a = bs b) : a = b := by rw [← sb_bs ha, ← sb_bs hb, h]
theorem TableSwaps_true {k : Nat} (hk : Fuel k) (ahead : List api_Op) (key value : List Int) (between : List api_Op) (hn : ahead.length + between.length < 1200000) (hkl : key.length < 3000000) (hvl : value.length < 3000000)
    (hkr : brange key) (hbr : ∀ o ∈ between, brange o.Key) : haulagelaw13_TableSwaps.f k ahead key value between = some true := by
  have h24 : 1099511627776 ≤ k := hk
  obtain ⟨t, et, Rt⟩ := made_eq hk ahead (by omega)
  have hr0 : (run ([], 0) ahead).2 < 1200000 := run_lt (by omega)
  generalize run ([], 0) ahead = s0 at Rt hr0
  have hI0 : Inv s0.1 s0.2 := by obtain ⟨rows, _, _, _, hI⟩ := Rt; exact hI
  unfold haulagelaw13_TableSwaps.f haulagelaw13_get.f
  rw [bind_eq (awake_eq hk), if_pos rfl, bind_eq et, Option.bind_some]
  obtain ⟨t1, e1, R1⟩ := do_step hk (by omega) Rt (api_Op.mk 1 key [] 0)
  rw [bind_eq e1]
  have hright : right (api_Op.mk 1 key [] 0) = keyok (api_Op.mk 1 key [] 0) := by simp [right]
  by_cases hko : keyok (api_Op.mk 1 key [] 0) = true
  · have ha : act s0.1 s0.2 (api_Op.mk 1 key [] 0) = (told s0.2 (bs key) (look (bs key) s0.1), 0, s0.1, s0.2) := by
      unfold act
      rw [if_neg (by rw [hright, hko]; simp), if_neg (by simp), if_pos rfl]
    unfold stepS at R1
    rw [ha] at R1
    rw [ha]
    have R1' : RepS t1 s0 := R1
    rw [if_pos rfl]
    have L := loop_inv (f := fun (s_ : (Option Tab) × Bool × Int) => haulagelaw13_TableSwaps.b3 k key between s_.1 s_.2.1 s_.2.2)
      (I := fun i s => s.2.2 = (i : Int) ∧ RepS s.1 (run s0 (between.take i)) ∧ (s.2.1 = false → look (bs key) (run s0 (between.take i)).1 = look (bs key) s0.1) ∧ (s.2.1 = true → look (bs key) (run s0 (between.take i)).1 = none ∨ ∃ c, look (bs key) (run s0 (between.take i)).1 = some c ∧ (s0.2 : Int) < c.rev))
      (P := fun x => RepS x.1 (run s0 between) ∧ (x.2 = false → look (bs key) (run s0 between).1 = look (bs key) s0.1) ∧ (x.2 = true → look (bs key) (run s0 between).1 = none ∨ ∃ c, look (bs key) (run s0 between).1 = some c ∧ (s0.2 : Int) < c.rev)) (N := between.length) ?_ ?_ between.length 0 (t1, false, 0) k ⟨rfl, R1', fun _ => rfl, fun h => by simp at h⟩ (by omega) (by omega)
    · obtain ⟨⟨u, ch⟩, ex, Ru, hf, ht⟩ := L
      rw [bind_eq ex]
      simp only at Ru hf ht
      have hrs : (run s0 between).2 < 3500000 := by have := run_r between s0; omega
      generalize run s0 between = s at Ru hf ht hrs
      have hI : Inv s.1 s.2 := by obtain ⟨rows, _, _, _, hI⟩ := Ru; exact hI
      unfold haulagelaw13_TableSwaps.j4 haulagelaw13_get.f
      have hrev : (told s0.2 (bs key) (look (bs key) s0.1)).Rev = (look (bs key) s0.1).elim 0 (fun c => c.rev) := by cases look (bs key) s0.1 <;> rfl
      have hdone : (told s0.2 (bs key) (look (bs key) s0.1)).Done = (look (bs key) s0.1).isSome := by cases look (bs key) s0.1 <;> rfl
      have hrange : 0 ≤ (look (bs key) s0.1).elim 0 (fun c => c.rev) ∧ (look (bs key) s0.1).elim 0 (fun c => c.rev) ≤ (s0.2 : Int) := by
        cases hq : look (bs key) s0.1 with
        | none => simp
        | some c => have := hI0.look hq; exact ⟨by show 0 ≤ c.rev; omega, by show c.rev ≤ _; omega⟩
      simp only [hrev, hdone]
      generalize hq0 : look (bs key) s0.1 = q0 at hf hrange
      obtain ⟨u1, eu, Ru1⟩ := do_step hk (by omega) Ru (api_Op.mk 4 key value (q0.elim 0 (fun c => c.rev)))
      rw [bind_eq eu]
      have hsw : right (api_Op.mk 4 key value (q0.elim 0 (fun c => c.rev))) = decide (value.length ≤ 256) := by
        unfold right
        rw [if_pos rfl]
        have : keyok (api_Op.mk 4 key value (q0.elim 0 (fun c => c.rev))) = true := hko
        rw [this, decide_eq_true (show 0 ≤ (api_Op.mk 4 key value (q0.elim 0 (fun c => c.rev))).Rev from hrange.1), decide_eq_true (show (api_Op.mk 4 key value (q0.elim 0 (fun c => c.rev))).Rev ≤ 1099511627776 from by show q0.elim 0 (fun c => c.rev) ≤ _; omega)]
        simp
      by_cases hv : value.length ≤ 256
      · have hact : act s.1 s.2 (api_Op.mk 4 key value (q0.elim 0 (fun c => c.rev))) = if (look (bs key) s.1).elim 0 (fun c => c.rev) = q0.elim 0 (fun c => c.rev) then ({ told ((s.2 : Int) + 1) (bs key) (look (bs key) s.1) with Done := true }, 0, ins (bs key) ⟨value, s.2 + 1⟩ s.1, s.2 + 1) else ({ told ((s.2 : Int) + 1) (bs key) (look (bs key) s.1) with Done := false }, 0, s.1, s.2 + 1) := by
          unfold act
          rw [if_neg (by rw [hsw]; simp [hv]), if_neg (by simp), if_neg (by simp), if_neg (by simp)]
          simp
        have hr2 : (stepS s (api_Op.mk 4 key value (q0.elim 0 (fun c => c.rev)))).2 < 4000000 := by rcases step_r s (api_Op.mk 4 key value (q0.elim 0 (fun c => c.rev))) with h | h <;> omega
        obtain ⟨u2, eu2, Ru2⟩ := do_step hk (by omega) Ru1 (api_Op.mk 1 key [] 0)
        have hget : ∀ s' : St, act s'.1 s'.2 (api_Op.mk 1 key [] 0) = (told s'.2 (bs key) (look (bs key) s'.1), 0, s'.1, s'.2) := by
          intro s'
          unfold act
          rw [if_neg (by rw [hright, hko]; simp), if_neg (by simp), if_pos rfl]
        rw [hget] at eu2
        unfold stepS at eu2
        rw [hact] at eu2
        rw [hact]
        by_cases c : (look (bs key) s.1).elim 0 (fun c => c.rev) = q0.elim 0 (fun c => c.rev)
        · rw [if_pos c] at eu2 ⊢
          rw [if_pos rfl, Option.bind_some, bind_eq eu2, if_pos rfl]
          simp only [look_ins, if_true]
          have e3 : (told ((s.2 + 1 : Nat) : Int) (bs key) (some ⟨value, (s.2 : Int) + 1⟩)) = ⟨true, sb (bs key), value, (s.2 : Int) + 1, ((s.2 + 1 : Nat) : Int)⟩ := rfl
          simp only [e3, if_true]
          rw [bind_eq (same_eq hk _ _ (by omega)), if_pos (by simp), if_pos (by show (s.2 : Int) + 1 = (told ((s.2 : Int) + 1) (bs key) (look (bs key) s.1)).At; cases look (bs key) s.1 <;> rfl)]
          cases ch with
          | false => simp
          | true =>
            rw [if_pos rfl]
            cases q0 with
            | none => simp
            | some c0 =>
              exfalso
              have h0 := hI0.look hq0
              simp only [Option.elim] at c hrange
              rcases ht rfl with h | ⟨c1, h1, h2⟩
              · rw [h] at c; simp only at c; omega
              · rw [h1] at c; simp only at c; omega
        · rw [if_neg c] at eu2 ⊢
          rw [if_pos rfl, Option.bind_some, bind_eq eu2, if_pos rfl]
          rw [if_neg (by simp)]
          cases ch with
          | false => exact absurd (by rw [hf rfl]) c
          | true =>
            rw [if_pos rfl]
            rw [if_pos (by cases look (bs key) s.1 <;> rfl)]
            have hval : (told ((s.2 + 1 : Nat) : Int) (bs key) (look (bs key) s.1)).Value = (told ((s.2 : Int) + 1) (bs key) (look (bs key) s.1)).Value := by cases look (bs key) s.1 <;> rfl
            have hlen : (told ((s.2 + 1 : Nat) : Int) (bs key) (look (bs key) s.1)).Value.length < 4000000000 := by
              cases hq : look (bs key) s.1 with
              | none => simp [told]
              | some c1 => have := hI.look hq; show c1.value.length < _; omega
            rw [bind_eq (same_eq hk _ _ (Or.inl hlen)), if_pos (by simp [hval])]
            by_cases hp : 0 < q0.elim 0 (fun c => c.rev)
            · rw [if_pos hp]
            · rw [if_neg hp]
              cases hq : look (bs key) s.1 with
              | none => rw [hq] at c; exact absurd (by simp only [Option.elim] at hrange hp ⊢; omega) c
              | some c1 => rfl
      · rw [if_neg]
        · simp; omega
        · rw [act_right, hsw]; simp [hv]
    · rintro i ⟨a, ch, j⟩ hi ⟨rfl, r1, r2, r3⟩
      left
      simp only at r1 r2 r3
      have hlt : (run s0 (between.take i)).2 < 4000000 := by
        have := run_r (between.take i) s0
        rw [List.length_take] at this; omega
      obtain ⟨a', ea, ra⟩ := do_step hk (by omega) r1 between[i]
      have htk : run s0 (between.take (i + 1)) = stepS (run s0 (between.take i)) between[i] := by rw [take_one hi, run_snoc]
      rw [htk]
      have hge : s0.2 ≤ (run s0 (between.take i)).2 := run_ge _ _
      generalize run s0 (between.take i) = s at r1 r2 r3 ra ea hlt hge
      have hI : Inv s.1 s.2 := by obtain ⟨rows, _, _, _, hI⟩ := r1; exact hI
      have hmem : between[i] ∈ between := List.getElem_mem hi
      generalize ho : between[i] = o at ea ra hmem
      have hrd : rd between (i : Int) = o := by rw [rd_eq hi, ho]
      show ∃ s', haulagelaw13_TableSwaps.b3 k key between a ch (i : Int) = _ ∧ _
      unfold haulagelaw13_TableSwaps.b3
      rw [if_pos (by omega), if_pos (by omega), hrd, bind_eq ea]
      have keep : ∀ b, b = true → look (bs key) (stepS s o).1 = look (bs key) s.1 → ∃ s', haulagelaw13_TableSwaps.j2 ((act s.1 s.2 o).1, (act s.1 s.2 o).2.1, a') ch (i : Int) b = some (.next s') ∧ s'.2.2 = ((i + 1 : Nat) : Int) ∧ RepS s'.1 (stepS s o) ∧ (s'.2.1 = false → look (bs key) (stepS s o).1 = look (bs key) s0.1) ∧ (s'.2.1 = true → look (bs key) (stepS s o).1 = none ∨ ∃ c, look (bs key) (stepS s o).1 = some c ∧ (s0.2 : Int) < c.rev) := by
        intro b hb hl
        subst hb
        unfold haulagelaw13_TableSwaps.j2
        rw [if_pos rfl, wrS i (by omega), hl]
        exact ⟨_, rfl, rfl, ra, r2, r3⟩
      by_cases hR : right o = true
      · rw [if_pos (by rw [act_right, if_pos hR])]
        rw [if_pos (by omega), bind_eq (writes_eq' o)]
        by_cases hw : isW o = true
        · rw [if_pos hw, if_pos (by omega)]
          have hkk := (right_key hR).1
          rw [bind_eq (same_eq hk _ _ (Or.inl (by omega)))]
          by_cases hkey : o.Key = key
          · have K := act_key hI hR hw
            rw [hkey] at K
            unfold haulagelaw13_TableSwaps.j2
            rw [if_neg (by simp [hkey]), wrS i (by omega)]
            cases ch with
            | true =>
              rw [if_pos rfl]
              refine ⟨_, rfl, rfl, ra, fun h => by simp at h, fun _ => ?_⟩
              cases hd : (act s.1 s.2 o).1.Done with
              | false =>
                show look (bs key) (act s.1 s.2 o).2.2.1 = none ∨ ∃ c, look (bs key) (act s.1 s.2 o).2.2.1 = some c ∧ _
                rw [K.1 hd]; exact r3 rfl
              | true =>
                rcases K.2 hd with h | ⟨c, h1, h2⟩
                · exact Or.inl h
                · exact Or.inr ⟨c, h1, by omega⟩
            | false =>
              rw [if_neg (by simp)]
              refine ⟨_, rfl, rfl, ra, fun hd => ?_, fun hd => ?_⟩
              · show look (bs key) (act s.1 s.2 o).2.2.1 = _
                rw [K.1 hd]; exact r2 rfl
              · rcases K.2 hd with h | ⟨c, h1, h2⟩
                · exact Or.inl h
                · exact Or.inr ⟨c, h1, by omega⟩
          · exact keep _ (by simp [hkey]) (act_other hI (Or.inr (Or.inr (fun h => hkey (bs_inj (hbr o hmem) hkr h)))))
        · rw [if_neg hw]
          exact keep _ rfl (act_other hI (Or.inr (Or.inl (by simpa using hw))))
      · rw [if_neg (by rw [act_right, if_neg hR]; simp)]
        exact keep _ rfl (act_other hI (Or.inl (by simpa using hR)))
    · rintro ⟨a, ch, j⟩ ⟨rfl, r1, r2, r3⟩
      simp only at r1 r2 r3
      rw [List.take_of_length_le (by omega)] at r1 r2 r3
      refine ⟨(a, ch), ?_, r1, r2, r3⟩
      show haulagelaw13_TableSwaps.b3 k key between a ch ((between.length : Nat) : Int) = _
      unfold haulagelaw13_TableSwaps.b3
      rw [if_neg (by omega)]
  · have ha : act s0.1 s0.2 (api_Op.mk 1 key [] 0) = (zeroA, 131, s0.1, s0.2) := by
      unfold act
      rw [if_pos (by rw [hright]; simpa using hko)]
    rw [ha, if_neg (by simp), Option.bind_some, bind_eq (right_eq _), hright]
    simp only [Bool.not_eq_true] at hko
    rw [hko]; rfl
end Go.Proofs.Ytcolmmjcdlmcoaa.G
/-! TableMap. -/
namespace Go.Proofs.Ytcolmmjcdlmcoaa.G
open Go
set_option linter.unusedVariables false
set_option linter.unusedSimpArgs false
def cellOf (ρ : api_Row) : Option table_cell := if ρ.Rev = 0 then none else some ⟨ρ.Value, ρ.Rev⟩
structure Mp (s : St) (R : List api_Row) : Prop where
  dis : ∀ i j (hi : i < R.length) (hj : j < R.length), i ≠ j → R[i].Key ≠ R[j].Key
  rng : ∀ i (hi : i < R.length), brange R[i].Key
  cel : ∀ i (hi : i < R.length), cellOf R[i] = look (bs R[i].Key) s.1
  cov : ∀ e ∈ s.1, ∃ i, ∃ hi : i < R.length, bs R[i].Key = e.1
theorem Mp.set {s s' : St} {R : List api_Row} (h : Mp s R) {n : Nat} (hn : n < R.length) {ρ : api_Row} (hk : ρ.Key = R[n].Key) (h1 : ∀ K, K ≠ bs R[n].Key → look K s'.1 = look K s.1) (h2 : cellOf ρ = look (bs R[n].Key) s'.1)
    (h3 : ∀ e ∈ s'.1, e ∈ s.1 ∨ e.1 = bs R[n].Key) : Mp s' (R.set n ρ) := by
  have key : ∀ i (hi : i < (R.set n ρ).length), (R.set n ρ)[i].Key = (R[i]'(by simpa using hi)).Key := by
    intro i hi
    rw [List.getElem_set]
    split
    · rename_i e; subst e; exact hk
    · rfl
  refine ⟨fun i j hi hj hij => ?_, fun i hi => ?_, fun i hi => ?_, fun e he => ?_⟩
  · rw [key, key]; exact h.dis i j _ _ hij
  · rw [key]; exact h.rng i _
  · have hi' : i < R.length := by simpa using hi
    rw [key]
    by_cases e : n = i
    · subst e
      rw [List.getElem_set, if_pos rfl]; exact h2
    · rw [List.getElem_set, if_neg e, h.cel i hi', h1]
      intro q
      exact h.dis i n hi' hn (Ne.symm e) (bs_inj (h.rng i hi') (h.rng n hn) q)
  · rcases h3 e he with q | q
    · obtain ⟨i, hi, g⟩ := h.cov e q
      exact ⟨i, by simpa using hi, by rw [key]; exact g⟩
    · exact ⟨n, by simpa using hn, by rw [key]; exact q.symm⟩
theorem Mp.push {s : St} {R : List api_Row} (h : Mp s R) {key : List Int} (hr : brange key) (hn : ∀ i (hi : i < R.length), R[i].Key ≠ key) : Mp s (R ++ [⟨key, [], 0⟩]) := by
  have lt : ∀ i (hi : i < (R ++ [api_Row.mk key [] 0]).length), i < R.length ∨ i = R.length := by intro i hi; simp at hi; omega
  have gl : ∀ i (hi : i < R.length) (hi' : i < (R ++ [api_Row.mk key [] 0]).length), (R ++ [api_Row.mk key [] 0])[i] = R[i] := fun i hi hi' => List.getElem_append_left hi
  have gr : ∀ (hi' : R.length < (R ++ [api_Row.mk key [] 0]).length), (R ++ [api_Row.mk key [] 0])[R.length] = ⟨key, [], 0⟩ := fun hi' => by simp
  refine ⟨fun i j hi hj hij => ?_, fun i hi => ?_, fun i hi => ?_, fun e he => ?_⟩
  · rcases lt i hi with a | a <;> rcases lt j hj with b | b
    · rw [gl i a, gl j b]; exact h.dis i j a b hij
    · subst b; rw [gl i a, gr]; exact hn i a
    · subst a; rw [gl j b, gr]; exact Ne.symm (hn j b)
    · omega
  · rcases lt i hi with a | a
    · rw [gl i a]; exact h.rng i a
    · subst a; rw [gr]; exact hr
  · rcases lt i hi with a | a
    · rw [gl i a]; exact h.cel i a
    · subst a; rw [gr]
      show none = look (bs key) s.1
      cases hq : look (bs key) s.1 with
      | none => rfl
      | some c =>
        obtain ⟨i, hi, g⟩ := h.cov _ (look_mem s.1 hq)
        exact absurd (bs_inj (h.rng i hi) hr g) (hn i hi)
  · obtain ⟨i, hi, g⟩ := h.cov e he
    exact ⟨i, by simp; omega, by rw [gl i hi]; exact g⟩
/-! ### finding a row -/
theorem find_eq {k : Nat} (hk : Fuel k) (ops : List api_Op) (i : Nat) (R : List api_Row) (hR : R.length < 3000000) (hi : i < ops.length) (hl : ops[i].Key.length < 4000000) :
    ∃ x, loop (fun (s_ : Int × Int) => haulagelaw13_TableMap.b8 k ops R (i : Int) s_.1 s_.2) k ((-1), 0) = some x ∧ ((x = -1 ∧ ∀ m (hm : m < R.length), R[m].Key ≠ ops[i].Key) ∨ ∃ n, ∃ hn : n < R.length, x = (n : Int) ∧ R[n].Key = ops[i].Key) := by
  have h24 : 1099511627776 ≤ k := hk
  refine loop_inv (f := fun (s_ : Int × Int) => haulagelaw13_TableMap.b8 k ops R (i : Int) s_.1 s_.2)
    (I := fun j q => q.2 = (j : Int) ∧ ((q.1 = -1 ∧ ∀ m (hm : m < R.length), m < j → R[m].Key ≠ ops[i].Key) ∨ ∃ n, ∃ hn : n < R.length, q.1 = (n : Int) ∧ R[n].Key = ops[i].Key)) (N := R.length) ?_ ?_ R.length 0 (-1, 0) k ⟨rfl, Or.inl ⟨rfl, fun m hm h => by omega⟩⟩ (by omega) (by omega)
  · rintro j ⟨a, b⟩ hj ⟨rfl, h⟩
    left
    show ∃ s', haulagelaw13_TableMap.b8 k ops R (i : Int) a (j : Int) = _ ∧ _
    unfold haulagelaw13_TableMap.b8
    rw [if_pos (by omega), if_pos (by omega), rd_eq hj, rd_eq hi, bind_eq (same_eq hk _ _ (Or.inr (by omega)))]
    by_cases c : R[j].Key = ops[i].Key
    · rw [if_pos (by simp [c]), wrS j (by omega)]
      exact ⟨_, rfl, rfl, Or.inr ⟨j, hj, rfl, c⟩⟩
    · rw [if_neg (by simp [c]), wrS j (by omega)]
      refine ⟨_, rfl, rfl, ?_⟩
      rcases h with ⟨h1, h2⟩ | h
      · left
        refine ⟨h1, fun m hm hlt => ?_⟩
        by_cases e : m = j
        · subst e; exact c
        · exact h2 m hm (by omega)
      · exact Or.inr h
  · rintro ⟨a, b⟩ ⟨rfl, h⟩
    refine ⟨a, ?_, ?_⟩
    · show haulagelaw13_TableMap.b8 k ops R (i : Int) a ((R.length : Nat) : Int) = _
      unfold haulagelaw13_TableMap.b8
      rw [if_neg (by omega)]
    · rcases h with ⟨h1, h2⟩ | h
      · exact Or.inl ⟨h1, fun m hm => h2 m hm hm⟩
      · exact Or.inr h
/-! ### one write -/
theorem step_put {s : St} {R : List api_Row} (hM : Mp s R) {n : Nat} (hn : n < R.length) {o : api_Op} (hk : R[n].Key = o.Key) {s' : St} (hs : s'.1 = ins (bs o.Key) ⟨o.Value, (s.2 : Int) + 1⟩ s.1) : Mp s' (R.set n ⟨o.Key, o.Value, (s.2 : Int) + 1⟩) := by
  refine hM.set hn hk.symm (fun K hK => ?_) ?_ (fun e he => ?_)
  · rw [hs, look_ins_ne]; rw [← hk]; exact hK
  · rw [hs, hk, look_ins]
    unfold cellOf
    rw [if_neg (by show ¬ ((s.2 : Int) + 1 = 0); omega)]
  · rw [hs] at he
    rcases mem_ins s.1 he with rfl | h
    · right; rw [hk]
    · exact Or.inl h
theorem step_del {s : St} {R : List api_Row} (hM : Mp s R) (hI : Inv s.1 s.2) {n : Nat} (hn : n < R.length) {o : api_Op} (hk : R[n].Key = o.Key) {s' : St} (hs : s'.1 = del (bs o.Key) s.1) : Mp s' (R.set n ⟨R[n].Key, R[n].Value, 0⟩) := by
  refine hM.set hn rfl (fun K hK => ?_) ?_ (fun e he => ?_)
  · rw [hs]; exact look_del_ne (by rw [← hk]; exact hK) s.1 hI.ord
  · rw [hs, hk, look_del s.1 hI.ord]; rfl
  · rw [hs] at he; exact Or.inl (mem_del s.1 he)
theorem Mp.look {s s' : St} {R : List api_Row} (h : Mp s R) (e : s'.1 = s.1) : Mp s' R := ⟨h.dis, h.rng, by rw [e]; exact h.cel, by rw [e]; exact h.cov⟩
/-- behind the search: what is checked, and what is next -/
theorem write_eq {k : Nat} (hk : Fuel k) (ops : List api_Op) (i : Nat) (hi : i < ops.length) (hb : ops.length < 3000000) {s : St} (hI : Inv s.1 s.2) (hr : s.2 < 4000000) {R : List api_Row} (hM : Mp s R) {n : Nat} (hn : n < R.length)
    (hkey : R[n].Key = ops[i].Key) (hR : right ops[i] = true) (hw : isW ops[i] = true) (t' : Option Tab) :
    ∃ R', haulagelaw13_TableMap.j10 k ops ((act s.1 s.2 ops[i]).1, (act s.1 s.2 ops[i]).2.1, t') (s.2 : Int) (i : Int) R (n : Int) = some (.next (t', R', ((stepS s ops[i]).2 : Int), ((i + 1 : Nat) : Int))) ∧ Mp (stepS s ops[i]) R' ∧ R'.length = R.length := by
  have hrd : rd ops (i : Int) = ops[i] := rd_eq hi
  have hcel := hM.cel n hn
  generalize ho : ops[i] = o at hkey hR hw hrd ⊢
  rw [hkey] at hcel
  have hkk := right_key hR
  have hkind : o.Kind ≠ 5 ∧ o.Kind ≠ 1 := by
    unfold isW at hw
    simp at hw
    omega
  have hk1 := hkk.2.2.1 hkind.1
  have hK : ∀ q c, (told q (bs o.Key) (some c)).Key.length = o.Key.length := fun q c => by show (sb (bs o.Key)).length = _; rw [sb_len, bs_size]
  unfold haulagelaw13_TableMap.j10
  rw [if_pos (by omega)]
  have hRn : rd R (n : Int) = R[n] := rd_eq hn
  rw [hRn]
  -- the answer's row
  have hact : (act s.1 s.2 o).1.Rev = R[n].Rev ∧ (act s.1 s.2 o).1.At = (s.2 : Int) + 1 ∧ (0 < R[n].Rev → (act s.1 s.2 o).1.Value = R[n].Value ∧ 0 < (act s.1 s.2 o).1.Key.length ∧ (act s.1 s.2 o).1.Value.length ≤ 256) ∧ (¬ 0 < R[n].Rev → (act s.1 s.2 o).1.Key = []) ∧
      (act s.1 s.2 o).1 = { told ((s.2 : Int) + 1) (bs o.Key) (look (bs o.Key) s.1) with Done := (act s.1 s.2 o).1.Done } := by
    have base : (told ((s.2 : Int) + 1) (bs o.Key) (look (bs o.Key) s.1)).Rev = R[n].Rev ∧ (told ((s.2 : Int) + 1) (bs o.Key) (look (bs o.Key) s.1)).At = (s.2 : Int) + 1 ∧ (0 < R[n].Rev → (told ((s.2 : Int) + 1) (bs o.Key) (look (bs o.Key) s.1)).Value = R[n].Value ∧ 0 < (told ((s.2 : Int) + 1) (bs o.Key) (look (bs o.Key) s.1)).Key.length ∧ (told ((s.2 : Int) + 1) (bs o.Key) (look (bs o.Key) s.1)).Value.length ≤ 256) ∧ (¬ 0 < R[n].Rev → (told ((s.2 : Int) + 1) (bs o.Key) (look (bs o.Key) s.1)).Key = []) := by
      unfold cellOf at hcel
      by_cases c : R[n].Rev = 0
      · rw [if_pos c] at hcel
        rw [← hcel]
        exact ⟨c.symm, rfl, fun h => by omega, fun _ => rfl⟩
      · rw [if_neg c] at hcel
        have := hI.look hcel.symm
        rw [← hcel]
        exact ⟨rfl, rfl, fun _ => ⟨rfl, by rw [hK]; omega, this.2.2.1⟩, fun h => by have h4 : (1 : Int) ≤ R[n].Rev := this.2.2.2.1; omega⟩
    unfold act
    rw [if_neg (by simp [hR]), if_neg hkind.1, if_neg hkind.2]
    split
    · exact ⟨base.1, base.2.1, base.2.2.1, base.2.2.2, rfl⟩
    · split
      · exact ⟨base.1, base.2.1, base.2.2.1, base.2.2.2, rfl⟩
      · exact ⟨base.1, base.2.1, base.2.2.1, base.2.2.2, rfl⟩
  obtain ⟨a1, a2, a3, a4, a5⟩ := hact
  rw [if_pos a1]
  have j11 : ∃ R', haulagelaw13_TableMap.j11 ops ((act s.1 s.2 o).1, (act s.1 s.2 o).2.1, t') (s.2 : Int) (i : Int) R (n : Int) false = some (.next (t', R', ((stepS s o).2 : Int), ((i + 1 : Nat) : Int))) ∧ Mp (stepS s o) R' ∧ R'.length = R.length := by
    unfold haulagelaw13_TableMap.j11
    rw [if_neg (by simp), hrd]
    have hr1 : ((s.2 + 1 : Nat) : Int) = (s.2 : Int) + 1 := by omega
    have j12 : ∀ b, (act s.1 s.2 o).1.Done = b → (o.Kind = 3 → (stepS s o) = (del (bs o.Key) s.1, s.2 + 1)) → (o.Kind ≠ 3 → b = true → (stepS s o) = (ins (bs o.Key) ⟨o.Value, (s.2 : Int) + 1⟩ s.1, s.2 + 1)) → (o.Kind ≠ 3 → b = false → (stepS s o) = (s.1, s.2 + 1)) →
        ∃ R', haulagelaw13_TableMap.j12 ops ((act s.1 s.2 o).1, (act s.1 s.2 o).2.1, t') (s.2 : Int) (i : Int) R (n : Int) b = some (.next (t', R', ((stepS s o).2 : Int), ((i + 1 : Nat) : Int))) ∧ Mp (stepS s o) R' ∧ R'.length = R.length := by
      intro b hd h3 h4 h5
      unfold haulagelaw13_TableMap.j12
      rw [if_pos (by rw [hd]; simp), hrd, hRn, wrS i (by omega), wrS s.2 (by omega), Int.toNat_natCast]
      by_cases c3 : o.Kind = 3
      · rw [if_pos c3, if_pos (by omega), h3 c3]
        exact ⟨_, rfl, step_del hM hI hn hkey rfl, by simp⟩
      · rw [if_neg c3]
        cases b with
        | true =>
          rw [if_pos rfl, if_pos (by omega), h4 c3 rfl, hr1]
          exact ⟨_, by rfl, step_put hM hn hkey rfl, by simp⟩
        | false =>
          rw [if_neg (by simp), h5 c3 rfl]
          exact ⟨_, rfl, hM.look rfl, rfl⟩
    have hun : act s.1 s.2 o = if o.Kind = 3 then (told ((s.2 : Int) + 1) (bs o.Key) (look (bs o.Key) s.1), 0, del (bs o.Key) s.1, s.2 + 1)
        else if o.Kind = 2 ∨ (look (bs o.Key) s.1).elim 0 (fun c => c.rev) = o.Rev then ({ told ((s.2 : Int) + 1) (bs o.Key) (look (bs o.Key) s.1) with Done := true }, 0, ins (bs o.Key) ⟨o.Value, s.2 + 1⟩ s.1, s.2 + 1)
        else ({ told ((s.2 : Int) + 1) (bs o.Key) (look (bs o.Key) s.1) with Done := false }, 0, s.1, s.2 + 1) := by
      conv => lhs; unfold act
      rw [if_neg (by simp [hR]), if_neg hkind.1, if_neg hkind.2]
    have hel : (look (bs o.Key) s.1).elim 0 (fun c => c.rev) = R[n].Rev := by
      rw [← hcel]; unfold cellOf
      by_cases c : R[n].Rev = 0
      · rw [if_pos c, c]; rfl
      · rw [if_neg c]; rfl
    by_cases c2 : o.Kind = 2
    · rw [if_pos c2]
      have e : act s.1 s.2 o = ({ told ((s.2 : Int) + 1) (bs o.Key) (look (bs o.Key) s.1) with Done := true }, 0, ins (bs o.Key) ⟨o.Value, s.2 + 1⟩ s.1, s.2 + 1) := by
        rw [hun, if_neg (by omega), if_pos (Or.inl c2)]
      refine j12 true (by rw [e]) (fun h => by omega) (fun _ _ => ?_) (fun _ h => by cases h)
      unfold stepS; rw [e]
    · rw [if_neg c2]
      by_cases c3 : o.Kind = 3
      · rw [if_pos c3]
        have e : act s.1 s.2 o = (told ((s.2 : Int) + 1) (bs o.Key) (look (bs o.Key) s.1), 0, del (bs o.Key) s.1, s.2 + 1) := by rw [hun, if_pos c3]
        have hd : (act s.1 s.2 o).1.Done = decide (0 < R[n].Rev) := by
          rw [e, ← hcel]; unfold cellOf
          by_cases c : R[n].Rev = 0
          · rw [if_pos c, c]; rfl
          · rw [if_neg c]
            unfold cellOf at hcel
            rw [if_neg c] at hcel
            have h4 : (1 : Int) ≤ R[n].Rev := (hI.look hcel.symm).2.2.2.1
            rw [decide_eq_true (by omega)]; rfl
        by_cases c : 0 < R[n].Rev
        · rw [if_pos (by show 0 < (act s.1 s.2 o).1.Rev; rw [a1]; exact c)]
          refine j12 true (by rw [hd]; simp [c]) (fun _ => by unfold stepS; rw [e]) (fun h => absurd c3 h) (fun h => absurd c3 h)
        · rw [if_neg (by show ¬ 0 < (act s.1 s.2 o).1.Rev; rw [a1]; exact c), if_neg (by omega)]
          refine j12 false (by rw [hd]; simp [c]) (fun _ => by unfold stepS; rw [e]) (fun h => absurd c3 h) (fun h => absurd c3 h)
      · rw [if_neg c3]
        have c4 : o.Kind = 4 := by omega
        rw [if_pos c4]
        have hrv : ((act s.1 s.2 o).1, (act s.1 s.2 o).2.1, t').1.Rev = R[n].Rev := a1
        rw [hrv]
        by_cases c : R[n].Rev = o.Rev
        · have e : act s.1 s.2 o = ({ told ((s.2 : Int) + 1) (bs o.Key) (look (bs o.Key) s.1) with Done := true }, 0, ins (bs o.Key) ⟨o.Value, s.2 + 1⟩ s.1, s.2 + 1) := by
            rw [hun, if_neg c3, if_pos (Or.inr (by rw [hel]; exact c))]
          rw [decide_eq_true c]
          refine j12 true (by rw [e]) (fun h => by omega) (fun _ _ => ?_) (fun _ h => by cases h)
          unfold stepS; rw [e]
        · have e : act s.1 s.2 o = ({ told ((s.2 : Int) + 1) (bs o.Key) (look (bs o.Key) s.1) with Done := false }, 0, s.1, s.2 + 1) := by
            rw [hun, if_neg c3, if_neg (by rw [hel]; rintro (h | h); exact c2 h; exact c h)]
          rw [decide_eq_false c]
          refine j12 false (by rw [e]) (fun h => by omega) (fun _ h => by cases h) (fun _ _ => ?_)
          unfold stepS; rw [e]
  have hrv : ((act s.1 s.2 o).1, (act s.1 s.2 o).2.1, t').1.Rev = R[n].Rev := a1
  by_cases c : 0 < R[n].Rev
  · obtain ⟨b1, b2, b3⟩ := a3 c
    rw [hrv, if_pos c, if_pos (by omega)]
    have hsame : haulagelaw13_same.f k ((act s.1 s.2 o).1, (act s.1 s.2 o).2.1, t').1.Value R[n].Value = some true := by
      show haulagelaw13_same.f k (act s.1 s.2 o).1.Value R[n].Value = some true
      rw [same_eq hk _ _ (Or.inl (by omega)), b1]; simp
    rw [bind_eq hsame, if_pos rfl, decide_eq_true (show 0 < ((((act s.1 s.2 o).1, (act s.1 s.2 o).2.1, t').1.Key.length : Nat) : Int) by show 0 < (((act s.1 s.2 o).1.Key.length : Nat) : Int); omega), decide_eq_true c]
    exact j11
  · have b := a4 c
    rw [hrv, if_neg c, decide_eq_false c, decide_eq_false (show ¬ 0 < ((((act s.1 s.2 o).1, (act s.1 s.2 o).2.1, t').1.Key.length : Nat) : Int) by show ¬ 0 < (((act s.1 s.2 o).1.Key.length : Nat) : Int); rw [b]; simp)]
    exact j11
end Go.Proofs.Ytcolmmjcdlmcoaa.G
/-! TableMap: the loop; the end. -/
namespace Go.Proofs.Ytcolmmjcdlmcoaa.G
open Go
set_option linter.unusedVariables false
set_option linter.unusedSimpArgs false
theorem act_keep {s : St} {o : api_Op} (h : ¬ (right o = true ∧ isW o = true)) : stepS s o = s := by
  unfold stepS
  by_cases hR : right o = true
  · by_cases hw : isW o = true
    · exact absurd ⟨hR, hw⟩ h
    · have hkind := (right_key hR).2.2.2
      unfold isW at hw
      simp at hw
      unfold act
      rw [if_neg (by simp [hR])]
      split
      · rfl
      · rw [if_pos (by omega)]
  · unfold act
    rw [if_pos (by simpa using hR)]
/-! ### the order of keys as the law asks for it -/
def cm : List Int → List Int → Bool
  | [], [] => false
  | [], _ :: _ => true
  | _ :: _, [] => false
  | a :: x, b :: y => if a = b then cm x y else decide (a < b)
theorem cm_bl : ∀ x y : List UInt8, cm (x.map fun b => (b.toNat : Int)) (y.map fun b => (b.toNat : Int)) = Op.bytesLess x y
  | [], [] => rfl
  | [], _ :: _ => rfl
  | _ :: _, [] => rfl
  | a :: x, b :: y => by
    simp only [List.map_cons, cm, Op.bytesLess]
    by_cases c : a = b
    · subst c
      rw [if_pos rfl, cm_bl x y]
      simp
    · have h1 : ¬ ((a.toNat : Int) = (b.toNat : Int)) := fun h => c (UInt8.toNat_inj.1 (by omega))
      rw [if_neg h1]
      have h2 : (a == b) = false := by simpa using c
      rw [h2, Bool.false_and, Bool.or_false]
      apply decide_eq_decide.2
      rw [UInt8.lt_iff_toNat_lt]
      omega
theorem comes_loop (a b : List Int) (ha : a.length < 4000000) : ∀ (n i m : Nat), i + n = a.length → n < m → i ≤ b.length →
    (∃ x, loop (fun (s_ : Int) => haulagelaw13_comes.b2 a b s_) m (i : Int) = some x ∧ (match x with | .inl _ => haulagelaw13_comes.j3 a b | .inr q => some q) = some (cm (a.drop i) (b.drop i)))
  | _, _, 0, _, h, _ => absurd h (by omega)
  | 0, i, m + 1, h, _, hb => by
    refine ⟨Sum.inl (), loop_done ?_, ?_⟩
    · unfold haulagelaw13_comes.b2 haulagelaw13_comes.j1
      rw [if_neg (by omega), if_neg (by simp)]
    · show haulagelaw13_comes.j3 a b = _
      unfold haulagelaw13_comes.j3
      rw [List.drop_of_length_le (by omega)]
      congr 1
      by_cases c : i < b.length
      · rw [List.drop_eq_getElem_cons c, decide_eq_true (by omega)]; rfl
      · rw [List.drop_of_length_le (by omega), decide_eq_false (by omega)]; rfl
  | n + 1, i, m + 1, h, hm, hb => by
    have hi : i < a.length := by omega
    rw [List.drop_eq_getElem_cons hi]
    by_cases c : i < b.length
    · rw [List.drop_eq_getElem_cons c]
      by_cases e : a[i] = b[i]
      · rw [loop_next (s' := ((i + 1 : Nat) : Int))]
        · have := comes_loop a b ha n (i + 1) m (by omega) (by omega) (by omega)
          simp only [cm, e, if_true]
          exact this
        · unfold haulagelaw13_comes.b2 haulagelaw13_comes.j1
          rw [if_pos (by omega), if_pos (by simp; omega), if_pos (by omega), if_pos (by omega), rd_eq hi, rd_eq c, if_pos e, wrS i (by omega)]
      · refine ⟨Sum.inr (decide (a[i] < b[i])), loop_done ?_, ?_⟩
        · unfold haulagelaw13_comes.b2 haulagelaw13_comes.j1
          rw [if_pos (by omega), if_pos (by simp; omega), if_pos (by omega), if_pos (by omega), rd_eq hi, rd_eq c, if_neg e, if_pos (by omega), if_pos (by omega)]
        · simp only [cm, if_neg e]
    · refine ⟨Sum.inl (), loop_done ?_, ?_⟩
      · unfold haulagelaw13_comes.b2 haulagelaw13_comes.j1
        rw [if_pos (by omega), if_neg (by simp; omega)]
      · show haulagelaw13_comes.j3 a b = _
        unfold haulagelaw13_comes.j3
        rw [List.drop_of_length_le (show b.length ≤ i by omega)]
        congr 1
        rw [decide_eq_false (by omega)]; rfl
theorem comes_eq {k : Nat} (hk : Fuel k) (a b : List Int) (ha : a.length < 4000000) : haulagelaw13_comes.f k a b = some (cm a b) := by
  have h24 : 1099511627776 ≤ k := hk
  obtain ⟨x, e, h⟩ := comes_loop a b ha a.length 0 k (by omega) (by omega) (Nat.zero_le _)
  unfold haulagelaw13_comes.f
  rw [show (0 : Int) = ((0 : Nat) : Int) from rfl, bind_eq e]
  rw [List.drop_zero, List.drop_zero] at h
  cases x <;> exact h
/-! ### how many -/
theorem len_sub {α : Type} [DecidableEq α] : ∀ F G : List α, F.Nodup → (∀ x ∈ F, x ∈ G) → F.length ≤ G.length
  | [], G, _, _ => Nat.zero_le _
  | x :: F, G, hn, hs => by
    rw [List.nodup_cons] at hn
    have hx := hs x (by simp)
    have := len_sub F (G.erase x) hn.2 (fun y hy => (List.mem_erase_of_ne (fun e => hn.1 (by rw [← e]; exact hy))).2 (hs y (by simp [hy])))
    rw [List.length_erase_of_mem hx] at this
    have := List.length_pos_of_mem hx
    simp only [List.length_cons]; omega
def live (R : List api_Row) : List api_Row := R.filter fun ρ => decide (ρ.Rev ≠ 0)
theorem Mp.count {s : St} {R : List api_Row} (h : Mp s R) (hI : Inv s.1 s.2) : (live R).length = s.1.length := by
  have hpw : R.Pairwise fun a b => bs a.Key ≠ bs b.Key := by
    rw [List.pairwise_iff_getElem]
    intro i j hi hj hij q
    exact h.dis i j hi hj (by omega) (bs_inj (h.rng i hi) (h.rng j hj) q)
  have n1 : ((live R).map fun ρ => bs ρ.Key).Nodup := by
    unfold List.Nodup
    rw [List.pairwise_map]
    exact hpw.filter _
  have n2 : (s.1.map fun e => e.1).Nodup := by
    unfold List.Nodup
    rw [List.pairwise_map]
    exact hI.ord.imp (fun {a b} h => lt_ne h)
  have s1 : ∀ x ∈ (live R).map fun ρ => bs ρ.Key, x ∈ s.1.map fun e => e.1 := by
    intro x hx
    obtain ⟨ρ, hρ, rfl⟩ := List.mem_map.1 hx
    obtain ⟨hρ1, hρ2⟩ := List.mem_filter.1 hρ
    obtain ⟨i, hi, rfl⟩ := List.getElem_of_mem hρ1
    have hc := h.cel i hi
    unfold cellOf at hc
    rw [if_neg (by simpa using hρ2)] at hc
    exact List.mem_map.2 ⟨_, look_mem s.1 hc.symm, rfl⟩
  have s2 : ∀ x ∈ s.1.map fun e => e.1, x ∈ (live R).map fun ρ => bs ρ.Key := by
    intro x hx
    obtain ⟨e, he, rfl⟩ := List.mem_map.1 hx
    obtain ⟨i, hi, g⟩ := h.cov e he
    have hc := h.cel i hi
    rw [g, mem_look (k := e.1) (x := e.2) s.1 hI.ord he] at hc
    refine List.mem_map.2 ⟨R[i], List.mem_filter.2 ⟨List.getElem_mem hi, ?_⟩, g⟩
    unfold cellOf at hc
    by_cases c : R[i].Rev = 0
    · rw [if_pos c] at hc; cases hc
    · simpa using c
  have l1 := len_sub _ _ n1 s1
  have l2 := len_sub _ _ n2 s2
  simp only [List.length_map] at l1 l2
  omega
theorem live_snoc {R : List api_Row} {j : Nat} (hj : j < R.length) : (live (R.take (j + 1))).length = (live (R.take j)).length + (if R[j].Rev = 0 then 0 else 1) := by
  rw [take_one hj]
  unfold live
  rw [List.filter_append, List.length_append]
  congr 1
  by_cases c : R[j].Rev = 0
  · simp [c]
  · simp [c]
/-! ### a row is among those told -/
theorem among_eq {k : Nat} (hk : Fuel k) {s : St} (hI : Inv s.1 s.2) (hs : s.2 < 4000000) (R : List api_Row) (i : Nat) (hi : i < R.length) (hm : R[i] ∈ s.1.map rowOf) :
    loop (fun (s_ : Bool × Int) => haulagelaw13_TableMap.b15 k R (s.1.map rowOf) (i : Int) s_.1 s_.2) k (false, 0) = some true := by
  have h24 : 1099511627776 ≤ k := hk
  have hlen := hI.len
  have hml : (s.1.map rowOf).length = s.1.length := by simp
  have L := loop_inv (f := fun (s_ : Bool × Int) => haulagelaw13_TableMap.b15 k R (s.1.map rowOf) (i : Int) s_.1 s_.2)
    (I := fun j q => q.2 = (j : Int) ∧ (q.1 = true ∨ ∀ m (hm : m < (s.1.map rowOf).length), m < j → (s.1.map rowOf)[m] ≠ R[i])) (P := fun x => x = true) (N := s.1.length) ?_ ?_ s.1.length 0 (false, 0) k ⟨rfl, Or.inr (fun m hm h => by omega)⟩ (by omega) (by omega)
  · obtain ⟨x, ex, rfl⟩ := L
    exact ex
  · rintro j ⟨b, q⟩ hj ⟨rfl, h⟩
    left
    simp only at h
    have hj' : j < (s.1.map rowOf).length := by omega
    show ∃ s', haulagelaw13_TableMap.b15 k R (s.1.map rowOf) (i : Int) b (j : Int) = _ ∧ _
    unfold haulagelaw13_TableMap.b15
    rw [if_pos (by omega)]
    cases b with
    | true =>
      rw [if_pos rfl, wrS j (by omega)]
      exact ⟨_, rfl, rfl, Or.inl rfl⟩
    | false =>
      rw [if_neg (by simp), if_pos (by omega), if_pos (by omega), rd_eq hj', rd_eq hi]
      have hE := hI.ent _ (List.getElem_mem hj)
      have hsz : (s.1.map rowOf)[j].Key.length < 4000000000 ∧ (s.1.map rowOf)[j].Value.length < 4000000000 := by
        rw [List.getElem_map]
        exact ⟨by show (sb _).length < _; rw [sb_len]; omega, by show s.1[j].2.value.length < _; omega⟩
      rw [bind_eq (sameRow_eq hk _ _ (Or.inl hsz.1) (Or.inl hsz.2)), wrS j (by omega)]
      refine ⟨_, rfl, rfl, ?_⟩
      by_cases c : (s.1.map rowOf)[j] = R[i]
      · exact Or.inl (by simp [c])
      · right
        intro m hm hlt
        by_cases e : m = j
        · subst e; exact c
        · rcases h with h | h
          · cases h
          · exact h m hm (by omega)
  · rintro ⟨b, q⟩ ⟨rfl, h⟩
    simp only at h
    refine ⟨b, ?_, ?_⟩
    · show haulagelaw13_TableMap.b15 k R (s.1.map rowOf) (i : Int) b ((s.1.length : Nat) : Int) = _
      unfold haulagelaw13_TableMap.b15
      rw [if_neg (by omega)]
    · rcases h with h | h
      · exact h
      · obtain ⟨m, hm', e⟩ := List.getElem_of_mem hm
        exact absurd e (h m hm' (by omega))
theorem end_eq {k : Nat} (hk : Fuel k) {s : St} {t : Option Tab} (hT : RepS t s) (hs : s.2 < 4000000) {R : List api_Row} (hM : Mp s R) (hR : R.length < 4000000) : haulagelaw13_TableMap.j14 k t R (s.2 : Int) = some true := by
  have h24 : 1099511627776 ≤ k := hk
  have hI : Inv s.1 s.2 := by obtain ⟨rows, _, _, _, hI⟩ := hT; exact hI
  have hlen := hI.len
  have hml : (s.1.map rowOf).length = s.1.length := by simp
  have hcount := hM.count hI
  unfold haulagelaw13_TableMap.j14
  rw [bind_eq (Rows_eq (by omega) hT)]
  have L := loop_inv (f := fun (s_ : Int × Int) => haulagelaw13_TableMap.b17 k R (s.1.map rowOf) s_.1 s_.2)
    (I := fun j q => q.2 = (j : Int) ∧ q.1 = ((live (R.take j)).length : Int)) (P := fun x => x = Sum.inl (s.1.length : Int)) (N := R.length) ?_ ?_ R.length 0 (0, 0) k ⟨rfl, rfl⟩ (by omega) (by omega)
  · obtain ⟨x, ex, rfl⟩ := L
    rw [bind_eq ex]
    show haulagelaw13_TableMap.j18 k t (s.2 : Int) (s.1.map rowOf) (s.1.length : Int) = some true
    unfold haulagelaw13_TableMap.j18
    have L2 := loop_inv (f := fun (s_ : Int) => haulagelaw13_TableMap.b19 k (s.1.map rowOf) s_) (I := fun j q => q = ((j + 1 : Nat) : Int)) (P := fun x => x = Sum.inl ()) (N := s.1.length - 1) ?_ ?_ (s.1.length - 1) 0 1 k rfl (by omega) (by omega)
    · obtain ⟨x, ex2, rfl⟩ := L2
      rw [bind_eq ex2]
      show haulagelaw13_TableMap.j20 t (s.2 : Int) (s.1.map rowOf) (s.1.length : Int) = some true
      unfold haulagelaw13_TableMap.j20
      rw [if_pos (by rw [hml]), bind_eq (Len_eq hT), if_pos rfl, bind_eq (Rev_eq hT)]
      simp
    · rintro j q hj rfl
      left
      have hj1 : j + 1 < s.1.length := by omega
      have hj0 : j < s.1.length := by omega
      show ∃ s', haulagelaw13_TableMap.b19 k (s.1.map rowOf) (((j + 1 : Nat)) : Int) = _ ∧ _
      unfold haulagelaw13_TableMap.b19
      have e1 : IntKind.i64.wrap (((j + 1 : Nat) : Int) - 1) = (j : Int) := by rw [wr (by omega) (by omega)]; omega
      rw [e1, if_pos (by omega), if_pos (by omega), if_pos (by omega), rd_eq (show j < (s.1.map rowOf).length by omega), rd_eq (show j + 1 < (s.1.map rowOf).length by omega)]
      have hE := hI.ent _ (List.getElem_mem hj0)
      have hlt : lt s.1[j].1 s.1[j + 1].1 = true := by
        have := hI.ord
        unfold Ord at this
        rw [List.pairwise_iff_getElem] at this
        exact this j (j + 1) hj0 hj1 (by omega)
      have hcm : cm ((s.1.map rowOf)[j]'(by omega)).Key ((s.1.map rowOf)[j + 1]'(by omega)).Key = true := by
        rw [List.getElem_map, List.getElem_map]
        show cm (sb s.1[j].1) (sb s.1[j + 1].1) = true
        unfold lt at hlt
        rw [ByteArray.toList_eq, ByteArray.toList_eq] at hlt
        unfold sb
        rw [cm_bl]; exact hlt
      rw [bind_eq (comes_eq hk _ _ (by rw [List.getElem_map]; show (sb s.1[j].1).length < _; rw [sb_len]; omega)), hcm, if_pos rfl, wrS (j + 1) (by omega)]
      exact ⟨_, rfl, rfl⟩
    · rintro q rfl
      refine ⟨_, ?_, rfl⟩
      show haulagelaw13_TableMap.b19 k (s.1.map rowOf) (((s.1.length - 1 + 1 : Nat)) : Int) = _
      unfold haulagelaw13_TableMap.b19
      rw [if_neg (by omega)]
  · rintro j ⟨a, b⟩ hj ⟨rfl, ha⟩
    left
    simp only at ha
    subst ha
    have hle : (live (R.take j)).length ≤ R.length := by
      unfold live
      have h1 := List.length_filter_le (fun ρ : api_Row => decide (ρ.Rev ≠ 0)) (R.take j)
      rw [List.length_take] at h1; omega
    show ∃ s', haulagelaw13_TableMap.b17 k R (s.1.map rowOf) ((live (R.take j)).length : Int) (j : Int) = _ ∧ _
    unfold haulagelaw13_TableMap.b17
    rw [if_pos (by omega), if_pos (by omega), rd_eq hj]
    have hl := live_snoc hj
    by_cases c : R[j].Rev = 0
    · rw [if_pos c, wrS j (by omega)]
      rw [if_pos c] at hl
      exact ⟨_, rfl, rfl, by rw [hl]; rfl⟩
    · rw [if_neg c]
      rw [if_neg c] at hl
      have hc := hM.cel j hj
      unfold cellOf at hc
      rw [if_neg c] at hc
      have hmem : R[j] ∈ s.1.map rowOf := by
        refine List.mem_map.2 ⟨_, look_mem s.1 hc.symm, ?_⟩
        unfold rowOf
        simp only
        rw [sb_bs (hM.rng j hj)]
      rw [bind_eq (among_eq hk hI hs R j hj hmem)]
      unfold haulagelaw13_TableMap.j16
      rw [if_pos rfl, wrS _ (by omega), wrS j (by omega)]
      exact ⟨_, rfl, rfl, by rw [hl]⟩
  · rintro ⟨a, b⟩ ⟨rfl, ha⟩
    simp only at ha
    rw [List.take_length, hcount] at ha
    subst ha
    refine ⟨_, ?_, rfl⟩
    show haulagelaw13_TableMap.b17 k R (s.1.map rowOf) (s.1.length : Int) ((R.length : Nat) : Int) = _
    unfold haulagelaw13_TableMap.b17
    rw [if_neg (by omega)]
theorem TableMap_true {k : Nat} (hk : Fuel k) (ops : List api_Op) (hn : ops.length < 3000000) (hbr : ∀ o ∈ ops, brange o.Key) : haulagelaw13_TableMap.f k ops = some true := by
  have h24 : 1099511627776 ≤ k := hk
  obtain ⟨t, et, Rt⟩ := new_rep
  unfold haulagelaw13_TableMap.f
  rw [bind_eq (awake_eq hk), if_pos rfl, bind_eq et]
  have L := loop_inv (f := fun (s_ : (Option Tab) × (List api_Row) × Int × Int) => haulagelaw13_TableMap.b13 k ops s_.1 s_.2.1 s_.2.2.1 s_.2.2.2)
    (I := fun i q => q.2.2.2 = (i : Int) ∧ RepS q.1 (run ([], 0) (ops.take i)) ∧ q.2.2.1 = ((run ([], 0) (ops.take i)).2 : Int) ∧ Mp (run ([], 0) (ops.take i)) q.2.1 ∧ q.2.1.length ≤ i)
    (P := fun x => ∃ y, x = Sum.inl y ∧ RepS y.1 (run ([], 0) ops) ∧ y.2.2 = ((run ([], 0) ops).2 : Int) ∧ Mp (run ([], 0) ops) y.2.1 ∧ y.2.1.length ≤ ops.length) (N := ops.length) ?_ ?_ ops.length 0 (t, [], 0, 0) k
      ⟨rfl, Rt, rfl, ⟨fun i j hi => by simp at hi, fun i hi => by simp at hi, fun i hi => by simp at hi, fun e he => by simp [run] at he⟩, Nat.le_refl _⟩ (by omega) (by omega)
  · obtain ⟨x, ex, ⟨u, R, rev⟩, rfl, Ru, hrev, hM, hl⟩ := L
    rw [bind_eq ex]
    simp only at Ru hrev hM hl
    subst hrev
    have hs : (run ([], 0) ops).2 < 4000000 := run_lt (by omega)
    exact end_eq hk Ru hs hM (Nat.lt_of_le_of_lt hl (by omega))
  · rintro i ⟨u, R, rev, j⟩ hi ⟨rfl, r1, hrev, hM, hl⟩
    left
    simp only at r1 hrev hM hl
    subst hrev
    have hlt : (run ([], 0) (ops.take i)).2 < 4000000 := run_lt (by rw [List.length_take]; omega)
    obtain ⟨u', eu, ru⟩ := do_step hk (by omega) r1 ops[i]
    have htk : run ([], 0) (ops.take (i + 1)) = stepS (run ([], 0) (ops.take i)) ops[i] := by rw [take_one hi, run_snoc]
    rw [htk]
    generalize run ([], 0) (ops.take i) = s at r1 hM ru eu hlt
    have hI : Inv s.1 s.2 := by obtain ⟨rows, _, _, _, hI⟩ := r1; exact hI
    have hrd : rd ops (i : Int) = ops[i] := rd_eq hi
    show ∃ s', haulagelaw13_TableMap.b13 k ops u R (s.2 : Int) (i : Int) = _ ∧ _
    unfold haulagelaw13_TableMap.b13
    rw [if_pos (by omega), if_pos (by omega), hrd, bind_eq eu]
    have skip : ∀ b, b = true → ¬ (right ops[i] = true ∧ isW ops[i] = true) → ∃ s', haulagelaw13_TableMap.j7 k ops ((act s.1 s.2 ops[i]).1, (act s.1 s.2 ops[i]).2.1, u') R (s.2 : Int) (i : Int) b = some (.next s') ∧ s'.2.2.2 = ((i + 1 : Nat) : Int) ∧ RepS s'.1 (stepS s ops[i]) ∧ s'.2.2.1 = ((stepS s ops[i]).2 : Int) ∧ Mp (stepS s ops[i]) s'.2.1 ∧ s'.2.1.length ≤ i + 1 := by
      intro b hb hnot
      subst hb
      rw [act_keep hnot] at ru ⊢
      unfold haulagelaw13_TableMap.j7
      rw [if_pos rfl, wrS i (by omega)]
      exact ⟨_, rfl, rfl, ru, rfl, hM, Nat.le_succ_of_le hl⟩
    by_cases hR : right ops[i] = true
    · rw [if_pos (by rw [act_right, if_pos hR]), bind_eq (writes_eq' _)]
      by_cases hw : isW ops[i] = true
      · rw [hw]
        unfold haulagelaw13_TableMap.j7
        rw [if_neg (by simp)]
        have hkey := (right_key hR).1
        have hval := (right_key hR).2.1
        obtain ⟨x, ex, hx⟩ := find_eq hk ops i R (by omega) hi (by omega)
        rw [bind_eq ex]
        have fin : ∀ (R1 : List api_Row) (n : Nat) (hn1 : n < R1.length), Mp s R1 → R1[n].Key = ops[i].Key → R1.length ≤ i + 1 → ∃ s', haulagelaw13_TableMap.j10 k ops ((act s.1 s.2 ops[i]).1, (act s.1 s.2 ops[i]).2.1, u') (s.2 : Int) (i : Int) R1 (n : Int) = some (.next s') ∧ s'.2.2.2 = ((i + 1 : Nat) : Int) ∧ RepS s'.1 (stepS s ops[i]) ∧ s'.2.2.1 = ((stepS s ops[i]).2 : Int) ∧ Mp (stepS s ops[i]) s'.2.1 ∧ s'.2.1.length ≤ i + 1 := by
          intro R1 n hn1 hM1 hk1 hl1
          obtain ⟨R', e', hM', hl'⟩ := write_eq hk ops i hi hn hI (by omega) hM1 hn1 hk1 hR hw u'
          exact ⟨_, e', rfl, ru, rfl, hM', by show R'.length ≤ _; omega⟩
        unfold haulagelaw13_TableMap.j9
        rcases hx with ⟨rfl, hno⟩ | ⟨n, hnlt, rfl, hkn⟩
        · rw [if_pos (by omega), hrd, if_pos (by simp; omega)]
          have e1 : IntKind.i64.wrap (((R ++ [api_Row.mk ops[i].Key [] 0]).length : Int) - 1) = ((R.length : Nat) : Int) := by
            have el : (R ++ [api_Row.mk ops[i].Key [] 0]).length = R.length + 1 := by simp
            rw [el, wr (by omega) (by omega)]; omega
          rw [e1]
          exact fin _ R.length (by simp) (hM.push (hbr _ (List.getElem_mem hi)) hno) (by simp) (by simp; omega)
        · rw [if_neg (by omega)]
          exact fin R n hnlt hM hkn (by omega)
      · rw [show (!isW ops[i]) = true by simpa using hw]
        exact skip true rfl (fun h => hw h.2)
    · rw [if_neg (by rw [act_right, if_neg hR]; simp)]
      exact skip true rfl (fun h => hR h.1)
  · rintro ⟨u, R, rev, j⟩ ⟨rfl, r1, hrev, hM, hl⟩
    simp only at r1 hrev hM hl
    rw [List.take_of_length_le (Nat.le_refl _)] at r1 hrev hM
    refine ⟨Sum.inl (u, R, rev), ?_, _, rfl, r1, hrev, hM, hl⟩
    show haulagelaw13_TableMap.b13 k ops u R rev ((ops.length : Nat) : Int) = _
    unfold haulagelaw13_TableMap.b13
    rw [if_neg (by omega)]
end Go.Proofs.Ytcolmmjcdlmcoaa.G
/-! Numbers and texts, read back. -/
namespace Go.Proofs.Ytcolmmjcdlmcoaa.G
open Go
set_option linter.unusedVariables false
set_option linter.unusedSimpArgs false
theorem or128 : ∀ x : Fin 256, x.val ||| 128 = x.val % 128 + 128 := by decide +kernel
theorem and127 : ∀ x : Fin 256, x.val &&& 127 = x.val % 128 := by decide +kernel
theorem wr8 (n : Nat) : IntKind.u8.wrap (n : Int) = ((n % 256 : Nat) : Int) := by
  simp only [IntKind.wrap, IntKind.bits, IntKind.signed]; simp
theorem bv8 (n : Nat) (h : n < 256) : (BitVec.ofInt IntKind.u8.bits (n : Int)) = BitVec.ofNat 8 n := by
  show BitVec.ofInt 8 (n : Int) = _
  rw [BitVec.ofInt_natCast]
theorem bor8 (n : Nat) : bor .u8 (IntKind.u8.wrap (n : Int)) 128 = ((n % 128 + 128 : Nat) : Int) := by
  rw [wr8]
  unfold bor
  rw [bv8 (n % 256) (by omega)]
  show IntKind.u8.wrap ((BitVec.ofNat 8 (n % 256) ||| BitVec.ofInt 8 128).toNat : Int) = _
  have e : (BitVec.ofNat 8 (n % 256) ||| BitVec.ofInt 8 128).toNat = (n % 256) ||| 128 := by
    rw [BitVec.toNat_or, BitVec.toNat_ofNat]
    have : (BitVec.ofInt 8 128).toNat = 128 := by decide
    rw [this, Nat.mod_eq_of_lt (show n % 256 < 2 ^ 8 by omega)]
  rw [e, or128 ⟨n % 256, by omega⟩, wr8]
  congr 1
  show (n % 256 % 128 + 128) % 256 = n % 128 + 128
  omega
theorem band8 {c : Int} (h0 : 0 ≤ c) (h1 : c ≤ 255) : band .u8 c 127 = c % 128 := by
  obtain ⟨n, rfl⟩ := Int.eq_ofNat_of_zero_le h0
  unfold band
  rw [bv8 n (by omega)]
  show IntKind.u8.wrap ((BitVec.ofNat 8 n &&& BitVec.ofInt 8 127).toNat : Int) = _
  have e : (BitVec.ofNat 8 n &&& BitVec.ofInt 8 127).toNat = n &&& 127 := by
    rw [BitVec.toNat_and, BitVec.toNat_ofNat]
    have : (BitVec.ofInt 8 127).toNat = 127 := by decide
    rw [this, Nat.mod_eq_of_lt (show n < 2 ^ 8 by omega)]
  rw [e, and127 ⟨n, by omega⟩, wr8]
  show ((n % 128 % 256 : Nat) : Int) = (n : Int) % 128
  omega
theorem wr64 {n : Nat} (h : n < 2 ^ 64) : IntKind.u64.wrap (n : Int) = (n : Int) := by
  simp only [IntKind.wrap, IntKind.bits, IntKind.signed]; simp; omega
theorem shl64 {d k : Nat} (hk : k ≤ 9) (h : d * 2 ^ (7 * k) < 2 ^ 64) : shl .u64 (IntKind.u64.wrap (d : Int)) (7 * (k : Int)) = ((d * 2 ^ (7 * k) : Nat) : Int) := by
  have hd : d < 2 ^ 64 := Nat.lt_of_le_of_lt (Nat.le_mul_of_pos_right _ (Nat.two_pow_pos _)) h
  rw [wr64 hd]
  unfold shl
  have e1 : (7 * (k : Int)).toNat = 7 * k := by omega
  rw [e1, show min (7 * k) IntKind.u64.bits = 7 * k from Nat.min_eq_left (by show 7 * k ≤ 64; omega)]
  have e2 : (d : Int) * 2 ^ (7 * k) = ((d * 2 ^ (7 * k) : Nat) : Int) := by push_cast; rfl
  rw [e2, wr64 h]
theorem bor64 {a d k : Nat} (ha : a < 2 ^ (7 * k)) (h : a + d * 2 ^ (7 * k) < 2 ^ 64) : bor .u64 (a : Int) ((d * 2 ^ (7 * k) : Nat) : Int) = ((a + d * 2 ^ (7 * k) : Nat) : Int) := by
  unfold bor
  show IntKind.u64.wrap ((BitVec.ofInt 64 (a : Int) ||| BitVec.ofInt 64 ((d * 2 ^ (7 * k) : Nat) : Int)).toNat : Int) = _
  rw [BitVec.ofInt_natCast, BitVec.ofInt_natCast, BitVec.toNat_or, BitVec.toNat_ofNat, BitVec.toNat_ofNat, Nat.mod_eq_of_lt (by omega), Nat.mod_eq_of_lt (by omega)]
  have e : a ||| d * 2 ^ (7 * k) = a + d * 2 ^ (7 * k) := by
    rw [Nat.or_comm, Nat.mul_comm d, ← Nat.two_pow_add_eq_or_of_lt ha, Nat.add_comm]
  rw [e, wr64 h]
def acc (k : Nat) (n c : Int) : Int := bor .u64 n (shl .u64 (IntKind.u64.wrap (band .u8 c 127)) (7 * (k : Int)))
theorem acc_eq {k n c : Nat} (hk : k ≤ 9) (hc : c ≤ 255) (hn : n < 2 ^ (7 * k)) (ht : n + c % 128 * 2 ^ (7 * k) < 2 ^ 64) : acc k (n : Int) (c : Int) = ((n + c % 128 * 2 ^ (7 * k) : Nat) : Int) := by
  unfold acc
  rw [band8 (by omega) (by omega), show (c : Int) % 128 = ((c % 128 : Nat) : Int) by omega, shl64 hk (by omega), bor64 hn ht]
theorem rnum_nil (f : Int) (k : Nat) (n : Int) : rnum f [] k n = .inl ([], f) := rfl
theorem rnum_cons (f c : Int) (xs : List Int) (k : Nat) (n : Int) : rnum f (c :: xs) k n = if (k = 9 ∧ 1 < c) ∨ (0 < k ∧ c = 0) then .inr (0, xs, 11) else if c < 128 then .inr (acc k n c, xs, f) else rnum f xs (k + 1) (acc k n c) := rfl
theorem pow_step (k : Nat) : 2 ^ (7 * (k + 1)) = 128 * 2 ^ (7 * k) := by
  rw [Nat.mul_add, Nat.pow_add, Nat.mul_comm]
theorem tot (n m B : Nat) : n + m % 128 * B + m / 128 * (128 * B) = n + m * B := by
  have h : m % 128 * B + m / 128 * (128 * B) = m * B := by
    rw [← Nat.mul_assoc, ← Nat.add_mul, Nat.mul_comm (m / 128), Nat.mod_add_div]
  omega
theorem small {n d B : Nat} (hn : n < B) (hd : d < 128) : n + d * B < 128 * B := by
  have : d * B ≤ 127 * B := Nat.mul_le_mul_right B (by omega)
  omega
theorem k9 {k c n : Nat} (hk : k ≤ 9) (hn : n < 2 ^ (7 * k)) (hc : c < 128) (h9 : k = 9 → c ≤ 1) : n + c * 2 ^ (7 * k) < 2 ^ 64 := by
  by_cases h : k = 9
  · subst h
    have : c * 2 ^ (7 * 9) ≤ 1 * 2 ^ (7 * 9) := Nat.mul_le_mul_right _ (h9 rfl)
    omega
  · have h1 := small hn hc
    have h2 : 2 ^ (7 * k) ≤ 2 ^ 56 := Nat.pow_le_pow_right (by omega) (by omega)
    omega
theorem rnum_fm (ou : List Int) : ∀ (f m k n : Nat), m < 128 ^ (f + 1) → k + f ≤ 9 → n < 2 ^ (7 * k) → n + m * 2 ^ (7 * k) < 2 ^ 64 → (k = 0 ∨ 0 < m) →
    rnum 0 (fmP f m ++ (IntKind.u8.wrap (fmL f m) :: ou)) k (n : Int) = .inr (((n + m * 2 ^ (7 * k) : Nat) : Int), ou, 0) := by
  have base : ∀ (m k n : Nat), m < 128 → k ≤ 9 → n < 2 ^ (7 * k) → n + m * 2 ^ (7 * k) < 2 ^ 64 → (k = 0 ∨ 0 < m) → rnum 0 (IntKind.u8.wrap (m : Int) :: ou) k (n : Int) = .inr (((n + m * 2 ^ (7 * k) : Nat) : Int), ou, 0) := by
    intro m k n hm hk hn ht h0
    have e : IntKind.u8.wrap (m : Int) = (m : Int) := by rw [wr8]; congr 1; omega
    rw [e, rnum_cons, if_neg, if_pos (by omega), acc_eq hk (by omega) hn (by rw [Nat.mod_eq_of_lt hm]; exact ht), Nat.mod_eq_of_lt hm]
    rintro (⟨rfl, h⟩ | ⟨h1, h2⟩)
    · have : 2 * 2 ^ (7 * 9) ≤ m * 2 ^ (7 * 9) := Nat.mul_le_mul_right _ (by omega)
      omega
    · omega
  intro f
  induction f with
  | zero =>
    intro m k n hm hk hn ht h0
    exact base m k n (by simpa using hm) (by omega) hn ht h0
  | succ f ih =>
    intro m k n hm hk hn ht h0
    by_cases c : m ≤ 127
    · have e1 : fmP (f + 1) m = [] := by simp [fmP, c]
      have e2 : fmL (f + 1) m = m := by simp [fmL, c]
      rw [e1, e2]
      exact base m k n (by omega) (by omega) hn ht h0
    · have e1 : fmP (f + 1) m = ((m % 128 + 128 : Nat) : Int) :: fmP f (m / 128) := by
        conv => lhs; unfold fmP
        rw [if_neg c, bor8]
      have e2 : fmL (f + 1) m = fmL f (m / 128) := by
        conv => lhs; unfold fmL
        rw [if_neg c]
      rw [e1, e2, List.cons_append, rnum_cons, if_neg (by omega), if_neg (by omega)]
      have hmod : (m % 128 + 128) % 128 = m % 128 := by omega
      have hd : m % 128 * 2 ^ (7 * k) ≤ m * 2 ^ (7 * k) := Nat.mul_le_mul_right _ (Nat.mod_le _ _)
      rw [acc_eq (by omega) (by omega) hn (by rw [hmod]; omega), hmod]
      have hB := pow_step k
      have ht2 := tot n m (2 ^ (7 * k))
      rw [ih (m / 128) (k + 1) (n + m % 128 * 2 ^ (7 * k)) (by rw [Nat.pow_succ] at hm; omega) (by omega) (by rw [hB]; exact small hn (by omega)) (by rw [hB, ht2]; exact ht) (Or.inr (by omega)), hB, ht2]
theorem rnum_form {m : Nat} (hm : m < 2 ^ 64) (ou : List Int) : rnum 0 (fm m ++ ou) 0 0 = .inr ((m : Int), ou, 0) := by
  have := rnum_fm ou 9 m 0 0 (by omega) (by omega) (by decide) (by simpa using hm) (Or.inl rfl)
  unfold fm
  rw [List.append_assoc]
  simpa using this
def bytesR (l : List Int) : Prop := ∀ c ∈ l, 0 ≤ c ∧ c ≤ 255
/-- what reading a number comes to -/
theorem rnum_inv : ∀ (l : List Int) (k n : Nat), bytesR l → k ≤ 9 → n < 2 ^ (7 * k) →
    (∃ l', rnum 0 l k (n : Int) = .inl (l', 0)) ∨ (∃ rest, rnum 0 l k (n : Int) = .inr (0, rest, 11)) ∨
    ∃ m rest, rnum 0 l k (n : Int) = .inr (((n + m * 2 ^ (7 * k) : Nat) : Int), rest, 0) ∧ (k = 0 ∨ 0 < m) ∧ n + m * 2 ^ (7 * k) < 2 ^ 64 ∧ l = fmP (9 - k) m ++ (IntKind.u8.wrap (fmL (9 - k) m) :: rest)
  | [], k, n, _, _, _ => Or.inl ⟨[], rfl⟩
  | c :: xs, k, n, hb, hk, hn => by
    obtain ⟨h0, h1⟩ := hb c (by simp)
    obtain ⟨d, rfl⟩ := Int.eq_ofNat_of_zero_le h0
    rw [rnum_cons]
    by_cases bad : (k = 9 ∧ 1 < (d : Int)) ∨ (0 < k ∧ (d : Int) = 0)
    · rw [if_pos bad]; exact Or.inr (Or.inl ⟨xs, rfl⟩)
    · rw [if_neg bad]
      have hb9 : k = 9 → d ≤ 1 := fun e => by
        rcases Nat.lt_or_ge 1 d with g | g
        · exact absurd (Or.inl ⟨e, by omega⟩) bad
        · exact g
      have hb0 : k = 0 ∨ 0 < d := by
        rcases Nat.eq_zero_or_pos k with g | g
        · exact Or.inl g
        · right
          rcases Nat.eq_zero_or_pos d with g2 | g2
          · exact absurd (Or.inr ⟨g, by omega⟩) bad
          · exact g2
      by_cases c : d < 128
      · rw [if_pos (by omega)]
        have ht := k9 hk hn c hb9
        right; right
        refine ⟨d, xs, ?_, hb0, ht, ?_⟩
        · rw [acc_eq hk (by omega) hn (by rw [Nat.mod_eq_of_lt c]; exact ht), Nat.mod_eq_of_lt c]
        · have e1 : fmP (9 - k) d = [] := by cases 9 - k with | zero => rfl | succ q => simp [fmP]; omega
          have e2 : fmL (9 - k) d = d := by cases 9 - k with | zero => rfl | succ q => simp [fmL]; omega
          rw [e1, e2, wr8, Nat.mod_eq_of_lt (by omega)]; rfl
      · rw [if_neg (by omega)]
        have hk8 : k ≤ 8 := by
          rcases Nat.lt_or_ge k 9 with g | g
          · omega
          · have := hb9 (by omega); omega
        have ht : n + d % 128 * 2 ^ (7 * k) < 2 ^ 64 := k9 hk hn (by omega) (by omega)
        rw [acc_eq hk (by omega) hn ht]
        have hB := pow_step k
        rcases rnum_inv xs (k + 1) (n + d % 128 * 2 ^ (7 * k)) (fun x hx => hb x (by simp [hx])) (by omega) (by rw [hB]; exact small hn (by omega)) with h | h | ⟨m, rest, e, hm, htt, hl⟩
        · exact Or.inl h
        · exact Or.inr (Or.inl h)
        · right; right
          have hm0 : 0 < m := by omega
          have hq1 : (d % 128 + 128 * m) % 128 = d % 128 := by omega
          have hq2 : (d % 128 + 128 * m) / 128 = m := by omega
          have T := tot n (d % 128 + 128 * m) (2 ^ (7 * k))
          rw [hq1, hq2] at T
          rw [hB] at e htt
          rw [T] at e htt
          refine ⟨d % 128 + 128 * m, rest, e, Or.inr (by omega), htt, ?_⟩
          have e9 : 9 - k = (9 - (k + 1)) + 1 := by omega
          have e1 : fmP (9 - k) (d % 128 + 128 * m) = (d : Int) :: fmP (9 - (k + 1)) m := by
            rw [e9]
            conv => lhs; unfold fmP
            rw [if_neg (by omega), bor8, hq1, hq2]
            congr 1; omega
          have e2 : fmL (9 - k) (d % 128 + 128 * m) = fmL (9 - (k + 1)) m := by
            rw [e9]
            conv => lhs; unfold fmL
            rw [if_neg (by omega), hq2]
          rw [e1, e2, hl]; rfl
end Go.Proofs.Ytcolmmjcdlmcoaa.G
/-! Pieces read back: numbers and texts through the reader. -/
namespace Go.Proofs.Ytcolmmjcdlmcoaa.G
open Go
set_option linter.unusedVariables false
set_option linter.unusedSimpArgs false
theorem bytesR_app {a b : List Int} : bytesR (a ++ b) ↔ bytesR a ∧ bytesR b := by
  unfold bytesR
  constructor
  · intro h; exact ⟨fun c hc => h c (by simp [hc]), fun c hc => h c (by simp [hc])⟩
  · rintro ⟨h1, h2⟩ c hc
    rcases List.mem_append.1 hc with h | h
    · exact h1 c h
    · exact h2 c h
theorem Num_fault {r : Rdr} (h : r.fault ≠ 0) : parcel_Reader_Num.f (some r) = some (0, some r) := by
  unfold parcel_Reader_Num.f; simp only [if_neg h]
theorem Text_fault {r : Rdr} (h : r.fault ≠ 0) (most : Int) : parcel_Reader_Text.f (some r) most = some ([], some r) := by
  unfold parcel_Reader_Text.f; simp only [if_neg h]
theorem Num_fwd {m : Nat} (hm : m < 2 ^ 64) (rest : List Int) (ou : List (List Int)) : parcel_Reader_Num.f (some ⟨fm m ++ rest, ou, 0⟩) = some ((m : Int), some ⟨rest, ou, 0⟩) := by
  unfold parcel_Reader_Num.f
  simp only [if_true, rnum_form hm, rtake]
theorem Num_inv (l : List Int) (ou : List (List Int)) (hb : bytesR l) : ∃ v r', parcel_Reader_Num.f (some ⟨l, ou, 0⟩) = some (v, some r') ∧
    ((r'.fault = 0 ∧ ∃ m rest, v = ((m : Nat) : Int) ∧ m < 2 ^ 64 ∧ l = fm m ++ rest ∧ r' = ⟨rest, ou, 0⟩) ∨ (r'.fault ≠ 0 ∧ v = 0)) := by
  unfold parcel_Reader_Num.f
  simp only [if_true]
  rcases rnum_inv l 0 0 hb (by omega) (by decide) with ⟨l', e⟩ | ⟨rest, e⟩ | ⟨m, rest, e, -, ht, hl⟩
  · rw [show ((0 : Nat) : Int) = 0 from rfl] at e
    rw [e]
    exact ⟨0, ⟨l', ou, 10⟩, rfl, Or.inr ⟨(by show ¬ _; simp), rfl⟩⟩
  · rw [show ((0 : Nat) : Int) = 0 from rfl] at e
    rw [e]
    exact ⟨0, ⟨rest, ou, 11⟩, rfl, Or.inr ⟨(by show ¬ _; simp), rfl⟩⟩
  · rw [show ((0 : Nat) : Int) = 0 from rfl] at e
    rw [e]
    have e0 : 0 + m * 2 ^ (7 * 0) = m := by omega
    rw [e0] at ht ⊢
    refine ⟨(m : Int), ⟨rest, ou, 0⟩, rfl, Or.inl ⟨rfl, m, rest, rfl, ht, ?_, rfl⟩⟩
    unfold fm
    rw [List.append_assoc]
    exact hl
theorem rnum_short : ∀ (l : List Int) (k : Nat) (n : Int) (rest : List Int) (x f' : Int), rnum 0 l k n = .inr (x, rest, f') → rest.length ≤ l.length
  | [], k, n, rest, x, f', h => by rw [rnum_nil] at h; cases h
  | c :: xs, k, n, rest, x, f', h => by
    rw [rnum_cons] at h
    split at h
    · cases h; simp
    · split at h
      · cases h; simp
      · have := rnum_short xs (k + 1) _ rest x f' h; simp; omega
theorem fm_pos (n : Nat) : 1 ≤ (fm n).length := by rw [fm_len]; exact (nm_le n).1
theorem wrapmax {most : Int} (h0 : 0 ≤ most) (h1 : most ≤ 1000000) : IntKind.u64.wrap (max most 0) = most := by
  rw [Int.max_eq_left h0, wru h0 (by omega)]
theorem Text_fwd {v : List Int} {most : Int} (h0 : 0 ≤ most) (h1 : most ≤ 1000000) (hv : (v.length : Int) ≤ most) (rest : List Int) (hr : (v ++ rest).length ≤ 140737488355328) (ou : List (List Int)) :
    parcel_Reader_Text.f (some ⟨fm v.length ++ (v ++ rest), ou, 0⟩) most = some (v, some ⟨rest, ou, 0⟩) := by
  have hlen : (v ++ rest).length = v.length + rest.length := List.length_append
  have e : rtext (fm v.length ++ (v ++ rest)) 0 most = some (.inr (v, rest, 0)) := by
    unfold rtext rsize
    rw [wrapmax h0 h1, rnum_form (by omega)]
    simp only [if_true]
    rw [if_neg (by omega), if_neg (by omega)]
    simp only
    rw [wr (by omega) (by omega), if_pos (by omega)]
    simp
  unfold parcel_Reader_Text.f
  simp only [if_true, e, Option.bind_some, rtake]
theorem Text_inv (l : List Int) (ou : List (List Int)) (hb : bytesR l) (hl : l.length ≤ 140737488355328) {most : Int} (h0 : 0 ≤ most) (h1 : most ≤ 1000000) :
    ∃ v r', parcel_Reader_Text.f (some ⟨l, ou, 0⟩) most = some (v, some r') ∧
      ((r'.fault = 0 ∧ ∃ rest, l = fm v.length ++ (v ++ rest) ∧ (v.length : Int) ≤ most ∧ r' = ⟨rest, ou, 0⟩) ∨ (r'.fault ≠ 0 ∧ v = [])) := by
  unfold parcel_Reader_Text.f rtext rsize
  simp only [if_true, wrapmax h0 h1]
  rcases rnum_inv l 0 0 hb (by omega) (by decide) with ⟨l', e⟩ | ⟨rest, e⟩ | ⟨m, rest, e, -, ht, he⟩
  · rw [show ((0 : Nat) : Int) = 0 from rfl] at e
    rw [e]
    exact ⟨[], ⟨l', ou, 10⟩, rfl, Or.inr ⟨(by show ¬ _; simp), rfl⟩⟩
  · have hrl : rest.length ≤ l.length := by
      rw [show ((0 : Nat) : Int) = 0 from rfl] at e
      exact rnum_short l 0 0 rest 0 11 e
    rw [show ((0 : Nat) : Int) = 0 from rfl] at e
    rw [e]
    simp only [show ¬ ((11 : Int) = 0) by decide, if_false]
    rw [if_pos (by omega)]
    exact ⟨[], ⟨rest, ou, 11⟩, rfl, Or.inr ⟨(by show ¬ _; simp), rfl⟩⟩
  · have e0 : 0 + m * 2 ^ (7 * 0) = m := by omega
    rw [show ((0 : Nat) : Int) = 0 from rfl, e0] at e
    rw [e]
    have hfm : l = fm m ++ rest := by unfold fm; rw [List.append_assoc]; exact he
    have hrl : rest.length ≤ l.length := by rw [hfm, List.length_append]; omega
    simp only [if_true]
    by_cases g1 : most < (m : Int)
    · rw [if_pos g1]
      simp only
      rw [if_pos (by omega)]
      exact ⟨[], ⟨rest, ou, 11⟩, rfl, Or.inr ⟨(by show ¬ _; simp), rfl⟩⟩
    · rw [if_neg g1]
      by_cases g2 : (rest.length : Int) < (m : Int)
      · rw [if_pos g2]
        simp only
        rw [if_pos (by omega)]
        exact ⟨[], ⟨rest, ou, 10⟩, rfl, Or.inr ⟨(by show ¬ _; simp), rfl⟩⟩
      · rw [if_neg g2]
        simp only
        rw [wr (by omega) (by omega), if_pos (by omega), Int.toNat_natCast]
        refine ⟨rest.take m, ⟨rest.drop m, ou, 0⟩, rfl, Or.inl ⟨rfl, rest.drop m, ?_, ?_, rfl⟩⟩
        · rw [List.take_append_drop, List.length_take, Nat.min_eq_left (by omega)]; exact hfm
        · rw [List.length_take]; omega
end Go.Proofs.Ytcolmmjcdlmcoaa.G
/-! Read: what is read back of a form. -/
namespace Go.Proofs.Ytcolmmjcdlmcoaa.G
open Go
set_option linter.unusedVariables false
set_option linter.unusedSimpArgs false
theorem num_any {k : Nat} (hk : Fuel k) {n : Int} (hn : n < 9223372036854775808) : ∃ y, table_num.f k n = some y ∧ 1 ≤ y ∧ y ≤ 10 := by
  by_cases h : 0 ≤ n
  · obtain ⟨q, rfl⟩ := Int.eq_ofNat_of_zero_le h
    have := nm_le q
    exact ⟨_, num_eq hk (by omega), by omega, by omega⟩
  · have h24 : 1099511627776 ≤ k := hk
    obtain ⟨q, rfl⟩ : ∃ q, k = q + 1 := ⟨k - 1, by omega⟩
    refine ⟨1, ?_, by omega, by omega⟩
    unfold table_num.f
    rw [bind_eq (loop_done (x := (1 : Int)) ?_)]
    · rfl
    · unfold table_num.b1; rw [if_neg (by omega)]
theorem long_any {k : Nat} (hk : Fuel k) {key : ByteArray} {c : table_cell} (h1 : key.size ≤ 64) (h2 : c.value.length ≤ 256) (h4 : c.rev < 9223372036854775808) : ∃ y, table_long.f k key c = some y := by
  obtain ⟨y, e, _⟩ := num_any hk h4
  unfold table_long.f
  rw [bind_eq (num_eq hk (n := key.size) (by omega)), bind_eq (num_eq hk (n := c.value.length) (by omega)), bind_eq e]
  exact ⟨_, rfl⟩
theorem set_any {k : Nat} (hk : Fuel k) {rows : Tr} {L : List Ent} {R z : Int} (hlen : L.length < 10000000000) (hw : rows.WF) (hl : rows.list = L) (ho : Ord L) (hE : ∀ e ∈ L, okE e) {key : ByteArray} {c : table_cell} (h1 : key.size ≤ 64) (h2 : c.value.length ≤ 256) (h4 : c.rev < 9223372036854775808) :
    ∃ t, table_Table_set.f k (some ⟨rows, R, z⟩) key c true = some t := by
  subst hl
  have hh := rows.hgt_le
  have h24 : 1099511627776 ≤ k := hk
  obtain ⟨u, eu, wu, lu⟩ := put_eq k rows key c (by omega) hw ho (by unfold big; omega)
  obtain ⟨y, ey⟩ := long_any hk h1 h2 h4
  have j1 : ∀ x, ∃ t, table_Table_set.j1 k key c true ⟨rows, R, z⟩ x = some t := by
    intro x
    unfold table_Table_set.j1
    rw [if_pos rfl, bind_eq eu, bind_eq ey]
    exact ⟨_, rfl⟩
  unfold table_Table_set.f
  simp only [Option.bind_some]
  rw [bind_eq (get_eq k rows key (by omega) ho)]
  cases h : look key rows.list with
  | none => rw [if_neg (by simp [gotQ])]; exact j1 _
  | some x =>
    have hx := hE _ (look_mem _ h)
    obtain ⟨y2, ey2⟩ := long_any hk (key := key) (c := x) hx.1 hx.2.1 (by have h3 : x.rev ≤ 1099511627776 := hx.2.2.2; omega)
    rw [if_pos (show (gotQ (some x)).2 = true from rfl), bind_eq (show table_long.f k key (gotQ (some x)).1 = some y2 from ey2)]
    exact j1 _
theorem ins_end {key : ByteArray} {c : table_cell} : ∀ L : List Ent, (∀ e ∈ L, lt e.1 key = true) → ins key c L = L ++ [(key, c)]
  | [], _ => rfl
  | (a, x) :: L, h => by
    have h1 : lt a key = true := h (a, x) (by simp)
    simp only [ins, h1, lt_asym h1]
    rw [ins_end L (fun e he => h e (by simp [he]))]
    simp
theorem lt_empty {k : ByteArray} (h : 1 ≤ k.size) : lt .empty k = true := by
  unfold lt
  rw [ByteArray.toList_eq, ByteArray.toList_eq]
  have : k.data.toList ≠ [] := by
    intro e
    have : k.data.toList.length = 0 := by rw [e]; rfl
    rw [Array.length_toList] at this
    exact absurd h (by show ¬ 1 ≤ k.data.size; omega)
  cases hq : k.data.toList with
  | nil => exact absurd hq this
  | cons a l => rfl
theorem lt_size {a k : ByteArray} (h : lt a k = true) : 1 ≤ k.size := by
  unfold lt at h
  rw [ByteArray.toList_eq k] at h
  rcases Nat.eq_zero_or_pos k.size with q | q
  · have : k.data.toList = [] := by
      apply List.length_eq_zero_iff.1
      rw [Array.length_toList]; exact q
    rw [this] at h
    cases a.toList <;> simp [Op.bytesLess] at h
  · exact q
theorem notless {a b : ByteArray} : (Op.bytesLess a.toList b.toList || (a.toList == b.toList)) = !lt b a := by
  rw [keq]
  cases h : lt b a with
  | true =>
    have h1 : Op.bytesLess a.toList b.toList = false := lt_asym h
    have h2 : ¬ a = b := fun e => by subst e; rw [lt_irr] at h; cases h
    simp [h1, h2]
  | false =>
    by_cases e : a = b
    · simp [e]
    · cases h2 : Op.bytesLess a.toList b.toList with
      | true => simp
      | false => exact absurd (lt_tri h2 h) e
abbrev revs (L : List Ent) : List Int := L.map fun e => e.2.rev
structure Part (R : Nat) (L : List Ent) (last : ByteArray) (m : MpV Bool) : Prop where
  ord : Ord L
  ent : ∀ e ∈ L, 1 ≤ e.1.size ∧ e.1.size ≤ 64 ∧ e.2.value.length ≤ 256 ∧ 1 ≤ e.2.rev ∧ e.2.rev ≤ (R : Int)
  low : ∀ e ∈ L, e.1 = last ∨ lt e.1 last = true
  top : (L = [] ∧ last = .empty) ∨ ∃ e ∈ L, e.1 = last
  map : ∀ a, m.f a = if a ∈ revs L then some true else none
  dis : (revs L).Nodup
  cnt : m.n = L.length
def TabR (t : Option Tab) (R : Int) (L : List Ent) : Prop := ∃ rows, t = some ⟨rows, R, sz L⟩ ∧ rows.WF ∧ rows.list = L
theorem Part.next {R : Nat} {L : List Ent} {last : ByteArray} {m : MpV Bool} (h : Part R L last m) {key : ByteArray} {v : List Int} {at_ : Int} (h1 : lt last key = true) (h2 : key.size ≤ 64) (h3 : v.length ≤ 256) (h4 : 1 ≤ at_) (h5 : at_ ≤ (R : Int)) (h6 : at_ ∉ revs L) :
    Part R (L ++ [(key, ⟨v, at_⟩)]) key ⟨fun i => if i = at_ then some true else m.f i, m.n + 1⟩ := by
  have below : ∀ e ∈ L, lt e.1 key = true := fun e he => by
    rcases h.low e he with q | q
    · rw [q]; exact h1
    · exact lt_tr q h1
  refine ⟨?_, ?_, ?_, Or.inr ⟨_, List.mem_append.2 (Or.inr (List.mem_singleton.2 rfl)), rfl⟩, ?_, ?_, ?_⟩
  · unfold Ord
    rw [List.pairwise_append]
    refine ⟨h.ord, by simp, fun x hx y hy => ?_⟩
    rw [List.mem_singleton] at hy
    subst hy
    exact below x hx
  · intro e he
    rcases List.mem_append.1 he with q | q
    · exact h.ent e q
    · rw [List.mem_singleton] at q; subst q; exact ⟨lt_size h1, h2, h3, h4, h5⟩
  · intro e he
    rcases List.mem_append.1 he with q | q
    · exact Or.inr (below e q)
    · rw [List.mem_singleton] at q; subst q; exact Or.inl rfl
  · intro a
    show (if a = at_ then some true else m.f a) = _
    rw [h.map a]
    unfold revs
    rw [List.map_append]
    by_cases q : a = at_
    · subst q; simp
    · rw [if_neg q]
      by_cases q2 : a ∈ revs L
      · rw [if_pos q2, if_pos (List.mem_append.2 (Or.inl q2))]
      · rw [if_neg q2, if_neg]
        intro h'
        rcases List.mem_append.1 h' with g | g
        · exact q2 g
        · simp at g; exact q g
  · unfold revs
    rw [List.map_append]
    refine List.nodup_append.2 ⟨h.dis, by simp, fun x hx y hy => ?_⟩
    simp at hy
    subst hy
    intro e
    subst e
    exact h6 hx
  · rw [List.length_append, ← h.cnt]; rfl
/-- behind the three pieces of a row -/
theorem row_eq {k : Nat} (hk : Fuel k) {R : Nat} (hR : R ≤ 1099511627776) {L : List Ent} {last : ByteArray} {m : MpV Bool} (hP : Part R L last m) (hlen : L.length < 8000000000) {tab : Option Tab} (hT : TabR tab R L) {t17 : Int × Option Rdr} (h17 : t17.1 = (R : Int))
    {kb vb : List Int} (hkb : kb.length ≤ 64) (hvb : vb.length ≤ 256) {r1 r2 r3 : Option Rdr} {a : Int} (ha0 : 0 ≤ a) (ha1 : a < 18446744073709551616) {many : Int} (hm0 : 0 < many) (hm1 : many < 18446744073709551616) (hN : parcel_Reader_Num.f r2 = some (a, r3)) :
    ∃ tab' g m', table_Read.j5 k t17 (kb, r1) (vb, r2) many tab m last = some (.next (r3, many - 1, tab', g, m', bs kb)) ∧
      (g = true ↔ (lt last (bs kb) = true ∧ 0 < a ∧ a ≤ (R : Int) ∧ a ∉ revs L)) ∧ (g = true → TabR tab' R (L ++ [(bs kb, ⟨vb, a⟩)]) ∧ Part R (L ++ [(bs kb, ⟨vb, a⟩)]) (bs kb) m') := by
  obtain ⟨rows, rfl, hw, hl⟩ := hT
  have hE : ∀ e ∈ L, okE e := fun e he => by have := hP.ent e he; exact ⟨this.2.1, this.2.2.1, by omega, by omega⟩
  have hwf : (Lit.int .u64 a).wf = true := by
    simp [Lit.wf, IntKind.min, IntKind.max, IntKind.signed, IntKind.bits]; omega
  have hwm : IntKind.u64.wrap (many - 1) = many - 1 := by
    simp only [IntKind.wrap, IntKind.bits, IntKind.signed]; simp; omega
  have hks : (bs kb).size ≤ 64 := by rw [bs_size]; omega
  have hwr : IntKind.i64.wrap a < 9223372036854775808 := by rw [IntKind.wrap_i64]; omega
  have hn : m.n < 140737488355328 := by rw [hP.cnt]; omega
  -- the row is put, whatever it is
  have j6 : ∀ g, ∃ tab' m', table_Read.j6 k (kb, r1) (vb, r2) (a, r3) many (some ⟨rows, R, sz L⟩) m g = some (.next (r3, many - 1, tab', g, m', bs kb)) ∧
      (lt last (bs kb) = true → 0 < a → a ≤ (R : Int) → a ∉ revs L → TabR tab' R (L ++ [(bs kb, ⟨vb, a⟩)]) ∧ Part R (L ++ [(bs kb, ⟨vb, a⟩)]) (bs kb) m') := by
    intro g
    unfold table_Read.j6
    rw [if_pos ⟨hwf, hn⟩]
    by_cases c : lt last (bs kb) = true ∧ 0 < a ∧ a ≤ (R : Int) ∧ a ∉ revs L
    · obtain ⟨c1, c2, c3, c4⟩ := c
      have hwa : IntKind.i64.wrap a = a := wr (by omega) (by omega)
      obtain ⟨u, eu, wu, lu⟩ := set_put0 hk (R := (R : Int)) (Nat.lt_trans hlen (by omega)) hw hl hP.ord hE (key := bs kb) (c := ⟨vb, a⟩) ⟨hks, hvb, ha0, by show a ≤ _; omega⟩
      simp only [hwa]
      rw [bind_eq eu, hwm]
      have hne : ins (bs kb) ⟨vb, a⟩ L = L ++ [(bs kb, ⟨vb, a⟩)] := ins_end L (fun e he => by
        rcases hP.low e he with q | q
        · rw [q]; exact c1
        · exact lt_tr q c1)
      refine ⟨_, _, rfl, fun _ _ _ _ => ⟨⟨u, by rw [hne], wu, by rw [lu, hne]⟩, hP.next c1 hks hvb (by omega) c3 c4⟩⟩
    · obtain ⟨t, et⟩ := set_any hk (R := (R : Int)) (z := sz L) (Nat.lt_trans hlen (by omega)) hw hl hP.ord hE (key := bs kb) (c := ⟨vb, IntKind.i64.wrap a⟩) hks hvb hwr
      simp only
      rw [bind_eq et, hwm]
      exact ⟨_, _, rfl, fun c1 c2 c3 c4 => absurd ⟨c1, c2, c3, c4⟩ c⟩
  unfold table_Read.j5
  simp only
  rw [bind_eq hN]
  simp only
  rw [notless]
  cases c1 : lt last (bs kb) with
  | false =>
    rw [if_pos (by simp)]
    obtain ⟨tab', m', e, _⟩ := j6 false
    exact ⟨tab', false, m', e, by simp, fun h => by cases h⟩
  | true =>
    rw [if_neg (by simp)]
    by_cases c2 : 0 < a
    · rw [if_pos c2, h17]
      by_cases c3 : a ≤ (R : Int)
      · rw [if_pos c3, if_pos hwf]
        by_cases c4 : a ∈ revs L
        · rw [hP.map a, if_pos c4]
          obtain ⟨tab', m', e, _⟩ := j6 false
          exact ⟨tab', false, m', e, by simp [c4], fun h => by cases h⟩
        · rw [hP.map a, if_neg c4]
          obtain ⟨tab', m', e, h⟩ := j6 true
          exact ⟨tab', true, m', e, by simp [c2, c3, c4], fun _ => h c1 c2 c3 c4⟩
      · rw [if_neg c3]
        obtain ⟨tab', m', e, _⟩ := j6 false
        exact ⟨tab', false, m', e, by simp [c3], fun h => by cases h⟩
    · rw [if_neg c2]
      obtain ⟨tab', m', e, _⟩ := j6 false
      exact ⟨tab', false, m', e, by simp [c2], fun h => by cases h⟩
abbrev RS := (Option Rdr) × Int × (Option Tab) × Bool × (MpV Bool) × ByteArray
abbrev rloop (k : Nat) (t17 : Int × Option Rdr) (n : Nat) (s : RS) : Option ((Option Rdr) × (Option Tab) × Bool) := loop (fun (s_ : RS) => table_Read.b7 k t17 s_.1 s_.2.1 s_.2.2.1 s_.2.2.2.1 s_.2.2.2.2.1 s_.2.2.2.2.2) n s
theorem rloop_end {k : Nat} {t17 : Int × Option Rdr} {n : Nat} {r : Option Rdr} {many : Int} {tab : Option Tab} {g : Bool} {m : MpV Bool} {last : ByteArray} (h : ¬ 0 < many ∨ g = false) (hn : 0 < n) : rloop k t17 n (r, many, tab, g, m, last) = some (r, tab, g) := by
  obtain ⟨q, rfl⟩ : ∃ q, n = q + 1 := ⟨n - 1, by omega⟩
  refine loop_done ?_
  show table_Read.b7 k t17 r many tab g m last = _
  unfold table_Read.b7 table_Read.j4
  by_cases c : 0 < many
  · rcases h with h | h
    · exact absurd c h
    · rw [if_pos c, h, if_neg (by simp)]
  · rw [if_neg c, if_neg (by simp)]
theorem ef_split {kb vb : List Int} {a : Nat} (hk : bytesR kb) (rest : List Int) : fm kb.length ++ (kb ++ (fm vb.length ++ (vb ++ (fm a ++ rest)))) = ef (bs kb, ⟨vb, (a : Int)⟩) ++ rest := by
  unfold ef
  simp only [bs_size, sb_bs (show brange kb from hk), Int.toNat_natCast, List.append_assoc]
theorem bytesR_ef {l : List Int} {e : Ent} {rest : List Int} (h : bytesR l) (e1 : l = ef e ++ rest) : bytesR rest := by rw [e1] at h; exact (bytesR_app.1 h).2
/-- whatever the bytes are -/
theorem rloop_any {k : Nat} (hk : Fuel k) {R : Nat} (hR : R ≤ 1099511627776) {t17 : Int × Option Rdr} (h17 : t17.1 = (R : Int)) (ou : List (List Int)) : ∀ (q : Nat) (l : List Int) (many : Int) (tab : Option Tab) (L : List Ent) (m : MpV Bool) (last : ByteArray) (n : Nat),
    l.length ≤ q → bytesR l → l.length + L.length < 8000000000 → 0 ≤ many → many < 18446744073709551616 → TabR tab R L → Part R L last m → q + 2 < n →
    ∃ r' tab' g, rloop k t17 n (some ⟨l, ou, 0⟩, many, tab, true, m, last) = some (some r', tab', g) ∧
      (g = true → ∃ M l', l = M.flatMap ef ++ l' ∧ (M.length : Int) = many ∧ r' = ⟨l', ou, 0⟩ ∧ TabR tab' R (L ++ M) ∧ ∃ last' m', Part R (L ++ M) last' m') := by
  intro q
  induction q with
  | zero =>
    intro l many tab L m last n hl hb hs hm0 hm1 hT hP hn
    have : l = [] := List.length_eq_zero_iff.1 (by omega)
    subst this
    by_cases c : 0 < many
    · -- nothing can be read
      have e1 : parcel_Reader_Text.f (some ⟨[], ou, 0⟩) 64 = some ([], some ⟨[], ou, 10⟩) := rfl
      have e2 : parcel_Reader_Text.f (some ⟨[], ou, 10⟩) 256 = some ([], some ⟨[], ou, 10⟩) := rfl
      have e3 : parcel_Reader_Num.f (some ⟨[], ou, 10⟩) = some (0, some ⟨[], ou, 10⟩) := rfl
      obtain ⟨tab', g, m', e, hg, _⟩ := row_eq hk hR hP (by omega) hT h17 (kb := []) (vb := []) (by simp) (by simp) (r1 := some ⟨[], ou, 10⟩) (r2 := some ⟨[], ou, 10⟩) (r3 := some ⟨[], ou, 10⟩) (a := 0) (by omega) (by omega) c hm1 e3
      have hgf : g = false := by
        cases g with
        | false => rfl
        | true => have := (hg.1 rfl).2.1; omega
      obtain ⟨n, rfl⟩ : ∃ p, n = p + 1 := ⟨n - 1, by omega⟩
      refine ⟨⟨[], ou, 10⟩, tab', false, ?_, fun h => by cases h⟩
      show loop _ (n + 1) _ = _
      rw [loop_next (s' := (some ⟨[], ou, 10⟩, many - 1, tab', g, m', bs []))]
      · rw [hgf]; exact rloop_end (Or.inr rfl) (by omega)
      · show table_Read.b7 k t17 _ many tab true m last = _
        unfold table_Read.b7 table_Read.j4
        rw [if_pos c, if_pos rfl, bind_eq e1, bind_eq e2]
        exact e
    · exact ⟨⟨[], ou, 0⟩, tab, true, rloop_end (Or.inl c) (by omega), fun _ => ⟨[], [], rfl, by simp; omega, rfl, by simpa using hT, last, m, by simpa using hP⟩⟩
  | succ q ih =>
    intro l many tab L m last n hl hb hs hm0 hm1 hT hP hn
    by_cases c : 0 < many
    · obtain ⟨n, rfl⟩ : ∃ p, n = p + 1 := ⟨n - 1, by omega⟩
      obtain ⟨kb, r1, e1, h1⟩ := Text_inv l ou hb (by omega) (most := 64) (by omega) (by omega)
      -- the value
      obtain ⟨vb, r2, e2, h2⟩ : ∃ vb r2, parcel_Reader_Text.f (some r1) 256 = some (vb, some r2) ∧
          ((r2.fault = 0 ∧ ∃ l1 rest, r1 = ⟨l1, ou, 0⟩ ∧ l1 = fm vb.length ++ (vb ++ rest) ∧ (vb.length : Int) ≤ 256 ∧ r2 = ⟨rest, ou, 0⟩) ∨ (r2.fault ≠ 0 ∧ vb = [])) := by
        rcases h1 with ⟨f1, rest, hl1, hk1, rfl⟩ | ⟨f1, rfl⟩
        · have hb1 : bytesR rest := by rw [hl1] at hb; exact (bytesR_app.1 (bytesR_app.1 hb).2).2
          have hlen1 : rest.length ≤ l.length := by rw [hl1]; simp only [List.length_append]; omega
          obtain ⟨vb, r2, e2, h2⟩ := Text_inv rest ou hb1 (by omega) (most := 256) (by omega) (by omega)
          refine ⟨vb, r2, e2, ?_⟩
          rcases h2 with ⟨f2, rest2, hl2, hv2, rfl⟩ | ⟨f2, hv⟩
          · exact Or.inl ⟨f2, rest, rest2, rfl, hl2, hv2, rfl⟩
          · exact Or.inr ⟨f2, hv⟩
        · exact ⟨[], r1, Text_fault f1 256, Or.inr ⟨f1, rfl⟩⟩
      obtain ⟨a, r3, e3, h3⟩ : ∃ a r3, parcel_Reader_Num.f (some r2) = some (a, some r3) ∧
          ((r3.fault = 0 ∧ ∃ l2 p rest, r2 = ⟨l2, ou, 0⟩ ∧ a = ((p : Nat) : Int) ∧ p < 2 ^ 64 ∧ l2 = fm p ++ rest ∧ r3 = ⟨rest, ou, 0⟩) ∨ (r3.fault ≠ 0 ∧ a = 0)) := by
        rcases h2 with ⟨f2, l1, rest, hr1, hl2, hv2, rfl⟩ | ⟨f2, rfl⟩
        · have hb1 : bytesR rest := by
            rcases h1 with ⟨f1, rest0, hl1, hk1, hr0⟩ | ⟨f1, -⟩
            · rw [hr1] at hr0; cases hr0
              rw [hl1] at hb
              have := (bytesR_app.1 (bytesR_app.1 hb).2).2
              rw [hl2] at this
              exact (bytesR_app.1 (bytesR_app.1 this).2).2
            · rw [hr1] at f1; exact absurd rfl f1
          obtain ⟨v, r3, e3, h3⟩ := Num_inv rest ou hb1
          refine ⟨v, r3, e3, ?_⟩
          rcases h3 with ⟨f3, p, rest3, hv, hp, hl3, rfl⟩ | ⟨f3, hv⟩
          · exact Or.inl ⟨f3, rest, p, rest3, rfl, hv, hp, hl3, rfl⟩
          · exact Or.inr ⟨f3, hv⟩
        · exact ⟨0, r2, Num_fault f2, Or.inr ⟨f2, rfl⟩⟩
      have hkb : kb.length ≤ 64 := by
        rcases h1 with ⟨_, _, _, hk1, _⟩ | ⟨_, rfl⟩
        · omega
        · simp
      have hvb : vb.length ≤ 256 := by
        rcases h2 with ⟨_, _, _, _, _, hk1, _⟩ | ⟨_, rfl⟩
        · omega
        · simp
      have ha : 0 ≤ a ∧ a < 18446744073709551616 := by
        rcases h3 with ⟨_, _, p, _, _, rfl, hp, _⟩ | ⟨_, rfl⟩
        · omega
        · omega
      obtain ⟨tab', g, m', e, hg, hgo⟩ := row_eq hk hR hP (by omega) hT h17 hkb hvb (r1 := some r1) (r2 := some r2) (r3 := some r3) ha.1 ha.2 c hm1 e3
      have hstep : table_Read.b7 k t17 (some ⟨l, ou, 0⟩) many tab true m last = some (.next (some r3, many - 1, tab', g, m', bs kb)) := by
        unfold table_Read.b7 table_Read.j4
        rw [if_pos c, if_pos rfl, bind_eq e1, bind_eq e2]
        exact e
      have hloop : rloop k t17 (n + 1) (some ⟨l, ou, 0⟩, many, tab, true, m, last) = rloop k t17 n (some r3, many - 1, tab', g, m', bs kb) := loop_next (by exact hstep)
      cases g with
      | false => exact ⟨r3, tab', false, by rw [hloop]; exact rloop_end (Or.inr rfl) (by omega), fun h => by cases h⟩
      | true =>
        have hgt := hg.1 rfl
        obtain ⟨hT', hP'⟩ := hgo rfl
        -- all three were read
        rcases h3 with ⟨f3, l2, p, rest3, hr2, rfl, hp, hl3, rfl⟩ | ⟨f3, rfl⟩
        · rcases h2 with ⟨f2, l1, rest2, hr1, hl2, hv2, hr2'⟩ | ⟨f2, -⟩
          · rw [hr2] at hr2'; cases hr2'
            rcases h1 with ⟨f1, rest1, hl1, hk1, hr1'⟩ | ⟨f1, -⟩
            · rw [hr1] at hr1'; cases hr1'
              have hkr : bytesR kb := by rw [hl1] at hb; exact (bytesR_app.1 (bytesR_app.1 hb).2).1
              have hle : l = ef (bs kb, ⟨vb, (p : Int)⟩) ++ rest3 := by rw [hl1, hl2, hl3, ef_split hkr]
              have hlen3 : rest3.length + 1 ≤ l.length := by
                rw [hle, List.length_append]
                have : 1 ≤ (ef (bs kb, ⟨vb, (p : Int)⟩)).length := by
                  unfold ef; simp only [List.length_append]; have := fm_pos (bs kb).size; omega
                omega
              obtain ⟨r', tab2, g2, e2', h2'⟩ := ih rest3 (many - 1) tab' (L ++ [(bs kb, ⟨vb, (p : Int)⟩)]) m' (bs kb) n (by omega) (bytesR_ef hb hle) (by simp; omega) (by omega) (by omega) hT' hP' (by omega)
              refine ⟨r', tab2, g2, by rw [hloop]; exact e2', fun hg2 => ?_⟩
              obtain ⟨M, l', hl', hM, hr', hT2, last2, m2, hP2⟩ := h2' hg2
              refine ⟨(bs kb, ⟨vb, (p : Int)⟩) :: M, l', ?_, by simp; omega, hr', by simpa using hT2, last2, m2, by simpa using hP2⟩
              rw [hle, hl', List.flatMap_cons, List.append_assoc]
            · rw [hr1] at f1; exact absurd rfl f1
          · rw [hr2] at f2; exact absurd rfl f2
        · exact absurd hgt.2.1 (by omega)
    · exact ⟨⟨l, ou, 0⟩, tab, true, rloop_end (Or.inl c) (by omega), fun _ => ⟨[], l, rfl, by simp; omega, rfl, by simpa using hT, last, m, by simpa using hP⟩⟩
theorem Num_outer {l : List Int} {ou : List (List Int)} {f v : Int} {r' : Rdr} (h : parcel_Reader_Num.f (some ⟨l, ou, f⟩) = some (v, some r')) : r'.outer = ou := by
  unfold parcel_Reader_Num.f at h
  simp only at h
  split at h
  · unfold rtake at h
    split at h
    · simp only [Option.some.injEq, Prod.mk.injEq] at h; rw [← h.2]
    · split at h
      · simp only [Option.some.injEq, Prod.mk.injEq] at h; rw [← h.2]
      · simp only [Option.some.injEq, Prod.mk.injEq] at h; rw [← h.2]
  · simp only [Option.some.injEq, Prod.mk.injEq] at h; rw [← h.2]
theorem Done_eq (l : List Int) (f : Int) : parcel_Reader_Done.f (some ⟨l, [], f⟩) = some (if f = 0 then (if 0 < l.length then 12 else 0) else f) := by
  unfold parcel_Reader_Done.f parcel_Reader_Done.j1
  by_cases c : f = 0
  · by_cases c2 : 0 < l.length
    · simp [c, c2]
    · simp [c, c2]
  · simp [c]
theorem Part.empty (R : Nat) : Part R [] { data := #[] } ⟨fun _ => none, 0⟩ :=
  ⟨List.Pairwise.nil, fun e he => (by cases he), fun e he => (by cases he), Or.inl ⟨rfl, rfl⟩, fun a => by simp, List.nodup_nil, rfl⟩
/-- the rows' revisions are each other's unlike, so there are no more rows than revisions -/
theorem revs_len {R : Nat} {L : List Ent} (hd : (revs L).Nodup) (h : ∀ e ∈ L, 1 ≤ e.2.rev ∧ e.2.rev ≤ (R : Int)) : L.length ≤ R := by
  have := len_sub ((revs L)) ((List.range R).map fun i => ((i + 1 : Nat) : Int)) hd (fun x hx => by
    obtain ⟨e, he, rfl⟩ := List.mem_map.1 hx
    have := h e he
    exact List.mem_map.2 ⟨(e.2.rev - 1).toNat, List.mem_range.2 (by omega), by omega⟩)
  simpa using this
/-- a sound table, as it may be read -/
structure Sound (s : St) : Prop where
  inv : Inv s.1 s.2
  dis : (revs s.1).Nodup
  top : s.2 ≤ 1099511627776
theorem Sound.of {R : Nat} (hR : R ≤ 1099511627776) {L : List Ent} {last : ByteArray} {m : MpV Bool} (h : Part R L last m) : Sound (L, R) :=
  ⟨⟨h.ord, revs_len h.dis (fun e he => (h.ent e he).2.2.2), h.ent⟩, h.dis, hR⟩
theorem TabR.rep {t : Option Tab} {s : St} (h : TabR t s.2 s.1) (hS : Sound s) : RepS t s := by
  obtain ⟨rows, e, hw, hl⟩ := h
  exact ⟨rows, e, hw, hl, hS.inv⟩
theorem new_eq : table_New.f = some (some (Tab.mk .nil 0 0)) := rfl
/-- Read of any bytes: a sound table's form, or none's. -/
theorem read_any {k : Nat} (hk : Fuel k) (p : List Int) (hb : bytesR p) (hl : p.length < 2000000000) :
    ∃ t e, table_Read.f k p = some (t, e) ∧ ((e = 130 ∧ t = none) ∨ (e = 0 ∧ ∃ s, RepS t s ∧ Sound s ∧ p = form s)) := by
  have h24 : 1099511627776 ≤ k := hk
  have e0 : parcel_Read.f p = some (some ⟨p, [], 0⟩) := by unfold parcel_Read.f; rw [if_pos (by omega)]
  obtain ⟨rv, r1, e1, h1⟩ := Num_inv p [] hb
  have fail : ∀ (o : Option Rdr) (tb : Option Tab), table_Read.j8 o tb false = some (none, 130) := fun o tb => by
    unfold table_Read.j8 table_Read.j9; rw [if_neg (by simp), if_pos rfl]
  have failD : ∀ (r : Rdr) (tb : Option Tab), r.fault ≠ 0 → r.outer = [] → table_Read.j8 (some r) tb true = some (none, 130) := fun r tb hf ho => by
    obtain ⟨l, ou, f⟩ := r
    simp only at hf ho
    subst ho
    unfold table_Read.j8
    rw [if_pos rfl, bind_eq (Done_eq l f), if_neg hf]
    unfold table_Read.j9
    rw [if_pos (by simp [hf])]
  unfold table_Read.f
  rw [bind_eq e0, bind_eq e1]
  rcases h1 with ⟨f1, m, rest, rfl, hm, hp, rfl⟩ | ⟨f1, rfl⟩
  · have hb1 : bytesR rest := by rw [hp] at hb; exact (bytesR_app.1 hb).2
    have hlr : rest.length ≤ p.length := by rw [hp, List.length_append]; omega
    obtain ⟨mv, r2, e2, h2⟩ := Num_inv rest [] hb1
    simp only
    rw [bind_eq e2, bind_eq new_eq, Option.bind_some]
    by_cases hg : (m : Int) ≤ 1099511627776
    · have hwm : IntKind.i64.wrap (min (m : Int) 1099511627776) = (m : Int) := by rw [Int.min_eq_left hg, wr (by omega) (by omega)]
      simp only [hwm, decide_eq_true hg]
      rcases h2 with ⟨f2, q, rest2, rfl, hq, hp2, rfl⟩ | ⟨f2, rfl⟩
      · have hb2 : bytesR rest2 := by rw [hp2] at hb1; exact (bytesR_app.1 hb1).2
        have hlr2 : rest2.length ≤ rest.length := by rw [hp2, List.length_append]; omega
        obtain ⟨r', tab', g, e3, h3⟩ := rloop_any hk (R := m) (by omega) (t17 := ((m : Int), some ⟨rest, [], 0⟩)) rfl [] rest2.length rest2 (q : Int) (some ⟨.nil, (m : Int), 0⟩) [] ⟨fun _ => none, 0⟩ { data := #[] } k
          (Nat.le_refl _) hb2 (by simp; omega) (by omega) (by omega) ⟨.nil, rfl, trivial, rfl⟩ (Part.empty m) (by omega)
        rw [bind_eq e3]
        cases g with
        | false => exact ⟨none, 130, fail _ _, Or.inl ⟨rfl, rfl⟩⟩
        | true =>
          obtain ⟨M, l', hl', hM, rfl, hT, last', m', hP⟩ := h3 rfl
          rw [List.nil_append] at hT hP
          unfold table_Read.j8
          simp only [if_true]
          rw [bind_eq (Done_eq l' 0)]
          by_cases hle : 0 < l'.length
          · rw [if_pos rfl, if_pos hle]
            exact ⟨none, 130, rfl, Or.inl ⟨rfl, rfl⟩⟩
          · rw [if_pos rfl, if_neg hle]
            have hl0 : l' = [] := List.length_eq_zero_iff.1 (by omega)
            subst hl0
            have hS : Sound (M, m) := Sound.of (by omega) hP
            refine ⟨tab', 0, rfl, Or.inr ⟨rfl, (M, m), TabR.rep hT hS, hS, ?_⟩⟩
            have hMq : M.length = q := by omega
            rw [hp, hp2, hl', List.append_nil]
            unfold form
            simp only [hMq, List.append_assoc]
      · -- the count isn't read
        obtain ⟨l2, ou2, f2'⟩ := r2
        have hou : ou2 = [] := Num_outer e2
        rw [bind_eq (rloop_end (k := k) (Or.inl (by omega)) (by omega))]
        exact ⟨none, 130, failD _ _ f2 hou, Or.inl ⟨rfl, rfl⟩⟩
    · simp only [decide_eq_false hg]
      rw [bind_eq (rloop_end (k := k) (Or.inr rfl) (by omega))]
      exact ⟨none, 130, fail _ _, Or.inl ⟨rfl, rfl⟩⟩
  · -- the revision isn't read
    have e2 := Num_fault f1
    have hou : r1.outer = [] := Num_outer e1
    simp only
    rw [bind_eq e2, bind_eq new_eq, Option.bind_some]
    simp only
    rw [bind_eq (rloop_end (k := k) (Or.inl (by omega)) (by omega))]
    rw [decide_eq_true (by omega)]
    exact ⟨none, 130, failD _ _ f1 hou, Or.inl ⟨rfl, rfl⟩⟩
end Go.Proofs.Ytcolmmjcdlmcoaa.G
/-! TableWalk. -/
namespace Go.Proofs.Ytcolmmjcdlmcoaa.G
open Go
set_option linter.unusedVariables false
set_option linter.unusedSimpArgs false
theorem bl_snoc : ∀ x : List UInt8, Op.bytesLess x (x ++ [0]) = true
  | [] => rfl
  | a :: x => by simp [Op.bytesLess, bl_snoc x]
theorem bl_gap : ∀ x y : List UInt8, Op.bytesLess x y = true → Op.bytesLess y (x ++ [0]) = false
  | x, [], h => by cases x <;> simp [Op.bytesLess] at h
  | [], b :: y, _ => by
    have : Op.bytesLess y [] = false := by cases y <;> rfl
    simp [Op.bytesLess, this]
  | a :: x, b :: y, h => by
    simp only [Op.bytesLess, Bool.or_eq_true, Bool.and_eq_true, decide_eq_true_eq, beq_iff_eq] at h
    simp only [List.cons_append, Op.bytesLess, Bool.or_eq_false_iff, Bool.and_eq_false_iff, decide_eq_false_iff_not, beq_eq_false_iff_ne]
    simp only [UInt8.lt_iff_toNat_lt] at h ⊢
    rcases h with h | ⟨rfl, h⟩
    · exact ⟨by omega, Or.inl (fun e => by rw [e] at h; omega)⟩
    · exact ⟨by omega, Or.inr (bl_gap x y h)⟩
theorem bs_toList (l : List Int) : (bs l).toList = l.map fun n => UInt8.ofNat n.toNat := by
  rw [ByteArray.toList_eq]; simp [bs]
theorem next_toList (k : ByteArray) : (bs (sb k ++ [0])).toList = k.toList ++ [0] := by
  rw [bs_toList, List.map_append, ByteArray.toList_eq]
  congr 1
  unfold sb
  rw [List.map_map]
  have : ∀ l : List UInt8, l.map ((fun n : Int => UInt8.ofNat n.toNat) ∘ fun b : UInt8 => (b.toNat : Int)) = l := by
    intro l
    induction l with
    | nil => rfl
    | cons a l ih =>
      rw [List.map_cons, ih]
      congr 1
      show UInt8.ofNat ((a.toNat : Int).toNat) = a
      rw [Int.toNat_natCast]
      exact UInt8.ofNat_toNat
  exact this _
theorem above_next {A B : List Ent} {e : Ent} (ho : Ord (A ++ e :: B)) : above (bs (sb e.1 ++ [0])) (A ++ e :: B) = B := by
  obtain ⟨oA, oB, hA, hB⟩ := Ord.split ho
  have h1 : lt e.1 (bs (sb e.1 ++ [0])) = true := by unfold lt; rw [next_toList]; exact bl_snoc _
  have h2 : ∀ y ∈ B, lt y.1 (bs (sb e.1 ++ [0])) = false := fun y hy => by
    have := hB y hy
    unfold lt at this ⊢
    rw [next_toList]; exact bl_gap _ _ this
  unfold above
  rw [List.filter_append, List.filter_cons, if_neg (by simp [h1])]
  have e1 : A.filter (fun y => !lt y.1 (bs (sb e.1 ++ [0]))) = [] := by
    rw [List.filter_eq_nil_iff]
    intro y hy
    simp [lt_tr (hA y hy) h1]
  have e2 : B.filter (fun y => !lt y.1 (bs (sb e.1 ++ [0]))) = B := by
    rw [List.filter_eq_self]
    intro y hy
    simp [h2 y hy]
  rw [e1, e2]; rfl
theorem above_empty (L : List Ent) : above (bs []) L = L := by
  unfold above
  rw [List.filter_eq_self]
  intro y hy
  have : lt y.1 (bs []) = false := by
    unfold lt
    rw [bs_toList]
    cases y.1.toList <;> rfl
  simp [this]
theorem TableWalk_true {k : Nat} (hk : Fuel k) (ops : List api_Op) (hn : ops.length < 3000000) : haulagelaw13_TableWalk.f k ops = some true := by
  have h24 : 1099511627776 ≤ k := hk
  obtain ⟨t, et, Rt⟩ := made_eq hk ops (by omega)
  have hr : (run ([], 0) ops).2 < 3000000 := run_lt (by omega)
  generalize run ([], 0) ops = s at Rt hr
  have hI : Inv s.1 s.2 := by obtain ⟨rows, _, _, _, hI⟩ := Rt; exact hI
  have hlen := hI.len
  unfold haulagelaw13_TableWalk.f
  rw [bind_eq (awake_eq hk), if_pos rfl, bind_eq et, bind_eq (Rows_eq (by omega) Rt)]
  have hml : (s.1.map rowOf).length = s.1.length := by simp
  have seek : ∀ (fr : List Int) (i : Nat), fr.length ≤ 65 → above (bs fr) s.1 = s.1.drop i → act s.1 s.2 (api_Op.mk 5 fr [] 0) = ((match s.1.drop i with | [] => told s.2 .empty none | (k, v) :: _ => told s.2 k (some v)), 0, s.1, s.2) := by
    intro fr i hf ha
    unfold act
    have hR : right (api_Op.mk 5 fr [] 0) = true := by simp [right]; exact hf
    rw [if_neg (by rw [hR]; simp), if_pos rfl, ha]
    generalize s.1.drop i = D
    cases D <;> rfl
  have L := loop_inv (f := fun (s_ : (Option Tab) × (List Int) × Int) => haulagelaw13_TableWalk.b3 k (s.1.map rowOf) s_.1 s_.2.1 s_.2.2)
    (I := fun i q => q.2.2 = (i : Int) ∧ RepS q.1 s ∧ q.2.1.length ≤ 65 ∧ above (bs q.2.1) s.1 = s.1.drop i)
    (P := fun x => x = Sum.inr true) (N := s.1.length) ?_ ?_ s.1.length 0 (t, [], 0) k ⟨rfl, Rt, by simp, above_empty _⟩ (by omega) (by omega)
  · obtain ⟨x, ex, rfl⟩ := L
    rw [bind_eq ex]
  · rintro i ⟨u, fr, j⟩ hi ⟨rfl, r1, h1, h2⟩
    left
    simp only at r1 h1 h2
    obtain ⟨u', eu, ru⟩ := do_step hk (by omega) r1 (api_Op.mk 5 fr [] 0)
    have hd : s.1.drop i = s.1[i] :: s.1.drop (i + 1) := List.drop_eq_getElem_cons hi
    have hE := hI.ent _ (List.getElem_mem hi)
    have hact := seek fr i h1 h2
    have hsplit : s.1 = s.1.take i ++ s.1[i] :: s.1.drop (i + 1) := by rw [← hd, List.take_append_drop]
    have hnext : above (bs (sb s.1[i].1 ++ [0])) s.1 = s.1.drop (i + 1) := by
      have ho := hI.ord
      generalize s.1[i] = e at hsplit ⊢
      generalize s.1.drop (i + 1) = B at hsplit ⊢
      generalize s.1.take i = A at hsplit
      rw [hsplit] at ho ⊢
      exact above_next ho
    have hrow : rd (s.1.map rowOf) (i : Int) = rowOf s.1[i] := by rw [rd_eq (by simpa using hi)]; simp
    rw [hd] at hact
    unfold stepS at ru
    rw [hact] at eu ru
    have ru' : RepS u' s := ru
    generalize s.1[i] = e at hact hnext hrow hE eu
    obtain ⟨ek, ev⟩ := e
    have hsl := sb_len ek
    simp only at hE eu hnext
    show ∃ s', haulagelaw13_TableWalk.b3 k (s.1.map rowOf) u fr (i : Int) = _ ∧ _
    unfold haulagelaw13_TableWalk.b3
    rw [if_pos (by omega), bind_eq eu, if_pos rfl, bind_eq (Rev_eq ru')]
    rw [if_pos (by rfl)]
    unfold haulagelaw13_TableWalk.j2
    rw [hml, decide_eq_true (show (i : Int) < (s.1.length : Int) by omega)]
    rw [if_neg (by simp [told]), if_neg (by omega), if_pos (by omega), hrow]
    have hsame : haulagelaw13_sameRow.f k (api_Row.mk (sb ek) ev.value ev.rev) (rowOf (ek, ev)) = some true := by
      rw [sameRow_eq hk _ _ (Or.inl (by show (sb ek).length < _; omega)) (Or.inl (by show ev.value.length < _; omega))]
      simp [rowOf]
    show ∃ s', (haulagelaw13_sameRow.f k (api_Row.mk (sb ek) ev.value ev.rev) (rowOf (ek, ev))).bind _ = _ ∧ _
    rw [bind_eq hsame, if_pos rfl]
    rw [if_pos (by show (sb ek).length * 1 ≤ _; omega), if_pos (by show ((([] : List Int) ++ sb ek).length + 1) * 1 ≤ 140737488355328; rw [List.nil_append]; omega), wrS i (by omega)]
    exact ⟨_, rfl, rfl, ru', by show ((([] : List Int) ++ sb ek) ++ [0]).length ≤ 65; simp; omega, hnext⟩
  · rintro ⟨u, fr, j⟩ ⟨rfl, r1, h1, h2⟩
    simp only at r1 h1 h2
    obtain ⟨u', eu, ru⟩ := do_step hk (by omega) r1 (api_Op.mk 5 fr [] 0)
    have hact := seek fr s.1.length h1 h2
    rw [List.drop_of_length_le (Nat.le_refl _)] at hact
    unfold stepS at ru
    rw [hact] at eu ru
    have ru' : RepS u' s := ru
    refine ⟨_, ?_, rfl⟩
    show haulagelaw13_TableWalk.b3 k (s.1.map rowOf) u fr ((s.1.length : Nat) : Int) = _
    unfold haulagelaw13_TableWalk.b3
    rw [if_pos (by omega), bind_eq eu, if_pos rfl, bind_eq (Rev_eq ru'), if_pos (by rfl)]
    unfold haulagelaw13_TableWalk.j2
    rw [hml, decide_eq_false (show ¬ ((s.1.length : Int) < (s.1.length : Int)) by omega)]
    rw [if_neg (by simp [told]), if_pos rfl, if_pos (by rfl), if_pos (by rfl)]
    rfl
end Go.Proofs.Ytcolmmjcdlmcoaa.G
/-! Read of a form, and of one with more behind it; TableForm. -/
namespace Go.Proofs.Ytcolmmjcdlmcoaa.G
open Go
set_option linter.unusedVariables false
set_option linter.unusedSimpArgs false
theorem bs_sb (k : ByteArray) : bs (sb k) = k := by
  apply toList_inj
  rw [bs_toList, ByteArray.toList_eq]
  unfold sb
  rw [List.map_map]
  have : ∀ l : List UInt8, l.map ((fun n : Int => UInt8.ofNat n.toNat) ∘ fun b : UInt8 => (b.toNat : Int)) = l := by
    intro l
    induction l with
    | nil => rfl
    | cons a l ih =>
      rw [List.map_cons, ih]
      congr 1
      show UInt8.ofNat ((a.toNat : Int).toNat) = a
      rw [Int.toNat_natCast]
      exact UInt8.ofNat_toNat
  exact this _
theorem ef_flat (e : Ent) (rest : List Int) : ef e ++ rest = fm (sb e.1).length ++ (sb e.1 ++ (fm e.2.value.length ++ (e.2.value ++ (fm e.2.rev.toNat ++ rest)))) := by
  unfold ef
  rw [sb_len]
  simp only [List.append_assoc]
theorem ef_pos (e : Ent) : 1 ≤ (ef e).length := by
  unfold ef; simp only [List.length_append]; have := fm_pos e.1.size; omega
theorem flat_pos : ∀ L : List Ent, L.length ≤ (L.flatMap ef).length
  | [] => Nat.le_refl _
  | e :: L => by rw [List.flatMap_cons, List.length_append, List.length_cons]; have := flat_pos L; have := ef_pos e; omega
theorem form_len (s : St) : s.1.length ≤ (form s).length := by
  unfold form; simp only [List.length_append]; have := flat_pos s.1; omega
theorem rloop_fwd {k : Nat} (hk : Fuel k) {R : Nat} (hR : R ≤ 1099511627776) {t17 : Int × Option Rdr} (h17 : t17.1 = (R : Int)) (ou : List (List Int)) (y : List Int) : ∀ (M : List Ent) (tab : Option Tab) (L : List Ent) (m : MpV Bool) (last : ByteArray) (n : Nat),
    (M.flatMap ef ++ y).length + L.length < 8000000000 → TabR tab R L → Part R L last m → Ord (L ++ M) → (revs (L ++ M)).Nodup →
    (∀ e ∈ M, 1 ≤ e.1.size ∧ e.1.size ≤ 64 ∧ e.2.value.length ≤ 256 ∧ 1 ≤ e.2.rev ∧ e.2.rev ≤ (R : Int)) → M.length < n →
    ∃ tab', rloop k t17 n (some ⟨M.flatMap ef ++ y, ou, 0⟩, (M.length : Int), tab, true, m, last) = some (some ⟨y, ou, 0⟩, tab', true) ∧ TabR tab' R (L ++ M)
  | [], tab, L, m, last, n, _, hT, _, _, _, _, hn => ⟨tab, rloop_end (Or.inl (by simp)) hn, by simpa using hT⟩
  | e :: M, tab, L, m, last, n, hs, hT, hP, ho, hd, hE, hn => by
    obtain ⟨n, rfl⟩ : ∃ p, n = p + 1 := ⟨n - 1, by omega⟩
    obtain ⟨key, v, a⟩ := e
    obtain ⟨e1, e2, e3, e4, e5⟩ := hE (key, ⟨v, a⟩) (by simp)
    simp only at e1 e2 e3 e4 e5
    have hML : M.length ≤ (M.flatMap ef).length := flat_pos M
    have hlen : (((key, (⟨v, a⟩ : table_cell)) :: M).flatMap ef ++ y).length = (ef (key, ⟨v, a⟩)).length + ((M.flatMap ef).length + y.length) := by
      rw [List.flatMap_cons]; simp only [List.length_append]; omega
    rw [hlen] at hs
    have hflat : ((key, (⟨v, a⟩ : table_cell)) :: M).flatMap ef ++ y = fm (sb key).length ++ (sb key ++ (fm v.length ++ (v ++ (fm a.toNat ++ (M.flatMap ef ++ y))))) := by
      rw [List.flatMap_cons, List.append_assoc, ef_flat]
    have hall : (fm (sb key).length ++ (sb key ++ (fm v.length ++ (v ++ (fm a.toNat ++ (M.flatMap ef ++ y)))))).length < 8000000000 := by
      rw [← hflat, hlen]; omega
    simp only [List.length_append] at hall
    have hks : (sb key).length = key.size := sb_len key
    have t1 := Text_fwd (v := sb key) (most := 64) (by omega) (by omega) (by omega) (fm v.length ++ (v ++ (fm a.toNat ++ (M.flatMap ef ++ y)))) (by simp only [List.length_append]; omega) ou
    have t2 := Text_fwd (v := v) (most := 256) (by omega) (by omega) (by omega) (fm a.toNat ++ (M.flatMap ef ++ y)) (by simp only [List.length_append]; omega) ou
    have t3 := Num_fwd (m := a.toNat) (by omega) (M.flatMap ef ++ y) ou
    have ha : ((a.toNat : Nat) : Int) = a := by omega
    rw [ha] at t3
    have hmany : ((((key, (⟨v, a⟩ : table_cell)) :: M).length : Nat) : Int) = (M.length : Int) + 1 := by simp
    obtain ⟨tab', g, m', e, hg, hgo⟩ := row_eq hk hR hP (by omega) hT h17 (kb := sb key) (vb := v) (by omega) e3 (r1 := some ⟨fm v.length ++ (v ++ (fm a.toNat ++ (M.flatMap ef ++ y))), ou, 0⟩) (r2 := some ⟨fm a.toNat ++ (M.flatMap ef ++ y), ou, 0⟩) (r3 := some ⟨M.flatMap ef ++ y, ou, 0⟩) (a := a) (by omega) (by omega) (many := (M.length : Int) + 1) (by omega) (by omega) t3
    rw [bs_sb] at e hg hgo
    have hord : ∀ x ∈ L, lt x.1 key = true := fun x hx => by
      unfold Ord at ho
      rw [List.pairwise_append] at ho
      exact ho.2.2 x hx (key, ⟨v, a⟩) (by simp)
    have hlt : lt last key = true := by
      rcases hP.top with ⟨_, q⟩ | ⟨x, hx, q⟩
      · rw [q]; exact lt_empty e1
      · rw [← q]; exact hord x hx
    have hnot : a ∉ revs L := by
      unfold revs at hd ⊢
      rw [List.map_append, List.nodup_append] at hd
      intro q
      exact hd.2.2 a q a (by simp) rfl
    have hgt : g = true := hg.2 ⟨hlt, by omega, e5, hnot⟩
    subst hgt
    obtain ⟨hT', hP'⟩ := hgo rfl
    obtain ⟨tab2, e', hT2⟩ := rloop_fwd hk hR h17 ou y M tab' (L ++ [(key, ⟨v, a⟩)]) m' key n (by simp only [List.length_append, List.length_singleton]; have := ef_pos (key, (⟨v, a⟩ : table_cell)); omega) hT' hP' (by simpa using ho) (by simpa using hd) (fun x hx => hE x (by simp [hx])) (by simp at hn; omega)
    refine ⟨tab2, ?_, by simpa using hT2⟩
    have hstep : table_Read.b7 k t17 (some ⟨((key, (⟨v, a⟩ : table_cell)) :: M).flatMap ef ++ y, ou, 0⟩) ((((key, (⟨v, a⟩ : table_cell)) :: M).length : Nat) : Int) tab true m last = some (.next (some ⟨M.flatMap ef ++ y, ou, 0⟩, (M.length : Int), tab', true, m', key)) := by
      rw [hflat, hmany]
      unfold table_Read.b7 table_Read.j4
      rw [if_pos (by omega), if_pos rfl, bind_eq t1, bind_eq t2]
      rw [show (M.length : Int) + 1 - 1 = (M.length : Int) by omega] at e
      exact e
    exact (loop_next (by exact hstep)).trans e'
/-- Read of a form with more behind it -/
theorem read_fwd {k : Nat} (hk : Fuel k) {s : St} (hS : Sound s) (y : List Int) (hl : (form s ++ y).length < 4000000000) :
    ∃ t, table_Read.f k (form s ++ y) = some (if y = [] then (t, 0) else (none, 130)) ∧ RepS t s := by
  have h24 : 1099511627776 ≤ k := hk
  have hR := hS.top
  have hflen := form_len s
  rw [List.length_append] at hl
  have hp : form s ++ y = fm s.2 ++ (fm s.1.length ++ (s.1.flatMap ef ++ y)) := by unfold form; simp only [List.append_assoc]
  have hlen2 : (s.1.flatMap ef ++ y).length ≤ (form s ++ y).length := by rw [hp]; simp only [List.length_append]; omega
  rw [show (form s ++ y).length = (form s).length + y.length from List.length_append] at hlen2
  have e0 : parcel_Read.f (form s ++ y) = some (some ⟨fm s.2 ++ (fm s.1.length ++ (s.1.flatMap ef ++ y)), [], 0⟩) := by
    unfold parcel_Read.f; rw [if_pos (by rw [List.length_append]; omega), hp]
  have e1 := Num_fwd (m := s.2) (by omega) (fm s.1.length ++ (s.1.flatMap ef ++ y)) []
  have e2 := Num_fwd (m := s.1.length) (by omega) (s.1.flatMap ef ++ y) []
  obtain ⟨tab', e3, hT⟩ := rloop_fwd hk hR (t17 := ((s.2 : Int), some ⟨fm s.1.length ++ (s.1.flatMap ef ++ y), [], 0⟩)) rfl [] y s.1 (some ⟨.nil, (s.2 : Int), 0⟩) [] ⟨fun _ => none, 0⟩ { data := #[] } k
    (by simp only [List.length_nil]; omega) ⟨.nil, rfl, trivial, rfl⟩ (Part.empty s.2) (by simpa using hS.inv.ord) (by simpa using hS.dis) hS.inv.ent (by omega)
  rw [List.nil_append] at hT
  refine ⟨tab', ?_, TabR.rep hT hS⟩
  unfold table_Read.f
  rw [bind_eq e0, bind_eq e1]
  simp only
  rw [bind_eq e2, bind_eq new_eq, Option.bind_some]
  have hwm : IntKind.i64.wrap (min (s.2 : Int) 1099511627776) = (s.2 : Int) := by rw [Int.min_eq_left (by omega), wr (by omega) (by omega)]
  simp only [hwm, decide_eq_true (show (s.2 : Int) ≤ 1099511627776 by omega)]
  rw [bind_eq e3]
  unfold table_Read.j8
  simp only [if_true]
  rw [bind_eq (Done_eq y 0)]
  by_cases hy : y = []
  · subst hy
    rfl
  · have hp : 0 < y.length := by
      rcases Nat.eq_zero_or_pos y.length with q | q
      · exact absurd (List.length_eq_zero_iff.1 q) hy
      · exact q
    rw [if_neg hy, if_pos rfl, if_pos hp]
    rfl
theorem form_size (s : St) : ((form s).length : Int) = nm s.2 + nm s.1.length + sz s.1 := by
  have h := flat_len s.1
  unfold form
  simp only [List.length_append, fm_len]
  omega
/-! ### TableForm -/
theorem comes_rows {k : Nat} (hk : Fuel k) {s : St} (hI : Inv s.1 s.2) {i : Nat} (hi : i + 1 < s.1.length) : haulagelaw13_comes.f k (rowOf s.1[i]).Key (rowOf s.1[i + 1]).Key = some true := by
  have hE := hI.ent _ (List.getElem_mem (show i < s.1.length by omega))
  have hlt : lt s.1[i].1 s.1[i + 1].1 = true := by
    have := hI.ord
    unfold Ord at this
    rw [List.pairwise_iff_getElem] at this
    exact this i (i + 1) (by omega) hi (by omega)
  have hcm : cm (sb s.1[i].1) (sb s.1[i + 1].1) = true := by
    unfold lt at hlt
    rw [ByteArray.toList_eq, ByteArray.toList_eq] at hlt
    unfold sb
    rw [cm_bl]; exact hlt
  show haulagelaw13_comes.f k (sb s.1[i].1) (sb s.1[i + 1].1) = some true
  rw [comes_eq hk _ _ (by rw [sb_len]; omega), hcm]
theorem TableForm_true {k : Nat} (hk : Fuel k) (p : List Int) (hb : bytesR p) (hl : p.length < 3000000) : haulagelaw13_TableForm.f k p = some true := by
  have h24 : 1099511627776 ≤ k := hk
  obtain ⟨t, e, er, hc⟩ := read_any hk p hb (by omega)
  unfold haulagelaw13_TableForm.f
  rw [bind_eq (awake_eq hk), if_pos rfl, bind_eq er]
  rcases hc with ⟨rfl, rfl⟩ | ⟨rfl, s, hT, hS, hp⟩
  · rw [if_neg (by simp)]
    unfold haulagelaw13_TableForm.j1
    rw [if_pos rfl, if_pos rfl]
    rfl
  · have hI := hS.inv
    have hll : s.1.length < 3000000 := by have := form_len s; rw [← hp] at this; omega
    have htop := hS.top
    have hml : (s.1.map rowOf).length = s.1.length := by simp
    rw [if_pos rfl]
    have hns : Option.isNone t = false := by obtain ⟨rows, rfl, _⟩ := hT; rfl
    unfold haulagelaw13_TableForm.j1
    rw [hns, if_neg (by simp)]
    simp only
    rw [bind_eq (Rows_eq0 (by omega) hT)]
    have rowAt : ∀ i (h : i < s.1.length), rd (s.1.map rowOf) (i : Int) = rowOf s.1[i] := fun i h => by rw [rd_eq (by simpa using h)]; simp
    have L := loop_inv (f := fun (s_ : Int) => haulagelaw13_TableForm.b5 k (t, 0) (s.1.map rowOf) s_) (I := fun i q => q = (i : Int)) (P := fun x => x = Sum.inl ()) (N := s.1.length) ?_ ?_ s.1.length 0 0 k rfl (by omega) (by omega)
    · obtain ⟨x, ex, rfl⟩ := L
      rw [bind_eq ex]
      show haulagelaw13_TableForm.j6 k p (t, 0) = some true
      unfold haulagelaw13_TableForm.j6
      simp only
      rw [bind_eq (bytes_eq0 hk (by omega) htop hT), bind_eq (same_eq hk _ _ (Or.inr (by omega))), if_pos (by simp [← hp]), bind_eq (size_eq0 hk (by omega) htop hT), if_pos (by rw [hp, form_size]), bind_eq (Rev_eq hT)]
      simp; omega
    · rintro i q hi rfl
      left
      have hE := hI.ent _ (List.getElem_mem hi)
      have hsl : (rowOf s.1[i]).Key.length = s.1[i].1.size := sb_len _
      refine ⟨((i + 1 : Nat) : Int), ?_, rfl⟩
      have j2 : haulagelaw13_TableForm.j2 k (s.1.map rowOf) (i : Int) false = some (.next ((i + 1 : Nat) : Int)) := by
        unfold haulagelaw13_TableForm.j2
        rw [if_neg (by simp)]
        have L2 := loop_inv (f := fun (s_ : Int) => haulagelaw13_TableForm.b3 (s.1.map rowOf) (i : Int) s_) (I := fun j q => q = (j : Int)) (P := fun x => x = Sum.inl ()) (N := i) ?_ ?_ i 0 0 k rfl (by omega) (by omega)
        · obtain ⟨x, ex, rfl⟩ := L2
          rw [bind_eq ex]
          show haulagelaw13_TableForm.j4 (i : Int) = _
          unfold haulagelaw13_TableForm.j4
          rw [wrS i (by omega)]
        · rintro j q hj rfl
          left
          refine ⟨((j + 1 : Nat) : Int), ?_, rfl⟩
          have hjl : j < s.1.length := by omega
          have hne : ¬ (rowOf s.1[j]).Rev = (rowOf s.1[i]).Rev := by
            have hd := hS.dis
            unfold revs List.Nodup at hd
            rw [List.pairwise_map, List.pairwise_iff_getElem] at hd
            exact hd j i hjl hi hj
          show haulagelaw13_TableForm.b3 (s.1.map rowOf) (i : Int) (j : Int) = _
          unfold haulagelaw13_TableForm.b3
          rw [if_pos (by omega), if_pos (by omega), rowAt j hjl, rowAt i hi, if_neg hne, wrS j (by omega)]
        · rintro q rfl
          refine ⟨_, ?_, rfl⟩
          show haulagelaw13_TableForm.b3 (s.1.map rowOf) (i : Int) (i : Int) = _
          unfold haulagelaw13_TableForm.b3
          rw [if_neg (by omega)]
      show haulagelaw13_TableForm.b5 k (t, 0) (s.1.map rowOf) (i : Int) = _
      unfold haulagelaw13_TableForm.b5
      rw [if_pos (by omega), if_pos (by omega), rowAt i hi, if_neg (by omega), if_neg (by omega), if_neg (by show ¬ 256 < (s.1[i].2.value.length : Int); omega), if_neg (by show ¬ s.1[i].2.rev < 1; omega)]
      simp only
      rw [bind_eq (Rev_eq hT), if_neg (by show ¬ (s.2 : Int) < s.1[i].2.rev; omega)]
      by_cases h0 : 0 < i
      · have ew : IntKind.i64.wrap ((i : Int) - 1) = ((i - 1 : Nat) : Int) := by rw [wr (by omega) (by omega)]; omega
        rw [if_pos (by omega), ew, if_pos (by omega), rowAt (i - 1) (by omega)]
        have hcc := comes_rows hk hI (i := i - 1) (by omega)
        simp only [show i - 1 + 1 = i by omega] at hcc
        rw [bind_eq hcc]
        exact j2
      · rw [if_neg (by omega)]
        exact j2
    · rintro q rfl
      refine ⟨_, ?_, rfl⟩
      show haulagelaw13_TableForm.b5 k (t, 0) (s.1.map rowOf) ((s.1.length : Nat) : Int) = _
      unfold haulagelaw13_TableForm.b5
      rw [if_neg (by omega)]
end Go.Proofs.Ytcolmmjcdlmcoaa.G
/-! TablePlace. -/
namespace Go.Proofs.Ytcolmmjcdlmcoaa.G
open Go
set_option linter.unusedVariables false
set_option linter.unusedSimpArgs false
theorem act_wrong {L : List Ent} {r : Nat} {o : api_Op} (h : right o = false) : act L r o = (zeroA, 131, L, r) := by
  unfold act; rw [if_pos h]
theorem told_At (r : Int) (k : ByteArray) (q : Option table_cell) : (told r k q).At = r := by cases q <;> rfl
theorem act_write {L : List Ent} {r : Nat} {o : api_Op} (h : right o = true) (hw : isW o = true) : (act L r o).1.At = (r : Int) + 1 ∧ (act L r o).2.1 = 0 ∧ (act L r o).2.2.2 = r + 1 := by
  have hkind : o.Kind ≠ 5 ∧ o.Kind ≠ 1 := by
    unfold isW at hw
    simp at hw
    omega
  unfold act
  rw [if_neg (by simp [h]), if_neg hkind.1, if_neg hkind.2]
  split
  · exact ⟨told_At .., rfl, rfl⟩
  · split
    · exact ⟨told_At .., rfl, rfl⟩
    · exact ⟨told_At .., rfl, rfl⟩
theorem act_read {L : List Ent} {r : Nat} {o : api_Op} (h : right o = true) (hw : isW o = false) : (act L r o).1.At = (r : Int) ∧ (act L r o).2.1 = 0 ∧ (act L r o).2.2 = (L, r) := by
  have hkind := (right_key h).2.2.2
  unfold isW at hw
  simp at hw
  unfold act
  rw [if_neg (by simp [h])]
  split
  · refine ⟨?_, rfl, rfl⟩
    cases above (bs o.Key) L <;> exact told_At ..
  · rw [if_pos (by omega)]
    exact ⟨told_At .., rfl, rfl⟩
theorem told_short {L : List Ent} {n : Nat} (hI : Inv L n) {r : Int} {K : ByteArray} (hK : K.size ≤ 65) : (told r K (look K L)).Key.length ≤ 65 ∧ (told r K (look K L)).Value.length ≤ 256 := by
  cases h : look K L with
  | none => simp [told]
  | some c => have := hI.look h; exact ⟨by show (sb K).length ≤ 65; rw [sb_len]; omega, this.2.2.1⟩
theorem act_short {L : List Ent} {r : Nat} {o : api_Op} (hI : Inv L r) : (act L r o).1.Key.length ≤ 65 ∧ (act L r o).1.Value.length ≤ 256 := by
  by_cases hR : right o = true
  · have hk : (bs o.Key).size ≤ 65 := by rw [bs_size]; exact (right_key hR).1
    unfold act
    rw [if_neg (by simp [hR])]
    split
    · cases hA : above (bs o.Key) L with
      | nil => simp [told]
      | cons e M =>
        have := hI.ent e (above_mem hA)
        exact ⟨by show (sb e.1).length ≤ 65; rw [sb_len]; omega, this.2.2.1⟩
    · split
      · exact told_short hI hk
      · split
        · exact told_short hI hk
        · split
          · exact told_short (r := (r : Int) + 1) hI hk
          · exact told_short (r := (r : Int) + 1) hI hk
  · rw [act_wrong (by simpa using hR)]; simp [zeroA]
theorem round_eq {a : Int} {n : Nat} (hn : 0 < n) (hb : n < 4000000) : ∃ i, i < n ∧ haulagelaw13_round.f a (n : Int) = some ((i : Nat) : Int) := by
  unfold haulagelaw13_round.f
  rw [if_pos (by omega)]
  have h1 : Int.tmod a n < n := Int.tmod_lt_of_pos a (by omega)
  have h2 : -(n : Int) < Int.tmod a n := by
    have := Int.neg_tmod a n
    have h3 : Int.tmod (-a) n < n := Int.tmod_lt_of_pos (-a) (by omega)
    omega
  by_cases c : Int.tmod a n < 0
  · rw [if_pos c, wr (by omega) (by omega)]
    exact ⟨(Int.tmod a n + n).toNat, by omega, by congr 1; omega⟩
  · rw [if_neg c]
    exact ⟨(Int.tmod a n).toNat, by omega, by congr 1; omega⟩
def Told (done : List api_Op) (a : api_Answer) (o : api_Op) : Prop :=
  right o = true ∧ ∃ m : Nat, m ≤ done.length ∧ a.At = (if isW o = true then (m : Int) + 1 else (m : Int)) ∧ (act (run ([], 0) (done.take m)).1 (run ([], 0) (done.take m)).2 o).1 = a ∧ a.Key.length ≤ 65 ∧ a.Value.length ≤ 256
theorem Told.more {done : List api_Op} {a : api_Answer} {o p : api_Op} (h : Told done a o) : Told (done ++ [p]) a o := by
  obtain ⟨h1, m, h2, h3, h4, h5⟩ := h
  refine ⟨h1, m, by simp; omega, h3, ?_, h5⟩
  rw [List.take_append_of_le_length h2]; exact h4
structure Pl (i : Nat) (s : St) (done : List api_Op) (answers : List api_Answer) (asked : List api_Op) : Prop where
  same : run ([], 0) done = s
  rev : s.2 = done.length
  len : done.length ≤ asked.length
  le : asked.length ≤ i
  two : answers.length = asked.length
  all : ∀ j (h : j < asked.length) (h' : j < answers.length), Told done answers[j] asked[j]
theorem TablePlace_true {k : Nat} (hk : Fuel k) (ops : List api_Op) (which : Int) (hn : ops.length < 3000000) : haulagelaw13_TablePlace.f k ops which = some true := by
  have h24 : 1099511627776 ≤ k := hk
  obtain ⟨t, et, Rt⟩ := new_rep
  unfold haulagelaw13_TablePlace.f
  rw [bind_eq (awake_eq hk), if_pos rfl, bind_eq et]
  have L := loop_inv (f := fun (s_ : (Option Tab) × (List api_Op) × (List api_Answer) × (List api_Op) × Int) => haulagelaw13_TablePlace.b7 k ops s_.1 s_.2.1 s_.2.2.1 s_.2.2.2.1 s_.2.2.2.2)
    (I := fun i s => s.2.2.2.2 = (i : Int) ∧ RepS s.1 (run ([], 0) (ops.take i)) ∧ Pl i (run ([], 0) (ops.take i)) s.2.1 s.2.2.1 s.2.2.2.1)
    (P := fun x => ∃ y, x = Sum.inl y ∧ RepS y.1 (run ([], 0) ops) ∧ Pl ops.length (run ([], 0) ops) y.2.1 y.2.2.1 y.2.2.2) (N := ops.length) ?_ ?_ ops.length 0 (t, [], [], [], 0) k
      ⟨rfl, Rt, ⟨rfl, rfl, Nat.le_refl _, Nat.le_refl _, rfl, fun j h => by simp at h⟩⟩ (by omega) (by omega)
  · obtain ⟨x, ex, ⟨u, done, answers, asked⟩, rfl, Ru, hP⟩ := L
    rw [bind_eq ex]
    simp only at Ru hP ⊢
    unfold haulagelaw13_TablePlace.j8
    have hle := hP.le; have hdl := hP.len; have htwo := hP.two
    by_cases c0 : asked.length = 0
    · rw [if_pos (by omega), bind_eq (Len_eq Ru)]
      have : done = [] := List.length_eq_zero_iff.1 (by omega)
      have hs := hP.same
      rw [this] at hs
      rw [← hs]
      rfl
    · rw [if_neg (by omega)]
      obtain ⟨i, hi, er⟩ := round_eq (a := which) (n := asked.length) (by omega) (by omega)
      rw [bind_eq er, if_pos (by omega), if_pos (by omega), rd_eq hi, bind_eq (writes_eq' _), rd_eq (show i < answers.length by omega)]
      obtain ⟨hR, m, hm, hAt, hact, hl1, hl2⟩ := hP.all i hi (by omega)
      generalize hoo : asked[i] = o at hR hAt hact
      generalize haa : answers[i]'(by omega) = a at hAt hact hl1 hl2
      have fin : haulagelaw13_TablePlace.j9 k done answers asked (i : Int) (m : Int) = some true := by
        unfold haulagelaw13_TablePlace.j9
        rw [if_pos (by omega), Int.toNat_natCast]
        obtain ⟨v, ev, Rv⟩ := made_eq hk (done.take m) (by rw [List.length_take]; omega)
        have hr : (run ([], 0) (done.take m)).2 < 3000000 := run_lt (by rw [List.length_take]; omega)
        obtain ⟨v', ev', Rv'⟩ := do_step hk (by omega) Rv o
        rw [bind_eq ev, if_pos (by omega), rd_eq hi, hoo, bind_eq ev']
        have he : (act (run ([], 0) (done.take m)).1 (run ([], 0) (done.take m)).2 o).2.1 = 0 := by
          by_cases hw : isW o = true
          · exact (act_write hR hw).2.1
          · exact (act_read hR (by simpa using hw)).2.1
        rw [if_pos he, if_pos (by omega), rd_eq (show i < answers.length by omega), haa, hact, bind_eq (sameAnswer_eq hk _ _ (Or.inl (by omega)) (Or.inl (by omega)))]
        simp
      by_cases hw : isW o = true
      · rw [if_pos hw, hAt, if_pos hw, wr (by omega) (by omega), show (m : Int) + 1 - 1 = (m : Int) by omega]
        exact fin
      · rw [if_neg hw, hAt, if_neg hw]
        exact fin
  · rintro i ⟨u, done, answers, asked, j⟩ hi ⟨rfl, r1, hP⟩
    left
    simp only at r1 hP
    have hlt : (run ([], 0) (ops.take i)).2 < 4000000 := run_lt (by rw [List.length_take]; omega)
    obtain ⟨u', eu, ru⟩ := do_step hk (by omega) r1 ops[i]
    have htk : run ([], 0) (ops.take (i + 1)) = stepS (run ([], 0) (ops.take i)) ops[i] := by rw [take_one hi, run_snoc]
    rw [htk]
    generalize hss : run ([], 0) (ops.take i) = s at r1 hP ru eu hlt
    have hI : Inv s.1 s.2 := by obtain ⟨rows, _, _, _, hI⟩ := r1; exact hI
    generalize ho : ops[i] = o at eu ru
    have hrd : rd ops (i : Int) = o := by rw [rd_eq hi, ho]
    have hle := hP.le; have hdl := hP.len; have htwo := hP.two
    have hsh := act_short (o := o) hI
    show ∃ s', haulagelaw13_TablePlace.b7 k ops u done answers asked (i : Int) = _ ∧ _
    unfold haulagelaw13_TablePlace.b7
    rw [if_pos (by omega), if_pos (by omega), hrd, bind_eq eu]
    by_cases hR : right o = true
    · by_cases hw : isW o = true
      · obtain ⟨w1, w2, w3⟩ := act_write (L := s.1) (r := s.2) hR hw
        rw [if_pos w2, if_pos (by omega), bind_eq (writes_eq' o), if_pos hw, if_pos (by omega), if_pos (by simp; omega)]
        unfold haulagelaw13_TablePlace.j5
        have hrev := hP.rev
        rw [if_pos (by rw [w1]; simp; omega), bind_eq (Rev_eq ru), if_pos (by show (((act s.1 s.2 o).2.2.2 : Nat) : Int) = _; rw [w3]; simp; omega), if_pos (by omega), hrd, bind_eq (right_eq o), hR]
        unfold haulagelaw13_TablePlace.j6
        rw [if_neg (by simp), if_pos (by simp; omega), if_pos (by omega), hrd, if_pos (by simp; omega), wrS i (by omega)]
        refine ⟨_, rfl, rfl, ru, ?_⟩
        have hsm : run ([], 0) (done ++ [o]) = stepS s o := by rw [run_snoc, hP.same]
        refine ⟨hsm, by show (act s.1 s.2 o).2.2.2 = _; rw [w3]; simp; omega, by simp; omega, by simp; omega, by simp; omega, fun j h h' => ?_⟩
        simp only [List.length_append, List.length_singleton] at h h'
        by_cases hj : j < asked.length
        · have := (hP.all j hj (by omega)).more (p := o)
          simp only [List.getElem_append_left hj, List.getElem_append_left (show j < answers.length by omega)]
          exact this
        · have hj' : j = asked.length := by omega
          subst hj'
          have g1 : (asked ++ [o])[asked.length]'(by simp) = o := by simp
          have g2 : (answers ++ [(act s.1 s.2 o).1])[asked.length]'(by simp; omega) = (act s.1 s.2 o).1 := by simp [← htwo]
          show Told (done ++ [o]) ((answers ++ [(act s.1 s.2 o).1])[asked.length]'(by simp; omega)) ((asked ++ [o])[asked.length]'(by simp))
          rw [g1, g2]
          refine ⟨hR, done.length, by simp, ?_, ?_, hsh⟩
          · rw [if_pos hw, w1]; omega
          · rw [List.take_left, hP.same]
      · obtain ⟨w1, w2, w3⟩ := act_read (L := s.1) (r := s.2) hR (by simpa using hw)
        rw [if_pos w2, if_pos (by omega), bind_eq (writes_eq' o), if_neg hw]
        unfold haulagelaw13_TablePlace.j5
        have hrev := hP.rev
        have hst : stepS s o = s := w3
        rw [hst] at ru ⊢
        rw [if_pos (by rw [w1]; omega), bind_eq (Rev_eq ru), if_pos (by omega), if_pos (by omega), hrd, bind_eq (right_eq o), hR]
        unfold haulagelaw13_TablePlace.j6
        rw [if_neg (by simp), if_pos (by simp; omega), if_pos (by omega), hrd, if_pos (by simp; omega), wrS i (by omega)]
        refine ⟨_, rfl, rfl, ru, ?_⟩
        refine ⟨hP.same, hrev, by simp; omega, by simp; omega, by simp; omega, fun j h h' => ?_⟩
        simp only [List.length_append, List.length_singleton] at h h'
        by_cases hj : j < asked.length
        · have := hP.all j hj (by omega)
          simp only [List.getElem_append_left hj, List.getElem_append_left (show j < answers.length by omega)]
          exact this
        · have hj' : j = asked.length := by omega
          subst hj'
          have g1 : (asked ++ [o])[asked.length]'(by simp) = o := by simp
          have g2 : (answers ++ [(act s.1 s.2 o).1])[asked.length]'(by simp; omega) = (act s.1 s.2 o).1 := by simp [← htwo]
          show Told done ((answers ++ [(act s.1 s.2 o).1])[asked.length]'(by simp; omega)) ((asked ++ [o])[asked.length]'(by simp))
          rw [g1, g2]
          refine ⟨hR, done.length, by omega, ?_, ?_, hsh⟩
          · rw [if_neg hw, w1]; omega
          · rw [List.take_length, hP.same]
    · have hw := act_wrong (L := s.1) (r := s.2) (by simpa using hR : right o = false)
      have hst : stepS s o = s := by unfold stepS; rw [hw]
      rw [hst] at ru ⊢
      rw [if_neg (by rw [hw]; simp), if_pos (by omega), bind_eq (right_eq o), if_neg hR, if_pos (by rw [hw])]
      rw [bind_eq (sameAnswer_eq hk _ _ (Or.inr (by simp)) (Or.inr (by simp))), hw]
      unfold haulagelaw13_TablePlace.j4
      rw [if_neg (by simp [zeroA]), wrS i (by omega)]
      exact ⟨_, rfl, rfl, ru, ⟨hP.same, hP.rev, hdl, Nat.le_succ_of_le hle, htwo, hP.all⟩⟩
  · rintro ⟨u, done, answers, asked, j⟩ ⟨rfl, r1, hP⟩
    simp only at r1 hP
    rw [List.take_of_length_le (Nat.le_refl _)] at r1 hP
    refine ⟨Sum.inl (u, done, answers, asked), ?_, _, rfl, r1, hP⟩
    show haulagelaw13_TablePlace.b7 k ops u done answers asked ((ops.length : Nat) : Int) = _
    unfold haulagelaw13_TablePlace.b7
    rw [if_neg (by omega)]
end Go.Proofs.Ytcolmmjcdlmcoaa.G
/-! TableMade. -/
namespace Go.Proofs.Ytcolmmjcdlmcoaa.G
open Go
set_option linter.unusedVariables false
set_option linter.unusedSimpArgs false
/-- the rows of no revision beyond j -/
def upto_ (j : Nat) (L : List Ent) : List Ent := L.filter fun e => decide (e.2.rev ≤ (j : Int))
theorem upto_mem {j : Nat} {L : List Ent} {e : Ent} : e ∈ upto_ j L ↔ e ∈ L ∧ e.2.rev ≤ (j : Int) := by
  unfold upto_; rw [List.mem_filter]; simp
theorem upto_none {j : Nat} : ∀ {L : List Ent}, (∀ e ∈ L, e.2.rev ≠ (j : Int) + 1) → upto_ (j + 1) L = upto_ j L
  | [], _ => rfl
  | e :: L, h => by
    have h1 := h e (by simp)
    have h2 := upto_none (j := j) (L := L) (fun x hx => h x (by simp [hx]))
    unfold upto_ at h2 ⊢
    rw [List.filter_cons, List.filter_cons, h2]
    have : decide (e.2.rev ≤ ((j + 1 : Nat) : Int)) = decide (e.2.rev ≤ (j : Int)) := by apply decide_eq_decide.2; omega
    rw [this]
theorem upto_all {R : Nat} {L : List Ent} (h : ∀ e ∈ L, e.2.rev ≤ (R : Int)) : upto_ R L = L := by
  unfold upto_
  rw [List.filter_eq_self]
  intro e he
  simpa using h e he
theorem upto_zero {L : List Ent} (h : ∀ e ∈ L, 1 ≤ e.2.rev) : upto_ 0 L = [] := by
  unfold upto_
  rw [List.filter_eq_nil_iff]
  intro e he
  have := h e he
  simp; omega
theorem ins_low {k : ByteArray} {c : table_cell} : ∀ {A : List Ent}, (∀ e ∈ A, lt k e.1 = true) → ins k c A = (k, c) :: A
  | [], _ => rfl
  | (a, x) :: A, h => by
    simp only [ins]
    rw [if_pos (h (a, x) (by simp))]
/-- the row of the next revision is put where it stands -/
theorem upto_put {j : Nat} : ∀ {L : List Ent}, Ord L → (revs L).Nodup → ∀ e ∈ L, e.2.rev = (j : Int) + 1 → ins e.1 e.2 (upto_ j L) = upto_ (j + 1) L
  | [], _, _, e, he, _ => by cases he
  | x :: L, ho, hd, e, he, hr => by
    have ho' : (∀ y ∈ L, lt x.1 y.1 = true) ∧ Ord L := by unfold Ord at ho ⊢; rw [List.pairwise_cons] at ho; exact ho
    have hd' : x.2.rev ∉ revs L ∧ (revs L).Nodup := List.nodup_cons.1 hd
    rcases List.mem_cons.1 he with rfl | he
    · have hn : ∀ y ∈ L, y.2.rev ≠ (j : Int) + 1 := fun y hy q => hd'.1 (List.mem_map.2 ⟨y, hy, by rw [hr]; exact q⟩)
      have e1 : upto_ j (e :: L) = upto_ j L := by unfold upto_; rw [List.filter_cons, if_neg (by simp; omega)]
      have e2 : upto_ (j + 1) (e :: L) = e :: upto_ (j + 1) L := by unfold upto_; rw [List.filter_cons, if_pos (by simp; omega)]
      rw [e1, e2, upto_none hn]
      exact ins_low (fun y hy => ho'.1 y (upto_mem.1 hy).1)
    · have hx : x.2.rev ≠ (j : Int) + 1 := fun q => hd'.1 (List.mem_map.2 ⟨e, he, by rw [hr]; exact q.symm⟩)
      have IH := upto_put (j := j) ho'.2 hd'.2 e he hr
      have hlt := ho'.1 e he
      by_cases c : x.2.rev ≤ (j : Int)
      · have e1 : upto_ j (x :: L) = x :: upto_ j L := by unfold upto_; rw [List.filter_cons, if_pos (by simpa using c)]
        have e2 : upto_ (j + 1) (x :: L) = x :: upto_ (j + 1) L := by unfold upto_; rw [List.filter_cons, if_pos (by simp; omega)]
        rw [e1, e2, ← IH]
        obtain ⟨a, b⟩ := x
        simp only [ins]
        rw [if_neg (by simp only at hlt; rw [lt_asym hlt]; simp), if_pos hlt]
      · have e1 : upto_ j (x :: L) = upto_ j L := by unfold upto_; rw [List.filter_cons, if_neg (by simpa using c)]
        have e2 : upto_ (j + 1) (x :: L) = upto_ (j + 1) L := by unfold upto_; rw [List.filter_cons, if_neg (by simp; omega)]
        rw [e1, e2, IH]
theorem look_not {k : ByteArray} : ∀ {L : List Ent}, (∀ e ∈ L, e.1 ≠ k) → look k L = none
  | [], _ => rfl
  | (a, x) :: L, h => by
    have h1 : a ≠ k := h (a, x) (by simp)
    simp only [look]
    split
    · rfl
    · split
      · exact look_not (fun e he => h e (by simp [he]))
      · rename_i c1 c2; exact absurd (lt_tri (by simpa using c2) (by simpa using c1)) h1
/-- a key that may stand for none -/
structure Free (l : List Int) : Prop where
  pos : 1 ≤ l.length
  top : l.length ≤ 64
  rng : brange l
theorem put_step {k : Nat} (hk : Fuel k) {s : St} (hS : Sound s) (hR : s.2 ≤ 300) {j : Nat} (hj : j < s.2) {u : Option Tab} (hu : RepS u (upto_ j s.1, j)) {e : Ent} (he : e ∈ s.1) (hr : e.2.rev = (j : Int) + 1) :
    ∃ u', table_Table_Do.f k u (api_Op.mk 2 (sb e.1) e.2.value 0) = some ((act (upto_ j s.1) j (api_Op.mk 2 (sb e.1) e.2.value 0)).1, 0, u') ∧ RepS u' (upto_ (j + 1) s.1, j + 1) := by
  have hE := hS.inv.ent e he
  obtain ⟨u', e', R'⟩ := do_eq hk (by omega) hu (api_Op.mk 2 (sb e.1) e.2.value 0)
  have hact : (act (upto_ j s.1) j (api_Op.mk 2 (sb e.1) e.2.value 0)).2 = (0, ins e.1 ⟨e.2.value, (j : Int) + 1⟩ (upto_ j s.1), j + 1) := by
    unfold act
    have hright : right (api_Op.mk 2 (sb e.1) e.2.value 0) = true := by
      have h1 : (sb e.1).length = e.1.size := sb_len _
      simp [right, keyok]; omega
    rw [if_neg (by rw [hright]; simp), if_neg (by simp), if_neg (by simp), if_neg (by simp), if_pos (Or.inl rfl)]
    simp only [bs_sb]
  rw [hact] at R'
  have he0 : (act (upto_ j s.1) j (api_Op.mk 2 (sb e.1) e.2.value 0)).2.1 = 0 := by rw [hact]
  rw [he0] at e'
  refine ⟨u', e', ?_⟩
  have hc : (⟨e.2.value, (j : Int) + 1⟩ : table_cell) = e.2 := by obtain ⟨a, v, r⟩ := e; simp only at hr; subst hr; rfl
  simp only [hc] at R'
  rw [upto_put hS.inv.ord hS.dis e he hr] at R'
  exact R'
theorem del_step {k : Nat} (hk : Fuel k) {s : St} (hS : Sound s) (hR : s.2 ≤ 300) {j : Nat} (hj : j < s.2) {u : Option Tab} (hu : RepS u (upto_ j s.1, j)) {free : List Int} (hf : Free free) (hno : ∀ e ∈ s.1, sb e.1 ≠ free) (hr : ∀ e ∈ s.1, e.2.rev ≠ (j : Int) + 1) :
    ∃ u', table_Table_Do.f k u (api_Op.mk 3 free [] 0) = some ((act (upto_ j s.1) j (api_Op.mk 3 free [] 0)).1, 0, u') ∧ RepS u' (upto_ (j + 1) s.1, j + 1) := by
  obtain ⟨u', e', R'⟩ := do_eq hk (by omega) hu (api_Op.mk 3 free [] 0)
  have hact : (act (upto_ j s.1) j (api_Op.mk 3 free [] 0)).2 = (0, upto_ j s.1, j + 1) := by
    unfold act
    have hp := hf.pos; have ht := hf.top
    have hright : right (api_Op.mk 3 free [] 0) = true := by simp [right, keyok]; omega
    rw [if_neg (by rw [hright]; simp), if_neg (by simp), if_neg (by simp), if_pos rfl]
    have hl : look (bs free) (upto_ j s.1) = none := look_not (fun e he q => hno e (upto_mem.1 he).1 (by rw [q, sb_bs hf.rng]))
    simp only [del_none _ hl]
  rw [hact] at R'
  have he0 : (act (upto_ j s.1) j (api_Op.mk 3 free [] 0)).2.1 = 0 := by rw [hact]
  rw [he0] at e'
  refine ⟨u', e', ?_⟩
  rw [upto_none hr]
  exact R'
theorem TableMade_true {k : Nat} (hk : Fuel k) (p : List Int) (hb : bytesR p) (hl : p.length < 3000000) : haulagelaw13_TableMade.f k p = some true := by
  have h24 : 1099511627776 ≤ k := hk
  obtain ⟨t, e, er, hc⟩ := read_any hk p hb (by omega)
  unfold haulagelaw13_TableMade.f
  rw [bind_eq (awake_eq hk), if_pos rfl, bind_eq er]
  rcases hc with ⟨rfl, rfl⟩ | ⟨rfl, s, hT, hS, hp⟩
  · rw [if_neg (by simp)]
    unfold haulagelaw13_TableMade.j1
    rw [if_pos rfl, if_neg (by simp)]
    rfl
  · have hI := hS.inv
    have hll : s.1.length < 3000000 := by have := form_len s; rw [← hp] at this; omega
    have htop := hS.top
    have hml : (s.1.map rowOf).length = s.1.length := by simp
    have hns : Option.isNone t = false := by obtain ⟨rows, rfl, _⟩ := hT; rfl
    rw [if_pos rfl]
    simp only [hns]
    rw [if_neg (by simp), bind_eq (Rev_eq hT)]
    unfold haulagelaw13_TableMade.j1
    by_cases h3 : 300 < (s.2 : Int)
    · rw [decide_eq_true h3, if_pos rfl, if_pos rfl]
    rw [decide_eq_false h3, if_neg (by simp)]
    simp only
    rw [bind_eq (Rows_eq0 (by omega) hT)]
    have rowAt : ∀ i (h : i < s.1.length), rd (s.1.map rowOf) (i : Int) = rowOf s.1[i] := fun i h => by rw [rd_eq (by simpa using h)]; simp
    have keyLen : ∀ i (h : i < s.1.length), (rowOf s.1[i]).Key.length = s.1[i].1.size := fun i h => sb_len _
    -- a free key
    have L1 := loop_inv (f := fun (s_ : (List Int) × Int) => haulagelaw13_TableMade.b4 (s.1.map rowOf) s_.1 s_.2) (I := fun i q => q.2 = (i : Int) ∧ 1 ≤ q.1.length ∧ q.1.length ≤ 65 ∧ brange q.1) (P := fun x => 1 ≤ x.length ∧ x.length ≤ 65 ∧ brange x) (N := s.1.length) ?_ ?_ s.1.length 0 ([0], 0) k
      ⟨rfl, by simp, by simp, fun n hn => by simp at hn; omega⟩ (by omega) (by omega)
    · obtain ⟨f1, ef1, g1, g2, g3⟩ := L1
      rw [bind_eq ef1]
      -- cut
      obtain ⟨f2, hf2, e2⟩ : ∃ f2, Free f2 ∧ haulagelaw13_TableMade.j5 k p (t, 0) (s.1.map rowOf) f1 = haulagelaw13_TableMade.j6 k p (t, 0) (s.1.map rowOf) f2 := by
        unfold haulagelaw13_TableMade.j5
        by_cases c : 64 < (f1.length : Int)
        · rw [if_pos c, if_pos (by omega)]
          refine ⟨_, ⟨?_, ?_, ?_⟩, rfl⟩
          · rw [List.length_take, show (64 : Int).toNat = 64 from rfl]; omega
          · rw [List.length_take, show (64 : Int).toNat = 64 from rfl]; omega
          · exact fun n hn => g3 n (List.mem_of_mem_take hn)
        · rw [if_neg c]
          exact ⟨f1, ⟨g1, by omega, g3⟩, rfl⟩
      rw [e2]
      unfold haulagelaw13_TableMade.j6
      have L2 := loop_inv (f := fun (s_ : (List Int) × Int) => haulagelaw13_TableMade.b7 k (s.1.map rowOf) s_.1 s_.2) (I := fun i q => q.2 = (i : Int) ∧ Free q.1) (P := fun x => Free x) (N := s.1.length) ?_ ?_ s.1.length 0 (f2, 0) k ⟨rfl, hf2⟩ (by omega) (by omega)
      · obtain ⟨f3, ef3, hf3⟩ := L2
        rw [bind_eq ef3]
        unfold haulagelaw13_TableMade.j8
        have L3 := loop_inv (f := fun (s_ : Int) => haulagelaw13_TableMade.b9 k (s.1.map rowOf) f3 s_) (I := fun i q => q = (i : Int) ∧ ∀ m (h : m < s.1.length), m < i → sb s.1[m].1 ≠ f3) (P := fun x => x = Sum.inr true ∨ (x = Sum.inl () ∧ ∀ e ∈ s.1, sb e.1 ≠ f3)) (N := s.1.length) ?_ ?_ s.1.length 0 0 k ⟨rfl, fun m h h' => by omega⟩ (by omega) (by omega)
        · obtain ⟨x, ex, hx⟩ := L3
          rw [bind_eq ex]
          rcases hx with rfl | ⟨rfl, hno⟩
          · rfl
          · show haulagelaw13_TableMade.j10 k p (t, 0) (s.1.map rowOf) f3 = some true
            unfold haulagelaw13_TableMade.j10
            obtain ⟨u0, eu0, Ru0⟩ := new_rep
            rw [bind_eq eu0]
            have h00 : upto_ 0 s.1 = [] := upto_zero (fun e he => (hI.ent e he).2.2.2.1)
            have L4 := loop_inv (f := fun (s_ : (Option Tab) × Int) => haulagelaw13_TableMade.b15 k (t, 0) (s.1.map rowOf) f3 s_.1 s_.2) (I := fun j q => q.2 = ((j + 1 : Nat) : Int) ∧ RepS q.1 (upto_ j s.1, j)) (P := fun x => ∃ y, x = Sum.inl y ∧ RepS y (upto_ s.2 s.1, s.2)) (N := s.2) ?_ ?_ s.2 0 (u0, 1) k ⟨rfl, by rw [h00]; exact Ru0⟩ (by omega) (by omega)
            · obtain ⟨x, ex4, y, rfl, Ry⟩ := L4
              rw [bind_eq ex4]
              show haulagelaw13_TableMade.j16 k p y = some true
              rw [upto_all (fun e he => (hI.ent e he).2.2.2.2)] at Ry
              unfold haulagelaw13_TableMade.j16
              rw [bind_eq (bytes_eq0 hk (by omega) htop Ry), bind_eq (same_eq hk _ _ (Or.inr (by omega)))]
              simp [← hp]
            · rintro j ⟨u, q⟩ hj ⟨rfl, Ru⟩
              left
              simp only at Ru
              have pick : ∃ o : api_Op, loop (fun (s_ : Int × Int × (List Int) × (List Int) × Int) => haulagelaw13_TableMade.b13 (s.1.map rowOf) ((j + 1 : Nat) : Int) s_.1 s_.2.1 s_.2.2.1 s_.2.2.2.1 s_.2.2.2.2) k (0, 3, f3, [], 0) = some (o.Kind, o.Key, o.Value, o.Rev) ∧
                  ((o = api_Op.mk 3 f3 [] 0 ∧ ∀ e ∈ s.1, e.2.rev ≠ (j : Int) + 1) ∨ ∃ e ∈ s.1, e.2.rev = (j : Int) + 1 ∧ o = api_Op.mk 2 (sb e.1) e.2.value 0) := by
                have LP := loop_inv (f := fun (s_ : Int × Int × (List Int) × (List Int) × Int) => haulagelaw13_TableMade.b13 (s.1.map rowOf) ((j + 1 : Nat) : Int) s_.1 s_.2.1 s_.2.2.1 s_.2.2.2.1 s_.2.2.2.2)
                  (I := fun i q => q.1 = (i : Int) ∧ (((q.2 = (3, f3, [], 0)) ∧ ∀ m (h : m < s.1.length), m < i → s.1[m].2.rev ≠ (j : Int) + 1) ∨ ∃ e ∈ s.1, e.2.rev = (j : Int) + 1 ∧ q.2 = (2, sb e.1, e.2.value, 0)))
                  (P := fun x => (x = (3, f3, [], 0) ∧ ∀ e ∈ s.1, e.2.rev ≠ (j : Int) + 1) ∨ ∃ e ∈ s.1, e.2.rev = (j : Int) + 1 ∧ x = (2, sb e.1, e.2.value, 0)) (N := s.1.length) ?_ ?_ s.1.length 0 (0, 3, f3, [], 0) k ⟨rfl, Or.inl ⟨rfl, fun m h h' => by omega⟩⟩ (by omega) (by omega)
                · obtain ⟨x, exl, hx⟩ := LP
                  rcases hx with ⟨rfl, hx⟩ | ⟨e, he, hr, rfl⟩
                  · exact ⟨api_Op.mk 3 f3 [] 0, exl, Or.inl ⟨rfl, hx⟩⟩
                  · exact ⟨api_Op.mk 2 (sb e.1) e.2.value 0, exl, Or.inr ⟨e, he, hr, rfl⟩⟩
                · rintro i ⟨q1, q2, q3, q4, q5⟩ hi ⟨rfl, hq⟩
                  left
                  show ∃ s', haulagelaw13_TableMade.b13 (s.1.map rowOf) ((j + 1 : Nat) : Int) (i : Int) q2 q3 q4 q5 = _ ∧ _
                  unfold haulagelaw13_TableMade.b13
                  rw [if_pos (by omega), if_pos (by omega), rowAt i hi]
                  by_cases c : s.1[i].2.rev = (j : Int) + 1
                  · rw [if_pos (show (rowOf s.1[i]).Rev = ((j + 1 : Nat) : Int) by show s.1[i].2.rev = _; omega), if_pos (by omega), if_pos (by omega), wrS i (by omega)]
                    exact ⟨_, rfl, rfl, Or.inr ⟨s.1[i], List.getElem_mem hi, c, rfl⟩⟩
                  · rw [if_neg (show ¬ (rowOf s.1[i]).Rev = ((j + 1 : Nat) : Int) by show ¬ s.1[i].2.rev = _; omega), wrS i (by omega)]
                    refine ⟨_, rfl, rfl, ?_⟩
                    rcases hq with ⟨hq1, hq2⟩ | hq
                    · refine Or.inl ⟨hq1, fun m h hlt => ?_⟩
                      by_cases e : m = i
                      · subst e; exact c
                      · exact hq2 m h (by omega)
                    · exact Or.inr hq
                · rintro ⟨q1, q2, q3, q4, q5⟩ ⟨rfl, hq⟩
                  refine ⟨(q2, q3, q4, q5), ?_, ?_⟩
                  · show haulagelaw13_TableMade.b13 (s.1.map rowOf) ((j + 1 : Nat) : Int) ((s.1.length : Nat) : Int) q2 q3 q4 q5 = _
                    unfold haulagelaw13_TableMade.b13
                    rw [if_neg (by omega)]
                  · rcases hq with ⟨hq1, hq2⟩ | hq
                    · refine Or.inl ⟨hq1, fun e he => ?_⟩
                      obtain ⟨m, hm, rfl⟩ := List.getElem_of_mem he
                      exact hq2 m hm hm
                    · exact Or.inr hq
              obtain ⟨o, epick, ho⟩ := pick
              show ∃ s', haulagelaw13_TableMade.b15 k (t, 0) (s.1.map rowOf) f3 u ((j + 1 : Nat) : Int) = _ ∧ _
              unfold haulagelaw13_TableMade.b15
              simp only
              rw [bind_eq (Rev_eq hT), if_pos (by omega), bind_eq epick]
              unfold haulagelaw13_TableMade.j14
              obtain ⟨a, u', eu', Ru'⟩ : ∃ a u', table_Table_Do.f k u o = some (a, 0, u') ∧ RepS u' (upto_ (j + 1) s.1, j + 1) := by
                rcases ho with ⟨rfl, hn⟩ | ⟨e, he, hr, rfl⟩
                · obtain ⟨u', e1, e2⟩ := del_step hk hS (by omega) hj Ru hf3 hno hn
                  exact ⟨_, u', e1, e2⟩
                · obtain ⟨u', e1, e2⟩ := put_step hk hS (by omega) hj Ru he hr
                  exact ⟨_, u', e1, e2⟩
              show ∃ s', (table_Table_Do.f k u o).bind _ = _ ∧ _
              rw [bind_eq eu', if_pos rfl, wrS (j + 1) (by omega)]
              exact ⟨_, rfl, rfl, Ru'⟩
            · rintro ⟨u, q⟩ ⟨rfl, Ru⟩
              refine ⟨Sum.inl u, ?_, u, rfl, Ru⟩
              show haulagelaw13_TableMade.b15 k (t, 0) (s.1.map rowOf) f3 u ((s.2 + 1 : Nat) : Int) = _
              unfold haulagelaw13_TableMade.b15
              simp only
              rw [bind_eq (Rev_eq hT), if_neg (by omega)]
        · rintro i q hi ⟨rfl, hq⟩
          have hE := hI.ent _ (List.getElem_mem hi)
          show (∃ s', haulagelaw13_TableMade.b9 k (s.1.map rowOf) f3 (i : Int) = _ ∧ _) ∨ _
          have hb9 : haulagelaw13_TableMade.b9 k (s.1.map rowOf) f3 (i : Int) = if sb s.1[i].1 = f3 then some (.done (.inr true)) else some (.next ((i + 1 : Nat) : Int)) := by
            unfold haulagelaw13_TableMade.b9
            rw [if_pos (by omega), if_pos (by omega), rowAt i hi, bind_eq (same_eq hk _ _ (Or.inl (by rw [keyLen i hi]; omega)))]
            by_cases c : sb s.1[i].1 = f3
            · rw [if_pos c, if_pos (show decide ((rowOf s.1[i]).Key = f3) = true from decide_eq_true c)]
            · rw [if_neg c, if_neg (by rw [show decide ((rowOf s.1[i]).Key = f3) = false from decide_eq_false c]; simp), wrS i (by omega)]
          by_cases c : sb s.1[i].1 = f3
          · right
            refine ⟨_, ?_, Or.inl rfl⟩
            show haulagelaw13_TableMade.b9 k (s.1.map rowOf) f3 (i : Int) = _
            rw [hb9, if_pos c]
          · left
            rw [hb9, if_neg c]
            refine ⟨_, rfl, rfl, fun m h hlt => ?_⟩
            by_cases e : m = i
            · subst e; exact c
            · exact hq m h (by omega)
        · rintro q ⟨rfl, hq⟩
          refine ⟨Sum.inl (), ?_, Or.inr ⟨rfl, fun e he => ?_⟩⟩
          · show haulagelaw13_TableMade.b9 k (s.1.map rowOf) f3 ((s.1.length : Nat) : Int) = _
            unfold haulagelaw13_TableMade.b9
            rw [if_neg (by omega)]
          · obtain ⟨m, hm, rfl⟩ := List.getElem_of_mem he
            exact hq m hm hm
      · rintro i ⟨f, q⟩ hi ⟨rfl, hf⟩
        left
        simp only at hf
        have hE := hI.ent _ (List.getElem_mem hi)
        show ∃ s', haulagelaw13_TableMade.b7 k (s.1.map rowOf) f (i : Int) = _ ∧ _
        unfold haulagelaw13_TableMade.b7
        rw [if_pos (by omega), if_pos (by omega), rowAt i hi, bind_eq (same_eq hk _ _ (Or.inl (by rw [keyLen i hi]; omega))), wrS i (by omega)]
        split
        · exact ⟨_, rfl, rfl, ⟨by simp, by simp, fun n hn => by simp at hn; omega⟩⟩
        · exact ⟨_, rfl, rfl, hf⟩
      · rintro ⟨f, q⟩ ⟨rfl, hf⟩
        refine ⟨f, ?_, hf⟩
        show haulagelaw13_TableMade.b7 k (s.1.map rowOf) f ((s.1.length : Nat) : Int) = _
        unfold haulagelaw13_TableMade.b7
        rw [if_neg (by omega)]
    · rintro i ⟨f, q⟩ hi ⟨rfl, f1, f2, f3⟩
      left
      simp only at f1 f2 f3
      have hE := hI.ent _ (List.getElem_mem hi)
      show ∃ s', haulagelaw13_TableMade.b4 (s.1.map rowOf) f (i : Int) = _ ∧ _
      have j3f : ∃ s', haulagelaw13_TableMade.j3 (s.1.map rowOf) f (i : Int) false = some (.next s') ∧ s'.2 = ((i + 1 : Nat) : Int) ∧ 1 ≤ s'.1.length ∧ s'.1.length ≤ 65 ∧ brange s'.1 := by
        unfold haulagelaw13_TableMade.j3
        rw [if_neg (by simp), wrS i (by omega)]
        exact ⟨_, rfl, rfl, f1, f2, f3⟩
      unfold haulagelaw13_TableMade.b4
      rw [if_pos (by omega), if_pos (by omega), rowAt i hi]
      have hkl := keyLen i hi
      by_cases c : (f.length : Int) ≤ ((rowOf s.1[i]).Key.length : Int)
      · rw [if_pos c]
        by_cases c2 : (f.length : Int) < 64
        · rw [decide_eq_true c2]
          unfold haulagelaw13_TableMade.j3
          have ew : IntKind.i64.wrap (((rowOf s.1[i]).Key.length : Int) + 1) = ((s.1[i].1.size + 1 : Nat) : Int) := by rw [hkl, wr (by omega) (by omega)]; omega
          rw [if_pos rfl, if_pos (by omega), rowAt i hi, ew, if_pos (by omega), wrS i (by omega)]
          refine ⟨_, rfl, rfl, ?_, ?_, ?_⟩
          · simp
          · simp; omega
          · intro n hn
            simp at hn
            omega
        · rw [decide_eq_false c2]; exact j3f
      · rw [if_neg c]; exact j3f
    · rintro ⟨f, q⟩ ⟨rfl, f1, f2, f3⟩
      refine ⟨f, ?_, f1, f2, f3⟩
      show haulagelaw13_TableMade.b4 (s.1.map rowOf) f ((s.1.length : Nat) : Int) = _
      unfold haulagelaw13_TableMade.b4
      rw [if_neg (by omega)]
end Go.Proofs.Ytcolmmjcdlmcoaa.G
/- The row of 'TableMade' (its '..UptoSaid'): whatever the input of bulk at most 1048576, the law returns true and the input reads as it did. -/
namespace Go.Proofs.Ytcolmmjcdlmcoaa.tableMade
open Go.ChangeShapes Go.WideShapes Go.ChangeAt Go.RowKit
set_option linter.unusedVariables false
set_option maxRecDepth 100000 in
theorem contract (H : Type) (enc : TypeId × Value → H) (W : World) (base : Nat) (args : Array Value) (ds gs : List (DataW H)) (before : List MemPlace)
    (hval : ∀ (j : Nat) t v, Try.f10.params[j]? = some t → args[j]? = some v → Value.okWide Try.prog W .any base t v)
    (hW : DataW.Whole enc Try.prog Try.f10.params.toList Rows.tableMadeSpec.vars false W args.toList ds gs before) (hk : Rows.uptoSmall H (ds ++ gs) = true) :
    Calls Try.prog 10 args W fun e W' => ∃ v, e = .returned v ∧ Rows.tableMadeSpec.post enc Try.prog Try.f10 false true false false W args v W' := by
  have hW' := hW
  obtain ⟨p, q, hA0, hV, rfl, hfz, hnd⟩ := hW
  have hA : DataW.TrodAll enc Try.prog W 0 (fun _ => true) true Try.f10.params.toList args.toList ds p := hA0
  rw [Try.params10] at hA hval
  obtain ⟨v0, vs0, d0, ds0, p0, q0, hargs, rfl, rfl, h0, r0⟩ := trodAll_cons hA
  obtain ⟨rfl, rfl, rfl⟩ := trodAll_nil r0
  obtain rfl : args = #[v0] := by cases args; simp_all
  obtain ⟨rfl, rfl⟩ := trodVars_none hV
  have k0 := h0
  have lt0 : ∀ x ∈ p0, x.block < W.heap.size := by obtain ⟨m, hm⟩ := k0; exact DataW.trod_lt m _ _ _ hm
  obtain ⟨A0, C0, a0, rfl, s0, b0, o0⟩ := G.arg_bytes (okWide_slice Try.underlying23 (hval 0 23 v0 rfl rfl)) h0
  have hb : Rows.uptoBulkAll [d0] ≤ 1048576 := of_decide_eq_true hk
  simp only [Rows.uptoBulkAll] at hb
  refine (G.haulagelaw13_TableMade.calls 1099511627776 (m := 1) (c0 := G.c0) (w0 := W) (Nat.lt_succ_self 0) (fun _ _ => Nat.lt_succ_self 0) s0 true (G.TableMade_true (k := 1099511627776) (Nat.le_refl _) a0 (fun n hn => (o0 n hn).range) (by omega))).mono fun e W' ⟨c_, he, ev_, _⟩ => ?_
  subst he
  have bel : Below W.heap.size W W' := G.Ev.below ev_
  exact ⟨_, rfl, _, _, _, [], _, [], hW', trodAll_mk1 (shut_bool Try.underlying4 _), (trodAll_cons_mk (Below.trod G.row_laidOut (by kernel_rfl) (of_decide_eq_true (by kernel_rfl)) k0 bel lt0) trodAll_mk0), rfl, bel.frame _, fun h => by cases h⟩
set_option maxRecDepth 100000 in
theorem lifted (os : Os) (started : os.Started) (H : Type) (enc : TypeId × Value → H) (F : Stop.Interp) :
    ReturnsInHanded {} Try.checked os 10 .any ((Rows.OpenSpec.upto Rows.tableMadeSpec).pre6 enc Try.prog Try.f10 Rows.tableMadeUptoRow.domain false) (((Rows.OpenSpec.upto Rows.tableMadeSpec).at F).post enc Try.prog Try.f10 false true false false) := by
  refine returnsInHanded_of_cond (C := Try.checked) (s := Rows.OpenSpec.upto Rows.tableMadeSpec) (k := Rows.uptoSmall) rfl G.row_own started (by kernel_rfl) Try.func10
    (OpenSpec.witness (enc := enc) (C := Try.checked) (s := Rows.OpenSpec.upto Rows.tableMadeSpec) (k := Rows.uptoSmall) rfl false ⟨#[], #[.slice none 0 0], []⟩ 8 (by kernel_rfl) (by kernel_rfl) (by kernel_rfl)
      (x := ([.nil], [], [])) (by kernel_rfl) rfl (by kernel_rfl)) ?_
  intro W base args ds gs before hval hW _ hk _
  exact contract H enc W base args ds gs before hval hW hk
theorem over : Rows.tableMadeUptoRow.holds Try.pinned (Rows.OpenSpec.upto Rows.tableMadeSpec) :=
  OpenClaim.holds_of_cond 10 Try.f10 rfl rfl rfl rfl rfl rfl rfl ⟨rfl, rfl, rfl, rfl, rfl⟩ rfl rfl rfl rfl rfl (by kernel_rfl) Try.func10 (by kernel_rfl)
    (of_decide_eq_true (by kernel_rfl)) (by unfold Func.isWrapper; first | (rw [if_pos (by decide +kernel)]; kernel_rfl) | (rw [if_neg (by decide +kernel)]; exact ⟨rfl, rfl⟩))
    (fun os started H enc _ F => lifted os started H enc F)
theorem proved : Rows.TableMadeUptoSaid := over
end Go.Proofs.Ytcolmmjcdlmcoaa.tableMade
namespace Go.Proofs.Ytcolmmjcdlmcoaa
/-- The row, under a short name, for the claim. -/
theorem tableMade_holds : Rows.TableMadeUptoSaid := tableMade.proved
end Go.Proofs.Ytcolmmjcdlmcoaa
