/- The row of 'TableWalk', its '..UptoSaid': whatever the input of bulk at most 1048576, the law returns true and the input reads as it did; its walk, its plain law, the row. -/
import Derived.Test.YtcolmmjcdlmcoaaMB
import Derived.Test.YtcolmmjcdlmcoaaMC5
import Derived.Test.YtcolmmjcdlmcoaaMC4
import Derived.Test.YtcolmmjcdlmcoaaMC3
import Derived.Test.YtcolmmjcdlmcoaaMT
import Derived.Test.YtcolmmjcdlmcoaaRows
import Derived.WalkKit
import Derived.ProofKit
import Derived.OpenShut
import Derived.JoinedCond
import Derived.Below
import Derived.ChangeOld
namespace Go.Proofs.Ytcolmmjcdlmcoaa.G
open Go Go.RowKit
set_option linter.unusedVariables false
set_option linter.unusedSimpArgs false
set_option maxRecDepth 100000 in
set_option maxHeartbeats 4000000 in
theorem haulagelaw13_TableWalk.calls (k : Nat) {m : Nat} {c0 : Nat → Nat} {w0 : World} {A2 : Option Addr} {C3 : Nat} {a1 : List api_Op} (hm0 : 0 < m) (B0 : CB m c0 w0) (h4 : SL false K_api_Op 0 0 c0 w0 A2 C3 a1) (r : Bool) (H : haulagelaw13_TableWalk.f k a1 = some r) : Calls Try.prog 6 #[.slice A2 a1.length C3] w0 (fun e w_ => ∃ (c_ : Nat → Nat), e = .returned (.bool r) ∧ Ev (fun x => False) c0 w0 c_ w_ ∧ CB m c_ w_) := by
  unfold haulagelaw13_TableWalk.f at H
  have B := B0.mono (show m ≤ m + 4 by omega)
  have E : Ev (fun x => False ∨ m ≤ x) c0 w0 c0 w0 := Ev.refl
  refine enter (N := 85) (l := [.slice A2 a1.length C3]) Try.func6 rfl rfl (Nat.le_of_ble_eq_true rfl) fun a F => ?_
  refine wp_seq_k fun K5 hK5 => ?_
  refine reg ?_
  refine q_val F rfl rfl (by decide) (r_assign F rfl) fun a F => ?_
  refine nil ?_
  refine hK5 _ _ ?_
  refine wp_seq_k fun K6 hK6 => ?_
  refine wp_seq_k fun K7 hK7 => ?_
  refine reg ?_
  obtain ⟨t8, q9, H⟩ := bind_some H
  refine q_call F rfl rfl (by decide) (r_call F Try.func12 rfl (by kernel_rfl) rfl) (haulagelaw13_awake.calls k (m := m + 4) (by omega) B _ q9) ?_
  rintro e w11 ⟨c10, rfl, E12, B13⟩
  refine ⟨_, rfl, fun a F => ?_⟩
  have B := B13
  have h4 := SL.ev h4 E12 (fun q => q.elim) (fun q => q.elim)
  have E := E.trans E12 (fun x q => q.elim)
  refine q_val F rfl rfl (by decide) (r_not F rfl) fun a F => ?_
  refine nil ?_
  refine hK7 _ _ ?_
  by_cases hb15 : t8 = true
  · have H := (if_pos hb15).symm.trans H
    refine wp_cond_false ((F.ev rfl).trans (congrArg Value.bool (congrArg not hb15))) ?_
    refine wp_skip ?_
    refine hK6 _ _ ?_
    refine wp_seq_k fun K17 hK17 => ?_
    refine reg ?_
    refine q_val F rfl rfl (by decide) (r_move F rfl) fun a F => ?_
    obtain ⟨t18, q19, H⟩ := bind_some H
    refine q_call F rfl rfl (by decide) (r_call F Try.func13 rfl (by kernel_rfl) rfl) (haulagelaw13_made.calls k (m := m + 4) (by omega) B h4 (by omega) (m + 1) (by omega) _ q19) ?_
    rintro e w21 ⟨c20, p24, rfl, E22, B23, h25⟩
    refine ⟨_, rfl, fun a F => ?_⟩
    have B := B23
    have h4 := SL.ev h4 E22 (fun q => q.elim) (fun q => q.elim)
    have E := E.trans E22 (fun x q => q.elim)
    refine q_val F rfl rfl (by decide) (r_assign F rfl) fun a F => ?_
    refine nil ?_
    refine hK17 _ _ ?_
    refine wp_seq_k fun K27 hK27 => ?_
    refine reg ?_
    refine q_val F rfl rfl (by decide) (r_move F rfl) fun a F => ?_
    obtain ⟨t28, q29, H⟩ := bind_some H
    refine q_call F rfl rfl (by decide) (r_call F Try.func26 rfl (by kernel_rfl) rfl) (table_Table_Rows.calls (m := m + 4) (by omega) B h25 (by omega) 0 (by omega) _ q29) ?_
    rintro e w31 ⟨c30, A34, C35, rfl, E32, B33, h36⟩
    refine ⟨_, rfl, fun a F => ?_⟩
    have B := B33
    have h4 := SL.ev h4 E32 (fun q => q.elim) (fun q => q.elim)
    have h25 := TB.ev h25 E32 (fun q => q.elim) (fun q => q.elim)
    have E := E.trans E32 (fun x q => q.elim)
    refine q_val F rfl rfl (by decide) (r_assign F rfl) fun a F => ?_
    refine nil ?_
    refine hK27 _ _ ?_
    refine wp_seq_k fun K38 hK38 => ?_
    refine reg ?_
    refine q_eff F rfl rfl (by decide) (e_buildSlice (n := 0) (e := 5) (c := c30) (k := (Kint .u8)) (i := 0) F [] [] ([] : List Int) (by exact trivial) (fun w => by kernel_rfl) rfl (by decide) rfl trivial (fun q => q) 0) ?_
    rintro v w40 a ⟨c39, A41, C42, rfl, E43, h44, B45⟩ F
    have B := B45 _ B (by omega)
    have h4 := SL.ev h4 E43 (fun q => q.elim) (fun q => q.elim)
    have h25 := TB.ev h25 E43 (fun q => q.elim) (fun q => q.elim)
    have h36 := SL.ev h36 E43 (fun q => q.elim) (fun q => q.elim)
    have E := E.trans E43 (fun x q => q.elim)
    refine q_val F rfl rfl (by decide) (r_assign F rfl) fun a F => ?_
    refine nil ?_
    refine hK38 _ _ ?_
    refine wp_seq_k fun K46 hK46 => ?_
    refine wp_seq_k fun K47 hK47 => ?_
    refine reg ?_
    refine q_val F rfl rfl (by decide) (r_assign F rfl) fun a F => ?_
    refine nil ?_
    refine hK47 _ _ ?_
    refine wp_block ?_
    obtain ⟨x192, HL, HR191⟩ := bind_some H
    have J302 : ∀ (c303 : Nat → Nat) (w304 : World) (a : Act), Fr a 85 [] → Ev (fun x => False ∨ m ≤ x) c0 w0 c303 w304 → CB (m + 4) c303 w304 → haulagelaw13_TableWalk.j4 = some r → K46 a w304 := by
      intro c303 w304 a  F E B  H
      unfold haulagelaw13_TableWalk.j4 at H
      refine hK46 _ _ ?_
      refine wp_seq_k fun K305 hK305 => ?_
      refine reg ?_
      refine q_val F rfl rfl (by decide) (r_assign F rfl) fun a F => ?_
      refine nil ?_
      refine hK305 _ _ ?_
      refine wp_ret ?_
      have H := Option.some.inj H
      subst H
      refine out1 F rfl rfl ?_
      exact ⟨fun b_ => (fun x_ => if x_ < m then x_ else 0) (c303 b_), rfl, E.leave B0 (fun x_ => if x_ < m then x_ else 0) (by intro x_ hx_; show (if x_ < m then x_ else 0) = x_; ((repeat' split) <;> omega)), (fun b_ hb_ => by show (if (c303 b_) < m then (c303 b_) else 0) < m; ((repeat' split) <;> omega))⟩
    refine loop_fuel (I := fun n a w => ∃ (o177 : Option Tab) (l178 : List Int) (A179 : Option Addr) (C180 : Nat) (i182 : Int) (c : Nat → Nat), Fr a 85 [(3, .pointer p24), (4, .slice A34 t28.length C35), (5, .slice A179 l178.length C180), (6, .int .i64 i182)] ∧ Ev (fun x => False ∨ m ≤ x) c0 w0 c w ∧ CB (m + 4) c w ∧ SL true K_api_Row 0 0 c w A34 C35 t28 ∧ TB (m + 1) c w p24 o177 ∧ SL false (Kint .u8) 0 0 c w A179 C180 l178 ∧ loop (fun (s_ : (Option Tab) × (List Int) × Int) => haulagelaw13_TableWalk.b3 k t28 s_.1 s_.2.1 s_.2.2) n (o177, l178, i182) = some x192) (k := k) ⟨t18, [], A41, C42, 0, c39, F.sub ⟨rfl, rfl, rfl, rfl, trivial⟩, E, B, h36, h25, h44.r, HL⟩ ?_
    clear HL H E F B
    intro n189 X185 hX185 a w184 ⟨o177, l178, A179, C180, i182, c183, F, E, B, h36, h176, h181, HL⟩
    obtain ⟨n190, ctl188, rfl, HB, HN186, HD187⟩ := loop_some HL
    have H : haulagelaw13_TableWalk.b3 k t28 o177 l178 i182 = some ctl188 := HB
    clear HB HL
    unfold haulagelaw13_TableWalk.b3 at H
    refine wp_seq_k fun K193 hK193 => ?_
    refine wp_seq_k fun K194 hK194 => ?_
    refine reg ?_
    refine q_val F rfl rfl (by decide) (r_move F rfl) fun a F => ?_
    refine q_val F rfl rfl (by decide) (r_move F rfl) fun a F => ?_
    refine q_val F rfl rfl (by decide) (r_lensl F Try.underlying46 rfl) fun a F => ?_
    refine q_val F rfl rfl (by decide) (r_leq F rfl rfl) fun a F => ?_
    refine nil ?_
    refine hK194 _ _ ?_
    by_cases hb195 : i182 ≤ (t28.length : Int)
    · have H := (if_pos hb195).symm.trans H
      refine wp_cond_true ((F.ev rfl).trans (congrArg Value.bool (decide_eq_true hb195))) ?_
      refine wp_skip ?_
      refine hK193 _ _ ?_
      refine wp_seq_k fun K196 hK196 => ?_
      refine wp_block ?_
      refine wp_seq_k fun K197 hK197 => ?_
      refine reg ?_
      refine q_val F rfl rfl (by decide) (r_move F rfl) fun a F => ?_
      refine q_val F rfl rfl (by decide) (r_move F rfl) fun a F => ?_
      refine q_val F rfl rfl (by decide) (r_build (v := .agg #[.int .i64 5, .slice A179 l178.length C180, .slice none 0 0, .int .i64 0]) F [(0, .int .i64 5), (1, .slice A179 l178.length C180)] (by exact ⟨rfl, rfl, rfl, rfl, trivial⟩) (fun w => by kernel_rfl)) fun a F => ?_
      obtain ⟨t68, q69, H⟩ := bind_some H
      refine q_call F rfl rfl (by decide) (r_call F Try.func14 rfl (by kernel_rfl) rfl) (table_Table_Do.calls k (m := m + 4) (by omega) B h176 h181 SL.nil (by omega) _ q69) ?_
      rintro e w199 ⟨c198, A202, C203, A205, C206, rfl, E200, B201, h204, h207, h208⟩
      refine ⟨_, rfl, fun a F => ?_⟩
      have B := B201
      have h36 := SL.ev h36 E200 (by show ¬ (0 = m + 1); omega) (by show ¬ (0 = m + 1); omega)
      have h181 := SL.ev h181 E200 (by show ¬ (0 = m + 1); omega) (by show ¬ (0 = m + 1); omega)
      have E := E.trans E200 (fun x q => by replace q : x = m + 1 := q; show False ∨ m ≤ x; omega)
      refine q_val F rfl rfl (by decide) (r_move F rfl) fun a F => ?_
      refine q_val F rfl rfl (by decide) (r_extract F rfl rfl) fun a F => ?_
      refine q_val F rfl rfl (by decide) (r_extract F rfl rfl) fun a F => ?_
      refine q_eff F rfl rfl (by decide) (e_alloc F zv_28 c198 (m + 2)) ?_
      rintro v w211 a ⟨c210, qa84, rfl, E212, h86, B213⟩ F
      have B := B213 _ B (by omega)
      have h36 := SL.ev h36 E212 (fun q => q.elim) (fun q => q.elim)
      have h181 := SL.ev h181 E212 (fun q => q.elim) (fun q => q.elim)
      have h204 := SL.ev h204 E212 (fun q => q.elim) (fun q => q.elim)
      have h207 := SL.ev h207 E212 (fun q => q.elim) (fun q => q.elim)
      have h208 := TB.ev h208 E212 (fun q => q.elim) (fun q => q.elim)
      have E := E.trans E212 (fun x q => q.elim)
      have h86 : AT true (m + 2) c210 w211 qa84 [.bool false, .slice none 0 0, .slice none 0 0, .int .i64 0, .int .i64 0] := h86
      refine q_eff0 F rfl rfl (e_storeN0 (us := [.bool t68.1.Done, .slice A202 t68.1.Key.length C203, .slice A205 t68.1.Value.length C206, .int .i64 t68.1.Rev, .int .i64 t68.1.At]) F rfl rfl sz_28 h86 (Nat.le_of_ble_eq_true rfl) (one_all rfl)) ?_
      rintro w214 a ⟨E215, h86, Z216⟩ F
      have B := B.size Z216
      have h36 := SL.ev h36 E215 (by show ¬ (0 = m + 2); omega) (by show ¬ (0 = m + 2); omega)
      have h181 := SL.ev h181 E215 (by show ¬ (0 = m + 2); omega) (by show ¬ (0 = m + 2); omega)
      have h204 := SL.ev h204 E215 (by show ¬ (0 = m + 2); omega) (by show ¬ (0 = m + 2); omega)
      have h207 := SL.ev h207 E215 (by show ¬ (0 = m + 2); omega) (by show ¬ (0 = m + 2); omega)
      have h208 := TB.ev h208 E215 (by show ¬ (m + 1 = m + 2); omega) (by show ¬ (0 = m + 2); omega)
      have E := E.trans E215 (fun x q => by replace q : x = m + 2 := q; show False ∨ m ≤ x; omega)
      have h86 : AT true (m + 2) c210 w214 qa84 [.bool t68.1.Done, .slice A202 t68.1.Key.length C203, .slice A205 t68.1.Value.length C206, .int .i64 t68.1.Rev, .int .i64 t68.1.At] := h86
      refine q_val F rfl rfl (by decide) (r_assign F rfl) fun a F => ?_
      refine nil ?_
      refine hK197 _ _ ?_
      refine wp_seq_k fun K217 hK217 => ?_
      refine wp_seq_k fun K218 hK218 => ?_
      have J229 : ∀ (c230 : Nat → Nat) (w231 : World) (a : Act) (b228 : Bool), Fr a 85 [(3, .pointer p24), (4, .slice A34 t28.length C35), (6, .int .i64 i182), (7, .pointer (some qa84)), (46, .bool b228)] → Ev (fun x => False ∨ m ≤ x) c0 w0 c230 w231 → CB (m + 4) c230 w231 → AT true (m + 2) c230 w231 qa84 [.bool t68.1.Done, .slice A202 t68.1.Key.length C203, .slice A205 t68.1.Value.length C206, .int .i64 t68.1.Rev, .int .i64 t68.1.At] → TB (m + 1) c230 w231 p24 t68.2.2 → SL true K_api_Row 0 0 c230 w231 A34 C35 t28 → SL false (Kint .u8) 0 0 c230 w231 A202 C203 t68.1.Key → SL false (Kint .u8) 0 0 c230 w231 A205 C206 t68.1.Value → haulagelaw13_TableWalk.j2 k t28 t68 i182 b228 = some ctl188 → K218 a w231 := by
        intro c230 w231 a b228 F E B h86 h208 h36 h204 h207 H
        unfold haulagelaw13_TableWalk.j2 at H
        refine hK218 _ _ ?_
        by_cases hb232 : b228 = true
        · have H := (if_pos hb232).symm.trans H
          refine wp_cond_true ((F.ev rfl).trans (congrArg Value.bool hb232)) ?_
          refine wp_seq_k fun K233 hK233 => ?_
          refine reg ?_
          refine q_val F rfl rfl (by decide) (r_assign F rfl) fun a F => ?_
          refine nil ?_
          refine hK233 _ _ ?_
          refine wp_ret ?_
          refine thenR ?_
          refine inbR ?_
          refine thenR ?_
          refine thenR ?_
          refine inbR ?_
          refine thenR ?_
          have hx_ := HD187 _ (Option.some.inj H).symm
          have H := HR191
          rw [← hx_] at H
          replace H : some false = some r := H
          have H := Option.some.inj H
          subst H
          refine out1 F rfl rfl ?_
          exact ⟨fun b_ => (fun x_ => if x_ < m then x_ else 0) (c230 b_), rfl, E.leave B0 (fun x_ => if x_ < m then x_ else 0) (by intro x_ hx_; show (if x_ < m then x_ else 0) = x_; ((repeat' split) <;> omega)), (fun b_ hb_ => by show (if (c230 b_) < m then (c230 b_) else 0) < m; ((repeat' split) <;> omega))⟩
        · have H := (if_neg hb232).symm.trans H
          refine wp_cond_false ((F.ev rfl).trans (congrArg Value.bool (bfalse hb232))) ?_
          refine wp_skip ?_
          refine hK217 _ _ ?_
          refine wp_seq_k fun K234 hK234 => ?_
          refine wp_seq_k fun K235 hK235 => ?_
          refine reg ?_
          refine q_val F rfl rfl (by decide) (r_move F rfl) fun a F => ?_
          refine q_val F rfl rfl (by decide) (r_move F rfl) fun a F => ?_
          refine q_val F rfl rfl (by decide) (r_lensl F Try.underlying46 rfl) fun a F => ?_
          refine q_val F rfl rfl (by decide) (r_eql F rfl rfl) fun a F => ?_
          refine nil ?_
          refine hK235 _ _ ?_
          by_cases hb236 : i182 = (t28.length : Int)
          · have H := (if_pos hb236).symm.trans H
            refine wp_cond_true ((F.ev rfl).trans (congrArg Value.bool (decide_eq_true hb236))) ?_
            refine wp_seq_k fun K237 hK237 => ?_
            refine reg ?_
            refine q_val F rfl rfl (by decide) (r_fieldAddr F rfl ff_28_1) fun a F => ?_
            refine q_val F rfl rfl (by decide) (r_load F rfl ag_23 (AT.cell h86 rfl)) fun a F => ?_
            refine q_val F rfl rfl (by decide) (r_lensl F Try.underlying23 rfl) fun a F => ?_
            refine q_val F rfl rfl (by decide) (r_eql F rfl rfl) fun a F => ?_
            refine q_val F rfl rfl (by decide) (r_move F rfl) fun a F => ?_
            by_cases hb238 : (t68.1.Key.length : Int) = 0
            · have H := (if_pos hb238).symm.trans H
              refine q_yes F rfl (by decide) rfl (decide_eq_true hb238) ?_
              refine q_val F rfl rfl (by decide) (r_fieldAddr F rfl ff_28_2) fun a F => ?_
              refine q_yes F rfl (by decide) rfl (decide_eq_true hb238) ?_
              refine q_val F rfl rfl (by decide) (r_load F rfl ag_23 (AT.cell h86 rfl)) fun a F => ?_
              refine q_yes F rfl (by decide) rfl (decide_eq_true hb238) ?_
              refine q_val F rfl rfl (by decide) (r_lensl F Try.underlying23 rfl) fun a F => ?_
              refine q_yes F rfl (by decide) rfl (decide_eq_true hb238) ?_
              refine q_val F rfl rfl (by decide) (r_eql F rfl rfl) fun a F => ?_
              refine q_val F rfl rfl (by decide) (r_pick_t F rfl (decide_eq_true hb238) rfl) fun a F => ?_
              refine q_val F rfl rfl (by decide) (r_move F rfl) fun a F => ?_
              by_cases hb239 : (t68.1.Value.length : Int) = 0
              · have H := (if_pos hb239).symm.trans H
                refine q_yes F rfl (by decide) rfl (decide_eq_true hb239) ?_
                refine q_val F rfl rfl (by decide) (r_fieldAddr F rfl ff_28_3) fun a F => ?_
                refine q_yes F rfl (by decide) rfl (decide_eq_true hb239) ?_
                refine q_val F rfl rfl (by decide) (r_load F rfl ag_3 (AT.cell h86 rfl)) fun a F => ?_
                refine q_yes F rfl (by decide) rfl (decide_eq_true hb239) ?_
                refine q_val F rfl rfl (by decide) (r_eql F rfl rfl) fun a F => ?_
                refine q_val F rfl rfl (by decide) (r_pick_t F rfl (decide_eq_true hb239) rfl) fun a F => ?_
                refine q_val F rfl rfl (by decide) (r_assign F rfl) fun a F => ?_
                refine nil ?_
                refine hK237 _ _ ?_
                refine wp_ret ?_
                refine thenR ?_
                refine inbR ?_
                refine thenR ?_
                refine thenR ?_
                refine inbR ?_
                refine thenR ?_
                have hx_ := HD187 _ (Option.some.inj H).symm
                have H := HR191
                rw [← hx_] at H
                replace H : some (decide (t68.1.Rev = 0)) = some r := H
                have H := Option.some.inj H
                subst H
                refine out1 F rfl rfl ?_
                exact ⟨fun b_ => (fun x_ => if x_ < m then x_ else 0) (c230 b_), rfl, E.leave B0 (fun x_ => if x_ < m then x_ else 0) (by intro x_ hx_; show (if x_ < m then x_ else 0) = x_; ((repeat' split) <;> omega)), (fun b_ hb_ => by show (if (c230 b_) < m then (c230 b_) else 0) < m; ((repeat' split) <;> omega))⟩
              · have H := (if_neg hb239).symm.trans H
                refine q_no F rfl (by decide) rfl (decide_eq_false hb239) (by decide) fun a F => ?_
                refine q_no F rfl (by decide) rfl (decide_eq_false hb239) (by decide) fun a F => ?_
                refine q_no F rfl (by decide) rfl (decide_eq_false hb239) (by decide) fun a F => ?_
                refine q_val F rfl rfl (by decide) (r_pick_f F rfl (decide_eq_false hb239) rfl) fun a F => ?_
                refine q_val F rfl rfl (by decide) (r_assign F rfl) fun a F => ?_
                refine nil ?_
                refine hK237 _ _ ?_
                refine wp_ret ?_
                refine thenR ?_
                refine inbR ?_
                refine thenR ?_
                refine thenR ?_
                refine inbR ?_
                refine thenR ?_
                have hx_ := HD187 _ (Option.some.inj H).symm
                have H := HR191
                rw [← hx_] at H
                replace H : some false = some r := H
                have H := Option.some.inj H
                subst H
                refine out1 F rfl rfl ?_
                exact ⟨fun b_ => (fun x_ => if x_ < m then x_ else 0) (c230 b_), rfl, E.leave B0 (fun x_ => if x_ < m then x_ else 0) (by intro x_ hx_; show (if x_ < m then x_ else 0) = x_; ((repeat' split) <;> omega)), (fun b_ hb_ => by show (if (c230 b_) < m then (c230 b_) else 0) < m; ((repeat' split) <;> omega))⟩
            · have H := (if_neg hb238).symm.trans H
              refine q_no F rfl (by decide) rfl (decide_eq_false hb238) (by decide) fun a F => ?_
              refine q_no F rfl (by decide) rfl (decide_eq_false hb238) (by decide) fun a F => ?_
              refine q_no F rfl (by decide) rfl (decide_eq_false hb238) (by decide) fun a F => ?_
              refine q_no F rfl (by decide) rfl (decide_eq_false hb238) (by decide) fun a F => ?_
              refine q_val F rfl rfl (by decide) (r_pick_f F rfl (decide_eq_false hb238) rfl) fun a F => ?_
              refine q_val F rfl rfl (by decide) (r_move F rfl) fun a F => ?_
              refine q_no F rfl (by decide) rfl rfl (by decide) fun a F => ?_
              refine q_no F rfl (by decide) rfl rfl (by decide) fun a F => ?_
              refine q_no F rfl (by decide) rfl rfl (by decide) fun a F => ?_
              refine q_val F rfl rfl (by decide) (r_pick_f F rfl rfl rfl) fun a F => ?_
              refine q_val F rfl rfl (by decide) (r_assign F rfl) fun a F => ?_
              refine nil ?_
              refine hK237 _ _ ?_
              refine wp_ret ?_
              refine thenR ?_
              refine inbR ?_
              refine thenR ?_
              refine thenR ?_
              refine inbR ?_
              refine thenR ?_
              have hx_ := HD187 _ (Option.some.inj H).symm
              have H := HR191
              rw [← hx_] at H
              replace H : some false = some r := H
              have H := Option.some.inj H
              subst H
              refine out1 F rfl rfl ?_
              exact ⟨fun b_ => (fun x_ => if x_ < m then x_ else 0) (c230 b_), rfl, E.leave B0 (fun x_ => if x_ < m then x_ else 0) (by intro x_ hx_; show (if x_ < m then x_ else 0) = x_; ((repeat' split) <;> omega)), (fun b_ hb_ => by show (if (c230 b_) < m then (c230 b_) else 0) < m; ((repeat' split) <;> omega))⟩
          · have H := (if_neg hb236).symm.trans H
            refine wp_cond_false ((F.ev rfl).trans (congrArg Value.bool (decide_eq_false hb236))) ?_
            refine wp_skip ?_
            refine hK234 _ _ ?_
            refine wp_seq_k fun K240 hK240 => ?_
            refine wp_seq_k fun K241 hK241 => ?_
            refine regD (SB No c230 w231) 13 (.q 0 (.q 1 (.q 2 (.q 3 (.q 4 (.q 5 (.q 6 (.q 7 (.q 8 (.q 9 (.q 10 (.e 11 (.q 12 .nil))))))))))))) Try_hm (by decide +kernel) ?_
            intro w242 w1_ w2_ w3_ w4_
            have E243 : Ev No c230 w231 c230 w242 := Ev.same w1_ w2_ w3_ w4_
            have B := B.same w1_
            have zh86 := h86
            have zh208 := h208
            have zh36 := h36
            have zh204 := h204
            have zh207 := h207
            have ER : Ev No c230 w231 c230 w242 := Ev.same w1_ w2_ w3_ w4_
            have h86 := AT.ev h86 E243 (fun q => q.elim)
            have h208 := TB.ev h208 E243 (fun q => q.elim) (fun q => q.elim)
            have h36 := SL.ev h36 E243 (fun q => q.elim) (fun q => q.elim)
            have h204 := SL.ev h204 E243 (fun q => q.elim) (fun q => q.elim)
            have h207 := SL.ev h207 E243 (fun q => q.elim) (fun q => q.elim)
            have E := E.trans E243 (fun x q => q.elim)
            refine d_q F rfl rfl rfl (by decide) (fun wq hS => r_fieldAddr F rfl ff_28_1) ER.sb fun a F => ?_
            refine d_q F rfl rfl rfl (by decide) (fun wq hS => r_load F rfl ag_23 (AT.cell (AT.sb zh86 hS (fun q => q.elim)) rfl)) ER.sb fun a F => ?_
            refine d_q F rfl rfl rfl (by decide) (fun wq hS => r_fieldAddr F rfl ff_28_2) ER.sb fun a F => ?_
            refine d_q F rfl rfl rfl (by decide) (fun wq hS => r_load F rfl ag_23 (AT.cell (AT.sb zh86 hS (fun q => q.elim)) rfl)) ER.sb fun a F => ?_
            refine d_q F rfl rfl rfl (by decide) (fun wq hS => r_fieldAddr F rfl ff_28_3) ER.sb fun a F => ?_
            refine d_q F rfl rfl rfl (by decide) (fun wq hS => r_load F rfl ag_3 (AT.cell (AT.sb zh86 hS (fun q => q.elim)) rfl)) ER.sb fun a F => ?_
            refine d_q F rfl rfl rfl (by decide) (fun wq hS => r_build (v := .agg #[.slice A202 t68.1.Key.length C203, .slice A205 t68.1.Value.length C206, .int .i64 t68.1.Rev]) F [(0, .slice A202 t68.1.Key.length C203), (1, .slice A205 t68.1.Value.length C206), (2, .int .i64 t68.1.Rev)] (by exact ⟨rfl, rfl, rfl, rfl, rfl, rfl, trivial⟩) (fun w => by kernel_rfl)) ER.sb fun a F => ?_
            refine d_q F rfl rfl rfl (by decide) (fun wq hS => r_move F rfl) ER.sb fun a F => ?_
            refine d_q F rfl rfl rfl (by decide) (fun wq hS => r_move F rfl) ER.sb fun a F => ?_
            obtain ⟨g244, H⟩ := ifN H
            obtain ⟨ad245, cs246, e247, h248, r249⟩ := SL.at zh36 i182 g244.1 g244.2
            obtain ⟨A250, C251, A253, C254, rfl, h252, h255⟩ := r249
            have h252 := SL.fl (i' := 0) h252 (fun q => q)
            have h255 := SL.fl (i' := 0) h255 (fun q => q)
            obtain ⟨qa256, qqa256⟩ : ∃ q, q = (ad245.add (i182.toNat * 3)) := ⟨_, rfl⟩
            have h248 : AT true 0 c230 w231 qa256 [.slice A250 ((rd t28 i182).Key).length C251, .slice A253 ((rd t28 i182).Value).length C254, .int .i64 ((rd t28 i182).Rev)] := by rw [qqa256]; exact h248
            have zh252 := h252
            have h252 := SL.ev h252 ER (fun q => q.elim) (fun q => q.elim)
            have zh255 := h255
            have h255 := SL.ev h255 ER (fun q => q.elim) (fun q => q.elim)
            have zh248 := h248
            have h248 := AT.ev h248 ER (fun q => q.elim)
            refine d_q F rfl rfl rfl (by decide) (fun wq hS => r_indexAddr' F Try.underlying46 sz_50 rfl rfl g244.1 g244.2 e247 qqa256) ER.sb fun a F => ?_
            refine d_q F rfl rfl rfl (by decide) (fun wq hS => r_loads (cs := [.slice A250 ((rd t28 i182).Key).length C251, .slice A253 ((rd t28 i182).Value).length C254, .int .i64 ((rd t28 i182).Rev)]) F rfl ag_50 sz_50 (AT.sb zh248 hS (fun q => q.elim))) ER.sb fun a F => ?_
            refine d_e ?_
            obtain ⟨t135, q136, H⟩ := bind_some H
            refine o_call F rfl (wanted_none rfl) rfl (by decide) (r_call F Try.func27 rfl (by kernel_rfl) rfl) (haulagelaw13_sameRow.calls k (m := m + 4) (by omega) B h204 h207 h252 h255 _ q136) ?_
            rintro e w259 ⟨c258, rfl, E260, B261⟩
            refine ⟨_, rfl, fun a F => ?_⟩
            have B := B261
            have ER := ER.trans E260 (fun x q => q.elim)
            have h86 := AT.ev h86 E260 (fun q => q.elim)
            have h208 := TB.ev h208 E260 (fun q => q.elim) (fun q => q.elim)
            have h36 := SL.ev h36 E260 (fun q => q.elim) (fun q => q.elim)
            have h204 := SL.ev h204 E260 (fun q => q.elim) (fun q => q.elim)
            have h207 := SL.ev h207 E260 (fun q => q.elim) (fun q => q.elim)
            have h252 := SL.ev h252 E260 (fun q => q.elim) (fun q => q.elim)
            have h255 := SL.ev h255 E260 (fun q => q.elim) (fun q => q.elim)
            have h248 := AT.ev h248 E260 (fun q => q.elim)
            have E := E.trans E260 (fun x q => q.elim)
            refine ⟨fun _ => ER.sb, ?_⟩
            refine d_q F rfl rfl rfl (by decide) (fun wq hS => r_not F rfl) ER.sb fun a F => ?_
            refine d_nil ?_
            refine hK241 _ _ ?_
            by_cases hb263 : t135 = true
            · have H := (if_pos hb263).symm.trans H
              refine wp_cond_false ((F.ev rfl).trans (congrArg Value.bool (congrArg not hb263))) ?_
              refine wp_skip ?_
              refine hK240 _ _ ?_
              refine reg ?_
              refine q_eff F rfl rfl (by decide) (e_buildSlice (n := 0) (e := 5) (c := c258) (k := (Kint .u8)) (i := 0) F [] [] ([] : List Int) (by exact trivial) (fun w => by kernel_rfl) rfl (by decide) rfl trivial (fun q => q) (m + 3)) ?_
              rintro v w266 a ⟨c265, A267, C268, rfl, E269, h270, B271⟩ F
              have B := B271 _ B (by omega)
              have h86 := AT.ev h86 E269 (fun q => q.elim)
              have h208 := TB.ev h208 E269 (fun q => q.elim) (fun q => q.elim)
              have h36 := SL.ev h36 E269 (fun q => q.elim) (fun q => q.elim)
              have h204 := SL.ev h204 E269 (fun q => q.elim) (fun q => q.elim)
              have h207 := SL.ev h207 E269 (fun q => q.elim) (fun q => q.elim)
              have h252 := SL.ev h252 E269 (fun q => q.elim) (fun q => q.elim)
              have h255 := SL.ev h255 E269 (fun q => q.elim) (fun q => q.elim)
              have h248 := AT.ev h248 E269 (fun q => q.elim)
              have E := E.trans E269 (fun x q => q.elim)
              refine q_val F rfl rfl (by decide) (r_fieldAddr F rfl ff_28_1) fun a F => ?_
              refine q_val F rfl rfl (by decide) (r_load F rfl ag_23 (AT.cell h86 rfl)) fun a F => ?_
              obtain ⟨g151, H⟩ := ifN H
              refine q_eff F rfl rfl (by decide) (e_append (k := (Kint .u8)) (xs := []) (ys := t68.1.Key) (c := c265) (j := (m + 3)) (i := 0) F et_23 rfl rfl h270 h204 (by simpa using g151) (by have g_ := g151; unfold maxLen; simp at g_ ⊢; omega) (by omega)) ?_
              rintro v w273 a ⟨c272, A274, C275, rfl, E276, h277, B278⟩ F
              have B := B278 _ B (by omega)
              have h86 := AT.ev h86 E276 (by show ¬ (m + 2 = m + 3); omega)
              have h208 := TB.ev h208 E276 (by show ¬ (m + 1 = m + 3); omega) (by show ¬ (0 = m + 3); omega)
              have h36 := SL.ev h36 E276 (by show ¬ (0 = m + 3); omega) (by show ¬ (0 = m + 3); omega)
              have h204 := SL.ev h204 E276 (by show ¬ (0 = m + 3); omega) (by show ¬ (0 = m + 3); omega)
              have h207 := SL.ev h207 E276 (by show ¬ (0 = m + 3); omega) (by show ¬ (0 = m + 3); omega)
              have h252 := SL.ev h252 E276 (by show ¬ (0 = m + 3); omega) (by show ¬ (0 = m + 3); omega)
              have h255 := SL.ev h255 E276 (by show ¬ (0 = m + 3); omega) (by show ¬ (0 = m + 3); omega)
              have h248 := AT.ev h248 E276 (by show ¬ (0 = m + 3); omega)
              have E := E.trans E276 (fun x q => by replace q : x = m + 3 := q; show False ∨ m ≤ x; omega)
              refine q_eff F rfl rfl (by decide) (e_buildSlice (n := 1) (e := 5) (c := c272) (k := (Kint .u8)) (i := 0) F [(0, .int .u8 0)] [.int .u8 0] ([0] : List Int) (by exact ⟨rfl, rfl, trivial⟩) (fun w => by kernel_rfl) rfl (by decide) rfl ⟨rfl, trivial⟩ (fun q => q) 0) ?_
              rintro v w280 a ⟨c279, A281, C282, rfl, E283, h284, B285⟩ F
              have B := B285 _ B (by omega)
              have h86 := AT.ev h86 E283 (fun q => q.elim)
              have h208 := TB.ev h208 E283 (fun q => q.elim) (fun q => q.elim)
              have h36 := SL.ev h36 E283 (fun q => q.elim) (fun q => q.elim)
              have h204 := SL.ev h204 E283 (fun q => q.elim) (fun q => q.elim)
              have h207 := SL.ev h207 E283 (fun q => q.elim) (fun q => q.elim)
              have h252 := SL.ev h252 E283 (fun q => q.elim) (fun q => q.elim)
              have h255 := SL.ev h255 E283 (fun q => q.elim) (fun q => q.elim)
              have h248 := AT.ev h248 E283 (fun q => q.elim)
              have h277 := SL.ev h277 E283 (fun q => q.elim) (fun q => q.elim)
              have E := E.trans E283 (fun x q => q.elim)
              obtain ⟨g166, H⟩ := ifN H
              refine q_eff F rfl rfl (by decide) (e_append (k := (Kint .u8)) (xs := ([] ++ t68.1.Key)) (ys := [0]) (c := c279) (j := (m + 3)) (i := 0) F et_23 rfl rfl h277 h284 (by simpa using g166) (by have g_ := g166; unfold maxLen; simp at g_ ⊢; omega) (by omega)) ?_
              rintro v w287 a ⟨c286, A288, C289, rfl, E290, h291, B292⟩ F
              have B := B292 _ B (by omega)
              have h86 := AT.ev h86 E290 (by show ¬ (m + 2 = m + 3); omega)
              have h208 := TB.ev h208 E290 (by show ¬ (m + 1 = m + 3); omega) (by show ¬ (0 = m + 3); omega)
              have h36 := SL.ev h36 E290 (by show ¬ (0 = m + 3); omega) (by show ¬ (0 = m + 3); omega)
              have h204 := SL.ev h204 E290 (by show ¬ (0 = m + 3); omega) (by show ¬ (0 = m + 3); omega)
              have h207 := SL.ev h207 E290 (by show ¬ (0 = m + 3); omega) (by show ¬ (0 = m + 3); omega)
              have h252 := SL.ev h252 E290 (by show ¬ (0 = m + 3); omega) (by show ¬ (0 = m + 3); omega)
              have h255 := SL.ev h255 E290 (by show ¬ (0 = m + 3); omega) (by show ¬ (0 = m + 3); omega)
              have h248 := AT.ev h248 E290 (by show ¬ (0 = m + 3); omega)
              have h284 := SL.ev h284 E290 (by show ¬ (0 = m + 3); omega) (by show ¬ (0 = m + 3); omega)
              have E := E.trans E290 (fun x q => by replace q : x = m + 3 := q; show False ∨ m ≤ x; omega)
              refine q_val F rfl rfl (by decide) (r_assign F rfl) fun a F => ?_
              obtain ⟨c293, hc293⟩ : ∃ c', c' = fun k => if c286 k = m + 3 then 0 else c286 k := ⟨_, rfl⟩
              have h86 := AT.rc (c' := c293) (j' := m + 2) h86 (fun k_ hk_ => by rw [hc293]; show (if c286 k_ = m + 3 then 0 else c286 k_) = _; rw [hk_]; ((repeat' split) <;> omega))
              have h208 := TB.rc (c' := c293) (j' := m + 1) h208 (fun k_ hk_ => by rw [hc293]; show (if c286 k_ = m + 3 then 0 else c286 k_) = _; rw [hk_]; ((repeat' split) <;> omega)) (fun k_ hk_ => by rw [hc293]; show (if c286 k_ = m + 3 then 0 else c286 k_) = _; rw [hk_]; ((repeat' split) <;> omega))
              have h36 := SL.rc (c' := c293) (j' := 0) (i' := 0) h36 (fun k_ hk_ => by rw [hc293]; show (if c286 k_ = m + 3 then 0 else c286 k_) = _; rw [hk_]; ((repeat' split) <;> omega)) (fun k_ hk_ => by rw [hc293]; show (if c286 k_ = m + 3 then 0 else c286 k_) = _; rw [hk_]; ((repeat' split) <;> omega))
              have h204 := SL.rc (c' := c293) (j' := 0) (i' := 0) h204 (fun k_ hk_ => by rw [hc293]; show (if c286 k_ = m + 3 then 0 else c286 k_) = _; rw [hk_]; ((repeat' split) <;> omega)) (fun k_ hk_ => by rw [hc293]; show (if c286 k_ = m + 3 then 0 else c286 k_) = _; rw [hk_]; ((repeat' split) <;> omega))
              have h207 := SL.rc (c' := c293) (j' := 0) (i' := 0) h207 (fun k_ hk_ => by rw [hc293]; show (if c286 k_ = m + 3 then 0 else c286 k_) = _; rw [hk_]; ((repeat' split) <;> omega)) (fun k_ hk_ => by rw [hc293]; show (if c286 k_ = m + 3 then 0 else c286 k_) = _; rw [hk_]; ((repeat' split) <;> omega))
              have h252 := SL.rc (c' := c293) (j' := 0) (i' := 0) h252 (fun k_ hk_ => by rw [hc293]; show (if c286 k_ = m + 3 then 0 else c286 k_) = _; rw [hk_]; ((repeat' split) <;> omega)) (fun k_ hk_ => by rw [hc293]; show (if c286 k_ = m + 3 then 0 else c286 k_) = _; rw [hk_]; ((repeat' split) <;> omega))
              have h255 := SL.rc (c' := c293) (j' := 0) (i' := 0) h255 (fun k_ hk_ => by rw [hc293]; show (if c286 k_ = m + 3 then 0 else c286 k_) = _; rw [hk_]; ((repeat' split) <;> omega)) (fun k_ hk_ => by rw [hc293]; show (if c286 k_ = m + 3 then 0 else c286 k_) = _; rw [hk_]; ((repeat' split) <;> omega))
              have h248 := AT.rc (c' := c293) (j' := 0) h248 (fun k_ hk_ => by rw [hc293]; show (if c286 k_ = m + 3 then 0 else c286 k_) = _; rw [hk_]; ((repeat' split) <;> omega))
              have h284 := SL.rc (c' := c293) (j' := 0) (i' := 0) h284 (fun k_ hk_ => by rw [hc293]; show (if c286 k_ = m + 3 then 0 else c286 k_) = _; rw [hk_]; ((repeat' split) <;> omega)) (fun k_ hk_ => by rw [hc293]; show (if c286 k_ = m + 3 then 0 else c286 k_) = _; rw [hk_]; ((repeat' split) <;> omega))
              have h291 := SL.rc (c' := c293) (j' := 0) (i' := 0) h291.r (fun k_ hk_ => by rw [hc293]; show (if c286 k_ = m + 3 then 0 else c286 k_) = _; rw [hk_]; ((repeat' split) <;> omega)) (fun k_ hk_ => by rw [hc293]; show (if c286 k_ = m + 3 then 0 else c286 k_) = _; rw [hk_]; ((repeat' split) <;> omega))
              have E : Ev (fun x => False ∨ m ≤ x) c0 w0 c293 w287 := by rw [hc293]; exact E.freeze B0 (by omega)
              have B : CB (m + 4) c293 w287 := by rw [hc293]; exact B.freeze (by omega)
              refine nil ?_
              refine hK196 _ _ ?_
              refine reg ?_
              refine q_val F rfl rfl (by decide) (r_move F rfl) fun a F => ?_
              refine q_val F rfl rfl (by decide) (r_add F rfl rfl) fun a F => ?_
              refine q_val F rfl rfl (by decide) (r_assign F rfl) fun a F => ?_
              refine nil ?_
              have H := HN186 _ (Option.some.inj H).symm
              exact hX185 _ _ _ (Nat.lt_succ_self _) ⟨t68.2.2, (([] ++ t68.1.Key) ++ [0]), A288, C289, (IntKind.i64.wrap (i182 + 1)), c293, F.sub ⟨rfl, rfl, rfl, rfl, trivial⟩, E, B, h36, h208, h291, H⟩
            · have H := (if_neg hb263).symm.trans H
              refine wp_cond_true ((F.ev rfl).trans (congrArg Value.bool (congrArg not (bfalse hb263)))) ?_
              refine wp_seq_k fun K264 hK264 => ?_
              refine reg ?_
              refine q_val F rfl rfl (by decide) (r_assign F rfl) fun a F => ?_
              refine nil ?_
              refine hK264 _ _ ?_
              refine wp_ret ?_
              refine thenR ?_
              refine inbR ?_
              refine thenR ?_
              refine thenR ?_
              refine inbR ?_
              refine thenR ?_
              have hx_ := HD187 _ (Option.some.inj H).symm
              have H := HR191
              rw [← hx_] at H
              replace H : some false = some r := H
              have H := Option.some.inj H
              subst H
              refine out1 F rfl rfl ?_
              exact ⟨fun b_ => (fun x_ => if x_ < m then x_ else 0) (c258 b_), rfl, E.leave B0 (fun x_ => if x_ < m then x_ else 0) (by intro x_ hx_; show (if x_ < m then x_ else 0) = x_; ((repeat' split) <;> omega)), (fun b_ hb_ => by show (if (c258 b_) < m then (c258 b_) else 0) < m; ((repeat' split) <;> omega))⟩
      refine regD (SB No c210 w214) 18 (.q 0 (.q 1 (.q 2 (.q 3 (.q 4 (.q 5 (.e 6 (.q 7 (.q 8 (.q 9 (.q 10 (.q 11 (.q 12 (.q 13 (.q 14 (.q 15 (.q 16 (.q 17 .nil)))))))))))))))))) Try_hm (by decide +kernel) ?_
      intro w219 w1_ w2_ w3_ w4_
      have E220 : Ev No c210 w214 c210 w219 := Ev.same w1_ w2_ w3_ w4_
      have B := B.same w1_
      have zh36 := h36
      have zh181 := h181
      have zh204 := h204
      have zh207 := h207
      have zh208 := h208
      have zh86 := h86
      have ER : Ev No c210 w214 c210 w219 := Ev.same w1_ w2_ w3_ w4_
      have h36 := SL.ev h36 E220 (fun q => q.elim) (fun q => q.elim)
      have h181 := SL.ev h181 E220 (fun q => q.elim) (fun q => q.elim)
      have h204 := SL.ev h204 E220 (fun q => q.elim) (fun q => q.elim)
      have h207 := SL.ev h207 E220 (fun q => q.elim) (fun q => q.elim)
      have h208 := TB.ev h208 E220 (fun q => q.elim) (fun q => q.elim)
      have h86 := AT.ev h86 E220 (fun q => q.elim)
      have E := E.trans E220 (fun x q => q.elim)
      refine d_q F rfl rfl rfl (by decide) (fun wq hS => r_move F rfl) ER.sb fun a F => ?_
      refine d_q F rfl rfl rfl (by decide) (fun wq hS => r_neq F rfl rfl) ER.sb fun a F => ?_
      refine d_q F rfl rfl rfl (by decide) (fun wq hS => r_move F rfl) ER.sb fun a F => ?_
      by_cases hb221 : t68.2.1 = 0
      · have H := (if_pos hb221).symm.trans H
        refine d_qy F rfl rfl rfl (by decide) rfl (congrArg not (decide_eq_true hb221)) rfl (by decide) (fun wq hS => r_fieldAddr F rfl ff_28_4) ER.sb fun a F => ?_
        refine d_qy F rfl rfl rfl (by decide) rfl (congrArg not (decide_eq_true hb221)) rfl (by decide) (fun wq hS => r_load F rfl ag_3 (AT.cell (AT.sb zh86 hS (fun q => q.elim)) rfl)) ER.sb fun a F => ?_
        refine d_qy F rfl rfl rfl (by decide) rfl (congrArg not (decide_eq_true hb221)) rfl (by decide) (fun wq hS => r_move F rfl) ER.sb fun a F => ?_
        refine d_e ?_
        obtain ⟨t97, q98, H⟩ := bind_some H
        refine o_call F rfl (wanted_yes F rfl rfl (by decide) rfl (congrArg not (decide_eq_true hb221))) rfl (by decide) (r_call F Try.func23 rfl (by kernel_rfl) rfl) (table_Table_Rev.calls (m := m + 4) (by omega) B h208 (by omega) _ q98) ?_
        rintro e w223 ⟨c222, rfl, E224, B225⟩
        refine ⟨_, rfl, fun a F => ?_⟩
        have B := B225
        have ER := ER.trans E224 (fun x q => q.elim)
        have h36 := SL.ev h36 E224 (fun q => q.elim) (fun q => q.elim)
        have h181 := SL.ev h181 E224 (fun q => q.elim) (fun q => q.elim)
        have h204 := SL.ev h204 E224 (fun q => q.elim) (fun q => q.elim)
        have h207 := SL.ev h207 E224 (fun q => q.elim) (fun q => q.elim)
        have h208 := TB.ev h208 E224 (fun q => q.elim) (fun q => q.elim)
        have h86 := AT.ev h86 E224 (fun q => q.elim)
        have E := E.trans E224 (fun x q => q.elim)
        refine ⟨fun _ => ER.sb, ?_⟩
        refine d_qy F rfl rfl rfl (by decide) rfl (congrArg not (decide_eq_true hb221)) rfl (by decide) (fun wq hS => r_neq F rfl rfl) ER.sb fun a F => ?_
        refine d_q F rfl rfl rfl (by decide) (fun wq hS => r_pick_f F rfl (congrArg not (decide_eq_true hb221)) rfl) ER.sb fun a F => ?_
        refine d_q F rfl rfl rfl (by decide) (fun wq hS => r_move F rfl) ER.sb fun a F => ?_
        by_cases hb227 : t68.1.At = t97
        · have H := (if_pos hb227).symm.trans H
          refine d_qy F rfl rfl rfl (by decide) rfl (congrArg not (decide_eq_true hb227)) rfl (by decide) (fun wq hS => r_fieldAddr F rfl ff_28_0) ER.sb fun a F => ?_
          refine d_qy F rfl rfl rfl (by decide) rfl (congrArg not (decide_eq_true hb227)) rfl (by decide) (fun wq hS => r_load F rfl ag_4 (AT.cell (AT.sb zh86 hS (fun q => q.elim)) rfl)) ER.sb fun a F => ?_
          refine d_qy F rfl rfl rfl (by decide) rfl (congrArg not (decide_eq_true hb227)) rfl (by decide) (fun wq hS => r_move F rfl) ER.sb fun a F => ?_
          refine d_qy F rfl rfl rfl (by decide) rfl (congrArg not (decide_eq_true hb227)) rfl (by decide) (fun wq hS => r_move F rfl) ER.sb fun a F => ?_
          refine d_qy F rfl rfl rfl (by decide) rfl (congrArg not (decide_eq_true hb227)) rfl (by decide) (fun wq hS => r_lensl F Try.underlying46 rfl) ER.sb fun a F => ?_
          refine d_qy F rfl rfl rfl (by decide) rfl (congrArg not (decide_eq_true hb227)) rfl (by decide) (fun wq hS => r_lss F rfl rfl) ER.sb fun a F => ?_
          refine d_qy F rfl rfl rfl (by decide) rfl (congrArg not (decide_eq_true hb227)) rfl (by decide) (fun wq hS => r_bneq F Try.underlying4 rfl rfl) ER.sb fun a F => ?_
          refine d_q F rfl rfl rfl (by decide) (fun wq hS => r_pick_f F rfl (congrArg not (decide_eq_true hb227)) rfl) ER.sb fun a F => ?_
          refine d_nil ?_
          exact J229 c222 w223 a (!(t68.1.Done == (decide (i182 < (t28.length : Int))))) (F.sub ⟨rfl, rfl, rfl, rfl, rfl, trivial⟩) E B h86 h208 h36 h204 h207 H
        · have H := (if_neg hb227).symm.trans H
          refine d_qn F rfl rfl rfl (by decide) rfl (congrArg not (decide_eq_false hb227)) rfl (by decide) ER.sb fun a F => ?_
          refine d_qn F rfl rfl rfl (by decide) rfl (congrArg not (decide_eq_false hb227)) rfl (by decide) ER.sb fun a F => ?_
          refine d_qn F rfl rfl rfl (by decide) rfl (congrArg not (decide_eq_false hb227)) rfl (by decide) ER.sb fun a F => ?_
          refine d_qn F rfl rfl rfl (by decide) rfl (congrArg not (decide_eq_false hb227)) rfl (by decide) ER.sb fun a F => ?_
          refine d_qn F rfl rfl rfl (by decide) rfl (congrArg not (decide_eq_false hb227)) rfl (by decide) ER.sb fun a F => ?_
          refine d_qn F rfl rfl rfl (by decide) rfl (congrArg not (decide_eq_false hb227)) rfl (by decide) ER.sb fun a F => ?_
          refine d_qn F rfl rfl rfl (by decide) rfl (congrArg not (decide_eq_false hb227)) rfl (by decide) ER.sb fun a F => ?_
          refine d_q F rfl rfl rfl (by decide) (fun wq hS => r_pick_t F rfl (congrArg not (decide_eq_false hb227)) rfl) ER.sb fun a F => ?_
          refine d_nil ?_
          exact J229 c222 w223 a true (F.sub ⟨rfl, rfl, rfl, rfl, rfl, trivial⟩) E B h86 h208 h36 h204 h207 H
      · have H := (if_neg hb221).symm.trans H
        refine d_qn F rfl rfl rfl (by decide) rfl (congrArg not (decide_eq_false hb221)) rfl (by decide) ER.sb fun a F => ?_
        refine d_qn F rfl rfl rfl (by decide) rfl (congrArg not (decide_eq_false hb221)) rfl (by decide) ER.sb fun a F => ?_
        refine d_qn F rfl rfl rfl (by decide) rfl (congrArg not (decide_eq_false hb221)) rfl (by decide) ER.sb fun a F => ?_
        refine d_e ?_
        refine o_no F rfl rfl rfl (by decide) rfl (congrArg not (decide_eq_false hb221)) rfl (by decide) fun a F => ?_
        refine ⟨fun _ => ER.sb, ?_⟩
        refine d_qn F rfl rfl rfl (by decide) rfl (congrArg not (decide_eq_false hb221)) rfl (by decide) ER.sb fun a F => ?_
        refine d_q F rfl rfl rfl (by decide) (fun wq hS => r_pick_t F rfl (congrArg not (decide_eq_false hb221)) rfl) ER.sb fun a F => ?_
        refine d_q F rfl rfl rfl (by decide) (fun wq hS => r_move F rfl) ER.sb fun a F => ?_
        refine d_qn F rfl rfl rfl (by decide) rfl rfl rfl (by decide) ER.sb fun a F => ?_
        refine d_qn F rfl rfl rfl (by decide) rfl rfl rfl (by decide) ER.sb fun a F => ?_
        refine d_qn F rfl rfl rfl (by decide) rfl rfl rfl (by decide) ER.sb fun a F => ?_
        refine d_qn F rfl rfl rfl (by decide) rfl rfl rfl (by decide) ER.sb fun a F => ?_
        refine d_qn F rfl rfl rfl (by decide) rfl rfl rfl (by decide) ER.sb fun a F => ?_
        refine d_qn F rfl rfl rfl (by decide) rfl rfl rfl (by decide) ER.sb fun a F => ?_
        refine d_qn F rfl rfl rfl (by decide) rfl rfl rfl (by decide) ER.sb fun a F => ?_
        refine d_q F rfl rfl rfl (by decide) (fun wq hS => r_pick_t F rfl rfl rfl) ER.sb fun a F => ?_
        refine d_nil ?_
        exact J229 c210 w219 a true (F.sub ⟨rfl, rfl, rfl, rfl, rfl, trivial⟩) E B h86 h208 h36 h204 h207 H
    · have H := (if_neg hb195).symm.trans H
      refine wp_cond_false ((F.ev rfl).trans (congrArg Value.bool (decide_eq_false hb195))) ?_
      refine wp_exit ?_
      refine thenE ?_
      refine thenE ?_
      refine inbE ?_
      have hx_ := HD187 _ (Option.some.inj H).symm
      have H := HR191
      rw [← hx_] at H
      exact J302 c183 w184 a  (F.sub trivial) E B  H
  · have H := (if_neg hb15).symm.trans H
    refine wp_cond_true ((F.ev rfl).trans (congrArg Value.bool (congrArg not (bfalse hb15)))) ?_
    refine wp_seq_k fun K16 hK16 => ?_
    refine reg ?_
    refine q_val F rfl rfl (by decide) (r_assign F rfl) fun a F => ?_
    refine nil ?_
    refine hK16 _ _ ?_
    refine wp_ret ?_
    refine thenR ?_
    have H := Option.some.inj H
    subst H
    refine out1 F rfl rfl ?_
    exact ⟨fun b_ => (fun x_ => if x_ < m then x_ else 0) (c10 b_), rfl, E.leave B0 (fun x_ => if x_ < m then x_ else 0) (by intro x_ hx_; show (if x_ < m then x_ else 0) = x_; ((repeat' split) <;> omega)), (fun b_ hb_ => by show (if (c10 b_) < m then (c10 b_) else 0) < m; ((repeat' split) <;> omega))⟩
end Go.Proofs.Ytcolmmjcdlmcoaa.G
/-! awake; TableCopies; TableSwaps. -/
namespace Go.Proofs.Ytcolmmjcdlmcoaa.G
open Go
set_option linter.unusedVariables false
set_option linter.unusedSimpArgs false
theorem loop_inv {S X : Type} {f : S → Option (Ctl S X)} {I : Nat → S → Prop} {P : X → Prop} {N : Nat}
    (step : ∀ i s, i < N → I i s → (∃ s', f s = some (.next s') ∧ I (i + 1) s') ∨ (∃ x, f s = some (.done x) ∧ P x))
    (last : ∀ s, I N s → ∃ x, f s = some (.done x) ∧ P x) : ∀ (n i : Nat) (s : S) (m : Nat), I i s → i + n = N → n < m → ∃ x, loop f m s = some x ∧ P x
  | _, _, _, 0, _, _, h => absurd h (by omega)
  | 0, i, s, m + 1, hI, hN, _ => by
    obtain rfl : i = N := by omega
    obtain ⟨x, h1, h2⟩ := last s hI
    exact ⟨x, loop_done h1, h2⟩
  | n + 1, i, s, m + 1, hI, hN, hm => by
    rcases step i s (by omega) hI with ⟨s', h1, h2⟩ | ⟨x, h1, h2⟩
    · rw [loop_next h1]
      exact loop_inv step last n (i + 1) s' m h2 (by omega) (by omega)
    · exact ⟨x, loop_done h1, h2⟩
theorem act1 : act [] 0 (api_Op.mk 2 [97] [49] 0) = (⟨true, [], [], 0, 1⟩, 0, [(bs [97], ⟨[49], 1⟩)], 1) := by
  simp [act, right, keyok, look, ins, told]
theorem act2 : act [(bs [97], ⟨[49], 1⟩)] 1 (api_Op.mk 2 [97] [50] 0) = (⟨true, sb (bs [97]), [49], 1, 2⟩, 0, [(bs [97], ⟨[50], 2⟩)], 2) := by
  simp [act, right, keyok, look, ins, told, lt_irr]
theorem act3 : act [(bs [97], ⟨[50], 2⟩)] 2 (api_Op.mk 1 [97] [] 0) = (⟨true, sb (bs [97]), [50], 2, 2⟩, 0, [(bs [97], ⟨[50], 2⟩)], 2) := by
  simp [act, right, keyok, look, ins, told, lt_irr]
theorem act4 : act [(bs [97], ⟨[50], 2⟩)] 2 (api_Op.mk 0 [] [] 0) = (zeroA, 131, [(bs [97], ⟨[50], 2⟩)], 2) := by
  simp [act, right, keyok]
theorem awake_eq {k : Nat} (hk : Fuel k) : haulagelaw13_awake.f k = some true := by
  obtain ⟨t0, e0, R0⟩ := new_rep
  obtain ⟨t1, e1, R1⟩ := do_eq hk (by omega) R0 (api_Op.mk 2 [97] [49] 0)
  rw [act1] at e1 R1
  obtain ⟨t2, e2, R2⟩ := do_eq hk (by simp) R1 (api_Op.mk 2 [97] [50] 0)
  rw [act2] at e2 R2
  obtain ⟨t3, e3, R3⟩ := do_eq hk (by simp) R2 (api_Op.mk 1 [97] [] 0)
  rw [act3] at e3 R3
  obtain ⟨t4, e4, R4⟩ := do_eq hk (by simp) R3 (api_Op.mk 0 [] [] 0)
  rw [act4] at e4 R4
  have R4' : RepS t4 ([(bs [97], ⟨[50], 2⟩)], 2) := R4
  have eb := bytes_eq hk (by simp) R4'
  have ef : form ([(bs [97], ⟨[50], 2⟩)], 2) = [2, 1, 1, 97, 1, 50, 2] := by decide
  unfold haulagelaw13_awake.f haulagelaw13_put.f haulagelaw13_get.f
  rw [bind_eq e0, Option.bind_some, bind_eq e1, Option.bind_some, bind_eq e2, Option.bind_some, bind_eq e3, bind_eq e4]
  simp only [if_true]
  rw [bind_eq (same_eq hk _ _ (by simp)), if_pos (by simp), bind_eq (same_eq hk _ _ (by simp)), if_pos (by simp), bind_eq eb, ef, bind_eq (same_eq hk _ _ (by simp))]
  simp
/-! ### TableCopies -/
theorem run_lt {ops : List api_Op} {n : Nat} (h : ops.length < n) : (run ([], 0) ops).2 < n := by
  have := run_r ops ([], 0)
  simp only at this; omega
theorem half {k : Nat} (hk : Fuel k) {ahead ops : List api_Op} {i : Nat} {t : Option Tab} (hl : ahead.length + ops.length < 4000000) (hR : RepS t (run ([], 0) (ahead ++ ops.take i))) :
    (i < ops.length → ∃ x y t', table_Table_Do.f k t (rd ops (i : Int)) = some (x, y, t') ∧ RepS t' (run ([], 0) (ahead ++ ops.take (i + 1)))) ∧ (¬ i < ops.length → RepS t (run ([], 0) (ahead ++ ops.take (i + 1)))) := by
  refine ⟨fun h => ?_, fun h => ?_⟩
  · have hr : (run ([], 0) (ahead ++ ops.take i)).2 < 4000000 := run_lt (by simp; omega)
    obtain ⟨t', e, R⟩ := do_step hk (by omega) hR ops[i]
    refine ⟨_, _, t', by rw [rd_eq h]; exact e, ?_⟩
    rw [take_one h, ← List.append_assoc, run_snoc]; exact R
  · rw [List.take_of_length_le (by omega)] at hR ⊢; exact hR
theorem form_short {s : St} (hs : s.2 < 4194304) {t : Option Tab} (hR : RepS t s) : (form s).length < 4000000000 := by
  obtain ⟨rows, rfl, hw, hl, hI⟩ := hR
  have hlen := hI.len
  have hsz := sz_le hI.ent
  have h1 := nm_le s.2; have h2 := nm_le s.1.length
  have f1 := fm_len s.2; have f2 := fm_len s.1.length
  have hfl := flat_len s.1
  unfold form
  simp only [List.length_append]; omega
theorem TableCopies_true {k : Nat} (hk : Fuel k) (ahead one two : List api_Op) (h1 : ahead.length + one.length < 4000000) (h2 : ahead.length + two.length < 4000000) :
    haulagelaw13_TableCopies.f k ahead one two = some true := by
  have h24 : 1099511627776 ≤ k := hk
  obtain ⟨t, et, Rt⟩ := made_eq hk ahead (by omega)
  unfold haulagelaw13_TableCopies.f
  rw [bind_eq (awake_eq hk), if_pos rfl, bind_eq et, bind_eq (copy_eq Rt)]
  have hns : Option.isNone t = false := by obtain ⟨rows, rfl, _⟩ := Rt; rfl
  rw [if_neg (by rw [hns]; simp)]
  have L := loop_inv (f := fun (s_ : (Option Tab) × (Option Tab) × Int) => haulagelaw13_TableCopies.b5 k one two s_.1 s_.2.1 s_.2.2)
    (I := fun i s => s.2.2 = (i : Int) ∧ RepS s.1 (run ([], 0) (ahead ++ one.take i)) ∧ RepS s.2.1 (run ([], 0) (ahead ++ two.take i)))
    (P := fun x => RepS x.1 (run ([], 0) (ahead ++ one)) ∧ RepS x.2 (run ([], 0) (ahead ++ two))) (N := max one.length two.length) ?_ ?_ (max one.length two.length) 0 (t, t, 0) k ⟨rfl, by simpa using Rt, by simpa using Rt⟩ (by omega) (by omega)
  · obtain ⟨x, ex, r1, r2⟩ := L
    rw [bind_eq ex]
    unfold haulagelaw13_TableCopies.j6
    obtain ⟨v, ev, Rv⟩ := made_eq hk (ahead ++ one) (by simp; omega)
    obtain ⟨w, ew, Rw⟩ := made_eq hk (ahead ++ two) (by simp; omega)
    have g1 : (run ([], 0) (ahead ++ one)).2 < 4194304 := run_lt (by simp; omega)
    have g2 : (run ([], 0) (ahead ++ two)).2 < 4194304 := run_lt (by simp; omega)
    simp only [List.nil_append]
    rw [if_pos (by omega), if_pos (by omega), bind_eq ev, if_pos (by omega), if_pos (by omega), bind_eq ew, bind_eq (bytes_eq hk g1 r1), bind_eq (bytes_eq hk g1 Rv)]
    rw [bind_eq (same_eq hk _ _ (Or.inl (form_short g1 r1))), if_pos (by simp), bind_eq (bytes_eq hk g2 r2), bind_eq (bytes_eq hk g2 Rw), bind_eq (same_eq hk _ _ (Or.inl (form_short g2 r2)))]
    simp
  · rintro i ⟨a, b, c⟩ hi ⟨rfl, r1, r2⟩
    left
    simp only at r1 r2
    have m1 := half hk h1 r1
    have m2 := half hk h2 r2
    have hj : ∀ a', RepS a' (run ([], 0) (ahead ++ one.take (i + 1))) → ∃ s', haulagelaw13_TableCopies.j4 k two b (i : Int) a' = some (.next s') ∧ s'.2.2 = ((i + 1 : Nat) : Int) ∧ RepS s'.1 (run ([], 0) (ahead ++ one.take (i + 1))) ∧ RepS s'.2.1 (run ([], 0) (ahead ++ two.take (i + 1))) := by
      intro a' ra
      unfold haulagelaw13_TableCopies.j4
      by_cases c : i < two.length
      · obtain ⟨x, y, b', eb, rb⟩ := m2.1 c
        rw [if_pos (by omega), if_pos (by omega), bind_eq eb, wrS i (by omega)]
        exact ⟨_, rfl, rfl, ra, rb⟩
      · rw [if_neg (by omega), wrS i (by omega)]
        exact ⟨_, rfl, rfl, ra, m2.2 c⟩
    have hb : haulagelaw13_TableCopies.b5 k one two a b (i : Int) = haulagelaw13_TableCopies.j3 k one two a b (i : Int) true := by
      unfold haulagelaw13_TableCopies.b5
      by_cases c : i < one.length
      · rw [if_pos (by omega)]
      · rw [if_neg (by omega), decide_eq_true (by omega)]
    show ∃ s', haulagelaw13_TableCopies.b5 k one two a b (i : Int) = _ ∧ _
    rw [hb]
    unfold haulagelaw13_TableCopies.j3
    rw [if_pos rfl]
    by_cases c : i < one.length
    · obtain ⟨x, y, a', ea, ra⟩ := m1.1 c
      rw [if_pos (by omega), if_pos (by omega), bind_eq ea]
      exact hj a' ra
    · rw [if_neg (by omega)]
      exact hj a (m1.2 c)
  · rintro ⟨a, b, c⟩ ⟨rfl, r1, r2⟩
    simp only at r1 r2
    rw [List.take_of_length_le (by omega)] at r1 r2
    refine ⟨(a, b), ?_, r1, r2⟩
    show haulagelaw13_TableCopies.b5 k one two a b ((max one.length two.length : Nat) : Int) = _
    have q1 := Nat.le_max_left one.length two.length; have q2 := Nat.le_max_right one.length two.length
    unfold haulagelaw13_TableCopies.b5 haulagelaw13_TableCopies.j3
    rw [if_neg (by omega), decide_eq_false (by omega), if_neg (by simp)]
end Go.Proofs.Ytcolmmjcdlmcoaa.G
/-! TableWalk. -/
namespace Go.Proofs.Ytcolmmjcdlmcoaa.G
open Go
set_option linter.unusedVariables false
set_option linter.unusedSimpArgs false
theorem bl_snoc : ∀ x : List UInt8, Op.bytesLess x (x ++ [0]) = true
  | [] => rfl
  | a :: x => by simp [Op.bytesLess, bl_snoc x]
theorem bl_gap : ∀ x y : List UInt8, Op.bytesLess x y = true → Op.bytesLess y (x ++ [0]) = false
  | x, [], h => by cases x <;> simp [Op.bytesLess] at h
  | [], b :: y, _ => by
    have : Op.bytesLess y [] = false := by cases y <;> rfl
    simp [Op.bytesLess, this]
  | a :: x, b :: y, h => by
    simp only [Op.bytesLess, Bool.or_eq_true, Bool.and_eq_true, decide_eq_true_eq, beq_iff_eq] at h
    simp only [List.cons_append, Op.bytesLess, Bool.or_eq_false_iff, Bool.and_eq_false_iff, decide_eq_false_iff_not, beq_eq_false_iff_ne]
    simp only [UInt8.lt_iff_toNat_lt] at h ⊢
    rcases h with h | ⟨rfl, h⟩
    · exact ⟨by omega, Or.inl (fun e => by rw [e] at h; omega)⟩
    · exact ⟨by omega, Or.inr (bl_gap x y h)⟩
theorem bs_toList (l : List Int) : (bs l).toList = l.map fun n => UInt8.ofNat n.toNat := by
  rw [ByteArray.toList_eq]; simp [bs]
theorem next_toList (k : ByteArray) : (bs (sb k ++ [0])).toList = k.toList ++ [0] := by
  rw [bs_toList, List.map_append, ByteArray.toList_eq]
  congr 1
  unfold sb
  rw [List.map_map]
  have : ∀ l : List UInt8, l.map ((fun n : Int => UInt8.ofNat n.toNat) ∘ fun b : UInt8 => (b.toNat : Int)) = l := by
    intro l
    induction l with
    | nil => rfl
    | cons a l ih =>
      rw [List.map_cons, ih]
      congr 1
      show UInt8.ofNat ((a.toNat : Int).toNat) = a
      rw [Int.toNat_natCast]
      exact UInt8.ofNat_toNat
  exact this _
theorem above_next {A B : List Ent} {e : Ent} (ho : Ord (A ++ e :: B)) : above (bs (sb e.1 ++ [0])) (A ++ e :: B) = B := by
  obtain ⟨oA, oB, hA, hB⟩ := Ord.split ho
  have h1 : lt e.1 (bs (sb e.1 ++ [0])) = true := by unfold lt; rw [next_toList]; exact bl_snoc _
  have h2 : ∀ y ∈ B, lt y.1 (bs (sb e.1 ++ [0])) = false := fun y hy => by
    have := hB y hy
    unfold lt at this ⊢
    rw [next_toList]; exact bl_gap _ _ this
  unfold above
  rw [List.filter_append, List.filter_cons, if_neg (by simp [h1])]
  have e1 : A.filter (fun y => !lt y.1 (bs (sb e.1 ++ [0]))) = [] := by
    rw [List.filter_eq_nil_iff]
    intro y hy
    simp [lt_tr (hA y hy) h1]
  have e2 : B.filter (fun y => !lt y.1 (bs (sb e.1 ++ [0]))) = B := by
    rw [List.filter_eq_self]
    intro y hy
    simp [h2 y hy]
  rw [e1, e2]; rfl
theorem above_empty (L : List Ent) : above (bs []) L = L := by
  unfold above
  rw [List.filter_eq_self]
  intro y hy
  have : lt y.1 (bs []) = false := by
    unfold lt
    rw [bs_toList]
    cases y.1.toList <;> rfl
  simp [this]
theorem TableWalk_true {k : Nat} (hk : Fuel k) (ops : List api_Op) (hn : ops.length < 3000000) : haulagelaw13_TableWalk.f k ops = some true := by
  have h24 : 1099511627776 ≤ k := hk
  obtain ⟨t, et, Rt⟩ := made_eq hk ops (by omega)
  have hr : (run ([], 0) ops).2 < 3000000 := run_lt (by omega)
  generalize run ([], 0) ops = s at Rt hr
  have hI : Inv s.1 s.2 := by obtain ⟨rows, _, _, _, hI⟩ := Rt; exact hI
  have hlen := hI.len
  unfold haulagelaw13_TableWalk.f
  rw [bind_eq (awake_eq hk), if_pos rfl, bind_eq et, bind_eq (Rows_eq (by omega) Rt)]
  have hml : (s.1.map rowOf).length = s.1.length := by simp
  have seek : ∀ (fr : List Int) (i : Nat), fr.length ≤ 65 → above (bs fr) s.1 = s.1.drop i → act s.1 s.2 (api_Op.mk 5 fr [] 0) = ((match s.1.drop i with | [] => told s.2 .empty none | (k, v) :: _ => told s.2 k (some v)), 0, s.1, s.2) := by
    intro fr i hf ha
    unfold act
    have hR : right (api_Op.mk 5 fr [] 0) = true := by simp [right]; exact hf
    rw [if_neg (by rw [hR]; simp), if_pos rfl, ha]
    generalize s.1.drop i = D
    cases D <;> rfl
  have L := loop_inv (f := fun (s_ : (Option Tab) × (List Int) × Int) => haulagelaw13_TableWalk.b3 k (s.1.map rowOf) s_.1 s_.2.1 s_.2.2)
    (I := fun i q => q.2.2 = (i : Int) ∧ RepS q.1 s ∧ q.2.1.length ≤ 65 ∧ above (bs q.2.1) s.1 = s.1.drop i)
    (P := fun x => x = Sum.inr true) (N := s.1.length) ?_ ?_ s.1.length 0 (t, [], 0) k ⟨rfl, Rt, by simp, above_empty _⟩ (by omega) (by omega)
  · obtain ⟨x, ex, rfl⟩ := L
    rw [bind_eq ex]
  · rintro i ⟨u, fr, j⟩ hi ⟨rfl, r1, h1, h2⟩
    left
    simp only at r1 h1 h2
    obtain ⟨u', eu, ru⟩ := do_step hk (by omega) r1 (api_Op.mk 5 fr [] 0)
    have hd : s.1.drop i = s.1[i] :: s.1.drop (i + 1) := List.drop_eq_getElem_cons hi
    have hE := hI.ent _ (List.getElem_mem hi)
    have hact := seek fr i h1 h2
    have hsplit : s.1 = s.1.take i ++ s.1[i] :: s.1.drop (i + 1) := by rw [← hd, List.take_append_drop]
    have hnext : above (bs (sb s.1[i].1 ++ [0])) s.1 = s.1.drop (i + 1) := by
      have ho := hI.ord
      generalize s.1[i] = e at hsplit ⊢
      generalize s.1.drop (i + 1) = B at hsplit ⊢
      generalize s.1.take i = A at hsplit
      rw [hsplit] at ho ⊢
      exact above_next ho
    have hrow : rd (s.1.map rowOf) (i : Int) = rowOf s.1[i] := by rw [rd_eq (by simpa using hi)]; simp
    rw [hd] at hact
    unfold stepS at ru
    rw [hact] at eu ru
    have ru' : RepS u' s := ru
    generalize s.1[i] = e at hact hnext hrow hE eu
    obtain ⟨ek, ev⟩ := e
    have hsl := sb_len ek
    simp only at hE eu hnext
    show ∃ s', haulagelaw13_TableWalk.b3 k (s.1.map rowOf) u fr (i : Int) = _ ∧ _
    unfold haulagelaw13_TableWalk.b3
    rw [if_pos (by omega), bind_eq eu, if_pos rfl, bind_eq (Rev_eq ru')]
    rw [if_pos (by rfl)]
    unfold haulagelaw13_TableWalk.j2
    rw [hml, decide_eq_true (show (i : Int) < (s.1.length : Int) by omega)]
    rw [if_neg (by simp [told]), if_neg (by omega), if_pos (by omega), hrow]
    have hsame : haulagelaw13_sameRow.f k (api_Row.mk (sb ek) ev.value ev.rev) (rowOf (ek, ev)) = some true := by
      rw [sameRow_eq hk _ _ (Or.inl (by show (sb ek).length < _; omega)) (Or.inl (by show ev.value.length < _; omega))]
      simp [rowOf]
    show ∃ s', (haulagelaw13_sameRow.f k (api_Row.mk (sb ek) ev.value ev.rev) (rowOf (ek, ev))).bind _ = _ ∧ _
    rw [bind_eq hsame, if_pos rfl]
    rw [if_pos (by show (sb ek).length * 1 ≤ _; omega), if_pos (by show ((([] : List Int) ++ sb ek).length + 1) * 1 ≤ 140737488355328; rw [List.nil_append]; omega), wrS i (by omega)]
    exact ⟨_, rfl, rfl, ru', by show ((([] : List Int) ++ sb ek) ++ [0]).length ≤ 65; simp; omega, hnext⟩
  · rintro ⟨u, fr, j⟩ ⟨rfl, r1, h1, h2⟩
    simp only at r1 h1 h2
    obtain ⟨u', eu, ru⟩ := do_step hk (by omega) r1 (api_Op.mk 5 fr [] 0)
    have hact := seek fr s.1.length h1 h2
    rw [List.drop_of_length_le (Nat.le_refl _)] at hact
    unfold stepS at ru
    rw [hact] at eu ru
    have ru' : RepS u' s := ru
    refine ⟨_, ?_, rfl⟩
    show haulagelaw13_TableWalk.b3 k (s.1.map rowOf) u fr ((s.1.length : Nat) : Int) = _
    unfold haulagelaw13_TableWalk.b3
    rw [if_pos (by omega), bind_eq eu, if_pos rfl, bind_eq (Rev_eq ru'), if_pos (by rfl)]
    unfold haulagelaw13_TableWalk.j2
    rw [hml, decide_eq_false (show ¬ ((s.1.length : Int) < (s.1.length : Int)) by omega)]
    rw [if_neg (by simp [told]), if_pos rfl, if_pos (by rfl), if_pos (by rfl)]
    rfl
end Go.Proofs.Ytcolmmjcdlmcoaa.G
/- The row of 'TableWalk' (its '..UptoSaid'): whatever the input of bulk at most 1048576, the law returns true and the input reads as it did. -/
namespace Go.Proofs.Ytcolmmjcdlmcoaa.tableWalk
open Go.ChangeShapes Go.WideShapes Go.ChangeAt Go.RowKit
set_option linter.unusedVariables false
set_option maxRecDepth 100000 in
theorem contract (H : Type) (enc : TypeId × Value → H) (W : World) (base : Nat) (args : Array Value) (ds gs : List (DataW H)) (before : List MemPlace)
    (hval : ∀ (j : Nat) t v, Try.f6.params[j]? = some t → args[j]? = some v → Value.okWide Try.prog W .any base t v)
    (hW : DataW.Whole enc Try.prog Try.f6.params.toList Rows.tableWalkSpec.vars false W args.toList ds gs before) (hk : Rows.uptoSmall H (ds ++ gs) = true) :
    Calls Try.prog 6 args W fun e W' => ∃ v, e = .returned v ∧ Rows.tableWalkSpec.post enc Try.prog Try.f6 false true false false W args v W' := by
  have hW' := hW
  obtain ⟨p, q, hA0, hV, rfl, hfz, hnd⟩ := hW
  have hA : DataW.TrodAll enc Try.prog W 0 (fun _ => true) true Try.f6.params.toList args.toList ds p := hA0
  rw [Try.params6] at hA hval
  obtain ⟨v0, vs0, d0, ds0, p0, q0, hargs, rfl, rfl, h0, r0⟩ := trodAll_cons hA
  obtain ⟨rfl, rfl, rfl⟩ := trodAll_nil r0
  obtain rfl : args = #[v0] := by cases args; simp_all
  obtain ⟨rfl, rfl⟩ := trodVars_none hV
  have k0 := h0
  have lt0 : ∀ x ∈ p0, x.block < W.heap.size := by obtain ⟨m, hm⟩ := k0; exact DataW.trod_lt m _ _ _ hm
  obtain ⟨A0, C0, a0, rfl, s0, b0, o0⟩ := G.arg_ops (okWide_slice Try.underlying22 (hval 0 22 v0 rfl rfl)) h0
  have l0 := G.opsum_len a0
  have hb : Rows.uptoBulkAll [d0] ≤ 1048576 := of_decide_eq_true hk
  simp only [Rows.uptoBulkAll] at hb
  refine (G.haulagelaw13_TableWalk.calls 1099511627776 (m := 1) (c0 := G.c0) (w0 := W) (Nat.lt_succ_self 0) (fun _ _ => Nat.lt_succ_self 0) s0 true (G.TableWalk_true (k := 1099511627776) (Nat.le_refl _) a0 (by omega))).mono fun e W' ⟨c_, he, ev_, _⟩ => ?_
  subst he
  have bel : Below W.heap.size W W' := G.Ev.below ev_
  exact ⟨_, rfl, _, _, _, [], _, [], hW', trodAll_mk1 (shut_bool Try.underlying4 _), (trodAll_cons_mk (Below.trod G.row_laidOut (by kernel_rfl) (of_decide_eq_true (by kernel_rfl)) k0 bel lt0) trodAll_mk0), rfl, bel.frame _, fun h => by cases h⟩
set_option maxRecDepth 100000 in
theorem lifted (os : Os) (started : os.Started) (H : Type) (enc : TypeId × Value → H) (F : Stop.Interp) :
    ReturnsInHanded {} Try.checked os 6 .any ((Rows.OpenSpec.upto Rows.tableWalkSpec).pre6 enc Try.prog Try.f6 Rows.tableWalkUptoRow.domain false) (((Rows.OpenSpec.upto Rows.tableWalkSpec).at F).post enc Try.prog Try.f6 false true false false) := by
  refine returnsInHanded_of_cond (C := Try.checked) (s := Rows.OpenSpec.upto Rows.tableWalkSpec) (k := Rows.uptoSmall) rfl G.row_own started (by kernel_rfl) Try.func6
    (OpenSpec.witness (enc := enc) (C := Try.checked) (s := Rows.OpenSpec.upto Rows.tableWalkSpec) (k := Rows.uptoSmall) rfl false ⟨#[], #[.slice none 0 0], []⟩ 8 (by kernel_rfl) (by kernel_rfl) (by kernel_rfl)
      (x := ([.nil], [], [])) (by kernel_rfl) rfl (by kernel_rfl)) ?_
  intro W base args ds gs before hval hW _ hk _
  exact contract H enc W base args ds gs before hval hW hk
theorem over : Rows.tableWalkUptoRow.holds Try.pinned (Rows.OpenSpec.upto Rows.tableWalkSpec) :=
  OpenClaim.holds_of_cond 6 Try.f6 rfl rfl rfl rfl rfl rfl rfl ⟨rfl, rfl, rfl, rfl, rfl⟩ rfl rfl rfl rfl rfl (by kernel_rfl) Try.func6 (by kernel_rfl)
    (of_decide_eq_true (by kernel_rfl)) (by unfold Func.isWrapper; first | (rw [if_pos (by decide +kernel)]; kernel_rfl) | (rw [if_neg (by decide +kernel)]; exact ⟨rfl, rfl⟩))
    (fun os started H enc _ F => lifted os started H enc F)
theorem proved : Rows.TableWalkUptoSaid := over
end Go.Proofs.Ytcolmmjcdlmcoaa.tableWalk
namespace Go.Proofs.Ytcolmmjcdlmcoaa
/-- The row, under a short name, for the claim. -/
theorem tableWalk_holds : Rows.TableWalkUptoSaid := tableWalk.proved
end Go.Proofs.Ytcolmmjcdlmcoaa
