/- The row of 'TableCopies', its '..UptoSaid': whatever the input of bulk at most 1048576, the law returns true and the input reads as it did; its walk, its plain law, the row. -/
import Derived.Test.YtcolmmjcdlmcoaaMB
import Derived.Test.YtcolmmjcdlmcoaaMC5
import Derived.Test.YtcolmmjcdlmcoaaMC4
import Derived.Test.YtcolmmjcdlmcoaaMC3
import Derived.Test.YtcolmmjcdlmcoaaMT
import Derived.Test.YtcolmmjcdlmcoaaRows
import Derived.WalkKit
import Derived.ProofKit
import Derived.OpenShut
import Derived.JoinedCond
import Derived.Below
import Derived.ChangeOld
namespace Go.Proofs.Ytcolmmjcdlmcoaa.G
open Go Go.RowKit
set_option linter.unusedVariables false
set_option linter.unusedSimpArgs false
set_option maxRecDepth 100000 in
set_option maxHeartbeats 4000000 in
theorem haulagelaw13_TableCopies.calls (k : Nat) {m : Nat} {c0 : Nat → Nat} {w0 : World} {A2 : Option Addr} {C3 : Nat} {A6 : Option Addr} {C7 : Nat} {A10 : Option Addr} {C11 : Nat} {a1 : List api_Op} {a5 : List api_Op} {a9 : List api_Op} (hm0 : 0 < m) (B0 : CB m c0 w0) (h4 : SL false K_api_Op 0 0 c0 w0 A2 C3 a1) (h8 : SL false K_api_Op 0 0 c0 w0 A6 C7 a5) (h12 : SL false K_api_Op 0 0 c0 w0 A10 C11 a9) (r : Bool) (H : haulagelaw13_TableCopies.f k a1 a5 a9 = some r) : Calls Try.prog 4 #[.slice A2 a1.length C3, .slice A6 a5.length C7, .slice A10 a9.length C11] w0 (fun e w_ => ∃ (c_ : Nat → Nat), e = .returned (.bool r) ∧ Ev (fun x => False) c0 w0 c_ w_ ∧ CB m c_ w_) := by
  unfold haulagelaw13_TableCopies.f at H
  have B := B0.mono (show m ≤ m + 7 by omega)
  have E : Ev (fun x => False ∨ m ≤ x) c0 w0 c0 w0 := Ev.refl
  refine enter (N := 82) (l := [.slice A2 a1.length C3, .slice A6 a5.length C7, .slice A10 a9.length C11]) Try.func4 rfl rfl (Nat.le_of_ble_eq_true rfl) fun a F => ?_
  refine wp_seq_k fun K13 hK13 => ?_
  refine reg ?_
  refine q_val F rfl rfl (by decide) (r_assign F rfl) fun a F => ?_
  refine nil ?_
  refine hK13 _ _ ?_
  refine wp_seq_k fun K14 hK14 => ?_
  refine wp_seq_k fun K15 hK15 => ?_
  refine reg ?_
  obtain ⟨t16, q17, H⟩ := bind_some H
  refine q_call F rfl rfl (by decide) (r_call F Try.func12 rfl (by kernel_rfl) rfl) (haulagelaw13_awake.calls k (m := m + 7) (by omega) B _ q17) ?_
  rintro e w19 ⟨c18, rfl, E20, B21⟩
  refine ⟨_, rfl, fun a F => ?_⟩
  have B := B21
  have h4 := SL.ev h4 E20 (fun q => q.elim) (fun q => q.elim)
  have h8 := SL.ev h8 E20 (fun q => q.elim) (fun q => q.elim)
  have h12 := SL.ev h12 E20 (fun q => q.elim) (fun q => q.elim)
  have E := E.trans E20 (fun x q => q.elim)
  refine q_val F rfl rfl (by decide) (r_not F rfl) fun a F => ?_
  refine nil ?_
  refine hK15 _ _ ?_
  by_cases hb23 : t16 = true
  · have H := (if_pos hb23).symm.trans H
    refine wp_cond_false ((F.ev rfl).trans (congrArg Value.bool (congrArg not hb23))) ?_
    refine wp_skip ?_
    refine hK14 _ _ ?_
    refine wp_seq_k fun K25 hK25 => ?_
    refine reg ?_
    refine q_val F rfl rfl (by decide) (r_move F rfl) fun a F => ?_
    obtain ⟨t26, q27, H⟩ := bind_some H
    refine q_call F rfl rfl (by decide) (r_call F Try.func13 rfl (by kernel_rfl) rfl) (haulagelaw13_made.calls k (m := m + 7) (by omega) B h4 (by omega) (m + 1) (by omega) _ q27) ?_
    rintro e w29 ⟨c28, p32, rfl, E30, B31, h33⟩
    refine ⟨_, rfl, fun a F => ?_⟩
    have B := B31
    have h4 := SL.ev h4 E30 (fun q => q.elim) (fun q => q.elim)
    have h8 := SL.ev h8 E30 (fun q => q.elim) (fun q => q.elim)
    have h12 := SL.ev h12 E30 (fun q => q.elim) (fun q => q.elim)
    have E := E.trans E30 (fun x q => q.elim)
    refine q_val F rfl rfl (by decide) (r_assign F rfl) fun a F => ?_
    refine nil ?_
    refine hK25 _ _ ?_
    refine wp_seq_k fun K35 hK35 => ?_
    refine reg ?_
    refine q_val F rfl rfl (by decide) (r_move F rfl) fun a F => ?_
    obtain ⟨t36, q37, H⟩ := bind_some H
    refine q_call F rfl rfl (by decide) (r_call F Try.func19 rfl (by kernel_rfl) rfl) (table_Table_Copy.calls (m := m + 7) (by omega) B h33 (by omega) (m + 2) (by omega) _ q37) ?_
    rintro e w39 ⟨c38, p42, rfl, E40, B41, h43⟩
    refine ⟨_, rfl, fun a F => ?_⟩
    have B := B41
    have h4 := SL.ev h4 E40 (fun q => q.elim) (fun q => q.elim)
    have h8 := SL.ev h8 E40 (fun q => q.elim) (fun q => q.elim)
    have h12 := SL.ev h12 E40 (fun q => q.elim) (fun q => q.elim)
    have h33 := TB.ev h33 E40 (fun q => q.elim) (fun q => q.elim)
    have E := E.trans E40 (fun x q => q.elim)
    refine q_val F rfl rfl (by decide) (r_assign F rfl) fun a F => ?_
    refine nil ?_
    refine hK35 _ _ ?_
    refine wp_seq_k fun K45 hK45 => ?_
    refine wp_seq_k fun K46 hK46 => ?_
    refine reg ?_
    refine q_val F rfl rfl (by decide) (r_move F rfl) fun a F => ?_
    refine q_val F rfl rfl (by decide) (r_peqlA F Try.underlying25 rfl rfl (TB.isNone h43)) fun a F => ?_
    refine nil ?_
    refine hK46 _ _ ?_
    by_cases hb47 : (Option.isNone t36) = true
    · have H := (if_pos hb47).symm.trans H
      refine wp_cond_true ((F.ev rfl).trans (congrArg Value.bool hb47)) ?_
      refine wp_seq_k fun K48 hK48 => ?_
      refine reg ?_
      refine q_val F rfl rfl (by decide) (r_assign F rfl) fun a F => ?_
      refine nil ?_
      refine hK48 _ _ ?_
      refine wp_ret ?_
      refine thenR ?_
      have H := Option.some.inj H
      subst H
      refine out1 F rfl rfl ?_
      exact ⟨fun b_ => (fun x_ => if x_ < m then x_ else 0) (c38 b_), rfl, E.leave B0 (fun x_ => if x_ < m then x_ else 0) (by intro x_ hx_; show (if x_ < m then x_ else 0) = x_; ((repeat' split) <;> omega)), (fun b_ hb_ => by show (if (c38 b_) < m then (c38 b_) else 0) < m; ((repeat' split) <;> omega))⟩
    · have H := (if_neg hb47).symm.trans H
      refine wp_cond_false ((F.ev rfl).trans (congrArg Value.bool (bfalse hb47))) ?_
      refine wp_skip ?_
      refine hK45 _ _ ?_
      refine wp_seq_k fun K49 hK49 => ?_
      refine wp_seq_k fun K50 hK50 => ?_
      refine reg ?_
      refine q_val F rfl rfl (by decide) (r_assign F rfl) fun a F => ?_
      refine nil ?_
      refine hK50 _ _ ?_
      refine wp_block ?_
      obtain ⟨x154, HL, HR153⟩ := bind_some H
      have J238 : ∀ (c239 : Nat → Nat) (w240 : World) (a : Act) (o235 : Option Tab) (o237 : Option Tab), Fr a 82 [(0, .slice A2 a1.length C3), (1, .slice A6 a5.length C7), (2, .slice A10 a9.length C11), (7, .pointer p32), (8, .pointer p42)] → Ev (fun x => False ∨ m ≤ x) c0 w0 c239 w240 → CB (m + 7) c239 w240 → SL false K_api_Op 0 0 c239 w240 A2 C3 a1 → SL false K_api_Op 0 0 c239 w240 A6 C7 a5 → SL false K_api_Op 0 0 c239 w240 A10 C11 a9 → TB (m + 1) c239 w240 p32 o235 → TB (m + 2) c239 w240 p42 o237 → haulagelaw13_TableCopies.j6 k a1 a5 a9 o235 o237 = some r → K49 a w240 := by
        intro c239 w240 a o235 o237 F E B h4 h8 h12 h234 h236 H
        unfold haulagelaw13_TableCopies.j6 at H
        refine hK49 _ _ ?_
        refine wp_seq_k fun K241 hK241 => ?_
        refine reg ?_
        refine q_eff F rfl rfl (by decide) (e_buildSlice (n := 0) (e := 33) (c := c239) (k := K_api_Op) (i := 0) F [] [] ([] : List api_Op) (by exact trivial) (fun w => by kernel_rfl) rfl (by decide) rfl trivial (fun q => q) (m + 3)) ?_
        rintro v w243 a ⟨c242, A244, C245, rfl, E246, h247, B248⟩ F
        have B := B248 _ B (by omega)
        have h4 := SL.ev h4 E246 (fun q => q.elim) (fun q => q.elim)
        have h8 := SL.ev h8 E246 (fun q => q.elim) (fun q => q.elim)
        have h12 := SL.ev h12 E246 (fun q => q.elim) (fun q => q.elim)
        have h234 := TB.ev h234 E246 (fun q => q.elim) (fun q => q.elim)
        have h236 := TB.ev h236 E246 (fun q => q.elim) (fun q => q.elim)
        have E := E.trans E246 (fun x q => q.elim)
        refine q_val F rfl rfl (by decide) (r_move F rfl) fun a F => ?_
        obtain ⟨g249, H⟩ := ifN H
        refine q_eff F rfl rfl (by decide) (e_append (k := K_api_Op) (xs := []) (ys := a1) (c := c242) (j := (m + 3)) (i := 0) F et_22 rfl rfl h247 h4 (by simpa using g249) (by have g_ := g249; unfold maxLen; simp at g_ ⊢; omega) (by omega)) ?_
        rintro v w251 a ⟨c250, A252, C253, rfl, E254, h255, B256⟩ F
        have B := B256 _ B (by omega)
        have h4 := SL.ev h4 E254 (by show ¬ (0 = m + 3); omega) (by show ¬ (0 = m + 3); omega)
        have h8 := SL.ev h8 E254 (by show ¬ (0 = m + 3); omega) (by show ¬ (0 = m + 3); omega)
        have h12 := SL.ev h12 E254 (by show ¬ (0 = m + 3); omega) (by show ¬ (0 = m + 3); omega)
        have h234 := TB.ev h234 E254 (by show ¬ (m + 1 = m + 3); omega) (by show ¬ (0 = m + 3); omega)
        have h236 := TB.ev h236 E254 (by show ¬ (m + 2 = m + 3); omega) (by show ¬ (0 = m + 3); omega)
        have E := E.trans E254 (fun x q => by replace q : x = m + 3 := q; show False ∨ m ≤ x; omega)
        refine q_val F rfl rfl (by decide) (r_move F rfl) fun a F => ?_
        obtain ⟨g257, H⟩ := ifN H
        refine q_eff F rfl rfl (by decide) (e_append (k := K_api_Op) (xs := ([] ++ a1)) (ys := a5) (c := c250) (j := (m + 3)) (i := 0) F et_22 rfl rfl h255 h8 (by simpa using g257) (by have g_ := g257; unfold maxLen; simp at g_ ⊢; omega) (by omega)) ?_
        rintro v w259 a ⟨c258, A260, C261, rfl, E262, h263, B264⟩ F
        have B := B264 _ B (by omega)
        have h4 := SL.ev h4 E262 (by show ¬ (0 = m + 3); omega) (by show ¬ (0 = m + 3); omega)
        have h8 := SL.ev h8 E262 (by show ¬ (0 = m + 3); omega) (by show ¬ (0 = m + 3); omega)
        have h12 := SL.ev h12 E262 (by show ¬ (0 = m + 3); omega) (by show ¬ (0 = m + 3); omega)
        have h234 := TB.ev h234 E262 (by show ¬ (m + 1 = m + 3); omega) (by show ¬ (0 = m + 3); omega)
        have h236 := TB.ev h236 E262 (by show ¬ (m + 2 = m + 3); omega) (by show ¬ (0 = m + 3); omega)
        have E := E.trans E262 (fun x q => by replace q : x = m + 3 := q; show False ∨ m ≤ x; omega)
        obtain ⟨t265, q266, H⟩ := bind_some H
        refine q_call F rfl rfl (by decide) (r_call F Try.func13 rfl (by kernel_rfl) rfl) (haulagelaw13_made.calls k (m := m + 7) (by omega) B h263.r (by omega) (m + 4) (by omega) _ q266) ?_
        rintro e w268 ⟨c267, p271, rfl, E269, B270, h272⟩
        refine ⟨_, rfl, fun a F => ?_⟩
        have B := B270
        have h4 := SL.ev h4 E269 (fun q => q.elim) (fun q => q.elim)
        have h8 := SL.ev h8 E269 (fun q => q.elim) (fun q => q.elim)
        have h12 := SL.ev h12 E269 (fun q => q.elim) (fun q => q.elim)
        have h234 := TB.ev h234 E269 (fun q => q.elim) (fun q => q.elim)
        have h236 := TB.ev h236 E269 (fun q => q.elim) (fun q => q.elim)
        have h263 := SL.ev h263 E269 (fun q => q.elim) (fun q => q.elim)
        have E := E.trans E269 (fun x q => q.elim)
        refine q_val F rfl rfl (by decide) (r_assign F rfl) fun a F => ?_
        refine nil ?_
        refine hK241 _ _ ?_
        refine wp_seq_k fun K274 hK274 => ?_
        refine reg ?_
        refine q_eff F rfl rfl (by decide) (e_buildSlice (n := 0) (e := 33) (c := c267) (k := K_api_Op) (i := 0) F [] [] ([] : List api_Op) (by exact trivial) (fun w => by kernel_rfl) rfl (by decide) rfl trivial (fun q => q) (m + 5)) ?_
        rintro v w276 a ⟨c275, A277, C278, rfl, E279, h280, B281⟩ F
        have B := B281 _ B (by omega)
        have h4 := SL.ev h4 E279 (fun q => q.elim) (fun q => q.elim)
        have h8 := SL.ev h8 E279 (fun q => q.elim) (fun q => q.elim)
        have h12 := SL.ev h12 E279 (fun q => q.elim) (fun q => q.elim)
        have h234 := TB.ev h234 E279 (fun q => q.elim) (fun q => q.elim)
        have h236 := TB.ev h236 E279 (fun q => q.elim) (fun q => q.elim)
        have h263 := SL.ev h263 E279 (fun q => q.elim) (fun q => q.elim)
        have h272 := TB.ev h272 E279 (fun q => q.elim) (fun q => q.elim)
        have E := E.trans E279 (fun x q => q.elim)
        refine q_val F rfl rfl (by decide) (r_move F rfl) fun a F => ?_
        obtain ⟨g282, H⟩ := ifN H
        refine q_eff F rfl rfl (by decide) (e_append (k := K_api_Op) (xs := []) (ys := a1) (c := c275) (j := (m + 5)) (i := 0) F et_22 rfl rfl h280 h4 (by simpa using g282) (by have g_ := g282; unfold maxLen; simp at g_ ⊢; omega) (by omega)) ?_
        rintro v w284 a ⟨c283, A285, C286, rfl, E287, h288, B289⟩ F
        have B := B289 _ B (by omega)
        have h4 := SL.ev h4 E287 (by show ¬ (0 = m + 5); omega) (by show ¬ (0 = m + 5); omega)
        have h8 := SL.ev h8 E287 (by show ¬ (0 = m + 5); omega) (by show ¬ (0 = m + 5); omega)
        have h12 := SL.ev h12 E287 (by show ¬ (0 = m + 5); omega) (by show ¬ (0 = m + 5); omega)
        have h234 := TB.ev h234 E287 (by show ¬ (m + 1 = m + 5); omega) (by show ¬ (0 = m + 5); omega)
        have h236 := TB.ev h236 E287 (by show ¬ (m + 2 = m + 5); omega) (by show ¬ (0 = m + 5); omega)
        have h263 := SL.ev h263 E287 (by show ¬ (m + 3 = m + 5); omega) (by show ¬ (0 = m + 5); omega)
        have h272 := TB.ev h272 E287 (by show ¬ (m + 4 = m + 5); omega) (by show ¬ (0 = m + 5); omega)
        have E := E.trans E287 (fun x q => by replace q : x = m + 5 := q; show False ∨ m ≤ x; omega)
        refine q_val F rfl rfl (by decide) (r_move F rfl) fun a F => ?_
        obtain ⟨g290, H⟩ := ifN H
        refine q_eff F rfl rfl (by decide) (e_append (k := K_api_Op) (xs := ([] ++ a1)) (ys := a9) (c := c283) (j := (m + 5)) (i := 0) F et_22 rfl rfl h288 h12 (by simpa using g290) (by have g_ := g290; unfold maxLen; simp at g_ ⊢; omega) (by omega)) ?_
        rintro v w292 a ⟨c291, A293, C294, rfl, E295, h296, B297⟩ F
        have B := B297 _ B (by omega)
        have h4 := SL.ev h4 E295 (by show ¬ (0 = m + 5); omega) (by show ¬ (0 = m + 5); omega)
        have h8 := SL.ev h8 E295 (by show ¬ (0 = m + 5); omega) (by show ¬ (0 = m + 5); omega)
        have h12 := SL.ev h12 E295 (by show ¬ (0 = m + 5); omega) (by show ¬ (0 = m + 5); omega)
        have h234 := TB.ev h234 E295 (by show ¬ (m + 1 = m + 5); omega) (by show ¬ (0 = m + 5); omega)
        have h236 := TB.ev h236 E295 (by show ¬ (m + 2 = m + 5); omega) (by show ¬ (0 = m + 5); omega)
        have h263 := SL.ev h263 E295 (by show ¬ (m + 3 = m + 5); omega) (by show ¬ (0 = m + 5); omega)
        have h272 := TB.ev h272 E295 (by show ¬ (m + 4 = m + 5); omega) (by show ¬ (0 = m + 5); omega)
        have E := E.trans E295 (fun x q => by replace q : x = m + 5 := q; show False ∨ m ≤ x; omega)
        obtain ⟨t298, q299, H⟩ := bind_some H
        refine q_call F rfl rfl (by decide) (r_call F Try.func13 rfl (by kernel_rfl) rfl) (haulagelaw13_made.calls k (m := m + 7) (by omega) B h296.r (by omega) (m + 6) (by omega) _ q299) ?_
        rintro e w301 ⟨c300, p304, rfl, E302, B303, h305⟩
        refine ⟨_, rfl, fun a F => ?_⟩
        have B := B303
        have h4 := SL.ev h4 E302 (fun q => q.elim) (fun q => q.elim)
        have h8 := SL.ev h8 E302 (fun q => q.elim) (fun q => q.elim)
        have h12 := SL.ev h12 E302 (fun q => q.elim) (fun q => q.elim)
        have h234 := TB.ev h234 E302 (fun q => q.elim) (fun q => q.elim)
        have h236 := TB.ev h236 E302 (fun q => q.elim) (fun q => q.elim)
        have h263 := SL.ev h263 E302 (fun q => q.elim) (fun q => q.elim)
        have h272 := TB.ev h272 E302 (fun q => q.elim) (fun q => q.elim)
        have h296 := SL.ev h296 E302 (fun q => q.elim) (fun q => q.elim)
        have E := E.trans E302 (fun x q => q.elim)
        refine q_val F rfl rfl (by decide) (r_assign F rfl) fun a F => ?_
        refine nil ?_
        refine hK274 _ _ ?_
        refine wp_seq_k fun K307 hK307 => ?_
        refine reg ?_
        refine q_val F rfl rfl (by decide) (r_move F rfl) fun a F => ?_
        obtain ⟨t308, q309, H⟩ := bind_some H
        refine q_call F rfl rfl (by decide) (r_call F Try.func20 rfl (by kernel_rfl) rfl) (table_Table_Bytes.calls k (m := m + 7) (by omega) B h234 (by omega) _ q309) ?_
        rintro e w311 ⟨c310, A314, C315, rfl, E312, B313, h316⟩
        refine ⟨_, rfl, fun a F => ?_⟩
        have B := B313
        have h4 := SL.ev h4 E312 (fun q => q.elim) (fun q => q.elim)
        have h8 := SL.ev h8 E312 (fun q => q.elim) (fun q => q.elim)
        have h12 := SL.ev h12 E312 (fun q => q.elim) (fun q => q.elim)
        have h234 := TB.ev h234 E312 (fun q => q.elim) (fun q => q.elim)
        have h236 := TB.ev h236 E312 (fun q => q.elim) (fun q => q.elim)
        have h263 := SL.ev h263 E312 (fun q => q.elim) (fun q => q.elim)
        have h272 := TB.ev h272 E312 (fun q => q.elim) (fun q => q.elim)
        have h296 := SL.ev h296 E312 (fun q => q.elim) (fun q => q.elim)
        have h305 := TB.ev h305 E312 (fun q => q.elim) (fun q => q.elim)
        have E := E.trans E312 (fun x q => q.elim)
        refine q_val F rfl rfl (by decide) (r_move F rfl) fun a F => ?_
        obtain ⟨t318, q319, H⟩ := bind_some H
        refine q_call F rfl rfl (by decide) (r_call F Try.func20 rfl (by kernel_rfl) rfl) (table_Table_Bytes.calls k (m := m + 7) (by omega) B h272 (by omega) _ q319) ?_
        rintro e w321 ⟨c320, A324, C325, rfl, E322, B323, h326⟩
        refine ⟨_, rfl, fun a F => ?_⟩
        have B := B323
        have h4 := SL.ev h4 E322 (fun q => q.elim) (fun q => q.elim)
        have h8 := SL.ev h8 E322 (fun q => q.elim) (fun q => q.elim)
        have h12 := SL.ev h12 E322 (fun q => q.elim) (fun q => q.elim)
        have h234 := TB.ev h234 E322 (fun q => q.elim) (fun q => q.elim)
        have h236 := TB.ev h236 E322 (fun q => q.elim) (fun q => q.elim)
        have h263 := SL.ev h263 E322 (fun q => q.elim) (fun q => q.elim)
        have h272 := TB.ev h272 E322 (fun q => q.elim) (fun q => q.elim)
        have h296 := SL.ev h296 E322 (fun q => q.elim) (fun q => q.elim)
        have h305 := TB.ev h305 E322 (fun q => q.elim) (fun q => q.elim)
        have h316 := SL.ev h316 E322 (fun q => q.elim) (fun q => q.elim)
        have E := E.trans E322 (fun x q => q.elim)
        obtain ⟨t328, q329, H⟩ := bind_some H
        refine q_call F rfl rfl (by decide) (r_call F Try.func18 rfl (by kernel_rfl) rfl) (haulagelaw13_same.calls k (m := m + 7) (by omega) B h316 h326 _ q329) ?_
        rintro e w331 ⟨c330, rfl, E332, B333⟩
        refine ⟨_, rfl, fun a F => ?_⟩
        have B := B333
        have h4 := SL.ev h4 E332 (fun q => q.elim) (fun q => q.elim)
        have h8 := SL.ev h8 E332 (fun q => q.elim) (fun q => q.elim)
        have h12 := SL.ev h12 E332 (fun q => q.elim) (fun q => q.elim)
        have h234 := TB.ev h234 E332 (fun q => q.elim) (fun q => q.elim)
        have h236 := TB.ev h236 E332 (fun q => q.elim) (fun q => q.elim)
        have h263 := SL.ev h263 E332 (fun q => q.elim) (fun q => q.elim)
        have h272 := TB.ev h272 E332 (fun q => q.elim) (fun q => q.elim)
        have h296 := SL.ev h296 E332 (fun q => q.elim) (fun q => q.elim)
        have h305 := TB.ev h305 E332 (fun q => q.elim) (fun q => q.elim)
        have h316 := SL.ev h316 E332 (fun q => q.elim) (fun q => q.elim)
        have h326 := SL.ev h326 E332 (fun q => q.elim) (fun q => q.elim)
        have E := E.trans E332 (fun x q => q.elim)
        refine q_val F rfl rfl (by decide) (r_move F rfl) fun a F => ?_
        by_cases hb335 : t328 = true
        · have H := (if_pos hb335).symm.trans H
          refine q_yes F rfl (by decide) rfl hb335 ?_
          refine q_val F rfl rfl (by decide) (r_move F rfl) fun a F => ?_
          obtain ⟨t336, q337, H⟩ := bind_some H
          refine q_yes F rfl (by decide) rfl hb335 ?_
          refine q_call F rfl rfl (by decide) (r_call F Try.func20 rfl (by kernel_rfl) rfl) (table_Table_Bytes.calls k (m := m + 7) (by omega) B h236 (by omega) _ q337) ?_
          rintro e w339 ⟨c338, A342, C343, rfl, E340, B341, h344⟩
          refine ⟨_, rfl, fun a F => ?_⟩
          have B := B341
          have h4 := SL.ev h4 E340 (fun q => q.elim) (fun q => q.elim)
          have h8 := SL.ev h8 E340 (fun q => q.elim) (fun q => q.elim)
          have h12 := SL.ev h12 E340 (fun q => q.elim) (fun q => q.elim)
          have h234 := TB.ev h234 E340 (fun q => q.elim) (fun q => q.elim)
          have h236 := TB.ev h236 E340 (fun q => q.elim) (fun q => q.elim)
          have h263 := SL.ev h263 E340 (fun q => q.elim) (fun q => q.elim)
          have h272 := TB.ev h272 E340 (fun q => q.elim) (fun q => q.elim)
          have h296 := SL.ev h296 E340 (fun q => q.elim) (fun q => q.elim)
          have h305 := TB.ev h305 E340 (fun q => q.elim) (fun q => q.elim)
          have h316 := SL.ev h316 E340 (fun q => q.elim) (fun q => q.elim)
          have h326 := SL.ev h326 E340 (fun q => q.elim) (fun q => q.elim)
          have E := E.trans E340 (fun x q => q.elim)
          refine q_yes F rfl (by decide) rfl hb335 ?_
          refine q_val F rfl rfl (by decide) (r_move F rfl) fun a F => ?_
          obtain ⟨t346, q347, H⟩ := bind_some H
          refine q_yes F rfl (by decide) rfl hb335 ?_
          refine q_call F rfl rfl (by decide) (r_call F Try.func20 rfl (by kernel_rfl) rfl) (table_Table_Bytes.calls k (m := m + 7) (by omega) B h305 (by omega) _ q347) ?_
          rintro e w349 ⟨c348, A352, C353, rfl, E350, B351, h354⟩
          refine ⟨_, rfl, fun a F => ?_⟩
          have B := B351
          have h4 := SL.ev h4 E350 (fun q => q.elim) (fun q => q.elim)
          have h8 := SL.ev h8 E350 (fun q => q.elim) (fun q => q.elim)
          have h12 := SL.ev h12 E350 (fun q => q.elim) (fun q => q.elim)
          have h234 := TB.ev h234 E350 (fun q => q.elim) (fun q => q.elim)
          have h236 := TB.ev h236 E350 (fun q => q.elim) (fun q => q.elim)
          have h263 := SL.ev h263 E350 (fun q => q.elim) (fun q => q.elim)
          have h272 := TB.ev h272 E350 (fun q => q.elim) (fun q => q.elim)
          have h296 := SL.ev h296 E350 (fun q => q.elim) (fun q => q.elim)
          have h305 := TB.ev h305 E350 (fun q => q.elim) (fun q => q.elim)
          have h316 := SL.ev h316 E350 (fun q => q.elim) (fun q => q.elim)
          have h326 := SL.ev h326 E350 (fun q => q.elim) (fun q => q.elim)
          have h344 := SL.ev h344 E350 (fun q => q.elim) (fun q => q.elim)
          have E := E.trans E350 (fun x q => q.elim)
          obtain ⟨t356, q357, H⟩ := bind_some H
          refine q_yes F rfl (by decide) rfl hb335 ?_
          refine q_call F rfl rfl (by decide) (r_call F Try.func18 rfl (by kernel_rfl) rfl) (haulagelaw13_same.calls k (m := m + 7) (by omega) B h344 h354 _ q357) ?_
          rintro e w359 ⟨c358, rfl, E360, B361⟩
          refine ⟨_, rfl, fun a F => ?_⟩
          have B := B361
          have h4 := SL.ev h4 E360 (fun q => q.elim) (fun q => q.elim)
          have h8 := SL.ev h8 E360 (fun q => q.elim) (fun q => q.elim)
          have h12 := SL.ev h12 E360 (fun q => q.elim) (fun q => q.elim)
          have h234 := TB.ev h234 E360 (fun q => q.elim) (fun q => q.elim)
          have h236 := TB.ev h236 E360 (fun q => q.elim) (fun q => q.elim)
          have h263 := SL.ev h263 E360 (fun q => q.elim) (fun q => q.elim)
          have h272 := TB.ev h272 E360 (fun q => q.elim) (fun q => q.elim)
          have h296 := SL.ev h296 E360 (fun q => q.elim) (fun q => q.elim)
          have h305 := TB.ev h305 E360 (fun q => q.elim) (fun q => q.elim)
          have h316 := SL.ev h316 E360 (fun q => q.elim) (fun q => q.elim)
          have h326 := SL.ev h326 E360 (fun q => q.elim) (fun q => q.elim)
          have h344 := SL.ev h344 E360 (fun q => q.elim) (fun q => q.elim)
          have h354 := SL.ev h354 E360 (fun q => q.elim) (fun q => q.elim)
          have E := E.trans E360 (fun x q => q.elim)
          refine q_val F rfl rfl (by decide) (r_pick_t F rfl hb335 rfl) fun a F => ?_
          refine q_val F rfl rfl (by decide) (r_assign F rfl) fun a F => ?_
          refine nil ?_
          refine hK307 _ _ ?_
          refine wp_ret ?_
          have H := Option.some.inj H
          subst H
          refine out1 F rfl rfl ?_
          exact ⟨fun b_ => (fun x_ => if x_ < m then x_ else 0) (c358 b_), rfl, E.leave B0 (fun x_ => if x_ < m then x_ else 0) (by intro x_ hx_; show (if x_ < m then x_ else 0) = x_; ((repeat' split) <;> omega)), (fun b_ hb_ => by show (if (c358 b_) < m then (c358 b_) else 0) < m; ((repeat' split) <;> omega))⟩
        · have H := (if_neg hb335).symm.trans H
          refine q_no F rfl (by decide) rfl (bfalse hb335) (by decide) fun a F => ?_
          refine q_no F rfl (by decide) rfl (bfalse hb335) (by decide) fun a F => ?_
          refine q_no F rfl (by decide) rfl (bfalse hb335) (by decide) fun a F => ?_
          refine q_no F rfl (by decide) rfl (bfalse hb335) (by decide) fun a F => ?_
          refine q_no F rfl (by decide) rfl (bfalse hb335) (by decide) fun a F => ?_
          refine q_val F rfl rfl (by decide) (r_pick_f F rfl (bfalse hb335) rfl) fun a F => ?_
          refine q_val F rfl rfl (by decide) (r_assign F rfl) fun a F => ?_
          refine nil ?_
          refine hK307 _ _ ?_
          refine wp_ret ?_
          have H := Option.some.inj H
          subst H
          refine out1 F rfl rfl ?_
          exact ⟨fun b_ => (fun x_ => if x_ < m then x_ else 0) (c330 b_), rfl, E.leave B0 (fun x_ => if x_ < m then x_ else 0) (by intro x_ hx_; show (if x_ < m then x_ else 0) = x_; ((repeat' split) <;> omega)), (fun b_ hb_ => by show (if (c330 b_) < m then (c330 b_) else 0) < m; ((repeat' split) <;> omega))⟩
      refine loop_fuel (I := fun n a w => ∃ (o140 : Option Tab) (o143 : Option Tab) (i144 : Int) (c : Nat → Nat), Fr a 82 [(0, .slice A2 a1.length C3), (1, .slice A6 a5.length C7), (2, .slice A10 a9.length C11), (7, .pointer p32), (8, .pointer p42), (9, .int .i64 i144)] ∧ Ev (fun x => False ∨ m ≤ x) c0 w0 c w ∧ CB (m + 7) c w ∧ SL false K_api_Op 0 0 c w A2 C3 a1 ∧ SL false K_api_Op 0 0 c w A6 C7 a5 ∧ SL false K_api_Op 0 0 c w A10 C11 a9 ∧ TB (m + 1) c w p32 o140 ∧ TB (m + 2) c w p42 o143 ∧ loop (fun (s_ : (Option Tab) × (Option Tab) × Int) => haulagelaw13_TableCopies.b5 k a5 a9 s_.1 s_.2.1 s_.2.2) n (o140, o143, i144) = some x154) (k := k) ⟨t26, t36, 0, c38, F.sub ⟨rfl, rfl, rfl, rfl, rfl, rfl, trivial⟩, E, B, h4, h8, h12, h33, h43, HL⟩ ?_
      clear HL H E F B
      intro n151 X147 hX147 a w146 ⟨o140, o143, i144, c145, F, E, B, h4, h8, h12, h139, h142, HL⟩
      obtain ⟨n152, ctl150, rfl, HB, HN148, HD149⟩ := loop_some HL
      have H : haulagelaw13_TableCopies.b5 k a5 a9 o140 o143 i144 = some ctl150 := HB
      clear HB HL
      unfold haulagelaw13_TableCopies.b5 at H
      refine wp_seq_k fun K155 hK155 => ?_
      refine wp_seq_k fun K156 hK156 => ?_
      have J159 : ∀ (c160 : Nat → Nat) (w161 : World) (a : Act) (b158 : Bool), Fr a 82 [(0, .slice A2 a1.length C3), (1, .slice A6 a5.length C7), (2, .slice A10 a9.length C11), (7, .pointer p32), (8, .pointer p42), (9, .int .i64 i144), (29, .bool b158)] → Ev (fun x => False ∨ m ≤ x) c0 w0 c160 w161 → CB (m + 7) c160 w161 → SL false K_api_Op 0 0 c160 w161 A2 C3 a1 → SL false K_api_Op 0 0 c160 w161 A6 C7 a5 → SL false K_api_Op 0 0 c160 w161 A10 C11 a9 → TB (m + 1) c160 w161 p32 o140 → TB (m + 2) c160 w161 p42 o143 → haulagelaw13_TableCopies.j3 k a5 a9 o140 o143 i144 b158 = some ctl150 → K156 a w161 := by
        intro c160 w161 a b158 F E B h4 h8 h12 h139 h142 H
        unfold haulagelaw13_TableCopies.j3 at H
        refine hK156 _ _ ?_
        by_cases hb162 : b158 = true
        · have H := (if_pos hb162).symm.trans H
          refine wp_cond_true ((F.ev rfl).trans (congrArg Value.bool hb162)) ?_
          refine wp_skip ?_
          refine hK155 _ _ ?_
          refine wp_seq_k fun K163 hK163 => ?_
          refine wp_block ?_
          refine wp_seq_k fun K164 hK164 => ?_
          have J196 : ∀ (c197 : Nat → Nat) (w198 : World) (a : Act) (o195 : Option Tab), Fr a 82 [(0, .slice A2 a1.length C3), (1, .slice A6 a5.length C7), (2, .slice A10 a9.length C11), (7, .pointer p32), (8, .pointer p42), (9, .int .i64 i144)] → Ev (fun x => False ∨ m ≤ x) c0 w0 c197 w198 → CB (m + 7) c197 w198 → SL false K_api_Op 0 0 c197 w198 A2 C3 a1 → SL false K_api_Op 0 0 c197 w198 A6 C7 a5 → SL false K_api_Op 0 0 c197 w198 A10 C11 a9 → TB (m + 2) c197 w198 p42 o143 → TB (m + 1) c197 w198 p32 o195 → haulagelaw13_TableCopies.j4 k a9 o143 i144 o195 = some ctl150 → K164 a w198 := by
            intro c197 w198 a o195 F E B h4 h8 h12 h142 h194 H
            unfold haulagelaw13_TableCopies.j4 at H
            refine hK164 _ _ ?_
            refine wp_seq_k fun K199 hK199 => ?_
            refine reg ?_
            refine q_val F rfl rfl (by decide) (r_move F rfl) fun a F => ?_
            refine q_val F rfl rfl (by decide) (r_move F rfl) fun a F => ?_
            refine q_val F rfl rfl (by decide) (r_lensl F Try.underlying22 rfl) fun a F => ?_
            refine q_val F rfl rfl (by decide) (r_lss F rfl rfl) fun a F => ?_
            refine nil ?_
            refine hK199 _ _ ?_
            by_cases hb200 : i144 < (a9.length : Int)
            · have H := (if_pos hb200).symm.trans H
              refine wp_cond_true ((F.ev rfl).trans (congrArg Value.bool (decide_eq_true hb200))) ?_
              refine reg ?_
              refine q_val F rfl rfl (by decide) (r_move F rfl) fun a F => ?_
              refine q_val F rfl rfl (by decide) (r_move F rfl) fun a F => ?_
              refine q_val F rfl rfl (by decide) (r_move F rfl) fun a F => ?_
              obtain ⟨g201, H⟩ := ifN H
              obtain ⟨ad202, cs203, e204, h205, r206⟩ := SL.at h12 i144 g201.1 g201.2
              obtain ⟨A207, C208, A210, C211, rfl, h209, h212⟩ := r206
              have h209 := SL.fl (i' := 0) h209 (fun q => q)
              have h212 := SL.fl (i' := 0) h212 (fun q => q)
              obtain ⟨qa213, qqa213⟩ : ∃ q, q = (ad202.add (i144.toNat * 4)) := ⟨_, rfl⟩
              have h205 : AT false 0 c197 w198 qa213 [.int .i64 ((rd a9 i144).Kind), .slice A207 ((rd a9 i144).Key).length C208, .slice A210 ((rd a9 i144).Value).length C211, .int .i64 ((rd a9 i144).Rev)] := by rw [qqa213]; exact h205
              refine q_val F rfl rfl (by decide) (r_indexAddr' F Try.underlying22 sz_33 rfl rfl g201.1 g201.2 e204 qqa213) fun a F => ?_
              refine q_val F rfl rfl (by decide) (r_loads (cs := [.int .i64 ((rd a9 i144).Kind), .slice A207 ((rd a9 i144).Key).length C208, .slice A210 ((rd a9 i144).Value).length C211, .int .i64 ((rd a9 i144).Rev)]) F rfl ag_33 sz_33 h205) fun a F => ?_
              obtain ⟨t124, q125, H⟩ := bind_some H
              refine q_call F rfl rfl (by decide) (r_call F Try.func14 rfl (by kernel_rfl) rfl) (table_Table_Do.calls k (m := m + 7) (by omega) B h142 h209 h212 (by omega) _ q125) ?_
              rintro e w216 ⟨c215, A219, C220, A222, C223, rfl, E217, B218, h221, h224, h225⟩
              refine ⟨_, rfl, fun a F => ?_⟩
              have B := B218
              have h4 := SL.ev h4 E217 (by show ¬ (0 = m + 2); omega) (by show ¬ (0 = m + 2); omega)
              have h8 := SL.ev h8 E217 (by show ¬ (0 = m + 2); omega) (by show ¬ (0 = m + 2); omega)
              have h12 := SL.ev h12 E217 (by show ¬ (0 = m + 2); omega) (by show ¬ (0 = m + 2); omega)
              have h194 := TB.ev h194 E217 (by show ¬ (m + 1 = m + 2); omega) (by show ¬ (0 = m + 2); omega)
              have h209 := SL.ev h209 E217 (by show ¬ (0 = m + 2); omega) (by show ¬ (0 = m + 2); omega)
              have h212 := SL.ev h212 E217 (by show ¬ (0 = m + 2); omega) (by show ¬ (0 = m + 2); omega)
              have h205 := AT.ev h205 E217 (by show ¬ (0 = m + 2); omega)
              have E := E.trans E217 (fun x q => by replace q : x = m + 2 := q; show False ∨ m ≤ x; omega)
              refine q_val F rfl rfl (by decide) (r_move F rfl) fun a F => ?_
              refine q_val F rfl rfl (by decide) (r_extract F rfl rfl) fun a F => ?_
              refine q_val F rfl rfl (by decide) (r_extract F rfl rfl) fun a F => ?_
              refine nil ?_
              refine hK163 _ _ ?_
              refine reg ?_
              refine q_val F rfl rfl (by decide) (r_move F rfl) fun a F => ?_
              refine q_val F rfl rfl (by decide) (r_add F rfl rfl) fun a F => ?_
              refine q_val F rfl rfl (by decide) (r_assign F rfl) fun a F => ?_
              refine nil ?_
              have H := HN148 _ (Option.some.inj H).symm
              exact hX147 _ _ _ (Nat.lt_succ_self _) ⟨o195, t124.2.2, (IntKind.i64.wrap (i144 + 1)), c215, F.sub ⟨rfl, rfl, rfl, rfl, rfl, rfl, trivial⟩, E, B, h4, h8, h12, h194, h225, H⟩
            · have H := (if_neg hb200).symm.trans H
              refine wp_cond_false ((F.ev rfl).trans (congrArg Value.bool (decide_eq_false hb200))) ?_
              refine wp_skip ?_
              refine hK163 _ _ ?_
              refine reg ?_
              refine q_val F rfl rfl (by decide) (r_move F rfl) fun a F => ?_
              refine q_val F rfl rfl (by decide) (r_add F rfl rfl) fun a F => ?_
              refine q_val F rfl rfl (by decide) (r_assign F rfl) fun a F => ?_
              refine nil ?_
              have H := HN148 _ (Option.some.inj H).symm
              exact hX147 _ _ _ (Nat.lt_succ_self _) ⟨o195, o143, (IntKind.i64.wrap (i144 + 1)), c197, F.sub ⟨rfl, rfl, rfl, rfl, rfl, rfl, trivial⟩, E, B, h4, h8, h12, h194, h142, H⟩
          refine wp_seq_k fun K165 hK165 => ?_
          refine reg ?_
          refine q_val F rfl rfl (by decide) (r_move F rfl) fun a F => ?_
          refine q_val F rfl rfl (by decide) (r_move F rfl) fun a F => ?_
          refine q_val F rfl rfl (by decide) (r_lensl F Try.underlying22 rfl) fun a F => ?_
          refine q_val F rfl rfl (by decide) (r_lss F rfl rfl) fun a F => ?_
          refine nil ?_
          refine hK165 _ _ ?_
          by_cases hb166 : i144 < (a5.length : Int)
          · have H := (if_pos hb166).symm.trans H
            refine wp_cond_true ((F.ev rfl).trans (congrArg Value.bool (decide_eq_true hb166))) ?_
            refine reg ?_
            refine q_val F rfl rfl (by decide) (r_move F rfl) fun a F => ?_
            refine q_val F rfl rfl (by decide) (r_move F rfl) fun a F => ?_
            refine q_val F rfl rfl (by decide) (r_move F rfl) fun a F => ?_
            obtain ⟨g167, H⟩ := ifN H
            obtain ⟨ad168, cs169, e170, h171, r172⟩ := SL.at h8 i144 g167.1 g167.2
            obtain ⟨A173, C174, A176, C177, rfl, h175, h178⟩ := r172
            have h175 := SL.fl (i' := 0) h175 (fun q => q)
            have h178 := SL.fl (i' := 0) h178 (fun q => q)
            obtain ⟨qa179, qqa179⟩ : ∃ q, q = (ad168.add (i144.toNat * 4)) := ⟨_, rfl⟩
            have h171 : AT false 0 c160 w161 qa179 [.int .i64 ((rd a5 i144).Kind), .slice A173 ((rd a5 i144).Key).length C174, .slice A176 ((rd a5 i144).Value).length C177, .int .i64 ((rd a5 i144).Rev)] := by rw [qqa179]; exact h171
            refine q_val F rfl rfl (by decide) (r_indexAddr' F Try.underlying22 sz_33 rfl rfl g167.1 g167.2 e170 qqa179) fun a F => ?_
            refine q_val F rfl rfl (by decide) (r_loads (cs := [.int .i64 ((rd a5 i144).Kind), .slice A173 ((rd a5 i144).Key).length C174, .slice A176 ((rd a5 i144).Value).length C177, .int .i64 ((rd a5 i144).Rev)]) F rfl ag_33 sz_33 h171) fun a F => ?_
            obtain ⟨t88, q89, H⟩ := bind_some H
            refine q_call F rfl rfl (by decide) (r_call F Try.func14 rfl (by kernel_rfl) rfl) (table_Table_Do.calls k (m := m + 7) (by omega) B h139 h175 h178 (by omega) _ q89) ?_
            rintro e w182 ⟨c181, A185, C186, A188, C189, rfl, E183, B184, h187, h190, h191⟩
            refine ⟨_, rfl, fun a F => ?_⟩
            have B := B184
            have h4 := SL.ev h4 E183 (by show ¬ (0 = m + 1); omega) (by show ¬ (0 = m + 1); omega)
            have h8 := SL.ev h8 E183 (by show ¬ (0 = m + 1); omega) (by show ¬ (0 = m + 1); omega)
            have h12 := SL.ev h12 E183 (by show ¬ (0 = m + 1); omega) (by show ¬ (0 = m + 1); omega)
            have h142 := TB.ev h142 E183 (by show ¬ (m + 2 = m + 1); omega) (by show ¬ (0 = m + 1); omega)
            have h175 := SL.ev h175 E183 (by show ¬ (0 = m + 1); omega) (by show ¬ (0 = m + 1); omega)
            have h178 := SL.ev h178 E183 (by show ¬ (0 = m + 1); omega) (by show ¬ (0 = m + 1); omega)
            have h171 := AT.ev h171 E183 (by show ¬ (0 = m + 1); omega)
            have E := E.trans E183 (fun x q => by replace q : x = m + 1 := q; show False ∨ m ≤ x; omega)
            refine q_val F rfl rfl (by decide) (r_move F rfl) fun a F => ?_
            refine q_val F rfl rfl (by decide) (r_extract F rfl rfl) fun a F => ?_
            refine q_val F rfl rfl (by decide) (r_extract F rfl rfl) fun a F => ?_
            refine nil ?_
            exact J196 c181 w182 a t88.2.2 (F.sub ⟨rfl, rfl, rfl, rfl, rfl, rfl, trivial⟩) E B h4 h8 h12 h142 h191 H
          · have H := (if_neg hb166).symm.trans H
            refine wp_cond_false ((F.ev rfl).trans (congrArg Value.bool (decide_eq_false hb166))) ?_
            refine wp_skip ?_
            exact J196 c160 w161 a o140 (F.sub ⟨rfl, rfl, rfl, rfl, rfl, rfl, trivial⟩) E B h4 h8 h12 h142 h139 H
        · have H := (if_neg hb162).symm.trans H
          refine wp_cond_false ((F.ev rfl).trans (congrArg Value.bool (bfalse hb162))) ?_
          refine wp_exit ?_
          refine thenE ?_
          refine thenE ?_
          refine inbE ?_
          have hx_ := HD149 _ (Option.some.inj H).symm
          have H := HR153
          rw [← hx_] at H
          exact J238 c160 w161 a o140 o143 (F.sub ⟨rfl, rfl, rfl, rfl, rfl, trivial⟩) E B h4 h8 h12 h139 h142 H
      refine reg ?_
      refine q_val F rfl rfl (by decide) (r_move F rfl) fun a F => ?_
      refine q_val F rfl rfl (by decide) (r_move F rfl) fun a F => ?_
      refine q_val F rfl rfl (by decide) (r_lensl F Try.underlying22 rfl) fun a F => ?_
      refine q_val F rfl rfl (by decide) (r_lss F rfl rfl) fun a F => ?_
      refine q_val F rfl rfl (by decide) (r_move F rfl) fun a F => ?_
      by_cases hb157 : i144 < (a5.length : Int)
      · have H := (if_pos hb157).symm.trans H
        refine q_no F rfl (by decide) rfl (decide_eq_true hb157) (by decide) fun a F => ?_
        refine q_no F rfl (by decide) rfl (decide_eq_true hb157) (by decide) fun a F => ?_
        refine q_no F rfl (by decide) rfl (decide_eq_true hb157) (by decide) fun a F => ?_
        refine q_no F rfl (by decide) rfl (decide_eq_true hb157) (by decide) fun a F => ?_
        refine q_val F rfl rfl (by decide) (r_pick_t F rfl (decide_eq_true hb157) rfl) fun a F => ?_
        refine nil ?_
        exact J159 c145 w146 a true (F.sub ⟨rfl, rfl, rfl, rfl, rfl, rfl, rfl, trivial⟩) E B h4 h8 h12 h139 h142 H
      · have H := (if_neg hb157).symm.trans H
        refine q_yes F rfl (by decide) rfl (decide_eq_false hb157) ?_
        refine q_val F rfl rfl (by decide) (r_move F rfl) fun a F => ?_
        refine q_yes F rfl (by decide) rfl (decide_eq_false hb157) ?_
        refine q_val F rfl rfl (by decide) (r_move F rfl) fun a F => ?_
        refine q_yes F rfl (by decide) rfl (decide_eq_false hb157) ?_
        refine q_val F rfl rfl (by decide) (r_lensl F Try.underlying22 rfl) fun a F => ?_
        refine q_yes F rfl (by decide) rfl (decide_eq_false hb157) ?_
        refine q_val F rfl rfl (by decide) (r_lss F rfl rfl) fun a F => ?_
        refine q_val F rfl rfl (by decide) (r_pick_f F rfl (decide_eq_false hb157) rfl) fun a F => ?_
        refine nil ?_
        exact J159 c145 w146 a (decide (i144 < (a9.length : Int))) (F.sub ⟨rfl, rfl, rfl, rfl, rfl, rfl, rfl, trivial⟩) E B h4 h8 h12 h139 h142 H
  · have H := (if_neg hb23).symm.trans H
    refine wp_cond_true ((F.ev rfl).trans (congrArg Value.bool (congrArg not (bfalse hb23)))) ?_
    refine wp_seq_k fun K24 hK24 => ?_
    refine reg ?_
    refine q_val F rfl rfl (by decide) (r_assign F rfl) fun a F => ?_
    refine nil ?_
    refine hK24 _ _ ?_
    refine wp_ret ?_
    refine thenR ?_
    have H := Option.some.inj H
    subst H
    refine out1 F rfl rfl ?_
    exact ⟨fun b_ => (fun x_ => if x_ < m then x_ else 0) (c18 b_), rfl, E.leave B0 (fun x_ => if x_ < m then x_ else 0) (by intro x_ hx_; show (if x_ < m then x_ else 0) = x_; ((repeat' split) <;> omega)), (fun b_ hb_ => by show (if (c18 b_) < m then (c18 b_) else 0) < m; ((repeat' split) <;> omega))⟩
end Go.Proofs.Ytcolmmjcdlmcoaa.G
/-! awake; TableCopies; TableSwaps. -/
namespace Go.Proofs.Ytcolmmjcdlmcoaa.G
open Go
set_option linter.unusedVariables false
set_option linter.unusedSimpArgs false
theorem loop_inv {S X : Type} {f : S → Option (Ctl S X)} {I : Nat → S → Prop} {P : X → Prop} {N : Nat}
    (step : ∀ i s, i < N → I i s → (∃ s', f s = some (.next s') ∧ I (i + 1) s') ∨ (∃ x, f s = some (.done x) ∧ P x))
    (last : ∀ s, I N s → ∃ x, f s = some (.done x) ∧ P x) : ∀ (n i : Nat) (s : S) (m : Nat), I i s → i + n = N → n < m → ∃ x, loop f m s = some x ∧ P x
  | _, _, _, 0, _, _, h => absurd h (by omega)
  | 0, i, s, m + 1, hI, hN, _ => by
    obtain rfl : i = N := by omega
    obtain ⟨x, h1, h2⟩ := last s hI
    exact ⟨x, loop_done h1, h2⟩
  | n + 1, i, s, m + 1, hI, hN, hm => by
    rcases step i s (by omega) hI with ⟨s', h1, h2⟩ | ⟨x, h1, h2⟩
    · rw [loop_next h1]
      exact loop_inv step last n (i + 1) s' m h2 (by omega) (by omega)
    · exact ⟨x, loop_done h1, h2⟩
theorem act1 : act [] 0 (api_Op.mk 2 [97] [49] 0) = (⟨true, [], [], 0, 1⟩, 0, [(bs [97], ⟨[49], 1⟩)], 1) := by
  simp [act, right, keyok, look, ins, told]
theorem act2 : act [(bs [97], ⟨[49], 1⟩)] 1 (api_Op.mk 2 [97] [50] 0) = (⟨true, sb (bs [97]), [49], 1, 2⟩, 0, [(bs [97], ⟨[50], 2⟩)], 2) := by
  simp [act, right, keyok, look, ins, told, lt_irr]
theorem act3 : act [(bs [97], ⟨[50], 2⟩)] 2 (api_Op.mk 1 [97] [] 0) = (⟨true, sb (bs [97]), [50], 2, 2⟩, 0, [(bs [97], ⟨[50], 2⟩)], 2) := by
  simp [act, right, keyok, look, ins, told, lt_irr]
theorem act4 : act [(bs [97], ⟨[50], 2⟩)] 2 (api_Op.mk 0 [] [] 0) = (zeroA, 131, [(bs [97], ⟨[50], 2⟩)], 2) := by
  simp [act, right, keyok]
theorem awake_eq {k : Nat} (hk : Fuel k) : haulagelaw13_awake.f k = some true := by
  obtain ⟨t0, e0, R0⟩ := new_rep
  obtain ⟨t1, e1, R1⟩ := do_eq hk (by omega) R0 (api_Op.mk 2 [97] [49] 0)
  rw [act1] at e1 R1
  obtain ⟨t2, e2, R2⟩ := do_eq hk (by simp) R1 (api_Op.mk 2 [97] [50] 0)
  rw [act2] at e2 R2
  obtain ⟨t3, e3, R3⟩ := do_eq hk (by simp) R2 (api_Op.mk 1 [97] [] 0)
  rw [act3] at e3 R3
  obtain ⟨t4, e4, R4⟩ := do_eq hk (by simp) R3 (api_Op.mk 0 [] [] 0)
  rw [act4] at e4 R4
  have R4' : RepS t4 ([(bs [97], ⟨[50], 2⟩)], 2) := R4
  have eb := bytes_eq hk (by simp) R4'
  have ef : form ([(bs [97], ⟨[50], 2⟩)], 2) = [2, 1, 1, 97, 1, 50, 2] := by decide
  unfold haulagelaw13_awake.f haulagelaw13_put.f haulagelaw13_get.f
  rw [bind_eq e0, Option.bind_some, bind_eq e1, Option.bind_some, bind_eq e2, Option.bind_some, bind_eq e3, bind_eq e4]
  simp only [if_true]
  rw [bind_eq (same_eq hk _ _ (by simp)), if_pos (by simp), bind_eq (same_eq hk _ _ (by simp)), if_pos (by simp), bind_eq eb, ef, bind_eq (same_eq hk _ _ (by simp))]
  simp
/-! ### TableCopies -/
theorem run_lt {ops : List api_Op} {n : Nat} (h : ops.length < n) : (run ([], 0) ops).2 < n := by
  have := run_r ops ([], 0)
  simp only at this; omega
theorem half {k : Nat} (hk : Fuel k) {ahead ops : List api_Op} {i : Nat} {t : Option Tab} (hl : ahead.length + ops.length < 4000000) (hR : RepS t (run ([], 0) (ahead ++ ops.take i))) :
    (i < ops.length → ∃ x y t', table_Table_Do.f k t (rd ops (i : Int)) = some (x, y, t') ∧ RepS t' (run ([], 0) (ahead ++ ops.take (i + 1)))) ∧ (¬ i < ops.length → RepS t (run ([], 0) (ahead ++ ops.take (i + 1)))) := by
  refine ⟨fun h => ?_, fun h => ?_⟩
  · have hr : (run ([], 0) (ahead ++ ops.take i)).2 < 4000000 := run_lt (by simp; omega)
    obtain ⟨t', e, R⟩ := do_step hk (by omega) hR ops[i]
    refine ⟨_, _, t', by rw [rd_eq h]; exact e, ?_⟩
    rw [take_one h, ← List.append_assoc, run_snoc]; exact R
  · rw [List.take_of_length_le (by omega)] at hR ⊢; exact hR
theorem form_short {s : St} (hs : s.2 < 4194304) {t : Option Tab} (hR : RepS t s) : (form s).length < 4000000000 := by
  obtain ⟨rows, rfl, hw, hl, hI⟩ := hR
  have hlen := hI.len
  have hsz := sz_le hI.ent
  have h1 := nm_le s.2; have h2 := nm_le s.1.length
  have f1 := fm_len s.2; have f2 := fm_len s.1.length
  have hfl := flat_len s.1
  unfold form
  simp only [List.length_append]; omega
theorem TableCopies_true {k : Nat} (hk : Fuel k) (ahead one two : List api_Op) (h1 : ahead.length + one.length < 4000000) (h2 : ahead.length + two.length < 4000000) :
    haulagelaw13_TableCopies.f k ahead one two = some true := by
  have h24 : 1099511627776 ≤ k := hk
  obtain ⟨t, et, Rt⟩ := made_eq hk ahead (by omega)
  unfold haulagelaw13_TableCopies.f
  rw [bind_eq (awake_eq hk), if_pos rfl, bind_eq et, bind_eq (copy_eq Rt)]
  have hns : Option.isNone t = false := by obtain ⟨rows, rfl, _⟩ := Rt; rfl
  rw [if_neg (by rw [hns]; simp)]
  have L := loop_inv (f := fun (s_ : (Option Tab) × (Option Tab) × Int) => haulagelaw13_TableCopies.b5 k one two s_.1 s_.2.1 s_.2.2)
    (I := fun i s => s.2.2 = (i : Int) ∧ RepS s.1 (run ([], 0) (ahead ++ one.take i)) ∧ RepS s.2.1 (run ([], 0) (ahead ++ two.take i)))
    (P := fun x => RepS x.1 (run ([], 0) (ahead ++ one)) ∧ RepS x.2 (run ([], 0) (ahead ++ two))) (N := max one.length two.length) ?_ ?_ (max one.length two.length) 0 (t, t, 0) k ⟨rfl, by simpa using Rt, by simpa using Rt⟩ (by omega) (by omega)
  · obtain ⟨x, ex, r1, r2⟩ := L
    rw [bind_eq ex]
    unfold haulagelaw13_TableCopies.j6
    obtain ⟨v, ev, Rv⟩ := made_eq hk (ahead ++ one) (by simp; omega)
    obtain ⟨w, ew, Rw⟩ := made_eq hk (ahead ++ two) (by simp; omega)
    have g1 : (run ([], 0) (ahead ++ one)).2 < 4194304 := run_lt (by simp; omega)
    have g2 : (run ([], 0) (ahead ++ two)).2 < 4194304 := run_lt (by simp; omega)
    simp only [List.nil_append]
    rw [if_pos (by omega), if_pos (by omega), bind_eq ev, if_pos (by omega), if_pos (by omega), bind_eq ew, bind_eq (bytes_eq hk g1 r1), bind_eq (bytes_eq hk g1 Rv)]
    rw [bind_eq (same_eq hk _ _ (Or.inl (form_short g1 r1))), if_pos (by simp), bind_eq (bytes_eq hk g2 r2), bind_eq (bytes_eq hk g2 Rw), bind_eq (same_eq hk _ _ (Or.inl (form_short g2 r2)))]
    simp
  · rintro i ⟨a, b, c⟩ hi ⟨rfl, r1, r2⟩
    left
    simp only at r1 r2
    have m1 := half hk h1 r1
    have m2 := half hk h2 r2
    have hj : ∀ a', RepS a' (run ([], 0) (ahead ++ one.take (i + 1))) → ∃ s', haulagelaw13_TableCopies.j4 k two b (i : Int) a' = some (.next s') ∧ s'.2.2 = ((i + 1 : Nat) : Int) ∧ RepS s'.1 (run ([], 0) (ahead ++ one.take (i + 1))) ∧ RepS s'.2.1 (run ([], 0) (ahead ++ two.take (i + 1))) := by
      intro a' ra
      unfold haulagelaw13_TableCopies.j4
      by_cases c : i < two.length
      · obtain ⟨x, y, b', eb, rb⟩ := m2.1 c
        rw [if_pos (by omega), if_pos (by omega), bind_eq eb, wrS i (by omega)]
        exact ⟨_, rfl, rfl, ra, rb⟩
      · rw [if_neg (by omega), wrS i (by omega)]
        exact ⟨_, rfl, rfl, ra, m2.2 c⟩
    have hb : haulagelaw13_TableCopies.b5 k one two a b (i : Int) = haulagelaw13_TableCopies.j3 k one two a b (i : Int) true := by
      unfold haulagelaw13_TableCopies.b5
      by_cases c : i < one.length
      · rw [if_pos (by omega)]
      · rw [if_neg (by omega), decide_eq_true (by omega)]
    show ∃ s', haulagelaw13_TableCopies.b5 k one two a b (i : Int) = _ ∧ _
    rw [hb]
    unfold haulagelaw13_TableCopies.j3
    rw [if_pos rfl]
    by_cases c : i < one.length
    · obtain ⟨x, y, a', ea, ra⟩ := m1.1 c
      rw [if_pos (by omega), if_pos (by omega), bind_eq ea]
      exact hj a' ra
    · rw [if_neg (by omega)]
      exact hj a (m1.2 c)
  · rintro ⟨a, b, c⟩ ⟨rfl, r1, r2⟩
    simp only at r1 r2
    rw [List.take_of_length_le (by omega)] at r1 r2
    refine ⟨(a, b), ?_, r1, r2⟩
    show haulagelaw13_TableCopies.b5 k one two a b ((max one.length two.length : Nat) : Int) = _
    have q1 := Nat.le_max_left one.length two.length; have q2 := Nat.le_max_right one.length two.length
    unfold haulagelaw13_TableCopies.b5 haulagelaw13_TableCopies.j3
    rw [if_neg (by omega), decide_eq_false (by omega), if_neg (by simp)]
end Go.Proofs.Ytcolmmjcdlmcoaa.G
/- The row of 'TableCopies' (its '..UptoSaid'): whatever the input of bulk at most 1048576, the law returns true and the input reads as it did. -/
namespace Go.Proofs.Ytcolmmjcdlmcoaa.tableCopies
open Go.ChangeShapes Go.WideShapes Go.ChangeAt Go.RowKit
set_option linter.unusedVariables false
set_option maxRecDepth 100000 in
theorem contract (H : Type) (enc : TypeId × Value → H) (W : World) (base : Nat) (args : Array Value) (ds gs : List (DataW H)) (before : List MemPlace)
    (hval : ∀ (j : Nat) t v, Try.f4.params[j]? = some t → args[j]? = some v → Value.okWide Try.prog W .any base t v)
    (hW : DataW.Whole enc Try.prog Try.f4.params.toList Rows.tableCopiesSpec.vars false W args.toList ds gs before) (hk : Rows.uptoSmall H (ds ++ gs) = true) :
    Calls Try.prog 4 args W fun e W' => ∃ v, e = .returned v ∧ Rows.tableCopiesSpec.post enc Try.prog Try.f4 false true false false W args v W' := by
  have hW' := hW
  obtain ⟨p, q, hA0, hV, rfl, hfz, hnd⟩ := hW
  have hA : DataW.TrodAll enc Try.prog W 0 (fun _ => true) true Try.f4.params.toList args.toList ds p := hA0
  rw [Try.params4] at hA hval
  obtain ⟨v0, vs0, d0, ds0, p0, q0, hargs, rfl, rfl, h0, r0⟩ := trodAll_cons hA
  obtain ⟨v1, vs1, d1, ds1, p1, q1, rfl, rfl, rfl, h1, r1⟩ := trodAll_cons r0
  obtain ⟨v2, vs2, d2, ds2, p2, q2, rfl, rfl, rfl, h2, r2⟩ := trodAll_cons r1
  obtain ⟨rfl, rfl, rfl⟩ := trodAll_nil r2
  obtain rfl : args = #[v0, v1, v2] := by cases args; simp_all
  obtain ⟨rfl, rfl⟩ := trodVars_none hV
  have k0 := h0
  have lt0 : ∀ x ∈ p0, x.block < W.heap.size := by obtain ⟨m, hm⟩ := k0; exact DataW.trod_lt m _ _ _ hm
  obtain ⟨A0, C0, a0, rfl, s0, b0, o0⟩ := G.arg_ops (okWide_slice Try.underlying22 (hval 0 22 v0 rfl rfl)) h0
  have l0 := G.opsum_len a0
  have k1 := h1
  have lt1 : ∀ x ∈ p1, x.block < W.heap.size := by obtain ⟨m, hm⟩ := k1; exact DataW.trod_lt m _ _ _ hm
  obtain ⟨A1, C1, a1, rfl, s1, b1, o1⟩ := G.arg_ops (okWide_slice Try.underlying22 (hval 1 22 v1 rfl rfl)) h1
  have l1 := G.opsum_len a1
  have k2 := h2
  have lt2 : ∀ x ∈ p2, x.block < W.heap.size := by obtain ⟨m, hm⟩ := k2; exact DataW.trod_lt m _ _ _ hm
  obtain ⟨A2, C2, a2, rfl, s2, b2, o2⟩ := G.arg_ops (okWide_slice Try.underlying22 (hval 2 22 v2 rfl rfl)) h2
  have l2 := G.opsum_len a2
  have hb : Rows.uptoBulkAll [d0, d1, d2] ≤ 1048576 := of_decide_eq_true hk
  simp only [Rows.uptoBulkAll] at hb
  refine (G.haulagelaw13_TableCopies.calls 1099511627776 (m := 1) (c0 := G.c0) (w0 := W) (Nat.lt_succ_self 0) (fun _ _ => Nat.lt_succ_self 0) s0 s1 s2 true (G.TableCopies_true (k := 1099511627776) (Nat.le_refl _) a0 a1 a2 (by omega) (by omega))).mono fun e W' ⟨c_, he, ev_, _⟩ => ?_
  subst he
  have bel : Below W.heap.size W W' := G.Ev.below ev_
  exact ⟨_, rfl, _, _, _, [], _, [], hW', trodAll_mk1 (shut_bool Try.underlying4 _), (trodAll_cons_mk (Below.trod G.row_laidOut (by kernel_rfl) (of_decide_eq_true (by kernel_rfl)) k0 bel lt0) (trodAll_cons_mk (Below.trod G.row_laidOut (by kernel_rfl) (of_decide_eq_true (by kernel_rfl)) k1 bel lt1) (trodAll_cons_mk (Below.trod G.row_laidOut (by kernel_rfl) (of_decide_eq_true (by kernel_rfl)) k2 bel lt2) trodAll_mk0))), rfl, bel.frame _, fun h => by cases h⟩
set_option maxRecDepth 100000 in
theorem lifted (os : Os) (started : os.Started) (H : Type) (enc : TypeId × Value → H) (F : Stop.Interp) :
    ReturnsInHanded {} Try.checked os 4 .any ((Rows.OpenSpec.upto Rows.tableCopiesSpec).pre6 enc Try.prog Try.f4 Rows.tableCopiesUptoRow.domain false) (((Rows.OpenSpec.upto Rows.tableCopiesSpec).at F).post enc Try.prog Try.f4 false true false false) := by
  refine returnsInHanded_of_cond (C := Try.checked) (s := Rows.OpenSpec.upto Rows.tableCopiesSpec) (k := Rows.uptoSmall) rfl G.row_own started (by kernel_rfl) Try.func4
    (OpenSpec.witness (enc := enc) (C := Try.checked) (s := Rows.OpenSpec.upto Rows.tableCopiesSpec) (k := Rows.uptoSmall) rfl false ⟨#[], #[.slice none 0 0, .slice none 0 0, .slice none 0 0], []⟩ 8 (by kernel_rfl) (by kernel_rfl) (by kernel_rfl)
      (x := ([.nil, .nil, .nil], [], [])) (by kernel_rfl) rfl (by kernel_rfl)) ?_
  intro W base args ds gs before hval hW _ hk _
  exact contract H enc W base args ds gs before hval hW hk
theorem over : Rows.tableCopiesUptoRow.holds Try.pinned (Rows.OpenSpec.upto Rows.tableCopiesSpec) :=
  OpenClaim.holds_of_cond 4 Try.f4 rfl rfl rfl rfl rfl rfl rfl ⟨rfl, rfl, rfl, rfl, rfl⟩ rfl rfl rfl rfl rfl (by kernel_rfl) Try.func4 (by kernel_rfl)
    (of_decide_eq_true (by kernel_rfl)) (by unfold Func.isWrapper; first | (rw [if_pos (by decide +kernel)]; kernel_rfl) | (rw [if_neg (by decide +kernel)]; exact ⟨rfl, rfl⟩))
    (fun os started H enc _ F => lifted os started H enc F)
theorem proved : Rows.TableCopiesUptoSaid := over
end Go.Proofs.Ytcolmmjcdlmcoaa.tableCopies
namespace Go.Proofs.Ytcolmmjcdlmcoaa
/-- The row, under a short name, for the claim. -/
theorem tableCopies_holds : Rows.TableCopiesUptoSaid := tableCopies.proved
end Go.Proofs.Ytcolmmjcdlmcoaa
