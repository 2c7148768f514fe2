/- Walks: each function of the program answers as its plain function says: tableTableRows, parcelNew, parcelform, parcelWriterwhole, parcelWriterlay, parcelWriterNum, slicesConcat, parcelWriterText, parcelWriterDone, tableTableBytes, parcelReaderDone, parcelcopied, . -/
import Derived.Test.YtcolmmjcdlmcoaaNB
import Derived.Test.YtcolmmjcdlmcoaaNC2
import Derived.Test.YtcolmmjcdlmcoaaNC3
import Derived.Test.YtcolmmjcdlmcoaaNC1
import Derived.Laws.Panics
import Derived.Recover
namespace Go.Proofs.Ytcolmmjcdlmcoaa.G
open Go Go.RowKit
set_option linter.unusedVariables false
set_option linter.unusedSimpArgs false
set_option maxRecDepth 100000 in
set_option maxHeartbeats 4000000 in
theorem table_Table_Rows.calls {m : Nat} {c0 : Nat → Nat} {w0 : World} {j4 : Nat} {p2 : Option Addr} {a1 : Option Tab} (hm0 : 0 < m) (B0 : CB m c0 w0) (h3 : TB j4 c0 w0 p2 a1) (bj4 : j4 < m) (jr246 : Nat) (bjr246 : jr246 < m) (r : (List api_Row)) (H : table_Table_Rows.f a1 = some r) : Calls Try.prog 26 #[.pointer p2] w0 (fun e w_ => ∃ (c_ : Nat → Nat) (A0_ : Option Addr) (C0_ : Nat), e = .returned (.slice A0_ r.length C0_) ∧ Ev (fun x => False) c0 w0 c_ w_ ∧ CB m c_ w_ ∧ SL true K_api_Row jr246 0 c_ w_ A0_ C0_ r) := by
 unfold table_Table_Rows.f at H
 have B := B0.mono (show m ≤ m + 7 by omega)
 have E : Ev (fun x => False ∨ m ≤ x) c0 w0 c0 w0 := Ev.refl
 refine enterM (N := 27) (l := [.pointer p2]) Try.func26 rfl rfl (Nat.le_of_ble_eq_true rfl) fun a F => ?_
 refine wp_seq_k fun K5 hK5 => ?_
 refine reg ?_
 refine q_val F rfl rfl (by decide) (r_assign F rfl) fun a F => ?_
 refine nil ?_
 refine hK5 _ _ ?_
 refine wp_seq_k fun K6 hK6 => ?_
 refine wp_seq_k fun K7 hK7 => ?_
 refine reg ?_
 refine q_val F rfl rfl (by decide) (r_move F rfl) fun a F => ?_
 refine q_val F rfl rfl (by decide) (r_peqlA F Try.underlying25 rfl rfl (TB.isNone h3)) fun a F => ?_
 refine nil ?_
 refine hK7 _ _ ?_
 by_cases hb8 : (Option.isNone a1) = true
 ·have H := (if_pos hb8).symm.trans H
  refine wp_cond_true ((F.ev rfl).trans (congrArg Value.bool hb8)) ?_
  refine wp_seq_k fun K9 hK9 => ?_
  refine reg ?_
  refine q_val F rfl rfl (by decide) (r_assign F rfl) fun a F => ?_
  refine nil ?_
  refine hK9 _ _ ?_
  refine wp_ret ?_
  refine thenR ?_
  refine outM ?_
  refine endM0 F ?_
  have H := Option.some.inj H
  subst H
  refine out1 F rfl rfl ?_
  exact ⟨fun b_ => (fun x_ => if x_ = m + 6 then jr246 else if x_ < m then x_ else 0) (c0 b_), none, 0, rfl, E.leave B0 (fun x_ => if x_ = m + 6 then jr246 else if x_ < m then x_ else 0) (by intro x_ hx_; show (if x_ = m + 6 then jr246 else if x_ < m then x_ else 0) = x_; ((repeat' split) <;> omega)), (fun b_ hb_ => by show (if (c0 b_) = m + 6 then jr246 else if (c0 b_) < m then (c0 b_) else 0) < m; ((repeat' split) <;> omega)), SL.nil⟩
 ·have H := (if_neg hb8).symm.trans H
  refine wp_cond_false ((F.ev rfl).trans (congrArg Value.bool (bfalse hb8))) ?_
  refine wp_skip ?_
  refine hK6 _ _ ?_
  refine wp_seq_k fun K10 hK10 => ?_
  refine reg ?_
  refine q_eff F rfl rfl (by decide) (e_alloc F zv_46 c0 (m + 1)) ?_
  rintro v w12 a ⟨c11, qa13, rfl, E14, h15, B16⟩ F
  have B := B16 _ B (by omega)
  have h3 := TB.ev h3 E14 (fun q => q.elim) (fun q => q.elim)
  have E := E.trans E14 (fun x q => q.elim)
  have h15 : AT true (m + 1) c11 w12 qa13 [.slice none 0 0] := h15
  refine nil ?_
  refine hK10 _ _ ?_
  refine wp_seq_k fun K18 hK18 => ?_
  refine wp_seq_k fun K19 hK19 => ?_
  refine reg ?_
  refine q_val F rfl rfl (by decide) (r_move F rfl) fun a F => ?_
  obtain ⟨ob20, e21, H⟩ := bind_some H
  have z22 := h3
  rw [e21] at z22
  obtain ⟨ad23, p25, rfl, hat24, h26⟩ := TB.some z22
  refine q_val F rfl rfl (by decide) (r_nil F rfl) fun a F => ?_
  refine q_val F rfl rfl (by decide) (r_fieldAddr F rfl ff_70_0) fun a F => ?_
  refine q_val F rfl rfl (by decide) (r_load F rfl ag_68 (AT.cell hat24 rfl)) fun a F => ?_
  obtain ⟨t28, q29, H⟩ := bind_some H
  refine q_call F rfl rfl (by decide) (r_call F Try.func47 rfl (by kernel_rfl) rfl) (tree_Tree_All.calls (m := m + 7) (by omega) B h26 (m + 2) (by omega) _ q29) ?_
  rintro e w31 ⟨c30, vi34, rfl, E32, B33, h35⟩
  refine ⟨_, rfl, fun a F => ?_⟩
  have B := B33
  have h3 := TB.ev h3 E32 (fun q => q.elim) (fun q => q.elim)
  have h15 := AT.ev h15 E32 (fun q => q.elim)
  have h26 := TR.ev h26 E32 (fun q => q.elim) (fun q => q.elim)
  have hat24 := AT.ev hat24 E32 (fun q => q.elim)
  have E := E.trans E32 (fun x q => q.elim)
  refine nil ?_
  refine hK19 _ _ ?_
  refine wp_block ?_
  obtain ⟨x147, HL, HR148⟩ := bind_some H
  refine ITR.range h35 (m := m + 7) (y := m + 3) (z := m + 4) (M := fun x => False ∨ m ≤ x) (g := (fun (s_ : (List api_Row)) (k_ : ByteArray) (v_ : table_cell) => table_Table_Rows.b1 s_ k_ v_)) (fun (s_ : (List api_Row)) (c_ : Nat → Nat) (w_ : World) => Ev (fun x => False ∨ m ≤ x) c30 w31 c_ w_ ∧ ∃ (l139 : List api_Row), ∃ (A136 : Option Addr), ∃ (C137 : Nat), l139 = s_ ∧ AT true (m + 1) c_ w_ qa13 [.slice A136 l139.length C137] ∧ SL true K_api_Row (m + 6) 0 c_ w_ A136 C137 l139) (fun (_ : Unit) _ _ => False) F rfl (by decide) (by decide) (by omega) (by omega) (by omega) (by omega) (by intro q; rcases q with q | q <;> first | exact q.elim | (replace q : False := q; omega) | (replace q : m ≤ 0 := q; omega)) B (fun _ _ _ h_ => h_.1) (fun _ _ _ h_ => h_.elim) (fun s_ c1_ w1_ c2_ w2_ ⟨E_, l139, A136, C137, e_, h15, h138⟩ E2_ => ⟨E_.trans E2_ (fun x q => by show False ∨ m ≤ x; replace q : x = m + 3 := q; omega), l139, A136, C137, e_, AT.ev h15 E2_ (by show ¬ (m + 1 = m + 3); omega), SL.ev h138 E2_ (by show ¬ (m + 6 = m + 3); omega) (by show ¬ (0 = m + 3); omega)⟩) (fun _ _ _ _ _ h_ _ => h_.elim) [] ⟨Ev.refl, [], none, 0, rfl, h15, SL.nil⟩ x147 HL ?_ ?_ ?_
  ·intro bd142 lo143 rec144 s_ s150 v151 c140 w141 A152 C153 rr149 ⟨E, l139, A136, C137, e_, h15, h138⟩ B hb145 hl146 h154 Hg a F
   clear HL H
   subst e_
   have H : table_Table_Rows.b1 l139 s150 v151 = some rr149 := Hg
   clear Hg
   unfold table_Table_Rows.b1 at H
   refine wpIn_seq_k fun K155 hK155 => ?_
   refine regR ?_
   refine q_val F rfl rfl (by decide) (r_assign F rfl) fun a F => ?_
   refine nil ?_
   refine hK155 _ _ ?_
   refine regR ?_
   refine q_eff F rfl rfl (by decide) (e_alloc F zv_66 c140 (m + 5)) ?_
   rintro v w157 a ⟨c156, qa55, rfl, E158, h57, B159⟩ F
   have B := B159 _ B (by omega)
   have h15 := AT.ev h15 E158 (fun q => q.elim)
   have h138 := SL.ev h138 E158 (fun q => q.elim) (fun q => q.elim)
   have h154 := SL.ev h154 E158 (fun q => q.elim) (fun q => q.elim)
   have hb145 := OBJ.ev hb145 E158 (fun q => q.elim)
   have hl146 := OBJ.ev hl146 E158 (fun q => q.elim)
   have E := E.trans E158 (fun x q => q.elim)
   have h57 : AT true (m + 5) c156 w157 qa55 [.slice none 0 0, .int .i64 0] := h57
   refine q_eff0 F rfl rfl (e_storeN0 (us := [.slice A152 v151.value.length C153, .int .i64 v151.rev]) F rfl rfl sz_66 h57 (Nat.le_of_ble_eq_true rfl) (one_all rfl)) ?_
   rintro w160 a ⟨E161, h57, Z162⟩ F
   have B := B.size Z162
   have h15 := AT.ev h15 E161 (by show ¬ (m + 1 = m + 5); omega)
   have h138 := SL.ev h138 E161 (by show ¬ (m + 6 = m + 5); omega) (by show ¬ (0 = m + 5); omega)
   have h154 := SL.ev h154 E161 (by show ¬ (0 = m + 5); omega) (by show ¬ (0 = m + 5); omega)
   have hb145 := OBJ.ev hb145 E161 (by show ¬ (m + 4 = m + 5); omega)
   have hl146 := OBJ.ev hl146 E161 (by show ¬ (m + 3 = m + 5); omega)
   have E := E.trans E161 (fun x q => by replace q : x = m + 5 := q; show False ∨ m ≤ x; omega)
   have h57 : AT true (m + 5) c156 w160 qa55 [.slice A152 v151.value.length C153, .int .i64 v151.rev] := h57
   refine nil ?_
   refine thenN ?_
   refine ⟨c156, hl146, fun w163 E164 hl146 Z165 => ?_⟩
   have B := B.size Z165
   have h15 := AT.ev h15 E164 (by show ¬ (m + 1 = m + 3); omega)
   have h138 := SL.ev h138 E164 (by show ¬ (m + 6 = m + 3); omega) (by show ¬ (0 = m + 3); omega)
   have h154 := SL.ev h154 E164 (by show ¬ (0 = m + 3); omega) (by show ¬ (0 = m + 3); omega)
   have hb145 := OBJ.ev hb145 E164 (by show ¬ (m + 4 = m + 3); omega)
   have h57 := AT.ev h57 E164 (by show ¬ (m + 5 = m + 3); omega)
   have E := E.trans E164 (fun x q => by replace q : x = m + 3 := q; show False ∨ m ≤ x; omega)
   refine wpIn_block ?_
   refine regDR (SB (fun x => x = m + 6) c156 w163) 11 (.q 0 (.q 1 (.q 3 (.q 4 (.q 6 (.q 7 (.f 2 (.e 5 (.q 8 (.e 9 (.e 10 (.e 11 .nil))))) 5 (.e 2 (.q 8 (.e 9 (.e 10 (.e 11 .nil)))))))))))) Try_hm (by decide +kernel) ?_
   intro w166 w1_ w2_ w3_ w4_
   have E167 : Ev No c156 w163 c156 w166 := Ev.same w1_ w2_ w3_ w4_
   have B := B.same w1_
   have zh15 := h15
   have zh138 := h138
   have zh154 := h154
   have zhb145 := hb145
   have zhl146 := hl146
   have zh57 := h57
   have ER : Ev (fun x => x = m + 6) c156 w163 c156 w166 := Ev.same w1_ w2_ w3_ w4_
   have h15 := AT.ev h15 E167 (fun q => q.elim)
   have h138 := SL.ev h138 E167 (fun q => q.elim) (fun q => q.elim)
   have h154 := SL.ev h154 E167 (fun q => q.elim) (fun q => q.elim)
   have hb145 := OBJ.ev hb145 E167 (fun q => q.elim)
   have hl146 := OBJ.ev hl146 E167 (fun q => q.elim)
   have h57 := AT.ev h57 E167 (fun q => q.elim)
   have E := E.trans E167 (fun x q => q.elim)
   refine d_q F rfl rfl rfl (by decide) (fun wq hS => r_load F rfl ag_46 (AT.cell0 (AT.sb zh15 hS (by show ¬ (m + 1 = m + 6); omega)) rfl)) ER.sb fun a F => ?_
   refine d_q F rfl rfl rfl (by decide) (fun wq hS => r_move F rfl) ER.sb fun a F => ?_
   refine d_q F rfl rfl rfl (by decide) (fun wq hS => r_fieldAddr F rfl ff_66_0) ER.sb fun a F => ?_
   refine d_q F rfl rfl rfl (by decide) (fun wq hS => r_load F rfl ag_23 (AT.cell (AT.sb zh57 hS (by show ¬ (m + 5 = m + 6); omega)) rfl)) ER.sb fun a F => ?_
   refine d_q F rfl rfl rfl (by decide) (fun wq hS => r_fieldAddr F rfl ff_66_1) ER.sb fun a F => ?_
   refine d_q F rfl rfl rfl (by decide) (fun wq hS => r_load F rfl ag_3 (AT.cell (AT.sb zh57 hS (by show ¬ (m + 5 = m + 6); omega)) rfl)) ER.sb fun a F => ?_
   refine d_f ?_ ?_
   ·obtain ⟨g68, H⟩ := ifN H
    refine o_eff F rfl rfl rfl (by decide) (e_strBytes F Try.underlying9 Try.underlying23 Try.underlying5 rfl (by unfold maxLen; omega) c156 0 0) ?_
    rintro v w169 a ⟨c168, A170, C171, rfl, E172, h173, B174⟩ F
    have B := B174 _ B (by omega)
    have ER := ER.trans E172 (fun x q => q.elim)
    have h15 := AT.ev h15 E172 (fun q => q.elim)
    have h138 := SL.ev h138 E172 (fun q => q.elim) (fun q => q.elim)
    have h154 := SL.ev h154 E172 (fun q => q.elim) (fun q => q.elim)
    have hb145 := OBJ.ev hb145 E172 (fun q => q.elim)
    have hl146 := OBJ.ev hl146 E172 (fun q => q.elim)
    have h57 := AT.ev h57 E172 (fun q => q.elim)
    have E := E.trans E172 (fun x q => q.elim)
    refine ⟨fun _ => ER.sb, ?_⟩
    refine d_e ?_
    obtain ⟨t76, q77, H⟩ := bind_some H
    refine o_call F rfl (wanted_none rfl) rfl (by decide) (r_call F Try.func42 rfl (by kernel_rfl) rfl) (bytes_Clone.calls (m := m + 7) (by omega) B h154 (by omega) 0 (by omega) _ q77) ?_
    rintro e w176 ⟨c175, A179, C180, rfl, E177, B178, h181⟩
    refine ⟨_, rfl, fun a F => ?_⟩
    have B := B178
    have ER := ER.trans E177 (fun x q => q.elim)
    have h15 := AT.ev h15 E177 (fun q => q.elim)
    have h138 := SL.ev h138 E177 (fun q => q.elim) (fun q => q.elim)
    have h154 := SL.ev h154 E177 (fun q => q.elim) (fun q => q.elim)
    have hb145 := OBJ.ev hb145 E177 (fun q => q.elim)
    have hl146 := OBJ.ev hl146 E177 (fun q => q.elim)
    have h57 := AT.ev h57 E177 (fun q => q.elim)
    have h173 := SL.ev h173 E177 (fun q => q.elim) (fun q => q.elim)
    have E := E.trans E177 (fun x q => q.elim)
    refine ⟨fun _ => ER.sb, ?_⟩
    refine d_q F rfl rfl rfl (by decide) (fun wq hS => r_build (v := .agg #[.slice A170 (sb s150).length C171, .slice A179 t76.length C180, .int .i64 v151.rev]) F [(0, .slice A170 (sb s150).length C171), (1, .slice A179 t76.length C180), (2, .int .i64 v151.rev)] (by exact ⟨rfl, rfl, rfl, rfl, rfl, rfl, trivial⟩) (fun w => by kernel_rfl)) ER.sb fun a F => ?_
    refine d_e ?_
    refine o_eff F rfl rfl rfl (by decide) (e_buildSlice (n := 1) (e := 50) (c := c175) (k := K_api_Row) (i := 0) F [(0, .agg #[.slice A170 (sb s150).length C171, .slice A179 t76.length C180, .int .i64 v151.rev])] [.slice A170 (sb s150).length C171, .slice A179 t76.length C180, .int .i64 v151.rev] ([api_Row.mk (sb s150) t76 v151.rev] : List api_Row) (by exact ⟨rfl, rfl, trivial⟩) (fun w => by kernel_rfl) rfl (by decide) rfl ⟨⟨A170, C171, A179, C180, rfl, (SL.fl h173.r (fun q => q)), (SL.fl h181.r (fun q => q))⟩, trivial⟩ (fun q => q) 0) ?_
    rintro v w184 a ⟨c183, A185, C186, rfl, E187, h188, B189⟩ F
    have B := B189 _ B (by omega)
    have ER := ER.trans E187 (fun x q => q.elim)
    have h15 := AT.ev h15 E187 (fun q => q.elim)
    have h138 := SL.ev h138 E187 (fun q => q.elim) (fun q => q.elim)
    have h154 := SL.ev h154 E187 (fun q => q.elim) (fun q => q.elim)
    have hb145 := OBJ.ev hb145 E187 (fun q => q.elim)
    have hl146 := OBJ.ev hl146 E187 (fun q => q.elim)
    have h57 := AT.ev h57 E187 (fun q => q.elim)
    have h173 := SL.ev h173 E187 (fun q => q.elim) (fun q => q.elim)
    have h181 := SL.ev h181 E187 (fun q => q.elim) (fun q => q.elim)
    have E := E.trans E187 (fun x q => q.elim)
    refine ⟨fun _ => ER.sb, ?_⟩
    refine d_e ?_
    obtain ⟨g93, H⟩ := ifN H
    refine o_eff F rfl rfl rfl (by decide) (e_append (k := K_api_Row) (xs := l139) (ys := [api_Row.mk (sb s150) t76 v151.rev]) (c := c183) (j := (m + 6)) (i := 0) F et_46 rfl rfl h138 h188 (by simpa using g93) (by have g_ := g93; unfold maxLen; simp at g_ ⊢; omega) (by omega)) ?_
    rintro v w191 a ⟨c190, A192, C193, rfl, E194, h195, B196⟩ F
    have B := B196 _ B (by omega)
    have ER := ER.trans E194 (fun x q => by replace q : x = m + 6 := q; show x = m + 6; omega)
    have h15 := AT.ev h15 E194 (by show ¬ (m + 1 = m + 6); omega)
    have h154 := SL.ev h154 E194 (by show ¬ (0 = m + 6); omega) (by show ¬ (0 = m + 6); omega)
    have hb145 := OBJ.ev hb145 E194 (by show ¬ (m + 4 = m + 6); omega)
    have hl146 := OBJ.ev hl146 E194 (by show ¬ (m + 3 = m + 6); omega)
    have h57 := AT.ev h57 E194 (by show ¬ (m + 5 = m + 6); omega)
    have h173 := SL.ev h173 E194 (by show ¬ (0 = m + 6); omega) (by show ¬ (0 = m + 6); omega)
    have h181 := SL.ev h181 E194 (by show ¬ (0 = m + 6); omega) (by show ¬ (0 = m + 6); omega)
    have h188 := SL.ev h188 E194 (by show ¬ (0 = m + 6); omega) (by show ¬ (0 = m + 6); omega)
    have E := E.trans E194 (fun x q => by replace q : x = m + 6 := q; show False ∨ m ≤ x; omega)
    refine ⟨fun _ => ER.sb, ?_⟩
    refine d_e ?_
    refine o_eff0 F rfl rfl rfl (e_store0 F rfl rfl sz_46 h15 (Nat.le_of_ble_eq_true rfl) rfl) ?_
    rintro w197 a ⟨E198, h15, Z199⟩ F
    have B := B.size Z199
    have h154 := SL.ev h154 E198 (by show ¬ (0 = m + 1); omega) (by show ¬ (0 = m + 1); omega)
    have hb145 := OBJ.ev hb145 E198 (by show ¬ (m + 4 = m + 1); omega)
    have hl146 := OBJ.ev hl146 E198 (by show ¬ (m + 3 = m + 1); omega)
    have h57 := AT.ev h57 E198 (by show ¬ (m + 5 = m + 1); omega)
    have h173 := SL.ev h173 E198 (by show ¬ (0 = m + 1); omega) (by show ¬ (0 = m + 1); omega)
    have h181 := SL.ev h181 E198 (by show ¬ (0 = m + 1); omega) (by show ¬ (0 = m + 1); omega)
    have h188 := SL.ev h188 E198 (by show ¬ (0 = m + 1); omega) (by show ¬ (0 = m + 1); omega)
    have h195 := SL.ev h195 E198 (by show ¬ (m + 6 = m + 1); omega) (by show ¬ (0 = m + 1); omega)
    have E := E.trans E198 (fun x q => by replace q : x = m + 1 := q; show False ∨ m ≤ x; omega)
    have h15 : AT true (m + 1) c190 w197 qa13 [.slice A192 (l139 ++ [api_Row.mk (sb s150) t76 v151.rev]).length C193] := h15
    refine ⟨fun q => absurd rfl q, ?_⟩
    refine d_nil ?_
    have hr_ := Option.some.inj H
    subst hr_
    first | refine REn c190 hl146 ?_ | refine inbN (REn c190 hl146 ?_) | refine inbN (inbN (REn c190 hl146 ?_))
    exact ⟨⟨E, (l139 ++ [api_Row.mk (sb s150) t76 v151.rev]), A192, C193, rfl, h15, h195⟩, B, hb145⟩
   ·obtain ⟨g68, H⟩ := ifN H
    obtain ⟨t76, q77, H⟩ := bind_some H
    refine o_call F rfl (wanted_none rfl) rfl (by decide) (r_call F Try.func42 rfl (by kernel_rfl) rfl) (bytes_Clone.calls (m := m + 7) (by omega) B h154 (by omega) 0 (by omega) _ q77) ?_
    rintro e w201 ⟨c200, A204, C205, rfl, E202, B203, h206⟩
    refine ⟨_, rfl, fun a F => ?_⟩
    have B := B203
    have ER := ER.trans E202 (fun x q => q.elim)
    have h15 := AT.ev h15 E202 (fun q => q.elim)
    have h138 := SL.ev h138 E202 (fun q => q.elim) (fun q => q.elim)
    have h154 := SL.ev h154 E202 (fun q => q.elim) (fun q => q.elim)
    have hb145 := OBJ.ev hb145 E202 (fun q => q.elim)
    have hl146 := OBJ.ev hl146 E202 (fun q => q.elim)
    have h57 := AT.ev h57 E202 (fun q => q.elim)
    have E := E.trans E202 (fun x q => q.elim)
    refine ⟨fun _ => ER.sb, ?_⟩
    refine d_e ?_
    refine o_eff F rfl rfl rfl (by decide) (e_strBytes F Try.underlying9 Try.underlying23 Try.underlying5 rfl (by unfold maxLen; omega) c200 0 0) ?_
    rintro v w209 a ⟨c208, A210, C211, rfl, E212, h213, B214⟩ F
    have B := B214 _ B (by omega)
    have ER := ER.trans E212 (fun x q => q.elim)
    have h15 := AT.ev h15 E212 (fun q => q.elim)
    have h138 := SL.ev h138 E212 (fun q => q.elim) (fun q => q.elim)
    have h154 := SL.ev h154 E212 (fun q => q.elim) (fun q => q.elim)
    have hb145 := OBJ.ev hb145 E212 (fun q => q.elim)
    have hl146 := OBJ.ev hl146 E212 (fun q => q.elim)
    have h57 := AT.ev h57 E212 (fun q => q.elim)
    have h206 := SL.ev h206 E212 (fun q => q.elim) (fun q => q.elim)
    have E := E.trans E212 (fun x q => q.elim)
    refine ⟨fun _ => ER.sb, ?_⟩
    refine d_q F rfl rfl rfl (by decide) (fun wq hS => r_build (v := .agg #[.slice A210 (sb s150).length C211, .slice A204 t76.length C205, .int .i64 v151.rev]) F [(0, .slice A210 (sb s150).length C211), (1, .slice A204 t76.length C205), (2, .int .i64 v151.rev)] (by exact ⟨rfl, rfl, rfl, rfl, rfl, rfl, trivial⟩) (fun w => by kernel_rfl)) ER.sb fun a F => ?_
    refine d_e ?_
    refine o_eff F rfl rfl rfl (by decide) (e_buildSlice (n := 1) (e := 50) (c := c208) (k := K_api_Row) (i := 0) F [(0, .agg #[.slice A210 (sb s150).length C211, .slice A204 t76.length C205, .int .i64 v151.rev])] [.slice A210 (sb s150).length C211, .slice A204 t76.length C205, .int .i64 v151.rev] ([api_Row.mk (sb s150) t76 v151.rev] : List api_Row) (by exact ⟨rfl, rfl, trivial⟩) (fun w => by kernel_rfl) rfl (by decide) rfl ⟨⟨A210, C211, A204, C205, rfl, (SL.fl h213.r (fun q => q)), (SL.fl h206.r (fun q => q))⟩, trivial⟩ (fun q => q) 0) ?_
    rintro v w216 a ⟨c215, A217, C218, rfl, E219, h220, B221⟩ F
    have B := B221 _ B (by omega)
    have ER := ER.trans E219 (fun x q => q.elim)
    have h15 := AT.ev h15 E219 (fun q => q.elim)
    have h138 := SL.ev h138 E219 (fun q => q.elim) (fun q => q.elim)
    have h154 := SL.ev h154 E219 (fun q => q.elim) (fun q => q.elim)
    have hb145 := OBJ.ev hb145 E219 (fun q => q.elim)
    have hl146 := OBJ.ev hl146 E219 (fun q => q.elim)
    have h57 := AT.ev h57 E219 (fun q => q.elim)
    have h206 := SL.ev h206 E219 (fun q => q.elim) (fun q => q.elim)
    have h213 := SL.ev h213 E219 (fun q => q.elim) (fun q => q.elim)
    have E := E.trans E219 (fun x q => q.elim)
    refine ⟨fun _ => ER.sb, ?_⟩
    refine d_e ?_
    obtain ⟨g93, H⟩ := ifN H
    refine o_eff F rfl rfl rfl (by decide) (e_append (k := K_api_Row) (xs := l139) (ys := [api_Row.mk (sb s150) t76 v151.rev]) (c := c215) (j := (m + 6)) (i := 0) F et_46 rfl rfl h138 h220 (by simpa using g93) (by have g_ := g93; unfold maxLen; simp at g_ ⊢; omega) (by omega)) ?_
    rintro v w223 a ⟨c222, A224, C225, rfl, E226, h227, B228⟩ F
    have B := B228 _ B (by omega)
    have ER := ER.trans E226 (fun x q => by replace q : x = m + 6 := q; show x = m + 6; omega)
    have h15 := AT.ev h15 E226 (by show ¬ (m + 1 = m + 6); omega)
    have h154 := SL.ev h154 E226 (by show ¬ (0 = m + 6); omega) (by show ¬ (0 = m + 6); omega)
    have hb145 := OBJ.ev hb145 E226 (by show ¬ (m + 4 = m + 6); omega)
    have hl146 := OBJ.ev hl146 E226 (by show ¬ (m + 3 = m + 6); omega)
    have h57 := AT.ev h57 E226 (by show ¬ (m + 5 = m + 6); omega)
    have h206 := SL.ev h206 E226 (by show ¬ (0 = m + 6); omega) (by show ¬ (0 = m + 6); omega)
    have h213 := SL.ev h213 E226 (by show ¬ (0 = m + 6); omega) (by show ¬ (0 = m + 6); omega)
    have h220 := SL.ev h220 E226 (by show ¬ (0 = m + 6); omega) (by show ¬ (0 = m + 6); omega)
    have E := E.trans E226 (fun x q => by replace q : x = m + 6 := q; show False ∨ m ≤ x; omega)
    refine ⟨fun _ => ER.sb, ?_⟩
    refine d_e ?_
    refine o_eff0 F rfl rfl rfl (e_store0 F rfl rfl sz_46 h15 (Nat.le_of_ble_eq_true rfl) rfl) ?_
    rintro w229 a ⟨E230, h15, Z231⟩ F
    have B := B.size Z231
    have h154 := SL.ev h154 E230 (by show ¬ (0 = m + 1); omega) (by show ¬ (0 = m + 1); omega)
    have hb145 := OBJ.ev hb145 E230 (by show ¬ (m + 4 = m + 1); omega)
    have hl146 := OBJ.ev hl146 E230 (by show ¬ (m + 3 = m + 1); omega)
    have h57 := AT.ev h57 E230 (by show ¬ (m + 5 = m + 1); omega)
    have h206 := SL.ev h206 E230 (by show ¬ (0 = m + 1); omega) (by show ¬ (0 = m + 1); omega)
    have h213 := SL.ev h213 E230 (by show ¬ (0 = m + 1); omega) (by show ¬ (0 = m + 1); omega)
    have h220 := SL.ev h220 E230 (by show ¬ (0 = m + 1); omega) (by show ¬ (0 = m + 1); omega)
    have h227 := SL.ev h227 E230 (by show ¬ (m + 6 = m + 1); omega) (by show ¬ (0 = m + 1); omega)
    have E := E.trans E230 (fun x q => by replace q : x = m + 1 := q; show False ∨ m ≤ x; omega)
    have h15 : AT true (m + 1) c222 w229 qa13 [.slice A224 (l139 ++ [api_Row.mk (sb s150) t76 v151.rev]).length C225] := h15
    refine ⟨fun q => absurd rfl q, ?_⟩
    refine d_nil ?_
    have hr_ := Option.some.inj H
    subst hr_
    first | refine REn c222 hl146 ?_ | refine inbN (REn c222 hl146 ?_) | refine inbN (inbN (REn c222 hl146 ?_))
    exact ⟨⟨E, (l139 ++ [api_Row.mk (sb s150) t76 v151.rev]), A224, C225, rfl, h15, h227⟩, B, hb145⟩
  ·intro s_ hx240 c236 w237 bd238 ⟨E241, l139, A136, C137, e_, h15, h138⟩ B hb239 a F
   subst e_
   rw [hx240] at HR148
   have H : table_Table_Rows.j2 l139 = some r := HR148
   unfold table_Table_Rows.j2 at H
   have E := E.trans E241 (fun _ q => q)
   refine hK18 _ _ ?_
   refine wp_seq_k fun K242 hK242 => ?_
   refine reg ?_
   refine q_val F rfl rfl (by decide) (r_load F rfl ag_46 (AT.cell0 h15 rfl)) fun a F => ?_
   refine q_val F rfl rfl (by decide) (r_assign F rfl) fun a F => ?_
   refine nil ?_
   refine hK242 _ _ ?_
   refine wp_ret ?_
   refine outM ?_
   refine endM F hb239 fun w243 E244 Z245 a F => ?_
   have B := B.size Z245
   have h15 := AT.ev h15 E244 (by show ¬ (m + 1 = m + 4); omega)
   have h138 := SL.ev h138 E244 (by show ¬ (m + 6 = m + 4); omega) (by show ¬ (0 = m + 4); omega)
   have E := E.trans E244 (fun x q => by replace q : x = m + 4 := q; show False ∨ m ≤ x; omega)
   refine endM0 F ?_
   have H := Option.some.inj H
   subst H
   refine out1 F rfl rfl ?_
   exact ⟨fun b_ => (fun x_ => if x_ = m + 6 then jr246 else if x_ < m then x_ else 0) (c236 b_), A136, C137, rfl, E.leave B0 (fun x_ => if x_ = m + 6 then jr246 else if x_ < m then x_ else 0) (by intro x_ hx_; show (if x_ = m + 6 then jr246 else if x_ < m then x_ else 0) = x_; ((repeat' split) <;> omega)), (fun b_ hb_ => by show (if (c236 b_) = m + 6 then jr246 else if (c236 b_) < m then (c236 b_) else 0) < m; ((repeat' split) <;> omega)), SL.rc h138 (fun k_ hk_ => by show (if (c236 k_) = m + 6 then jr246 else if (c236 k_) < m then (c236 k_) else 0) = _; rw [hk_]; ((repeat' split) <;> omega)) (fun k_ hk_ => by show (if (c236 k_) = m + 6 then jr246 else if (c236 k_) < m then (c236 k_) else 0) = _; rw [hk_]; ((repeat' split) <;> omega))⟩
  ·intro s_ hx_ c_ w_ bd_ h_
   exact h_.elim
end Go.Proofs.Ytcolmmjcdlmcoaa.G
namespace Go.Proofs.Ytcolmmjcdlmcoaa.G
open Go Go.RowKit
set_option linter.unusedVariables false
set_option linter.unusedSimpArgs false
set_option maxRecDepth 100000 in
set_option maxHeartbeats 4000000 in
theorem parcel_New.calls {m : Nat} {c0 : Nat → Nat} {w0 : World} {a1 : Int} (hm0 : 0 < m) (B0 : CB m c0 w0) (jr12 : Nat) (bjr12 : jr12 < m) (jr13 : Nat) (bjr13 : jr13 < m) (r : (Option Wri)) (H : parcel_New.f a1 = some r) : Calls Try.prog 44 #[.int .i64 a1] w0 (fun e w_ => ∃ (c_ : Nat → Nat) (P0_ : Option Addr), e = .returned (.pointer P0_) ∧ Ev (fun x => False) c0 w0 c_ w_ ∧ CB m c_ w_ ∧ WR jr12 jr13 c_ w_ P0_ r) := by
 unfold parcel_New.f at H
 have B := B0.mono (show m ≤ m + 3 by omega)
 have E : Ev (fun x => False ∨ m ≤ x) c0 w0 c0 w0 := Ev.refl
 refine enter (N := 7) (l := [.int .i64 a1]) Try.func44 rfl rfl (Nat.le_of_ble_eq_true rfl) fun a F => ?_
 refine wp_seq_k fun K2 hK2 => ?_
 refine reg ?_
 refine q_val F rfl rfl (by decide) (r_assign F rfl) fun a F => ?_
 refine nil ?_
 refine hK2 _ _ ?_
 refine wp_seq_k fun K3 hK3 => ?_
 refine reg ?_
 refine q_val F rfl rfl (by decide) (r_move F rfl) fun a F => ?_
 refine q_val F rfl rfl (by decide) (r_max F rfl rfl) fun a F => ?_
 refine q_val F rfl rfl (by decide) (r_build (v := .agg #[.int .i64 (max a1 0), .slice none 0 0, .slice none 0 0, .int .i64 0]) F [(0, .int .i64 (max a1 0))] (by exact ⟨rfl, rfl, trivial⟩) (fun w => by kernel_rfl)) fun a F => ?_
 refine q_eff F rfl rfl (by decide) (e_box F (v := .agg #[.int .i64 (max a1 0), .slice none 0 0, .slice none 0 0, .int .i64 0]) rfl c0 (m + 1)) ?_
 rintro v w5 a ⟨c4, qa6, rfl, E7, h8, B9⟩ F
 have B := B9 _ B (by omega)
 have E := E.trans E7 (fun x q => q.elim)
 have h8 : AT true (m + 1) c4 w5 qa6 [.int .i64 (max a1 0), .slice none 0 0, .slice none 0 0, .int .i64 0] := h8
 refine q_val F rfl rfl (by decide) (r_assign F rfl) fun a F => ?_
 refine nil ?_
 refine hK3 _ _ ?_
 refine wp_ret ?_
 have h11 : WR (m + 1) (m + 2) c4 w5 (some qa6) (some (Wri.mk (max a1 0) [] [] 0)) := WR.mk h8 SL.nil SL.nil
 have H := Option.some.inj H
 subst H
 refine out1 F rfl rfl ?_
 exact ⟨fun b_ => (fun x_ => if x_ = m + 1 then jr12 else if x_ = m + 2 then jr13 else if x_ < m then x_ else 0) (c4 b_), (some qa6), rfl, E.leave B0 (fun x_ => if x_ = m + 1 then jr12 else if x_ = m + 2 then jr13 else if x_ < m then x_ else 0) (by intro x_ hx_; show (if x_ = m + 1 then jr12 else if x_ = m + 2 then jr13 else if x_ < m then x_ else 0) = x_; ((repeat' split) <;> omega)), (fun b_ hb_ => by show (if (c4 b_) = m + 1 then jr12 else if (c4 b_) = m + 2 then jr13 else if (c4 b_) < m then (c4 b_) else 0) < m; ((repeat' split) <;> omega)), WR.rc h11 (fun k_ hk_ => by show (if (c4 k_) = m + 1 then jr12 else if (c4 k_) = m + 2 then jr13 else if (c4 k_) < m then (c4 k_) else 0) = _; rw [hk_]; ((repeat' split) <;> omega)) (fun k_ hk_ => by show (if (c4 k_) = m + 1 then jr12 else if (c4 k_) = m + 2 then jr13 else if (c4 k_) < m then (c4 k_) else 0) = _; rw [hk_]; ((repeat' split) <;> omega)) (fun k_ hk_ => by show (if (c4 k_) = m + 1 then jr12 else if (c4 k_) = m + 2 then jr13 else if (c4 k_) < m then (c4 k_) else 0) = _; rw [hk_]; ((repeat' split) <;> omega))⟩
end Go.Proofs.Ytcolmmjcdlmcoaa.G
namespace Go.Proofs.Ytcolmmjcdlmcoaa.G
open Go Go.RowKit
set_option linter.unusedVariables false
set_option linter.unusedSimpArgs false
set_option maxRecDepth 100000 in
set_option maxHeartbeats 4000000 in
theorem parcel_form.calls (k : Nat) {m : Nat} {c0 : Nat → Nat} {w0 : World} {a1 : Int} (hm0 : 0 < m) (B0 : CB m c0 w0) (jr76 : Nat) (bjr76 : jr76 < m) (r : (List Int)) (H : parcel_form.f k a1 = some r) : Calls Try.prog 63 #[.int .u64 a1] w0 (fun e w_ => ∃ (c_ : Nat → Nat) (A0_ : Option Addr) (C0_ : Nat), e = .returned (.slice A0_ r.length C0_) ∧ Ev (fun x => False) c0 w0 c_ w_ ∧ CB m c_ w_ ∧ SL true (Kint .u8) jr76 0 c_ w_ A0_ C0_ r) := by
 unfold parcel_form.f at H
 have B := B0.mono (show m ≤ m + 2 by omega)
 have E : Ev (fun x => False ∨ m ≤ x) c0 w0 c0 w0 := Ev.refl
 refine enter (N := 20) (l := [.int .u64 a1]) Try.func63 rfl rfl (Nat.le_of_ble_eq_true rfl) fun a F => ?_
 refine wp_seq_k fun K2 hK2 => ?_
 refine reg ?_
 refine q_val F rfl rfl (by decide) (r_assign F rfl) fun a F => ?_
 refine nil ?_
 refine hK2 _ _ ?_
 refine wp_seq_k fun K3 hK3 => ?_
 refine reg ?_
 obtain ⟨g4, H⟩ := ifN H
 refine q_eff F rfl rfl (by decide) (e_make (k := (Kint .u8)) (x0 := 0) F et_23 rfl rfl (fun _ _ _ => rfl) (by decide) g4 c0 (m + 1) 0) ?_
 rintro v w6 a ⟨c5, A7, C8, rfl, E9, h10, B11⟩ F
 have B := B11 _ B (by omega)
 have E := E.trans E9 (fun x q => q.elim)
 refine q_val F rfl rfl (by decide) (r_assign F rfl) fun a F => ?_
 refine nil ?_
 refine hK3 _ _ ?_
 refine wp_seq_k fun K12 hK12 => ?_
 refine wp_block ?_
 obtain ⟨x27, HL, HR26⟩ := bind_some H
 have J57 : ∀ (c58 : Nat → Nat) (w59 : World) (a : Act) (i52 : Int) (l54 : List Int) (A55 : Option Addr) (C56 : Nat), Fr a 20 [(0, .int .u64 i52), (3, .slice A55 l54.length C56)] → Ev (fun x => False ∨ m ≤ x) c0 w0 c58 w59 → CB (m + 2) c58 w59 → SL true (Kint .u8) (m + 1) 0 c58 w59 A55 C56 l54 → parcel_form.j2 i52 l54 = some r → K12 a w59 := by
  intro c58 w59 a i52 l54 A55 C56 F E B h53 H
  unfold parcel_form.j2 at H
  refine hK12 _ _ ?_
  refine wp_seq_k fun K60 hK60 => ?_
  refine reg ?_
  refine q_val F rfl rfl (by decide) (r_move F rfl) fun a F => ?_
  refine q_val F rfl rfl (by decide) (r_move F rfl) fun a F => ?_
  refine q_val F rfl rfl (by decide) (r_convi F Try.underlying5 rfl rfl) fun a F => ?_
  refine q_eff F rfl rfl (by decide) (e_buildSlice (n := 1) (e := 5) (c := c58) (k := (Kint .u8)) (i := 0) F [(0, .int .u8 (IntKind.u8.wrap i52))] [.int .u8 (IntKind.u8.wrap i52)] ([IntKind.u8.wrap i52] : List Int) (by exact ⟨rfl, rfl, trivial⟩) (fun w => by kernel_rfl) rfl (by decide) rfl ⟨rfl, trivial⟩ (fun q => q) 0) ?_
  rintro v w62 a ⟨c61, A63, C64, rfl, E65, h66, B67⟩ F
  have B := B67 _ B (by omega)
  have h53 := SL.ev h53 E65 (fun q => q.elim) (fun q => q.elim)
  have E := E.trans E65 (fun x q => q.elim)
  obtain ⟨g68, H⟩ := ifN H
  refine q_eff F rfl rfl (by decide) (e_append (k := (Kint .u8)) (xs := l54) (ys := [IntKind.u8.wrap i52]) (c := c61) (j := (m + 1)) (i := 0) F et_23 rfl rfl h53 h66 (by simpa using g68) (by have g_ := g68; unfold maxLen; simp at g_ ⊢; omega) (by omega)) ?_
  rintro v w70 a ⟨c69, A71, C72, rfl, E73, h74, B75⟩ F
  have B := B75 _ B (by omega)
  have h66 := SL.ev h66 E73 (by show ¬ (0 = m + 1); omega) (by show ¬ (0 = m + 1); omega)
  have E := E.trans E73 (fun x q => by replace q : x = m + 1 := q; show False ∨ m ≤ x; omega)
  refine q_val F rfl rfl (by decide) (r_assign F rfl) fun a F => ?_
  refine nil ?_
  refine hK60 _ _ ?_
  refine wp_ret ?_
  have H := Option.some.inj H
  subst H
  refine out1 F rfl rfl ?_
  exact ⟨fun b_ => (fun x_ => if x_ = m + 1 then jr76 else if x_ < m then x_ else 0) (c69 b_), A71, C72, rfl, E.leave B0 (fun x_ => if x_ = m + 1 then jr76 else if x_ < m then x_ else 0) (by intro x_ hx_; show (if x_ = m + 1 then jr76 else if x_ < m then x_ else 0) = x_; ((repeat' split) <;> omega)), (fun b_ hb_ => by show (if (c69 b_) = m + 1 then jr76 else if (c69 b_) < m then (c69 b_) else 0) < m; ((repeat' split) <;> omega)), SL.rc h74 (fun k_ hk_ => by show (if (c69 k_) = m + 1 then jr76 else if (c69 k_) < m then (c69 k_) else 0) = _; rw [hk_]; ((repeat' split) <;> omega)) (fun k_ hk_ => by show (if (c69 k_) = m + 1 then jr76 else if (c69 k_) < m then (c69 k_) else 0) = _; rw [hk_]; ((repeat' split) <;> omega))⟩
 refine loop_fuel (I := fun n a w => ∃ (i13 : Int) (l14 : List Int) (A15 : Option Addr) (C16 : Nat) (c : Nat → Nat), Fr a 20 [(0, .int .u64 i13), (3, .slice A15 l14.length C16)] ∧ Ev (fun x => False ∨ m ≤ x) c0 w0 c w ∧ CB (m + 2) c w ∧ SL true (Kint .u8) (m + 1) 0 c w A15 C16 l14 ∧ loop (fun (s_ : Int × (List Int)) => parcel_form.b1 s_.1 s_.2) n (i13, l14) = some x27) (k := k) ⟨a1, (List.replicate (0 : Int).toNat (0 : Int)), A7, C8, c5, F.sub ⟨rfl, rfl, trivial⟩, E, B, h10, HL⟩ ?_
 clear HL H E F B
 intro n24 X20 hX20 a w19 ⟨i13, l14, A15, C16, c18, F, E, B, h17, HL⟩
 obtain ⟨n25, ctl23, rfl, HB, HN21, HD22⟩ := loop_some HL
 have H : parcel_form.b1 i13 l14 = some ctl23 := HB
 clear HB HL
 unfold parcel_form.b1 at H
 refine wp_seq_k fun K28 hK28 => ?_
 refine wp_seq_k fun K29 hK29 => ?_
 refine reg ?_
 refine q_val F rfl rfl (by decide) (r_move F rfl) fun a F => ?_
 refine q_val F rfl rfl (by decide) (r_gtr F rfl rfl) fun a F => ?_
 refine nil ?_
 refine hK29 _ _ ?_
 by_cases hb30 : 127 < i13
 ·have H := (if_pos hb30).symm.trans H
  refine wp_cond_true ((F.ev rfl).trans (congrArg Value.bool (decide_eq_true hb30))) ?_
  refine wp_skip ?_
  refine hK28 _ _ ?_
  refine wp_block ?_
  refine wp_seq_k fun K31 hK31 => ?_
  refine reg ?_
  refine q_val F rfl rfl (by decide) (r_move F rfl) fun a F => ?_
  refine q_val F rfl rfl (by decide) (r_move F rfl) fun a F => ?_
  refine q_val F rfl rfl (by decide) (r_convi F Try.underlying5 rfl rfl) fun a F => ?_
  refine q_val F rfl rfl (by decide) (r_or F rfl rfl) fun a F => ?_
  refine q_eff F rfl rfl (by decide) (e_buildSlice (n := 1) (e := 5) (c := c18) (k := (Kint .u8)) (i := 0) F [(0, .int .u8 (bor .u8 (IntKind.u8.wrap i13) 128))] [.int .u8 (bor .u8 (IntKind.u8.wrap i13) 128)] ([bor .u8 (IntKind.u8.wrap i13) 128] : List Int) (by exact ⟨rfl, rfl, trivial⟩) (fun w => by kernel_rfl) rfl (by decide) rfl ⟨rfl, trivial⟩ (fun q => q) 0) ?_
  rintro v w33 a ⟨c32, A34, C35, rfl, E36, h37, B38⟩ F
  have B := B38 _ B (by omega)
  have h17 := SL.ev h17 E36 (fun q => q.elim) (fun q => q.elim)
  have E := E.trans E36 (fun x q => q.elim)
  obtain ⟨g39, H⟩ := ifN H
  refine q_eff F rfl rfl (by decide) (e_append (k := (Kint .u8)) (xs := l14) (ys := [bor .u8 (IntKind.u8.wrap i13) 128]) (c := c32) (j := (m + 1)) (i := 0) F et_23 rfl rfl h17 h37 (by simpa using g39) (by have g_ := g39; unfold maxLen; simp at g_ ⊢; omega) (by omega)) ?_
  rintro v w41 a ⟨c40, A42, C43, rfl, E44, h45, B46⟩ F
  have B := B46 _ B (by omega)
  have h37 := SL.ev h37 E44 (by show ¬ (0 = m + 1); omega) (by show ¬ (0 = m + 1); omega)
  have E := E.trans E44 (fun x q => by replace q : x = m + 1 := q; show False ∨ m ≤ x; omega)
  refine q_val F rfl rfl (by decide) (r_assign F rfl) fun a F => ?_
  refine nil ?_
  refine hK31 _ _ ?_
  refine reg ?_
  refine q_val F rfl rfl (by decide) (r_move F rfl) fun a F => ?_
  refine q_val F rfl rfl (by decide) (r_shr F rfl rfl (by decide)) fun a F => ?_
  refine q_val F rfl rfl (by decide) (r_assign F rfl) fun a F => ?_
  refine nil ?_
  have H := HN21 _ (Option.some.inj H).symm
  exact hX20 _ _ _ (Nat.lt_succ_self _) ⟨(shr .u64 i13 7), (l14 ++ [bor .u8 (IntKind.u8.wrap i13) 128]), A42, C43, c40, F.sub ⟨rfl, rfl, trivial⟩, E, B, h45, H⟩
 ·have H := (if_neg hb30).symm.trans H
  refine wp_cond_false ((F.ev rfl).trans (congrArg Value.bool (decide_eq_false hb30))) ?_
  refine wp_exit ?_
  refine thenE ?_
  refine thenE ?_
  refine inbE ?_
  have hx_ := HD22 _ (Option.some.inj H).symm
  have H := HR26
  rw [← hx_] at H
  exact J57 c18 w19 a i13 l14 A15 C16 (F.sub ⟨rfl, rfl, trivial⟩) E B h17 H
end Go.Proofs.Ytcolmmjcdlmcoaa.G
namespace Go.Proofs.Ytcolmmjcdlmcoaa.G
open Go Go.RowKit
set_option linter.unusedVariables false
set_option linter.unusedSimpArgs false
set_option maxRecDepth 100000 in
set_option maxHeartbeats 4000000 in
theorem parcel_Writer_whole.calls {m : Nat} {c0 : Nat → Nat} {w0 : World} {j4 : Nat} {j5 : Nat} {p2 : Option Addr} {a1 : Option Wri} (hm0 : 0 < m) (B0 : CB m c0 w0) (h3 : WR j4 j5 c0 w0 p2 a1) (bj4 : j4 < m) (bj5 : j5 < m ∧ j5 ≠ j4) (r : Bool) (H : parcel_Writer_whole.f a1 = some r) : Calls Try.prog 80 #[.pointer p2] w0 (fun e w_ => ∃ (c_ : Nat → Nat), e = .returned (.bool r) ∧ Ev (fun x => False) c0 w0 c_ w_ ∧ CB m c_ w_) := by
 unfold parcel_Writer_whole.f at H
 have B := B0.mono (show m ≤ m + 1 by omega)
 have E : Ev (fun x => False ∨ m ≤ x) c0 w0 c0 w0 := Ev.refl
 refine enter (N := 12) (l := [.pointer p2]) Try.func80 rfl rfl (Nat.le_of_ble_eq_true rfl) fun a F => ?_
 refine wp_seq_k fun K6 hK6 => ?_
 refine reg ?_
 refine q_val F rfl rfl (by decide) (r_assign F rfl) fun a F => ?_
 refine nil ?_
 refine hK6 _ _ ?_
 refine wp_seq_k fun K7 hK7 => ?_
 refine reg ?_
 refine q_val F rfl rfl (by decide) (r_move F rfl) fun a F => ?_
 refine q_val F rfl rfl (by decide) (r_pneqA F Try.underlying77 rfl rfl (WR.isNone h3)) fun a F => ?_
 refine q_val F rfl rfl (by decide) (r_move F rfl) fun a F => ?_
 by_cases hb8 : (Option.isNone a1) = true
 ·have H := (if_pos hb8).symm.trans H
  refine q_no F rfl (by decide) rfl (congrArg not hb8) (by decide) fun a F => ?_
  refine q_no F rfl (by decide) rfl (congrArg not hb8) (by decide) fun a F => ?_
  refine q_no F rfl (by decide) rfl (congrArg not hb8) (by decide) fun a F => ?_
  refine q_no F rfl (by decide) rfl (congrArg not hb8) (by decide) fun a F => ?_
  refine q_no F rfl (by decide) rfl (congrArg not hb8) (by decide) fun a F => ?_
  refine q_val F rfl rfl (by decide) (r_pick_f F rfl (congrArg not hb8) rfl) fun a F => ?_
  refine q_val F rfl rfl (by decide) (r_assign F rfl) fun a F => ?_
  refine nil ?_
  refine hK7 _ _ ?_
  refine wp_ret ?_
  have H := Option.some.inj H
  subst H
  refine out1 F rfl rfl ?_
  exact ⟨fun b_ => (fun x_ => if x_ < m then x_ else 0) (c0 b_), rfl, E.leave B0 (fun x_ => if x_ < m then x_ else 0) (by intro x_ hx_; show (if x_ < m then x_ else 0) = x_; ((repeat' split) <;> omega)), (fun b_ hb_ => by show (if (c0 b_) < m then (c0 b_) else 0) < m; ((repeat' split) <;> omega))⟩
 ·have H := (if_neg hb8).symm.trans H
  refine q_yes F rfl (by decide) rfl (congrArg not (bfalse hb8)) ?_
  refine q_val F rfl rfl (by decide) (r_move F rfl) fun a F => ?_
  obtain ⟨ob9, e10, H⟩ := bind_some H
  have z11 := h3
  rw [e10] at z11
  obtain ⟨ad12, A14, C15, A17, C18, rfl, hat13, h16, h19⟩ := WR.some z11
  refine q_yes F rfl (by decide) rfl (congrArg not (bfalse hb8)) ?_
  refine q_val F rfl rfl (by decide) (r_nil F rfl) fun a F => ?_
  refine q_yes F rfl (by decide) rfl (congrArg not (bfalse hb8)) ?_
  refine q_val F rfl rfl (by decide) (r_fieldAddr F rfl ff_105_3) fun a F => ?_
  refine q_yes F rfl (by decide) rfl (congrArg not (bfalse hb8)) ?_
  refine q_val F rfl rfl (by decide) (r_load F rfl ag_29 (AT.cell hat13 rfl)) fun a F => ?_
  refine q_yes F rfl (by decide) rfl (congrArg not (bfalse hb8)) ?_
  refine q_val F rfl rfl (by decide) (r_eql F rfl rfl) fun a F => ?_
  refine q_val F rfl rfl (by decide) (r_pick_t F rfl (congrArg not (bfalse hb8)) rfl) fun a F => ?_
  refine q_val F rfl rfl (by decide) (r_assign F rfl) fun a F => ?_
  refine nil ?_
  refine hK7 _ _ ?_
  refine wp_ret ?_
  have H := Option.some.inj H
  subst H
  refine out1 F rfl rfl ?_
  exact ⟨fun b_ => (fun x_ => if x_ < m then x_ else 0) (c0 b_), rfl, E.leave B0 (fun x_ => if x_ < m then x_ else 0) (by intro x_ hx_; show (if x_ < m then x_ else 0) = x_; ((repeat' split) <;> omega)), (fun b_ hb_ => by show (if (c0 b_) < m then (c0 b_) else 0) < m; ((repeat' split) <;> omega))⟩
end Go.Proofs.Ytcolmmjcdlmcoaa.G
namespace Go.Proofs.Ytcolmmjcdlmcoaa.G
open Go Go.RowKit
set_option linter.unusedVariables false
set_option linter.unusedSimpArgs false
set_option maxRecDepth 100000 in
set_option maxHeartbeats 4000000 in
theorem parcel_Writer_lay.calls {m : Nat} {c0 : Nat → Nat} {w0 : World} {j4 : Nat} {j5 : Nat} {p2 : Option Addr} {A7 : Option Addr} {C8 : Nat} {a1 : Option Wri} {a6 : List Int} (hm0 : 0 < m) (B0 : CB m c0 w0) (h3 : WR j4 j5 c0 w0 p2 a1) (h9 : SL false (Kint .u8) 0 0 c0 w0 A7 C8 a6) (bj4 : 0 < j4 ∧ j4 < m) (bj5 : 0 < j5 ∧ j5 < m ∧ j5 ≠ j4) (r : (Option Wri)) (H : parcel_Writer_lay.f a1 a6 = some r) : Calls Try.prog 62 #[.pointer p2, .slice A7 a6.length C8] w0 (fun e w_ => ∃ (c_ : Nat → Nat), e = .returned (.tuple #[]) ∧ Ev (fun x => (x = j4 ∨ x = j5)) c0 w0 c_ w_ ∧ CB m c_ w_ ∧ WR j4 j5 c_ w_ p2 r) := by
 unfold parcel_Writer_lay.f at H
 have B := B0.mono (show m ≤ m + 1 by omega)
 have E : Ev (fun x => (x = j4 ∨ x = j5) ∨ m ≤ x) c0 w0 c0 w0 := Ev.refl
 refine enter (N := 34) (l := [.pointer p2, .slice A7 a6.length C8]) Try.func62 rfl rfl (Nat.le_of_ble_eq_true rfl) fun a F => ?_
 refine wp_block ?_
 refine wp_seq_k fun K10 hK10 => ?_
 refine reg ?_
 refine q_val F rfl rfl (by decide) (r_move F rfl) fun a F => ?_
 obtain ⟨t11, q12, H⟩ := bind_some H
 refine q_call F rfl rfl (by decide) (r_call F Try.func80 rfl (by kernel_rfl) rfl) (parcel_Writer_whole.calls (m := m + 1) (by omega) B h3 (by omega) (by omega) _ q12) ?_
 rintro e w14 ⟨c13, rfl, E15, B16⟩
 refine ⟨_, rfl, fun a F => ?_⟩
 have B := B16
 have h3 := WR.ev h3 E15 (fun q => q.elim) (fun q => q.elim) (fun q => q.elim)
 have h9 := SL.ev h9 E15 (fun q => q.elim) (fun q => q.elim)
 have E := E.trans E15 (fun x q => q.elim)
 refine q_val F rfl rfl (by decide) (r_not F rfl) fun a F => ?_
 refine q_val F rfl rfl (by decide) (r_assign F rfl) fun a F => ?_
 refine nil ?_
 refine hK10 _ _ ?_
 by_cases hb18 : t11 = true
 ·have H := (if_pos hb18).symm.trans H
  refine wp_cond_false ((F.ev rfl).trans (congrArg Value.bool (congrArg not hb18))) ?_
  refine wp_seq_k fun K19 hK19 => ?_
  refine regD (SB No c13 w14) 14 (.q 0 (.q 1 (.q 2 (.q 3 (.q 4 (.q 5 (.q 6 (.q 7 (.q 8 (.q 9 (.q 10 (.q 11 (.q 12 (.q 13 .nil)))))))))))))) Try_hm (by decide +kernel) ?_
  intro w20 w1_ w2_ w3_ w4_
  have E21 : Ev No c13 w14 c13 w20 := Ev.same w1_ w2_ w3_ w4_
  have B := B.same w1_
  have zh3 := h3
  have zh9 := h9
  have ER : Ev No c13 w14 c13 w20 := Ev.same w1_ w2_ w3_ w4_
  have h3 := WR.ev h3 E21 (fun q => q.elim) (fun q => q.elim) (fun q => q.elim)
  have h9 := SL.ev h9 E21 (fun q => q.elim) (fun q => q.elim)
  have E := E.trans E21 (fun x q => q.elim)
  refine d_q F rfl rfl rfl (by decide) (fun wq hS => r_move F rfl) ER.sb fun a F => ?_
  refine d_q F rfl rfl rfl (by decide) (fun wq hS => r_lensl F Try.underlying23 rfl) ER.sb fun a F => ?_
  refine d_q F rfl rfl rfl (by decide) (fun wq hS => r_move F rfl) ER.sb fun a F => ?_
  obtain ⟨ob22, e23, H⟩ := bind_some H
  have z24 := zh3
  rw [e23] at z24
  obtain ⟨ad25, A27, C28, A30, C31, rfl, hat26, h29, h32⟩ := WR.some z24
  have zh29 := h29
  have h29 := SL.ev h29 ER (fun q => q.elim) (fun q => q.elim)
  have zh32 := h32
  have h32 := SL.ev h32 ER (fun q => q.elim) (fun q => q.elim)
  have zhat26 := hat26
  have hat26 := AT.ev hat26 ER (fun q => q.elim)
  refine d_q F rfl rfl rfl (by decide) (fun wq hS => r_nil F rfl) ER.sb fun a F => ?_
  refine d_q F rfl rfl rfl (by decide) (fun wq hS => r_fieldAddr F rfl ff_105_0) ER.sb fun a F => ?_
  refine d_q F rfl rfl rfl (by decide) (fun wq hS => r_load F rfl ag_3 (AT.cell (AT.sb zhat26 hS (fun q => q.elim)) rfl)) ER.sb fun a F => ?_
  refine d_q F rfl rfl rfl (by decide) (fun wq hS => r_move F rfl) ER.sb fun a F => ?_
  refine d_q F rfl rfl rfl (by decide) (fun wq hS => r_nil F rfl) ER.sb fun a F => ?_
  refine d_q F rfl rfl rfl (by decide) (fun wq hS => r_fieldAddr F rfl ff_105_1) ER.sb fun a F => ?_
  refine d_q F rfl rfl rfl (by decide) (fun wq hS => r_load F rfl ag_23 (AT.cell (AT.sb zhat26 hS (fun q => q.elim)) rfl)) ER.sb fun a F => ?_
  refine d_q F rfl rfl rfl (by decide) (fun wq hS => r_lensl F Try.underlying23 rfl) ER.sb fun a F => ?_
  refine d_q F rfl rfl rfl (by decide) (fun wq hS => r_sub F rfl rfl) ER.sb fun a F => ?_
  refine d_q F rfl rfl rfl (by decide) (fun wq hS => r_gtr F rfl rfl) ER.sb fun a F => ?_
  refine d_q F rfl rfl rfl (by decide) (fun wq hS => r_assign F rfl) ER.sb fun a F => ?_
  refine d_nil ?_
  refine hK19 _ _ ?_
  by_cases hb34 : (IntKind.i64.wrap (ob22.room - (ob22.b.length : Int))) < (a6.length : Int)
  ·have H := (if_pos hb34).symm.trans H
   refine wp_cond_true ((F.ev rfl).trans (congrArg Value.bool (decide_eq_true hb34))) ?_
   refine reg ?_
   refine q_val F rfl rfl (by decide) (r_move F rfl) fun a F => ?_
   refine q_val F rfl rfl (by decide) (r_nil F rfl) fun a F => ?_
   refine q_val F rfl rfl (by decide) (r_fieldAddr F rfl ff_105_3) fun a F => ?_
   refine q_eff0 F rfl rfl (e_store F rfl rfl sz_29 hat26 (Nat.le_of_ble_eq_true rfl) rfl) ?_
   rintro w35 a ⟨E36, hat26, Z37⟩ F
   have B := B.size Z37
   have h9 := SL.ev h9 E36 (by show ¬ (0 = j4); omega) (by show ¬ (0 = j4); omega)
   have h29 := SL.ev h29 E36 (by show ¬ (j5 = j4); omega) (by show ¬ (0 = j4); omega)
   have h32 := SL.ev h32 E36 (by show ¬ (0 = j4); omega) (by show ¬ (0 = j4); omega)
   have E := E.trans E36 (fun x q => by replace q : x = j4 := q; show (x = j4 ∨ x = j5) ∨ m ≤ x; omega)
   have hat26 : AT true j4 c13 w35 ad25 [.int .i64 ob22.room, .slice A27 ob22.b.length C28, .slice A30 ob22.open_.length C31, .int .i64 13] := hat26
   refine nil ?_
   have h38 : WR j4 j5 c13 w35 (some ad25) (some (Wri.mk ob22.room ob22.b ob22.open_ 13)) := WR.mk hat26 h29 h32
   have H := Option.some.inj H
   subst H
   first | refine out0n F rfl ?_ | refine inbN (out0n F rfl ?_) | refine inbN (inbN (out0n F rfl ?_)) | refine inbN (inbN (inbN (out0n F rfl ?_)))
   exact ⟨fun b_ => (fun x_ => if x_ < m then x_ else 0) (c13 b_), rfl, E.leave B0 (fun x_ => if x_ < m then x_ else 0) (by intro x_ hx_; show (if x_ < m then x_ else 0) = x_; ((repeat' split) <;> omega)), (fun b_ hb_ => by show (if (c13 b_) < m then (c13 b_) else 0) < m; ((repeat' split) <;> omega)), WR.rc h38 (fun k_ hk_ => by show (if (c13 k_) < m then (c13 k_) else 0) = _; rw [hk_]; ((repeat' split) <;> omega)) (fun k_ hk_ => by show (if (c13 k_) < m then (c13 k_) else 0) = _; rw [hk_]; ((repeat' split) <;> omega)) (fun k_ hk_ => by show (if (c13 k_) < m then (c13 k_) else 0) = _; rw [hk_]; ((repeat' split) <;> omega))⟩
  ·have H := (if_neg hb34).symm.trans H
   refine wp_cond_false ((F.ev rfl).trans (congrArg Value.bool (decide_eq_false hb34))) ?_
   refine reg ?_
   refine q_val F rfl rfl (by decide) (r_move F rfl) fun a F => ?_
   refine q_val F rfl rfl (by decide) (r_move F rfl) fun a F => ?_
   refine q_val F rfl rfl (by decide) (r_nil F rfl) fun a F => ?_
   refine q_val F rfl rfl (by decide) (r_fieldAddr F rfl ff_105_1) fun a F => ?_
   refine q_val F rfl rfl (by decide) (r_load F rfl ag_23 (AT.cell hat26 rfl)) fun a F => ?_
   refine q_val F rfl rfl (by decide) (r_move F rfl) fun a F => ?_
   obtain ⟨g39, H⟩ := ifN H
   refine q_eff F rfl rfl (by decide) (e_append (k := (Kint .u8)) (xs := ob22.b) (ys := a6) (c := c13) (j := j5) (i := 0) F et_23 rfl rfl h29 h9 (by simpa using g39) (by have g_ := g39; unfold maxLen; simp at g_ ⊢; omega) (by omega)) ?_
   rintro v w41 a ⟨c40, A42, C43, rfl, E44, h45, B46⟩ F
   have B := B46 _ B (by omega)
   have h9 := SL.ev h9 E44 (by show ¬ (0 = j5); omega) (by show ¬ (0 = j5); omega)
   have h32 := SL.ev h32 E44 (by show ¬ (0 = j5); omega) (by show ¬ (0 = j5); omega)
   have hat26 := AT.ev hat26 E44 (by show ¬ (j4 = j5); omega)
   have E := E.trans E44 (fun x q => by replace q : x = j5 := q; show (x = j4 ∨ x = j5) ∨ m ≤ x; omega)
   refine q_val F rfl rfl (by decide) (r_nil F rfl) fun a F => ?_
   refine q_val F rfl rfl (by decide) (r_fieldAddr F rfl ff_105_1) fun a F => ?_
   refine q_eff0 F rfl rfl (e_store F rfl rfl sz_23 hat26 (Nat.le_of_ble_eq_true rfl) rfl) ?_
   rintro w47 a ⟨E48, hat26, Z49⟩ F
   have B := B.size Z49
   have h9 := SL.ev h9 E48 (by show ¬ (0 = j4); omega) (by show ¬ (0 = j4); omega)
   have h32 := SL.ev h32 E48 (by show ¬ (0 = j4); omega) (by show ¬ (0 = j4); omega)
   have h45 := SL.ev h45 E48 (by show ¬ (j5 = j4); omega) (by show ¬ (0 = j4); omega)
   have E := E.trans E48 (fun x q => by replace q : x = j4 := q; show (x = j4 ∨ x = j5) ∨ m ≤ x; omega)
   have hat26 : AT true j4 c40 w47 ad25 [.int .i64 ob22.room, .slice A42 (ob22.b ++ a6).length C43, .slice A30 ob22.open_.length C31, .int .i64 ob22.fault] := hat26
   refine nil ?_
   have h50 : WR j4 j5 c40 w47 (some ad25) (some (Wri.mk ob22.room (ob22.b ++ a6) ob22.open_ ob22.fault)) := WR.mk hat26 h45 h32
   have H := Option.some.inj H
   subst H
   first | refine out0n F rfl ?_ | refine inbN (out0n F rfl ?_) | refine inbN (inbN (out0n F rfl ?_)) | refine inbN (inbN (inbN (out0n F rfl ?_)))
   exact ⟨fun b_ => (fun x_ => if x_ < m then x_ else 0) (c40 b_), rfl, E.leave B0 (fun x_ => if x_ < m then x_ else 0) (by intro x_ hx_; show (if x_ < m then x_ else 0) = x_; ((repeat' split) <;> omega)), (fun b_ hb_ => by show (if (c40 b_) < m then (c40 b_) else 0) < m; ((repeat' split) <;> omega)), WR.rc h50 (fun k_ hk_ => by show (if (c40 k_) < m then (c40 k_) else 0) = _; rw [hk_]; ((repeat' split) <;> omega)) (fun k_ hk_ => by show (if (c40 k_) < m then (c40 k_) else 0) = _; rw [hk_]; ((repeat' split) <;> omega)) (fun k_ hk_ => by show (if (c40 k_) < m then (c40 k_) else 0) = _; rw [hk_]; ((repeat' split) <;> omega))⟩
 ·have H := (if_neg hb18).symm.trans H
  refine wp_cond_true ((F.ev rfl).trans (congrArg Value.bool (congrArg not (bfalse hb18)))) ?_
  refine wp_skip ?_
  have H := Option.some.inj H
  subst H
  first | refine out0n F rfl ?_ | refine inbN (out0n F rfl ?_) | refine inbN (inbN (out0n F rfl ?_)) | refine inbN (inbN (inbN (out0n F rfl ?_)))
  exact ⟨fun b_ => (fun x_ => if x_ < m then x_ else 0) (c13 b_), rfl, E.leave B0 (fun x_ => if x_ < m then x_ else 0) (by intro x_ hx_; show (if x_ < m then x_ else 0) = x_; ((repeat' split) <;> omega)), (fun b_ hb_ => by show (if (c13 b_) < m then (c13 b_) else 0) < m; ((repeat' split) <;> omega)), WR.rc h3 (fun k_ hk_ => by show (if (c13 k_) < m then (c13 k_) else 0) = _; rw [hk_]; ((repeat' split) <;> omega)) (fun k_ hk_ => by show (if (c13 k_) < m then (c13 k_) else 0) = _; rw [hk_]; ((repeat' split) <;> omega)) (fun k_ hk_ => by show (if (c13 k_) < m then (c13 k_) else 0) = _; rw [hk_]; ((repeat' split) <;> omega))⟩
end Go.Proofs.Ytcolmmjcdlmcoaa.G
namespace Go.Proofs.Ytcolmmjcdlmcoaa.G
open Go Go.RowKit
set_option linter.unusedVariables false
set_option linter.unusedSimpArgs false
set_option maxRecDepth 100000 in
set_option maxHeartbeats 4000000 in
theorem parcel_Writer_Num.calls (k : Nat) {m : Nat} {c0 : Nat → Nat} {w0 : World} {j4 : Nat} {j5 : Nat} {p2 : Option Addr} {a1 : Option Wri} {a6 : Int} (hm0 : 0 < m) (B0 : CB m c0 w0) (h3 : WR j4 j5 c0 w0 p2 a1) (bj4 : 0 < j4 ∧ j4 < m) (bj5 : 0 < j5 ∧ j5 < m ∧ j5 ≠ j4) (r : (Option Wri)) (H : parcel_Writer_Num.f k a1 a6 = some r) : Calls Try.prog 45 #[.pointer p2, .int .u64 a6] w0 (fun e w_ => ∃ (c_ : Nat → Nat), e = .returned (.tuple #[]) ∧ Ev (fun x => (x = j4 ∨ x = j5)) c0 w0 c_ w_ ∧ CB m c_ w_ ∧ WR j4 j5 c_ w_ p2 r) := by
 unfold parcel_Writer_Num.f at H
 have B := B0.mono (show m ≤ m + 1 by omega)
 have E : Ev (fun x => (x = j4 ∨ x = j5) ∨ m ≤ x) c0 w0 c0 w0 := Ev.refl
 refine enter (N := 8) (l := [.pointer p2, .int .u64 a6]) Try.func45 rfl rfl (Nat.le_of_ble_eq_true rfl) fun a F => ?_
 refine reg ?_
 refine q_val F rfl rfl (by decide) (r_move F rfl) fun a F => ?_
 refine q_val F rfl rfl (by decide) (r_move F rfl) fun a F => ?_
 obtain ⟨t7, q8, H⟩ := bind_some H
 refine q_call F rfl rfl (by decide) (r_call F Try.func63 rfl (by kernel_rfl) rfl) (parcel_form.calls k (m := m + 1) (by omega) B 0 (by omega) _ q8) ?_
 rintro e w10 ⟨c9, A13, C14, rfl, E11, B12, h15⟩
 refine ⟨_, rfl, fun a F => ?_⟩
 have B := B12
 have h3 := WR.ev h3 E11 (fun q => q.elim) (fun q => q.elim) (fun q => q.elim)
 have E := E.trans E11 (fun x q => q.elim)
 obtain ⟨t17, q18, H⟩ := bind_some H
 refine q_call F rfl rfl (by decide) (r_call F Try.func62 rfl (by kernel_rfl) rfl) (parcel_Writer_lay.calls (m := m + 1) (by omega) B h3 h15.r (by omega) (by omega) _ q18) ?_
 rintro e w20 ⟨c19, rfl, E21, B22, h23⟩
 refine ⟨_, rfl, fun a F => ?_⟩
 have B := B22
 have h15 := SL.ev h15 E21 (by show ¬ (0 = j4 ∨ 0 = j5); omega) (by show ¬ (0 = j4 ∨ 0 = j5); omega)
 have E := E.trans E21 (fun x q => by replace q : x = j4 ∨ x = j5 := q; show (x = j4 ∨ x = j5) ∨ m ≤ x; omega)
 refine nil ?_
 have H := Option.some.inj H
 subst H
 first | refine out0n F rfl ?_ | refine inbN (out0n F rfl ?_) | refine inbN (inbN (out0n F rfl ?_)) | refine inbN (inbN (inbN (out0n F rfl ?_)))
 exact ⟨fun b_ => (fun x_ => if x_ < m then x_ else 0) (c19 b_), rfl, E.leave B0 (fun x_ => if x_ < m then x_ else 0) (by intro x_ hx_; show (if x_ < m then x_ else 0) = x_; ((repeat' split) <;> omega)), (fun b_ hb_ => by show (if (c19 b_) < m then (c19 b_) else 0) < m; ((repeat' split) <;> omega)), WR.rc h23 (fun k_ hk_ => by show (if (c19 k_) < m then (c19 k_) else 0) = _; rw [hk_]; ((repeat' split) <;> omega)) (fun k_ hk_ => by show (if (c19 k_) < m then (c19 k_) else 0) = _; rw [hk_]; ((repeat' split) <;> omega)) (fun k_ hk_ => by show (if (c19 k_) < m then (c19 k_) else 0) = _; rw [hk_]; ((repeat' split) <;> omega))⟩
end Go.Proofs.Ytcolmmjcdlmcoaa.G
namespace Go.Proofs.Ytcolmmjcdlmcoaa.G
open Go Go.RowKit
set_option linter.unusedVariables false
set_option linter.unusedSimpArgs false
set_option maxRecDepth 100000 in
set_option maxHeartbeats 4000000 in
theorem slices_Concat.calls (k : Nat) {m : Nat} {c0 : Nat → Nat} {w0 : World} {j5 : Nat} {j6 : Nat} {A2 : Option Addr} {C3 : Nat} {a1 : List (List Int)} (hm0 : 0 < m) (B0 : CB m c0 w0) (h4 : SL false (Kslice (Kint .u8)) j5 j6 c0 w0 A2 C3 a1) (bj5 : j5 < m) (bj6 : j6 < m) (jr113 : Nat) (bjr113 : jr113 < m) (r : (List Int)) (H : slices_Concat.f k a1 = some r) : Calls Try.prog 66 #[.slice A2 a1.length C3] w0 (fun e w_ => ∃ (c_ : Nat → Nat) (A0_ : Option Addr) (C0_ : Nat), e = .returned (.slice A0_ r.length C0_) ∧ Ev (fun x => False) c0 w0 c_ w_ ∧ CB m c_ w_ ∧ SL true (Kint .u8) jr113 0 c_ w_ A0_ C0_ r) := by
 unfold slices_Concat.f at H
 have B := B0.mono (show m ≤ m + 2 by omega)
 have E : Ev (fun x => False ∨ m ≤ x) c0 w0 c0 w0 := Ev.refl
 refine enter (N := 36) (l := [.slice A2 a1.length C3]) Try.func66 rfl rfl (Nat.le_of_ble_eq_true rfl) fun a F => ?_
 refine wp_seq_k fun K7 hK7 => ?_
 refine reg ?_
 refine q_val F rfl rfl (by decide) (r_assign F rfl) fun a F => ?_
 refine nil ?_
 refine hK7 _ _ ?_
 refine wp_seq_k fun K8 hK8 => ?_
 refine reg ?_
 refine q_val F rfl rfl (by decide) (r_assign F rfl) fun a F => ?_
 refine nil ?_
 refine hK8 _ _ ?_
 refine wp_seq_k fun K9 hK9 => ?_
 refine wp_seq_k fun K10 hK10 => ?_
 refine reg ?_
 refine q_val F rfl rfl (by decide) (r_move F rfl) fun a F => ?_
 refine q_val F rfl rfl (by decide) (r_lensl F Try.underlying59 rfl) fun a F => ?_
 refine q_val F rfl rfl (by decide) (r_move F rfl) fun a F => ?_
 refine nil ?_
 refine hK10 _ _ ?_
 refine wp_block ?_
 obtain ⟨x22, HL, HR21⟩ := bind_some H
 have J45 : ∀ (c46 : Nat → Nat) (w47 : World) (a : Act) (i44 : Int), Fr a 36 [(0, .slice A2 a1.length C3), (3, .int .i64 i44)] → Ev (fun x => False ∨ m ≤ x) c0 w0 c46 w47 → CB (m + 2) c46 w47 → SL false (Kslice (Kint .u8)) j5 j6 c46 w47 A2 C3 a1 → slices_Concat.j2 k a1 i44 = some r → K9 a w47 := by
  intro c46 w47 a i44 F E B h4 H
  unfold slices_Concat.j2 at H
  refine hK9 _ _ ?_
  refine wp_seq_k fun K48 hK48 => ?_
  refine reg ?_
  refine q_val F rfl rfl (by decide) (r_move F rfl) fun a F => ?_
  obtain ⟨t49, q50, H⟩ := bind_some H
  refine q_call F rfl rfl (by decide) (r_call F Try.func81 rfl (by kernel_rfl) rfl) (slices_Grow.calls (m := m + 2) (by omega) B SL.nil (m + 1) (by omega) _ q50) ?_
  rintro e w52 ⟨c51, A55, C56, rfl, E53, B54, h57⟩
  refine ⟨_, rfl, fun a F => ?_⟩
  have B := B54
  have h4 := SL.ev h4 E53 (fun q => q.elim) (fun q => q.elim)
  have E := E.trans E53 (fun x q => q.elim)
  refine q_val F rfl rfl (by decide) (r_assign F rfl) fun a F => ?_
  refine nil ?_
  refine hK48 _ _ ?_
  refine wp_seq_k fun K59 hK59 => ?_
  refine wp_seq_k fun K60 hK60 => ?_
  refine reg ?_
  refine q_val F rfl rfl (by decide) (r_move F rfl) fun a F => ?_
  refine q_val F rfl rfl (by decide) (r_lensl F Try.underlying59 rfl) fun a F => ?_
  refine q_val F rfl rfl (by decide) (r_move F rfl) fun a F => ?_
  refine nil ?_
  refine hK60 _ _ ?_
  refine wp_block ?_
  obtain ⟨x75, HL, HR74⟩ := bind_some H
  have J109 : ∀ (c110 : Nat → Nat) (w111 : World) (a : Act) (l106 : List Int) (A107 : Option Addr) (C108 : Nat), Fr a 36 [(6, .slice A107 l106.length C108)] → Ev (fun x => False ∨ m ≤ x) c0 w0 c110 w111 → CB (m + 2) c110 w111 → SL true (Kint .u8) (m + 1) 0 c110 w111 A107 C108 l106 → slices_Concat.j4 l106 = some r → K59 a w111 := by
   intro c110 w111 a l106 A107 C108 F E B h105 H
   unfold slices_Concat.j4 at H
   refine hK59 _ _ ?_
   refine wp_seq_k fun K112 hK112 => ?_
   refine reg ?_
   refine q_val F rfl rfl (by decide) (r_move F rfl) fun a F => ?_
   refine q_val F rfl rfl (by decide) (r_assign F rfl) fun a F => ?_
   refine nil ?_
   refine hK112 _ _ ?_
   refine wp_ret ?_
   have H := Option.some.inj H
   subst H
   refine out1 F rfl rfl ?_
   exact ⟨fun b_ => (fun x_ => if x_ = m + 1 then jr113 else if x_ < m then x_ else 0) (c110 b_), A107, C108, rfl, E.leave B0 (fun x_ => if x_ = m + 1 then jr113 else if x_ < m then x_ else 0) (by intro x_ hx_; show (if x_ = m + 1 then jr113 else if x_ < m then x_ else 0) = x_; ((repeat' split) <;> omega)), (fun b_ hb_ => by show (if (c110 b_) = m + 1 then jr113 else if (c110 b_) < m then (c110 b_) else 0) < m; ((repeat' split) <;> omega)), SL.rc h105 (fun k_ hk_ => by show (if (c110 k_) = m + 1 then jr113 else if (c110 k_) < m then (c110 k_) else 0) = _; rw [hk_]; ((repeat' split) <;> omega)) (fun k_ hk_ => by show (if (c110 k_) = m + 1 then jr113 else if (c110 k_) < m then (c110 k_) else 0) = _; rw [hk_]; ((repeat' split) <;> omega))⟩
  refine loop_fuel (I := fun n a w => ∃ (l61 : List Int) (A62 : Option Addr) (C63 : Nat) (i65 : Int) (c : Nat → Nat), Fr a 36 [(6, .slice A62 l61.length C63), (25, .slice A2 a1.length C3), (26, .int .i64 (a1.length : Int)), (27, .int .i64 i65)] ∧ Ev (fun x => False ∨ m ≤ x) c0 w0 c w ∧ CB (m + 2) c w ∧ SL false (Kslice (Kint .u8)) j5 j6 c w A2 C3 a1 ∧ SL true (Kint .u8) (m + 1) 0 c w A62 C63 l61 ∧ loop (fun (s_ : (List Int) × Int) => slices_Concat.b3 a1 s_.1 s_.2) n (l61, i65) = some x75) (k := k) ⟨t49, A55, C56, 0, c51, F.sub ⟨rfl, rfl, rfl, rfl, trivial⟩, E, B, h4, h57, HL⟩ ?_
  clear HL H E F B
  intro n72 X68 hX68 a w67 ⟨l61, A62, C63, i65, c66, F, E, B, h4, h64, HL⟩
  obtain ⟨n73, ctl71, rfl, HB, HN69, HD70⟩ := loop_some HL
  have H : slices_Concat.b3 a1 l61 i65 = some ctl71 := HB
  clear HB HL
  unfold slices_Concat.b3 at H
  refine wp_seq_k fun K76 hK76 => ?_
  refine reg ?_
  refine q_val F rfl rfl (by decide) (r_lss F rfl rfl) fun a F => ?_
  refine nil ?_
  refine hK76 _ _ ?_
  refine wp_seq_k fun K77 hK77 => ?_
  by_cases hb78 : i65 < (a1.length : Int)
  ·have H := (if_pos hb78).symm.trans H
   refine wp_cond_true ((F.ev rfl).trans (congrArg Value.bool (decide_eq_true hb78))) ?_
   refine wp_skip ?_
   refine hK77 _ _ ?_
   refine wp_seq_k fun K79 hK79 => ?_
   refine wp_block ?_
   refine wp_seq_k fun K80 hK80 => ?_
   refine reg ?_
   obtain ⟨g81, H⟩ := ifN H
   obtain ⟨ad82, cs83, e84, h85, r86⟩ := SL.at h4 i65 g81.1 g81.2
   obtain ⟨A87, C88, rfl, h89⟩ := r86
   have h89 := SL.fl (i' := 0) h89 (fun q => q)
   obtain ⟨qa90, qqa90⟩ : ∃ q, q = (ad82.add (i65.toNat * 1)) := ⟨_, rfl⟩
   have h85 : AT false j5 c66 w67 qa90 [.slice A87 (rd a1 i65).length C88] := by rw [qqa90]; exact h85
   refine q_val F rfl rfl (by decide) (r_indexAddr' F Try.underlying59 sz_23 rfl rfl g81.1 g81.2 e84 qqa90) fun a F => ?_
   refine q_val F rfl rfl (by decide) (r_load F rfl ag_23 (AT.cell0 h85 rfl)) fun a F => ?_
   refine q_val F rfl rfl (by decide) (r_assign F rfl) fun a F => ?_
   refine nil ?_
   refine hK80 _ _ ?_
   refine reg ?_
   refine q_val F rfl rfl (by decide) (r_move F rfl) fun a F => ?_
   refine q_val F rfl rfl (by decide) (r_move F rfl) fun a F => ?_
   obtain ⟨g92, H⟩ := ifN H
   refine q_eff F rfl rfl (by decide) (e_append (k := (Kint .u8)) (xs := l61) (ys := (rd a1 i65)) (c := c66) (j := (m + 1)) (i := 0) F et_23 rfl rfl h64 h89 (by simpa using g92) (by have g_ := g92; unfold maxLen; simp at g_ ⊢; omega) (by omega)) ?_
   rintro v w94 a ⟨c93, A95, C96, rfl, E97, h98, B99⟩ F
   have B := B99 _ B (by omega)
   have h4 := SL.ev h4 E97 (by show ¬ (j5 = m + 1); omega) (by show ¬ (j6 = m + 1); omega)
   have h89 := SL.ev h89 E97 (by show ¬ (j6 = m + 1); omega) (by show ¬ (0 = m + 1); omega)
   have h85 := AT.ev h85 E97 (by show ¬ (j5 = m + 1); omega)
   have E := E.trans E97 (fun x q => by replace q : x = m + 1 := q; show False ∨ m ≤ x; omega)
   refine q_val F rfl rfl (by decide) (r_assign F rfl) fun a F => ?_
   refine nil ?_
   refine hK79 _ _ ?_
   refine reg ?_
   refine q_val F rfl rfl (by decide) (r_add F rfl rfl) fun a F => ?_
   refine q_val F rfl rfl (by decide) (r_move F rfl) fun a F => ?_
   refine nil ?_
   have H := HN69 _ (Option.some.inj H).symm
   exact hX68 _ _ _ (Nat.lt_succ_self _) ⟨(l61 ++ (rd a1 i65)), A95, C96, (IntKind.i64.wrap (i65 + 1)), c93, F.sub ⟨rfl, rfl, rfl, rfl, trivial⟩, E, B, h4, h98, H⟩
  ·have H := (if_neg hb78).symm.trans H
   refine wp_cond_false ((F.ev rfl).trans (congrArg Value.bool (decide_eq_false hb78))) ?_
   refine wp_exit ?_
   refine thenE ?_
   refine thenE ?_
   refine inbE ?_
   have hx_ := HD70 _ (Option.some.inj H).symm
   have H := HR74
   rw [← hx_] at H
   exact J109 c66 w67 a l61 A62 C63 (F.sub ⟨rfl, trivial⟩) E B h64 H
 refine loop_fuel (I := fun n a w => ∃ (i11 : Int) (i12 : Int) (c : Nat → Nat), Fr a 36 [(0, .slice A2 a1.length C3), (3, .int .i64 i11), (9, .slice A2 a1.length C3), (10, .int .i64 (a1.length : Int)), (11, .int .i64 i12)] ∧ Ev (fun x => False ∨ m ≤ x) c0 w0 c w ∧ CB (m + 2) c w ∧ SL false (Kslice (Kint .u8)) j5 j6 c w A2 C3 a1 ∧ loop (fun (s_ : Int × Int) => slices_Concat.b1 a1 s_.1 s_.2) n (i11, i12) = some x22) (k := k) ⟨0, 0, c0, F.sub ⟨rfl, rfl, rfl, rfl, rfl, trivial⟩, E, B, h4, HL⟩ ?_
 clear HL H E F B
 intro n19 X15 hX15 a w14 ⟨i11, i12, c13, F, E, B, h4, HL⟩
 obtain ⟨n20, ctl18, rfl, HB, HN16, HD17⟩ := loop_some HL
 have H : slices_Concat.b1 a1 i11 i12 = some ctl18 := HB
 clear HB HL
 unfold slices_Concat.b1 at H
 refine wp_seq_k fun K23 hK23 => ?_
 refine reg ?_
 refine q_val F rfl rfl (by decide) (r_lss F rfl rfl) fun a F => ?_
 refine nil ?_
 refine hK23 _ _ ?_
 refine wp_seq_k fun K24 hK24 => ?_
 by_cases hb25 : i12 < (a1.length : Int)
 ·have H := (if_pos hb25).symm.trans H
  refine wp_cond_true ((F.ev rfl).trans (congrArg Value.bool (decide_eq_true hb25))) ?_
  refine wp_skip ?_
  refine hK24 _ _ ?_
  refine wp_seq_k fun K26 hK26 => ?_
  refine wp_block ?_
  refine wp_seq_k fun K27 hK27 => ?_
  refine reg ?_
  obtain ⟨g28, H⟩ := ifN H
  obtain ⟨ad29, cs30, e31, h32, r33⟩ := SL.at h4 i12 g28.1 g28.2
  obtain ⟨A34, C35, rfl, h36⟩ := r33
  have h36 := SL.fl (i' := 0) h36 (fun q => q)
  obtain ⟨qa37, qqa37⟩ : ∃ q, q = (ad29.add (i12.toNat * 1)) := ⟨_, rfl⟩
  have h32 : AT false j5 c13 w14 qa37 [.slice A34 (rd a1 i12).length C35] := by rw [qqa37]; exact h32
  refine q_val F rfl rfl (by decide) (r_indexAddr' F Try.underlying59 sz_23 rfl rfl g28.1 g28.2 e31 qqa37) fun a F => ?_
  refine q_val F rfl rfl (by decide) (r_load F rfl ag_23 (AT.cell0 h32 rfl)) fun a F => ?_
  refine q_val F rfl rfl (by decide) (r_assign F rfl) fun a F => ?_
  refine nil ?_
  refine hK27 _ _ ?_
  refine wp_seq_k fun K39 hK39 => ?_
  refine reg ?_
  refine q_val F rfl rfl (by decide) (r_move F rfl) fun a F => ?_
  refine q_val F rfl rfl (by decide) (r_move F rfl) fun a F => ?_
  refine q_val F rfl rfl (by decide) (r_lensl F Try.underlying23 rfl) fun a F => ?_
  refine q_val F rfl rfl (by decide) (r_add F rfl rfl) fun a F => ?_
  refine q_val F rfl rfl (by decide) (r_assign F rfl) fun a F => ?_
  refine nil ?_
  refine hK39 _ _ ?_
  refine wp_seq_k fun K40 hK40 => ?_
  refine reg ?_
  refine q_val F rfl rfl (by decide) (r_move F rfl) fun a F => ?_
  refine q_val F rfl rfl (by decide) (r_lss F rfl rfl) fun a F => ?_
  refine nil ?_
  refine hK40 _ _ ?_
  by_cases hb41 : (IntKind.i64.wrap (i11 + ((rd a1 i12).length : Int))) < 0
  ·have H := (if_pos hb41).symm.trans H
   refine wp_cond_true ((F.ev rfl).trans (congrArg Value.bool (decide_eq_true hb41))) ?_
   refine reg ?_
   cases H
  ·have H := (if_neg hb41).symm.trans H
   refine wp_cond_false ((F.ev rfl).trans (congrArg Value.bool (decide_eq_false hb41))) ?_
   refine wp_skip ?_
   refine hK26 _ _ ?_
   refine reg ?_
   refine q_val F rfl rfl (by decide) (r_add F rfl rfl) fun a F => ?_
   refine q_val F rfl rfl (by decide) (r_move F rfl) fun a F => ?_
   refine nil ?_
   have H := HN16 _ (Option.some.inj H).symm
   exact hX15 _ _ _ (Nat.lt_succ_self _) ⟨(IntKind.i64.wrap (i11 + ((rd a1 i12).length : Int))), (IntKind.i64.wrap (i12 + 1)), c13, F.sub ⟨rfl, rfl, rfl, rfl, rfl, trivial⟩, E, B, h4, H⟩
 ·have H := (if_neg hb25).symm.trans H
  refine wp_cond_false ((F.ev rfl).trans (congrArg Value.bool (decide_eq_false hb25))) ?_
  refine wp_exit ?_
  refine thenE ?_
  refine thenE ?_
  refine inbE ?_
  have hx_ := HD17 _ (Option.some.inj H).symm
  have H := HR21
  rw [← hx_] at H
  exact J45 c13 w14 a i11 (F.sub ⟨rfl, rfl, trivial⟩) E B h4 H
end Go.Proofs.Ytcolmmjcdlmcoaa.G
namespace Go.Proofs.Ytcolmmjcdlmcoaa.G
open Go Go.RowKit
set_option linter.unusedVariables false
set_option linter.unusedSimpArgs false
set_option maxRecDepth 100000 in
set_option maxHeartbeats 4000000 in
theorem parcel_Writer_Text.calls (k : Nat) {m : Nat} {c0 : Nat → Nat} {w0 : World} {j4 : Nat} {j5 : Nat} {p2 : Option Addr} {A7 : Option Addr} {C8 : Nat} {a1 : Option Wri} {a6 : List Int} (hm0 : 0 < m) (B0 : CB m c0 w0) (h3 : WR j4 j5 c0 w0 p2 a1) (h9 : SL false (Kint .u8) 0 0 c0 w0 A7 C8 a6) (bj4 : 0 < j4 ∧ j4 < m) (bj5 : 0 < j5 ∧ j5 < m ∧ j5 ≠ j4) (r : (Option Wri)) (H : parcel_Writer_Text.f k a1 a6 = some r) : Calls Try.prog 48 #[.pointer p2, .slice A7 a6.length C8] w0 (fun e w_ => ∃ (c_ : Nat → Nat), e = .returned (.tuple #[]) ∧ Ev (fun x => (x = j4 ∨ x = j5)) c0 w0 c_ w_ ∧ CB m c_ w_ ∧ WR j4 j5 c_ w_ p2 r) := by
 unfold parcel_Writer_Text.f at H
 have B := B0.mono (show m ≤ m + 1 by omega)
 have E : Ev (fun x => (x = j4 ∨ x = j5) ∨ m ≤ x) c0 w0 c0 w0 := Ev.refl
 refine enter (N := 13) (l := [.pointer p2, .slice A7 a6.length C8]) Try.func48 rfl rfl (Nat.le_of_ble_eq_true rfl) fun a F => ?_
 refine reg ?_
 refine q_val F rfl rfl (by decide) (r_move F rfl) fun a F => ?_
 refine q_val F rfl rfl (by decide) (r_move F rfl) fun a F => ?_
 refine q_val F rfl rfl (by decide) (r_lensl F Try.underlying23 rfl) fun a F => ?_
 refine q_val F rfl rfl (by decide) (r_convi F Try.underlying80 rfl rfl) fun a F => ?_
 obtain ⟨t10, q11, H⟩ := bind_some H
 refine q_call F rfl rfl (by decide) (r_call F Try.func63 rfl (by kernel_rfl) rfl) (parcel_form.calls k (m := m + 1) (by omega) B 0 (by omega) _ q11) ?_
 rintro e w13 ⟨c12, A16, C17, rfl, E14, B15, h18⟩
 refine ⟨_, rfl, fun a F => ?_⟩
 have B := B15
 have h3 := WR.ev h3 E14 (fun q => q.elim) (fun q => q.elim) (fun q => q.elim)
 have h9 := SL.ev h9 E14 (fun q => q.elim) (fun q => q.elim)
 have E := E.trans E14 (fun x q => q.elim)
 refine q_val F rfl rfl (by decide) (r_move F rfl) fun a F => ?_
 refine q_eff F rfl rfl (by decide) (e_buildSlice (n := 2) (e := 23) (c := c12) (k := (Kslice (Kint .u8))) (i := 0) F [(0, .slice A16 t10.length C17), (1, .slice A7 a6.length C8)] [.slice A16 t10.length C17, .slice A7 a6.length C8] ([t10, a6] : List (List Int)) (by exact ⟨rfl, rfl, rfl, rfl, trivial⟩) (fun w => by kernel_rfl) rfl (by decide) rfl ⟨⟨A16, C17, rfl, (SL.fl h18.r (fun q => q))⟩, ⟨A7, C8, rfl, (SL.fl h9 (fun q => q))⟩, trivial⟩ (fun q => q) 0) ?_
 rintro v w21 a ⟨c20, A22, C23, rfl, E24, h25, B26⟩ F
 have B := B26 _ B (by omega)
 have h3 := WR.ev h3 E24 (fun q => q.elim) (fun q => q.elim) (fun q => q.elim)
 have h9 := SL.ev h9 E24 (fun q => q.elim) (fun q => q.elim)
 have h18 := SL.ev h18 E24 (fun q => q.elim) (fun q => q.elim)
 have E := E.trans E24 (fun x q => q.elim)
 obtain ⟨t27, q28, H⟩ := bind_some H
 refine q_call F rfl rfl (by decide) (r_call F Try.func66 rfl (by kernel_rfl) rfl) (slices_Concat.calls k (m := m + 1) (by omega) B h25.r (by omega) (by omega) 0 (by omega) _ q28) ?_
 rintro e w30 ⟨c29, A33, C34, rfl, E31, B32, h35⟩
 refine ⟨_, rfl, fun a F => ?_⟩
 have B := B32
 have h3 := WR.ev h3 E31 (fun q => q.elim) (fun q => q.elim) (fun q => q.elim)
 have h9 := SL.ev h9 E31 (fun q => q.elim) (fun q => q.elim)
 have h18 := SL.ev h18 E31 (fun q => q.elim) (fun q => q.elim)
 have h25 := SL.ev h25 E31 (fun q => q.elim) (fun q => q.elim)
 have E := E.trans E31 (fun x q => q.elim)
 obtain ⟨t37, q38, H⟩ := bind_some H
 refine q_call F rfl rfl (by decide) (r_call F Try.func62 rfl (by kernel_rfl) rfl) (parcel_Writer_lay.calls (m := m + 1) (by omega) B h3 h35.r (by omega) (by omega) _ q38) ?_
 rintro e w40 ⟨c39, rfl, E41, B42, h43⟩
 refine ⟨_, rfl, fun a F => ?_⟩
 have B := B42
 have h9 := SL.ev h9 E41 (by show ¬ (0 = j4 ∨ 0 = j5); omega) (by show ¬ (0 = j4 ∨ 0 = j5); omega)
 have h18 := SL.ev h18 E41 (by show ¬ (0 = j4 ∨ 0 = j5); omega) (by show ¬ (0 = j4 ∨ 0 = j5); omega)
 have h25 := SL.ev h25 E41 (by show ¬ (0 = j4 ∨ 0 = j5); omega) (by show ¬ (0 = j4 ∨ 0 = j5); omega)
 have h35 := SL.ev h35 E41 (by show ¬ (0 = j4 ∨ 0 = j5); omega) (by show ¬ (0 = j4 ∨ 0 = j5); omega)
 have E := E.trans E41 (fun x q => by replace q : x = j4 ∨ x = j5 := q; show (x = j4 ∨ x = j5) ∨ m ≤ x; omega)
 refine nil ?_
 have H := Option.some.inj H
 subst H
 first | refine out0n F rfl ?_ | refine inbN (out0n F rfl ?_) | refine inbN (inbN (out0n F rfl ?_)) | refine inbN (inbN (inbN (out0n F rfl ?_)))
 exact ⟨fun b_ => (fun x_ => if x_ < m then x_ else 0) (c39 b_), rfl, E.leave B0 (fun x_ => if x_ < m then x_ else 0) (by intro x_ hx_; show (if x_ < m then x_ else 0) = x_; ((repeat' split) <;> omega)), (fun b_ hb_ => by show (if (c39 b_) < m then (c39 b_) else 0) < m; ((repeat' split) <;> omega)), WR.rc h43 (fun k_ hk_ => by show (if (c39 k_) < m then (c39 k_) else 0) = _; rw [hk_]; ((repeat' split) <;> omega)) (fun k_ hk_ => by show (if (c39 k_) < m then (c39 k_) else 0) = _; rw [hk_]; ((repeat' split) <;> omega)) (fun k_ hk_ => by show (if (c39 k_) < m then (c39 k_) else 0) = _; rw [hk_]; ((repeat' split) <;> omega))⟩
end Go.Proofs.Ytcolmmjcdlmcoaa.G
namespace Go.Proofs.Ytcolmmjcdlmcoaa.G
open Go Go.RowKit
set_option linter.unusedVariables false
set_option linter.unusedSimpArgs false
set_option maxRecDepth 100000 in
set_option maxHeartbeats 4000000 in
theorem parcel_Writer_Done.calls {m : Nat} {c0 : Nat → Nat} {w0 : World} {j4 : Nat} {j5 : Nat} {p2 : Option Addr} {a1 : Option Wri} (hm0 : 0 < m) (B0 : CB m c0 w0) (h3 : WR j4 j5 c0 w0 p2 a1) (bj4 : j4 < m) (bj5 : j5 < m ∧ j5 ≠ j4) (jr46 : Nat) (bjr46 : jr46 < m) (r : (List Int) × Int) (H : parcel_Writer_Done.f a1 = some r) : Calls Try.prog 49 #[.pointer p2] w0 (fun e w_ => ∃ (c_ : Nat → Nat) (A0_ : Option Addr) (C0_ : Nat), e = .returned (.tuple #[.slice A0_ r.1.length C0_, .int .i64 r.2]) ∧ Ev (fun x => False) c0 w0 c_ w_ ∧ CB m c_ w_ ∧ SL true (Kint .u8) jr46 0 c_ w_ A0_ C0_ r.1) := by
 unfold parcel_Writer_Done.f at H
 have B := B0.mono (show m ≤ m + 2 by omega)
 have E : Ev (fun x => False ∨ m ≤ x) c0 w0 c0 w0 := Ev.refl
 refine enter (N := 38) (l := [.pointer p2]) Try.func49 rfl rfl (Nat.le_of_ble_eq_true rfl) fun a F => ?_
 refine wp_seq_k fun K6 hK6 => ?_
 refine reg ?_
 refine q_val F rfl rfl (by decide) (r_assign F rfl) fun a F => ?_
 refine q_val F rfl rfl (by decide) (r_assign F rfl) fun a F => ?_
 refine nil ?_
 refine hK6 _ _ ?_
 refine wp_seq_k fun K7 hK7 => ?_
 refine wp_block ?_
 refine wp_seq_k fun K8 hK8 => ?_
 refine reg ?_
 refine q_val F rfl rfl (by decide) (r_move F rfl) fun a F => ?_
 refine q_val F rfl rfl (by decide) (r_peqlA F Try.underlying77 rfl rfl (WR.isNone h3)) fun a F => ?_
 refine q_val F rfl rfl (by decide) (r_assign F rfl) fun a F => ?_
 refine nil ?_
 refine hK8 _ _ ?_
 by_cases hb9 : (Option.isNone a1) = true
 ·have H := (if_pos hb9).symm.trans H
  refine wp_cond_true ((F.ev rfl).trans (congrArg Value.bool hb9)) ?_
  refine wp_seq_k fun K10 hK10 => ?_
  refine reg ?_
  refine q_val F rfl rfl (by decide) (r_assign F rfl) fun a F => ?_
  refine q_val F rfl rfl (by decide) (r_assign F rfl) fun a F => ?_
  refine nil ?_
  refine hK10 _ _ ?_
  refine wp_ret ?_
  refine inbR ?_
  refine thenR ?_
  have H := Option.some.inj H
  subst H
  refine out2 F rfl rfl rfl ?_
  exact ⟨fun b_ => (fun x_ => if x_ = m + 1 then jr46 else if x_ < m then x_ else 0) (c0 b_), none, 0, rfl, E.leave B0 (fun x_ => if x_ = m + 1 then jr46 else if x_ < m then x_ else 0) (by intro x_ hx_; show (if x_ = m + 1 then jr46 else if x_ < m then x_ else 0) = x_; ((repeat' split) <;> omega)), (fun b_ hb_ => by show (if (c0 b_) = m + 1 then jr46 else if (c0 b_) < m then (c0 b_) else 0) < m; ((repeat' split) <;> omega)), SL.nil⟩
 ·have H := (if_neg hb9).symm.trans H
  refine wp_cond_false ((F.ev rfl).trans (congrArg Value.bool (bfalse hb9))) ?_
  refine wp_seq_k fun K11 hK11 => ?_
  refine reg ?_
  refine q_val F rfl rfl (by decide) (r_move F rfl) fun a F => ?_
  obtain ⟨ob12, e13, H⟩ := bind_some H
  have z14 := h3
  rw [e13] at z14
  obtain ⟨ad15, A17, C18, A20, C21, rfl, hat16, h19, h22⟩ := WR.some z14
  refine q_val F rfl rfl (by decide) (r_nil F rfl) fun a F => ?_
  refine q_val F rfl rfl (by decide) (r_fieldAddr F rfl ff_105_3) fun a F => ?_
  refine q_val F rfl rfl (by decide) (r_load F rfl ag_29 (AT.cell hat16 rfl)) fun a F => ?_
  refine q_val F rfl rfl (by decide) (r_neq F rfl rfl) fun a F => ?_
  refine q_val F rfl rfl (by decide) (r_assign F rfl) fun a F => ?_
  refine nil ?_
  refine hK11 _ _ ?_
  by_cases hb24 : ob12.fault = 0
  ·have H := (if_pos hb24).symm.trans H
   refine wp_cond_false ((F.ev rfl).trans (congrArg Value.bool (congrArg not (decide_eq_true hb24)))) ?_
   refine wp_seq_k fun K25 hK25 => ?_
   refine reg ?_
   refine q_val F rfl rfl (by decide) (r_move F rfl) fun a F => ?_
   refine q_val F rfl rfl (by decide) (r_nil F rfl) fun a F => ?_
   refine q_val F rfl rfl (by decide) (r_fieldAddr F rfl ff_105_2) fun a F => ?_
   refine q_val F rfl rfl (by decide) (r_load F rfl ag_103 (AT.cell hat16 rfl)) fun a F => ?_
   refine q_val F rfl rfl (by decide) (r_lensl F Try.underlying103 rfl) fun a F => ?_
   refine q_val F rfl rfl (by decide) (r_gtr F rfl rfl) fun a F => ?_
   refine q_val F rfl rfl (by decide) (r_assign F rfl) fun a F => ?_
   refine nil ?_
   refine hK25 _ _ ?_
   by_cases hb26 : 0 < (ob12.open_.length : Int)
   ·have H := (if_pos hb26).symm.trans H
    refine wp_cond_true ((F.ev rfl).trans (congrArg Value.bool (decide_eq_true hb26))) ?_
    refine wp_seq_k fun K27 hK27 => ?_
    refine reg ?_
    refine q_val F rfl rfl (by decide) (r_assign F rfl) fun a F => ?_
    refine q_val F rfl rfl (by decide) (r_assign F rfl) fun a F => ?_
    refine nil ?_
    refine hK27 _ _ ?_
    refine wp_ret ?_
    refine inbR ?_
    refine thenR ?_
    have H := Option.some.inj H
    subst H
    refine out2 F rfl rfl rfl ?_
    exact ⟨fun b_ => (fun x_ => if x_ = m + 1 then jr46 else if x_ < m then x_ else 0) (c0 b_), none, 0, rfl, E.leave B0 (fun x_ => if x_ = m + 1 then jr46 else if x_ < m then x_ else 0) (by intro x_ hx_; show (if x_ = m + 1 then jr46 else if x_ < m then x_ else 0) = x_; ((repeat' split) <;> omega)), (fun b_ hb_ => by show (if (c0 b_) = m + 1 then jr46 else if (c0 b_) < m then (c0 b_) else 0) < m; ((repeat' split) <;> omega)), SL.nil⟩
   ·have H := (if_neg hb26).symm.trans H
    refine wp_cond_false ((F.ev rfl).trans (congrArg Value.bool (decide_eq_false hb26))) ?_
    refine wp_skip ?_
    refine hK7 _ _ ?_
    refine wp_seq_k fun K31 hK31 => ?_
    refine reg ?_
    refine q_val F rfl rfl (by decide) (r_move F rfl) fun a F => ?_
    refine q_val F rfl rfl (by decide) (r_nil F rfl) fun a F => ?_
    refine q_val F rfl rfl (by decide) (r_fieldAddr F rfl ff_105_1) fun a F => ?_
    refine q_val F rfl rfl (by decide) (r_load F rfl ag_23 (AT.cell hat16 rfl)) fun a F => ?_
    refine q_val F rfl rfl (by decide) (r_lensl F Try.underlying23 rfl) fun a F => ?_
    obtain ⟨g32, H⟩ := ifN H
    refine q_eff F rfl rfl (by decide) (e_make (k := (Kint .u8)) (x0 := 0) F et_23 rfl rfl (fun _ _ _ => rfl) (by decide) g32 c0 (m + 1) 0) ?_
    rintro v w34 a ⟨c33, A35, C36, rfl, E37, h38, B39⟩ F
    have B := B39 _ B (by omega)
    have h3 := WR.ev h3 E37 (fun q => q.elim) (fun q => q.elim) (fun q => q.elim)
    have h19 := SL.ev h19 E37 (fun q => q.elim) (fun q => q.elim)
    have h22 := SL.ev h22 E37 (fun q => q.elim) (fun q => q.elim)
    have hat16 := AT.ev hat16 E37 (fun q => q.elim)
    have E := E.trans E37 (fun x q => q.elim)
    refine q_val F rfl rfl (by decide) (r_assign F rfl) fun a F => ?_
    refine nil ?_
    refine hK31 _ _ ?_
    refine wp_seq_k fun K40 hK40 => ?_
    refine reg ?_
    refine q_val F rfl rfl (by decide) (r_move F rfl) fun a F => ?_
    refine q_val F rfl rfl (by decide) (r_move F rfl) fun a F => ?_
    refine q_val F rfl rfl (by decide) (r_nil F rfl) fun a F => ?_
    refine q_val F rfl rfl (by decide) (r_fieldAddr F rfl ff_105_1) fun a F => ?_
    refine q_val F rfl rfl (by decide) (r_load F rfl ag_23 (AT.cell hat16 rfl)) fun a F => ?_
    refine q_eff F rfl rfl (by decide) (e_copy (k := (Kint .u8)) (xs := (List.replicate (ob12.b.length : Int).toNat (0 : Int))) (ys := ob12.b) F et_23 rfl rfl h38 h19 (by omega)) ?_
    rintro v w41 a ⟨rfl, E42, h38, Z43⟩ F
    have B := B.size Z43
    have h3 := WR.ev h3 E42 (by show ¬ (j4 = m + 1); omega) (by show ¬ (j5 = m + 1); omega) (by show ¬ (0 = m + 1); omega)
    have h19 := SL.ev h19 E42 (by show ¬ (j5 = m + 1); omega) (by show ¬ (0 = m + 1); omega)
    have h22 := SL.ev h22 E42 (by show ¬ (0 = m + 1); omega) (by show ¬ (0 = m + 1); omega)
    have hat16 := AT.ev hat16 E42 (by show ¬ (j4 = m + 1); omega)
    have E := E.trans E42 (fun x q => by replace q : x = m + 1 := q; show False ∨ m ≤ x; omega)
    have hl44 : (List.replicate (ob12.b.length : Int).toNat (0 : Int)).length = (ob12.b.take (List.replicate (ob12.b.length : Int).toNat (0 : Int)).length ++ (List.replicate (ob12.b.length : Int).toNat (0 : Int)).drop ob12.b.length).length := by simp <;> omega
    rw [hl44] at F
    refine nil ?_
    refine hK40 _ _ ?_
    refine wp_seq_k fun K45 hK45 => ?_
    refine reg ?_
    refine q_val F rfl rfl (by decide) (r_move F rfl) fun a F => ?_
    refine q_val F rfl rfl (by decide) (r_assign F rfl) fun a F => ?_
    refine q_val F rfl rfl (by decide) (r_assign F rfl) fun a F => ?_
    refine nil ?_
    refine hK45 _ _ ?_
    refine wp_ret ?_
    have H := Option.some.inj H
    subst H
    refine out2 F rfl rfl rfl ?_
    exact ⟨fun b_ => (fun x_ => if x_ = m + 1 then jr46 else if x_ < m then x_ else 0) (c33 b_), A35, C36, rfl, E.leave B0 (fun x_ => if x_ = m + 1 then jr46 else if x_ < m then x_ else 0) (by intro x_ hx_; show (if x_ = m + 1 then jr46 else if x_ < m then x_ else 0) = x_; ((repeat' split) <;> omega)), (fun b_ hb_ => by show (if (c33 b_) = m + 1 then jr46 else if (c33 b_) < m then (c33 b_) else 0) < m; ((repeat' split) <;> omega)), SL.rc h38 (fun k_ hk_ => by show (if (c33 k_) = m + 1 then jr46 else if (c33 k_) < m then (c33 k_) else 0) = _; rw [hk_]; ((repeat' split) <;> omega)) (fun k_ hk_ => by show (if (c33 k_) = m + 1 then jr46 else if (c33 k_) < m then (c33 k_) else 0) = _; rw [hk_]; ((repeat' split) <;> omega))⟩
  ·have H := (if_neg hb24).symm.trans H
   refine wp_cond_true ((F.ev rfl).trans (congrArg Value.bool (congrArg not (decide_eq_false hb24)))) ?_
   refine wp_seq_k fun K28 hK28 => ?_
   refine regD (SB No c0 w0) 6 (.q 0 (.q 1 (.q 2 (.q 3 (.q 4 (.q 5 .nil)))))) Try_hm (by decide +kernel) ?_
   intro w29 w1_ w2_ w3_ w4_
   have E30 : Ev No c0 w0 c0 w29 := Ev.same w1_ w2_ w3_ w4_
   have B := B.same w1_
   have zh3 := h3
   have zh19 := h19
   have zh22 := h22
   have zhat16 := hat16
   have ER : Ev No c0 w0 c0 w29 := Ev.same w1_ w2_ w3_ w4_
   have h3 := WR.ev h3 E30 (fun q => q.elim) (fun q => q.elim) (fun q => q.elim)
   have h19 := SL.ev h19 E30 (fun q => q.elim) (fun q => q.elim)
   have h22 := SL.ev h22 E30 (fun q => q.elim) (fun q => q.elim)
   have hat16 := AT.ev hat16 E30 (fun q => q.elim)
   have E := E.trans E30 (fun x q => q.elim)
   refine d_q F rfl rfl rfl (by decide) (fun wq hS => r_move F rfl) ER.sb fun a F => ?_
   refine d_q F rfl rfl rfl (by decide) (fun wq hS => r_nil F rfl) ER.sb fun a F => ?_
   refine d_q F rfl rfl rfl (by decide) (fun wq hS => r_fieldAddr F rfl ff_105_3) ER.sb fun a F => ?_
   refine d_q F rfl rfl rfl (by decide) (fun wq hS => r_load F rfl ag_29 (AT.cell (AT.sb zhat16 hS (fun q => q.elim)) rfl)) ER.sb fun a F => ?_
   refine d_q F rfl rfl rfl (by decide) (fun wq hS => r_assign F rfl) ER.sb fun a F => ?_
   refine d_q F rfl rfl rfl (by decide) (fun wq hS => r_assign F rfl) ER.sb fun a F => ?_
   refine d_nil ?_
   refine hK28 _ _ ?_
   refine wp_ret ?_
   refine inbR ?_
   refine thenR ?_
   have H := Option.some.inj H
   subst H
   refine out2 F rfl rfl rfl ?_
   exact ⟨fun b_ => (fun x_ => if x_ = m + 1 then jr46 else if x_ < m then x_ else 0) (c0 b_), none, 0, rfl, E.leave B0 (fun x_ => if x_ = m + 1 then jr46 else if x_ < m then x_ else 0) (by intro x_ hx_; show (if x_ = m + 1 then jr46 else if x_ < m then x_ else 0) = x_; ((repeat' split) <;> omega)), (fun b_ hb_ => by show (if (c0 b_) = m + 1 then jr46 else if (c0 b_) < m then (c0 b_) else 0) < m; ((repeat' split) <;> omega)), SL.nil⟩
end Go.Proofs.Ytcolmmjcdlmcoaa.G
namespace Go.Proofs.Ytcolmmjcdlmcoaa.G
open Go Go.RowKit
set_option linter.unusedVariables false
set_option linter.unusedSimpArgs false
set_option maxRecDepth 100000 in
set_option maxHeartbeats 4000000 in
theorem table_Table_Bytes.calls (k : Nat) {m : Nat} {c0 : Nat → Nat} {w0 : World} {j4 : Nat} {p2 : Option Addr} {a1 : Option Tab} (hm0 : 0 < m) (B0 : CB m c0 w0) (h3 : TB j4 c0 w0 p2 a1) (bj4 : j4 < m) (r : (List Int)) (H : table_Table_Bytes.f k a1 = some r) : Calls Try.prog 20 #[.pointer p2] w0 (fun e w_ => ∃ (c_ : Nat → Nat) (A0_ : Option Addr) (C0_ : Nat), e = .returned (.slice A0_ r.length C0_) ∧ Ev (fun x => False) c0 w0 c_ w_ ∧ CB m c_ w_ ∧ SL false (Kint .u8) 0 0 c_ w_ A0_ C0_ r) := by
 unfold table_Table_Bytes.f at H
 have B := B0.mono (show m ≤ m + 8 by omega)
 have E : Ev (fun x => False ∨ m ≤ x) c0 w0 c0 w0 := Ev.refl
 refine enterM (N := 54) (l := [.pointer p2]) Try.func20 rfl rfl (Nat.le_of_ble_eq_true rfl) fun a F => ?_
 refine wp_seq_k fun K5 hK5 => ?_
 refine reg ?_
 refine q_val F rfl rfl (by decide) (r_assign F rfl) fun a F => ?_
 refine nil ?_
 refine hK5 _ _ ?_
 refine wp_seq_k fun K6 hK6 => ?_
 refine wp_seq_k fun K7 hK7 => ?_
 refine reg ?_
 refine q_val F rfl rfl (by decide) (r_move F rfl) fun a F => ?_
 refine q_val F rfl rfl (by decide) (r_peqlA F Try.underlying25 rfl rfl (TB.isNone h3)) fun a F => ?_
 refine nil ?_
 refine hK7 _ _ ?_
 by_cases hb8 : (Option.isNone a1) = true
 ·have H := (if_pos hb8).symm.trans H
  refine wp_cond_true ((F.ev rfl).trans (congrArg Value.bool hb8)) ?_
  refine wp_seq_k fun K9 hK9 => ?_
  refine reg ?_
  refine q_val F rfl rfl (by decide) (r_assign F rfl) fun a F => ?_
  refine nil ?_
  refine hK9 _ _ ?_
  refine wp_ret ?_
  refine thenR ?_
  refine outM ?_
  refine endM0 F ?_
  have H := Option.some.inj H
  subst H
  refine out1 F rfl rfl ?_
  exact ⟨fun b_ => (fun x_ => if x_ < m then x_ else 0) (c0 b_), none, 0, rfl, E.leave B0 (fun x_ => if x_ < m then x_ else 0) (by intro x_ hx_; show (if x_ < m then x_ else 0) = x_; ((repeat' split) <;> omega)), (fun b_ hb_ => by show (if (c0 b_) < m then (c0 b_) else 0) < m; ((repeat' split) <;> omega)), SL.nil⟩
 ·have H := (if_neg hb8).symm.trans H
  refine wp_cond_false ((F.ev rfl).trans (congrArg Value.bool (bfalse hb8))) ?_
  refine wp_skip ?_
  refine hK6 _ _ ?_
  refine wp_seq_k fun K10 hK10 => ?_
  refine reg ?_
  refine q_val F rfl rfl (by decide) (r_move F rfl) fun a F => ?_
  obtain ⟨t11, q12, H⟩ := bind_some H
  refine q_call F rfl rfl (by decide) (r_call F Try.func30 rfl (by kernel_rfl) rfl) (table_Table_Size.calls k (m := m + 8) (by omega) B h3 (by omega) _ q12) ?_
  rintro e w14 ⟨c13, rfl, E15, B16⟩
  refine ⟨_, rfl, fun a F => ?_⟩
  have B := B16
  have h3 := TB.ev h3 E15 (fun q => q.elim) (fun q => q.elim)
  have E := E.trans E15 (fun x q => q.elim)
  obtain ⟨t18, q19, H⟩ := bind_some H
  refine q_call F rfl rfl (by decide) (r_call F Try.func44 rfl (by kernel_rfl) rfl) (parcel_New.calls (m := m + 8) (by omega) B (m + 1) (by omega) (m + 2) (by omega) _ q19) ?_
  rintro e w21 ⟨c20, p24, rfl, E22, B23, h25⟩
  refine ⟨_, rfl, fun a F => ?_⟩
  have B := B23
  have h3 := TB.ev h3 E22 (fun q => q.elim) (fun q => q.elim)
  have E := E.trans E22 (fun x q => q.elim)
  refine q_eff F rfl rfl (by decide) (e_alloc F zv_77 c20 (m + 3)) ?_
  rintro v w28 a ⟨c27, qa29, rfl, E30, h31, B32⟩ F
  have B := B32 _ B (by omega)
  have h3 := TB.ev h3 E30 (fun q => q.elim) (fun q => q.elim)
  have h25 := WR.ev h25 E30 (fun q => q.elim) (fun q => q.elim) (fun q => q.elim)
  have E := E.trans E30 (fun x q => q.elim)
  have h31 : AT true (m + 3) c27 w28 qa29 [.pointer none] := h31
  refine q_eff0 F rfl rfl (e_store0 F rfl rfl sz_77 h31 (Nat.le_of_ble_eq_true rfl) rfl) ?_
  rintro w34 a ⟨E35, h31, Z36⟩ F
  have B := B.size Z36
  have h3 := TB.ev h3 E35 (by show ¬ (j4 = m + 3); omega) (by show ¬ (0 = m + 3); omega)
  have h25 := WR.ev h25 E35 (by show ¬ (m + 1 = m + 3); omega) (by show ¬ (m + 2 = m + 3); omega) (by show ¬ (0 = m + 3); omega)
  have E := E.trans E35 (fun x q => by replace q : x = m + 3 := q; show False ∨ m ≤ x; omega)
  have h31 : AT true (m + 3) c27 w34 qa29 [.pointer p24] := h31
  refine nil ?_
  refine hK10 _ _ ?_
  refine wp_seq_k fun K37 hK37 => ?_
  refine regD (SB No c27 w34) 6 (.q 0 (.e 1 (.e 2 (.e 3 (.e 4 (.q 5 (.e 6 .nil))))))) Try_hm (by decide +kernel) ?_
  intro w38 w1_ w2_ w3_ w4_
  have E39 : Ev No c27 w34 c27 w38 := Ev.same w1_ w2_ w3_ w4_
  have B := B.same w1_
  have zh3 := h3
  have zh25 := h25
  have zh31 := h31
  have ER : Ev No c27 w34 c27 w38 := Ev.same w1_ w2_ w3_ w4_
  have h3 := TB.ev h3 E39 (fun q => q.elim) (fun q => q.elim)
  have h25 := WR.ev h25 E39 (fun q => q.elim) (fun q => q.elim) (fun q => q.elim)
  have h31 := AT.ev h31 E39 (fun q => q.elim)
  have E := E.trans E39 (fun x q => q.elim)
  refine d_q F rfl rfl rfl (by decide) (fun wq hS => r_load F rfl ag_77 (AT.cell0 (AT.sb zh31 hS (fun q => q.elim)) rfl)) ER.sb fun a F => ?_
  refine d_e ?_
  refine o_val F rfl rfl rfl (by decide) (r_move F rfl) fun a F => ?_
  refine ⟨fun _ => ER.sb, ?_⟩
  refine d_e ?_
  obtain ⟨ob40, e41, H⟩ := bind_some H
  have z42 := zh3
  rw [e41] at z42
  obtain ⟨ad43, p45, rfl, hat44, h46⟩ := TB.some z42
  have zh46 := h46
  have h46 := TR.ev h46 ER (fun q => q.elim) (fun q => q.elim)
  have zhat44 := hat44
  have hat44 := AT.ev hat44 ER (fun q => q.elim)
  refine o_val F rfl rfl rfl (by decide) (r_nil F rfl) fun a F => ?_
  refine ⟨fun _ => ER.sb, ?_⟩
  refine d_e ?_
  refine o_val F rfl rfl rfl (by decide) (r_fieldAddr F rfl ff_70_1) fun a F => ?_
  refine ⟨fun _ => ER.sb, ?_⟩
  refine d_e ?_
  refine o_val F rfl rfl rfl (by decide) (r_load F rfl ag_3 (AT.cell hat44 rfl)) fun a F => ?_
  refine ⟨fun _ => ER.sb, ?_⟩
  refine d_q F rfl rfl rfl (by decide) (fun wq hS => r_convi F Try.underlying80 rfl rfl) ER.sb fun a F => ?_
  refine d_e ?_
  obtain ⟨t48, q49, H⟩ := bind_some H
  refine o_call F rfl (wanted_none rfl) rfl (by decide) (r_call F Try.func45 rfl (by kernel_rfl) rfl) (parcel_Writer_Num.calls k (m := m + 8) (by omega) B h25 (by omega) (by omega) _ q49) ?_
  rintro e w51 ⟨c50, rfl, E52, B53, h54⟩
  refine ⟨_, rfl, fun a F => ?_⟩
  have B := B53
  have h3 := TB.ev h3 E52 (by show ¬ (j4 = m + 1 ∨ j4 = m + 2); omega) (by show ¬ (0 = m + 1 ∨ 0 = m + 2); omega)
  have h31 := AT.ev h31 E52 (by show ¬ (m + 3 = m + 1 ∨ m + 3 = m + 2); omega)
  have h46 := TR.ev h46 E52 (by show ¬ (0 = m + 1 ∨ 0 = m + 2); omega) (by show ¬ (0 = m + 1 ∨ 0 = m + 2); omega)
  have hat44 := AT.ev hat44 E52 (by show ¬ (j4 = m + 1 ∨ j4 = m + 2); omega)
  have E := E.trans E52 (fun x q => by replace q : x = m + 1 ∨ x = m + 2 := q; show False ∨ m ≤ x; omega)
  refine ⟨fun q => absurd rfl q, ?_⟩
  refine d_nil ?_
  refine hK37 _ _ ?_
  refine wp_seq_k fun K56 hK56 => ?_
  refine regD (SB No c50 w51) 7 (.q 0 (.e 1 (.e 2 (.e 3 (.e 4 (.e 5 (.q 6 (.e 7 .nil)))))))) Try_hm (by decide +kernel) ?_
  intro w57 w1_ w2_ w3_ w4_
  have E58 : Ev No c50 w51 c50 w57 := Ev.same w1_ w2_ w3_ w4_
  have B := B.same w1_
  have zh3 := h3
  have zh31 := h31
  have zh46 := h46
  have zhat44 := hat44
  have zh54 := h54
  have ER : Ev No c50 w51 c50 w57 := Ev.same w1_ w2_ w3_ w4_
  have h3 := TB.ev h3 E58 (fun q => q.elim) (fun q => q.elim)
  have h31 := AT.ev h31 E58 (fun q => q.elim)
  have h46 := TR.ev h46 E58 (fun q => q.elim) (fun q => q.elim)
  have hat44 := AT.ev hat44 E58 (fun q => q.elim)
  have h54 := WR.ev h54 E58 (fun q => q.elim) (fun q => q.elim) (fun q => q.elim)
  have E := E.trans E58 (fun x q => q.elim)
  refine d_q F rfl rfl rfl (by decide) (fun wq hS => r_load F rfl ag_77 (AT.cell0 (AT.sb zh31 hS (fun q => q.elim)) rfl)) ER.sb fun a F => ?_
  refine d_e ?_
  refine o_val F rfl rfl rfl (by decide) (r_move F rfl) fun a F => ?_
  refine ⟨fun _ => ER.sb, ?_⟩
  refine d_e ?_
  refine o_val F rfl rfl rfl (by decide) (r_nil F rfl) fun a F => ?_
  refine ⟨fun _ => ER.sb, ?_⟩
  refine d_e ?_
  refine o_val F rfl rfl rfl (by decide) (r_fieldAddr F rfl ff_70_0) fun a F => ?_
  refine ⟨fun _ => ER.sb, ?_⟩
  refine d_e ?_
  refine o_val F rfl rfl rfl (by decide) (r_load F rfl ag_68 (AT.cell hat44 rfl)) fun a F => ?_
  refine ⟨fun _ => ER.sb, ?_⟩
  refine d_e ?_
  obtain ⟨t59, q60, H⟩ := bind_some H
  refine o_call F rfl (wanted_none rfl) rfl (by decide) (r_call F Try.func46 rfl (by kernel_rfl) rfl) (tree_Tree_Len.calls (m := m + 8) (by omega) B h46 _ q60) ?_
  rintro e w62 ⟨c61, rfl, E63, B64⟩
  refine ⟨_, rfl, fun a F => ?_⟩
  have B := B64
  have ER := ER.trans E63 (fun x q => q.elim)
  have h3 := TB.ev h3 E63 (fun q => q.elim) (fun q => q.elim)
  have h31 := AT.ev h31 E63 (fun q => q.elim)
  have h46 := TR.ev h46 E63 (fun q => q.elim) (fun q => q.elim)
  have hat44 := AT.ev hat44 E63 (fun q => q.elim)
  have h54 := WR.ev h54 E63 (fun q => q.elim) (fun q => q.elim) (fun q => q.elim)
  have E := E.trans E63 (fun x q => q.elim)
  refine ⟨fun _ => ER.sb, ?_⟩
  refine d_q F rfl rfl rfl (by decide) (fun wq hS => r_convi F Try.underlying80 rfl rfl) ER.sb fun a F => ?_
  refine d_e ?_
  obtain ⟨t66, q67, H⟩ := bind_some H
  refine o_call F rfl (wanted_none rfl) rfl (by decide) (r_call F Try.func45 rfl (by kernel_rfl) rfl) (parcel_Writer_Num.calls k (m := m + 8) (by omega) B h54 (by omega) (by omega) _ q67) ?_
  rintro e w69 ⟨c68, rfl, E70, B71, h72⟩
  refine ⟨_, rfl, fun a F => ?_⟩
  have B := B71
  have h3 := TB.ev h3 E70 (by show ¬ (j4 = m + 1 ∨ j4 = m + 2); omega) (by show ¬ (0 = m + 1 ∨ 0 = m + 2); omega)
  have h31 := AT.ev h31 E70 (by show ¬ (m + 3 = m + 1 ∨ m + 3 = m + 2); omega)
  have h46 := TR.ev h46 E70 (by show ¬ (0 = m + 1 ∨ 0 = m + 2); omega) (by show ¬ (0 = m + 1 ∨ 0 = m + 2); omega)
  have hat44 := AT.ev hat44 E70 (by show ¬ (j4 = m + 1 ∨ j4 = m + 2); omega)
  have E := E.trans E70 (fun x q => by replace q : x = m + 1 ∨ x = m + 2 := q; show False ∨ m ≤ x; omega)
  refine ⟨fun q => absurd rfl q, ?_⟩
  refine d_nil ?_
  refine hK56 _ _ ?_
  refine wp_seq_k fun K74 hK74 => ?_
  refine wp_seq_k fun K75 hK75 => ?_
  refine reg ?_
  refine q_val F rfl rfl (by decide) (r_move F rfl) fun a F => ?_
  refine q_val F rfl rfl (by decide) (r_nil F rfl) fun a F => ?_
  refine q_val F rfl rfl (by decide) (r_fieldAddr F rfl ff_70_0) fun a F => ?_
  refine q_val F rfl rfl (by decide) (r_load F rfl ag_68 (AT.cell hat44 rfl)) fun a F => ?_
  obtain ⟨t76, q77, H⟩ := bind_some H
  refine q_call F rfl rfl (by decide) (r_call F Try.func47 rfl (by kernel_rfl) rfl) (tree_Tree_All.calls (m := m + 8) (by omega) B h46 (m + 4) (by omega) _ q77) ?_
  rintro e w79 ⟨c78, vi82, rfl, E80, B81, h83⟩
  refine ⟨_, rfl, fun a F => ?_⟩
  have B := B81
  have h3 := TB.ev h3 E80 (fun q => q.elim) (fun q => q.elim)
  have h31 := AT.ev h31 E80 (fun q => q.elim)
  have h46 := TR.ev h46 E80 (fun q => q.elim) (fun q => q.elim)
  have hat44 := AT.ev hat44 E80 (fun q => q.elim)
  have h72 := WR.ev h72 E80 (fun q => q.elim) (fun q => q.elim) (fun q => q.elim)
  have E := E.trans E80 (fun x q => q.elim)
  refine nil ?_
  refine hK75 _ _ ?_
  refine wp_block ?_
  obtain ⟨x158, HL, HR159⟩ := bind_some H
  refine ITR.range h83 (m := m + 8) (y := m + 5) (z := m + 6) (M := fun x => False ∨ m ≤ x) (g := (fun (s_ : (Option Wri)) (k_ : ByteArray) (v_ : table_cell) => table_Table_Bytes.b1 k s_ k_ v_)) (fun (s_ : (Option Wri)) (c_ : Nat → Nat) (w_ : World) => Ev (fun x => False ∨ m ≤ x) c78 w79 c_ w_ ∧ ∃ (o150 : Option Wri), o150 = s_ ∧ AT true (m + 3) c_ w_ qa29 [.pointer p24] ∧ WR (m + 1) (m + 2) c_ w_ p24 o150) (fun (_ : Unit) _ _ => False) F rfl (by decide) (by decide) (by omega) (by omega) (by omega) (by omega) (by intro q; rcases q with q | q <;> first | exact q.elim | (replace q : False := q; omega) | (replace q : m ≤ 0 := q; omega)) B (fun _ _ _ h_ => h_.1) (fun _ _ _ h_ => h_.elim) (fun s_ c1_ w1_ c2_ w2_ ⟨E_, o150, e_, h31, h149⟩ E2_ => ⟨E_.trans E2_ (fun x q => by show False ∨ m ≤ x; replace q : x = m + 5 := q; omega), o150, e_, AT.ev h31 E2_ (by show ¬ (m + 3 = m + 5); omega), WR.ev h149 E2_ (by show ¬ (m + 1 = m + 5); omega) (by show ¬ (m + 2 = m + 5); omega) (by show ¬ (0 = m + 5); omega)⟩) (fun _ _ _ _ _ h_ _ => h_.elim) t66 ⟨Ev.refl, t66, rfl, h31, h72⟩ x158 HL ?_ ?_ ?_
  ·intro bd153 lo154 rec155 s_ s161 v162 c151 w152 A163 C164 rr160 ⟨E, o150, e_, h31, h149⟩ B hb156 hl157 h165 Hg a F
   clear HL H
   subst e_
   have H : table_Table_Bytes.b1 k o150 s161 v162 = some rr160 := Hg
   clear Hg
   unfold table_Table_Bytes.b1 at H
   refine wpIn_seq_k fun K166 hK166 => ?_
   refine regR ?_
   refine q_val F rfl rfl (by decide) (r_assign F rfl) fun a F => ?_
   refine nil ?_
   refine hK166 _ _ ?_
   refine regR ?_
   refine q_eff F rfl rfl (by decide) (e_alloc F zv_66 c151 (m + 7)) ?_
   rintro v w168 a ⟨c167, qa103, rfl, E169, h105, B170⟩ F
   have B := B170 _ B (by omega)
   have h31 := AT.ev h31 E169 (fun q => q.elim)
   have h149 := WR.ev h149 E169 (fun q => q.elim) (fun q => q.elim) (fun q => q.elim)
   have h165 := SL.ev h165 E169 (fun q => q.elim) (fun q => q.elim)
   have hb156 := OBJ.ev hb156 E169 (fun q => q.elim)
   have hl157 := OBJ.ev hl157 E169 (fun q => q.elim)
   have E := E.trans E169 (fun x q => q.elim)
   have h105 : AT true (m + 7) c167 w168 qa103 [.slice none 0 0, .int .i64 0] := h105
   refine q_eff0 F rfl rfl (e_storeN0 (us := [.slice A163 v162.value.length C164, .int .i64 v162.rev]) F rfl rfl sz_66 h105 (Nat.le_of_ble_eq_true rfl) (one_all rfl)) ?_
   rintro w171 a ⟨E172, h105, Z173⟩ F
   have B := B.size Z173
   have h31 := AT.ev h31 E172 (by show ¬ (m + 3 = m + 7); omega)
   have h149 := WR.ev h149 E172 (by show ¬ (m + 1 = m + 7); omega) (by show ¬ (m + 2 = m + 7); omega) (by show ¬ (0 = m + 7); omega)
   have h165 := SL.ev h165 E172 (by show ¬ (0 = m + 7); omega) (by show ¬ (0 = m + 7); omega)
   have hb156 := OBJ.ev hb156 E172 (by show ¬ (m + 6 = m + 7); omega)
   have hl157 := OBJ.ev hl157 E172 (by show ¬ (m + 5 = m + 7); omega)
   have E := E.trans E172 (fun x q => by replace q : x = m + 7 := q; show False ∨ m ≤ x; omega)
   have h105 : AT true (m + 7) c167 w171 qa103 [.slice A163 v162.value.length C164, .int .i64 v162.rev] := h105
   refine nil ?_
   refine thenN ?_
   refine ⟨c167, hl157, fun w174 E175 hl157 Z176 => ?_⟩
   have B := B.size Z176
   have h31 := AT.ev h31 E175 (by show ¬ (m + 3 = m + 5); omega)
   have h149 := WR.ev h149 E175 (by show ¬ (m + 1 = m + 5); omega) (by show ¬ (m + 2 = m + 5); omega) (by show ¬ (0 = m + 5); omega)
   have h165 := SL.ev h165 E175 (by show ¬ (0 = m + 5); omega) (by show ¬ (0 = m + 5); omega)
   have hb156 := OBJ.ev hb156 E175 (by show ¬ (m + 6 = m + 5); omega)
   have h105 := AT.ev h105 E175 (by show ¬ (m + 7 = m + 5); omega)
   have E := E.trans E175 (fun x q => by replace q : x = m + 5 := q; show False ∨ m ≤ x; omega)
   refine wpIn_block ?_
   refine wpIn_seq_k fun K177 hK177 => ?_
   refine regR ?_
   refine q_val F rfl rfl (by decide) (r_load F rfl ag_77 (AT.cell0 h31 rfl)) fun a F => ?_
   refine q_val F rfl rfl (by decide) (r_move F rfl) fun a F => ?_
   obtain ⟨g115, H⟩ := ifN H
   refine q_eff F rfl rfl (by decide) (e_strBytes F Try.underlying9 Try.underlying23 Try.underlying5 rfl (by unfold maxLen; omega) c167 0 0) ?_
   rintro v w179 a ⟨c178, A180, C181, rfl, E182, h183, B184⟩ F
   have B := B184 _ B (by omega)
   have h31 := AT.ev h31 E182 (fun q => q.elim)
   have h149 := WR.ev h149 E182 (fun q => q.elim) (fun q => q.elim) (fun q => q.elim)
   have h165 := SL.ev h165 E182 (fun q => q.elim) (fun q => q.elim)
   have hb156 := OBJ.ev hb156 E182 (fun q => q.elim)
   have hl157 := OBJ.ev hl157 E182 (fun q => q.elim)
   have h105 := AT.ev h105 E182 (fun q => q.elim)
   have E := E.trans E182 (fun x q => q.elim)
   obtain ⟨t123, q124, H⟩ := bind_some H
   refine q_call F rfl rfl (by decide) (r_call F Try.func48 rfl (by kernel_rfl) rfl) (parcel_Writer_Text.calls k (m := m + 8) (by omega) B h149 h183.r (by omega) (by omega) _ q124) ?_
   rintro e w186 ⟨c185, rfl, E187, B188, h189⟩
   refine ⟨_, rfl, fun a F => ?_⟩
   have B := B188
   have h31 := AT.ev h31 E187 (by show ¬ (m + 3 = m + 1 ∨ m + 3 = m + 2); omega)
   have h165 := SL.ev h165 E187 (by show ¬ (0 = m + 1 ∨ 0 = m + 2); omega) (by show ¬ (0 = m + 1 ∨ 0 = m + 2); omega)
   have hb156 := OBJ.ev hb156 E187 (by show ¬ (m + 6 = m + 1 ∨ m + 6 = m + 2); omega)
   have hl157 := OBJ.ev hl157 E187 (by show ¬ (m + 5 = m + 1 ∨ m + 5 = m + 2); omega)
   have h105 := AT.ev h105 E187 (by show ¬ (m + 7 = m + 1 ∨ m + 7 = m + 2); omega)
   have h183 := SL.ev h183 E187 (by show ¬ (0 = m + 1 ∨ 0 = m + 2); omega) (by show ¬ (0 = m + 1 ∨ 0 = m + 2); omega)
   have E := E.trans E187 (fun x q => by replace q : x = m + 1 ∨ x = m + 2 := q; show False ∨ m ≤ x; omega)
   refine nil ?_
   refine hK177 _ _ ?_
   refine wpIn_seq_k fun K191 hK191 => ?_
   refine regR ?_
   refine q_val F rfl rfl (by decide) (r_load F rfl ag_77 (AT.cell0 h31 rfl)) fun a F => ?_
   refine q_val F rfl rfl (by decide) (r_fieldAddr F rfl ff_66_0) fun a F => ?_
   refine q_val F rfl rfl (by decide) (r_load F rfl ag_23 (AT.cell h105 rfl)) fun a F => ?_
   obtain ⟨t132, q133, H⟩ := bind_some H
   refine q_call F rfl rfl (by decide) (r_call F Try.func48 rfl (by kernel_rfl) rfl) (parcel_Writer_Text.calls k (m := m + 8) (by omega) B h189 h165 (by omega) (by omega) _ q133) ?_
   rintro e w193 ⟨c192, rfl, E194, B195, h196⟩
   refine ⟨_, rfl, fun a F => ?_⟩
   have B := B195
   have h31 := AT.ev h31 E194 (by show ¬ (m + 3 = m + 1 ∨ m + 3 = m + 2); omega)
   have h165 := SL.ev h165 E194 (by show ¬ (0 = m + 1 ∨ 0 = m + 2); omega) (by show ¬ (0 = m + 1 ∨ 0 = m + 2); omega)
   have hb156 := OBJ.ev hb156 E194 (by show ¬ (m + 6 = m + 1 ∨ m + 6 = m + 2); omega)
   have hl157 := OBJ.ev hl157 E194 (by show ¬ (m + 5 = m + 1 ∨ m + 5 = m + 2); omega)
   have h105 := AT.ev h105 E194 (by show ¬ (m + 7 = m + 1 ∨ m + 7 = m + 2); omega)
   have h183 := SL.ev h183 E194 (by show ¬ (0 = m + 1 ∨ 0 = m + 2); omega) (by show ¬ (0 = m + 1 ∨ 0 = m + 2); omega)
   have E := E.trans E194 (fun x q => by replace q : x = m + 1 ∨ x = m + 2 := q; show False ∨ m ≤ x; omega)
   refine nil ?_
   refine hK191 _ _ ?_
   refine regR ?_
   refine q_val F rfl rfl (by decide) (r_load F rfl ag_77 (AT.cell0 h31 rfl)) fun a F => ?_
   refine q_val F rfl rfl (by decide) (r_fieldAddr F rfl ff_66_1) fun a F => ?_
   refine q_val F rfl rfl (by decide) (r_load F rfl ag_3 (AT.cell h105 rfl)) fun a F => ?_
   refine q_val F rfl rfl (by decide) (r_convi F Try.underlying80 rfl rfl) fun a F => ?_
   obtain ⟨t140, q141, H⟩ := bind_some H
   refine q_call F rfl rfl (by decide) (r_call F Try.func45 rfl (by kernel_rfl) rfl) (parcel_Writer_Num.calls k (m := m + 8) (by omega) B h196 (by omega) (by omega) _ q141) ?_
   rintro e w199 ⟨c198, rfl, E200, B201, h202⟩
   refine ⟨_, rfl, fun a F => ?_⟩
   have B := B201
   have h31 := AT.ev h31 E200 (by show ¬ (m + 3 = m + 1 ∨ m + 3 = m + 2); omega)
   have h165 := SL.ev h165 E200 (by show ¬ (0 = m + 1 ∨ 0 = m + 2); omega) (by show ¬ (0 = m + 1 ∨ 0 = m + 2); omega)
   have hb156 := OBJ.ev hb156 E200 (by show ¬ (m + 6 = m + 1 ∨ m + 6 = m + 2); omega)
   have hl157 := OBJ.ev hl157 E200 (by show ¬ (m + 5 = m + 1 ∨ m + 5 = m + 2); omega)
   have h105 := AT.ev h105 E200 (by show ¬ (m + 7 = m + 1 ∨ m + 7 = m + 2); omega)
   have h183 := SL.ev h183 E200 (by show ¬ (0 = m + 1 ∨ 0 = m + 2); omega) (by show ¬ (0 = m + 1 ∨ 0 = m + 2); omega)
   have E := E.trans E200 (fun x q => by replace q : x = m + 1 ∨ x = m + 2 := q; show False ∨ m ≤ x; omega)
   refine nil ?_
   have hr_ := Option.some.inj H
   subst hr_
   first | refine REn c198 hl157 ?_ | refine inbN (REn c198 hl157 ?_) | refine inbN (inbN (REn c198 hl157 ?_))
   exact ⟨⟨E, t140, rfl, h31, h202⟩, B, hb156⟩
  ·intro s_ hx211 c207 w208 bd209 ⟨E212, o150, e_, h31, h149⟩ B hb210 a F
   subst e_
   rw [hx211] at HR159
   have H : table_Table_Bytes.j2 o150 = some r := HR159
   unfold table_Table_Bytes.j2 at H
   have E := E.trans E212 (fun _ q => q)
   refine hK74 _ _ ?_
   refine wp_seq_k fun K213 hK213 => ?_
   refine reg ?_
   refine q_val F rfl rfl (by decide) (r_load F rfl ag_77 (AT.cell0 h31 rfl)) fun a F => ?_
   obtain ⟨t214, q215, H⟩ := bind_some H
   refine q_call F rfl rfl (by decide) (r_call F Try.func49 rfl (by kernel_rfl) rfl) (parcel_Writer_Done.calls (m := m + 8) (by omega) B h149 (by omega) (by omega) 0 (by omega) _ q215) ?_
   rintro e w217 ⟨c216, A220, C221, rfl, E218, B219, h222⟩
   refine ⟨_, rfl, fun a F => ?_⟩
   have B := B219
   have h31 := AT.ev h31 E218 (fun q => q.elim)
   have h149 := WR.ev h149 E218 (fun q => q.elim) (fun q => q.elim) (fun q => q.elim)
   have hb210 := OBJ.ev hb210 E218 (fun q => q.elim)
   have E := E.trans E218 (fun x q => q.elim)
   refine q_val F rfl rfl (by decide) (r_move F rfl) fun a F => ?_
   refine q_val F rfl rfl (by decide) (r_extract F rfl rfl) fun a F => ?_
   refine q_val F rfl rfl (by decide) (r_extract F rfl rfl) fun a F => ?_
   refine q_val F rfl rfl (by decide) (r_assign F rfl) fun a F => ?_
   refine q_val F rfl rfl (by decide) (r_assign F rfl) fun a F => ?_
   refine nil ?_
   refine hK213 _ _ ?_
   refine wp_seq_k fun K224 hK224 => ?_
   refine reg ?_
   refine q_val F rfl rfl (by decide) (r_move F rfl) fun a F => ?_
   refine q_val F rfl rfl (by decide) (r_assign F rfl) fun a F => ?_
   refine nil ?_
   refine hK224 _ _ ?_
   refine wp_ret ?_
   refine outM ?_
   refine endM F hb210 fun w225 E226 Z227 a F => ?_
   have B := B.size Z227
   have h31 := AT.ev h31 E226 (by show ¬ (m + 3 = m + 6); omega)
   have h149 := WR.ev h149 E226 (by show ¬ (m + 1 = m + 6); omega) (by show ¬ (m + 2 = m + 6); omega) (by show ¬ (0 = m + 6); omega)
   have h222 := SL.ev h222 E226 (by show ¬ (0 = m + 6); omega) (by show ¬ (0 = m + 6); omega)
   have E := E.trans E226 (fun x q => by replace q : x = m + 6 := q; show False ∨ m ≤ x; omega)
   refine endM0 F ?_
   have H := Option.some.inj H
   subst H
   refine out1 F rfl rfl ?_
   exact ⟨fun b_ => (fun x_ => if x_ < m then x_ else 0) (c216 b_), A220, C221, rfl, E.leave B0 (fun x_ => if x_ < m then x_ else 0) (by intro x_ hx_; show (if x_ < m then x_ else 0) = x_; ((repeat' split) <;> omega)), (fun b_ hb_ => by show (if (c216 b_) < m then (c216 b_) else 0) < m; ((repeat' split) <;> omega)), SL.rc h222.r (fun k_ hk_ => by show (if (c216 k_) < m then (c216 k_) else 0) = _; rw [hk_]; ((repeat' split) <;> omega)) (fun k_ hk_ => by show (if (c216 k_) < m then (c216 k_) else 0) = _; rw [hk_]; ((repeat' split) <;> omega))⟩
  ·intro s_ hx_ c_ w_ bd_ h_
   exact h_.elim
end Go.Proofs.Ytcolmmjcdlmcoaa.G
namespace Go.Proofs.Ytcolmmjcdlmcoaa.G
open Go Go.RowKit
set_option linter.unusedVariables false
set_option linter.unusedSimpArgs false
set_option maxRecDepth 100000 in
set_option maxHeartbeats 4000000 in
theorem parcel_Reader_Done.calls {m : Nat} {c0 : Nat → Nat} {w0 : World} {j4 : Nat} {p2 : Option Addr} {a1 : Option Rdr} (hm0 : 0 < m) (B0 : CB m c0 w0) (h3 : RD j4 c0 w0 p2 a1) (bj4 : j4 < m) (r : Int) (H : parcel_Reader_Done.f a1 = some r) : Calls Try.prog 54 #[.pointer p2] w0 (fun e w_ => ∃ (c_ : Nat → Nat), e = .returned (.int .i64 r) ∧ Ev (fun x => False) c0 w0 c_ w_ ∧ CB m c_ w_) := by
 unfold parcel_Reader_Done.f at H
 have B := B0.mono (show m ≤ m + 1 by omega)
 have E : Ev (fun x => False ∨ m ≤ x) c0 w0 c0 w0 := Ev.refl
 refine enter (N := 31) (l := [.pointer p2]) Try.func54 rfl rfl (Nat.le_of_ble_eq_true rfl) fun a F => ?_
 refine wp_seq_k fun K5 hK5 => ?_
 refine reg ?_
 refine q_val F rfl rfl (by decide) (r_assign F rfl) fun a F => ?_
 refine nil ?_
 refine hK5 _ _ ?_
 refine wp_seq_k fun K6 hK6 => ?_
 refine wp_block ?_
 refine wp_seq_k fun K7 hK7 => ?_
 refine reg ?_
 refine q_val F rfl rfl (by decide) (r_move F rfl) fun a F => ?_
 refine q_val F rfl rfl (by decide) (r_peqlA F Try.underlying88 rfl rfl (RD.isNone h3)) fun a F => ?_
 refine q_val F rfl rfl (by decide) (r_assign F rfl) fun a F => ?_
 refine nil ?_
 refine hK7 _ _ ?_
 by_cases hb8 : (Option.isNone a1) = true
 ·have H := (if_pos hb8).symm.trans H
  refine wp_cond_true ((F.ev rfl).trans (congrArg Value.bool hb8)) ?_
  refine wp_seq_k fun K9 hK9 => ?_
  refine reg ?_
  refine q_val F rfl rfl (by decide) (r_assign F rfl) fun a F => ?_
  refine nil ?_
  refine hK9 _ _ ?_
  refine wp_ret ?_
  refine inbR ?_
  refine thenR ?_
  have H := Option.some.inj H
  subst H
  refine out1 F rfl rfl ?_
  exact ⟨fun b_ => (fun x_ => if x_ < m then x_ else 0) (c0 b_), rfl, E.leave B0 (fun x_ => if x_ < m then x_ else 0) (by intro x_ hx_; show (if x_ < m then x_ else 0) = x_; ((repeat' split) <;> omega)), (fun b_ hb_ => by show (if (c0 b_) < m then (c0 b_) else 0) < m; ((repeat' split) <;> omega))⟩
 ·have H := (if_neg hb8).symm.trans H
  refine wp_cond_false ((F.ev rfl).trans (congrArg Value.bool (bfalse hb8))) ?_
  refine wp_seq_k fun K10 hK10 => ?_
  refine reg ?_
  refine q_val F rfl rfl (by decide) (r_move F rfl) fun a F => ?_
  obtain ⟨ob11, e12, H⟩ := bind_some H
  have z13 := h3
  rw [e12] at z13
  obtain ⟨ad14, A16, C17, A19, C20, rfl, hat15, h18, h21⟩ := RD.some z13
  refine q_val F rfl rfl (by decide) (r_nil F rfl) fun a F => ?_
  refine q_val F rfl rfl (by decide) (r_fieldAddr F rfl ff_112_2) fun a F => ?_
  refine q_val F rfl rfl (by decide) (r_load F rfl ag_29 (AT.cell hat15 rfl)) fun a F => ?_
  refine q_val F rfl rfl (by decide) (r_neq F rfl rfl) fun a F => ?_
  refine q_val F rfl rfl (by decide) (r_assign F rfl) fun a F => ?_
  refine nil ?_
  refine hK10 _ _ ?_
  by_cases hb23 : ob11.fault = 0
  ·have H := (if_pos hb23).symm.trans H
   refine wp_cond_false ((F.ev rfl).trans (congrArg Value.bool (congrArg not (decide_eq_true hb23)))) ?_
   refine wp_seq_k fun K24 hK24 => ?_
   have J27 : ∀ (c28 : Nat → Nat) (w29 : World) (a : Act) (b26 : Bool), Fr a 31 [(16, .bool b26)] → Ev (fun x => False ∨ m ≤ x) c0 w0 c28 w29 → CB (m + 1) c28 w29 → parcel_Reader_Done.j1 b26 = some r → K24 a w29 := by
    intro c28 w29 a b26 F E B  H
    unfold parcel_Reader_Done.j1 at H
    refine hK24 _ _ ?_
    by_cases hb30 : b26 = true
    ·have H := (if_pos hb30).symm.trans H
     refine wp_cond_true ((F.ev rfl).trans (congrArg Value.bool hb30)) ?_
     refine wp_seq_k fun K31 hK31 => ?_
     refine reg ?_
     refine q_val F rfl rfl (by decide) (r_assign F rfl) fun a F => ?_
     refine nil ?_
     refine hK31 _ _ ?_
     refine wp_ret ?_
     refine inbR ?_
     refine thenR ?_
     have H := Option.some.inj H
     subst H
     refine out1 F rfl rfl ?_
     exact ⟨fun b_ => (fun x_ => if x_ < m then x_ else 0) (c28 b_), rfl, E.leave B0 (fun x_ => if x_ < m then x_ else 0) (by intro x_ hx_; show (if x_ < m then x_ else 0) = x_; ((repeat' split) <;> omega)), (fun b_ hb_ => by show (if (c28 b_) < m then (c28 b_) else 0) < m; ((repeat' split) <;> omega))⟩
    ·have H := (if_neg hb30).symm.trans H
     refine wp_cond_false ((F.ev rfl).trans (congrArg Value.bool (bfalse hb30))) ?_
     refine wp_skip ?_
     refine hK6 _ _ ?_
     refine wp_seq_k fun K33 hK33 => ?_
     refine reg ?_
     refine q_val F rfl rfl (by decide) (r_assign F rfl) fun a F => ?_
     refine nil ?_
     refine hK33 _ _ ?_
     refine wp_ret ?_
     have H := Option.some.inj H
     subst H
     refine out1 F rfl rfl ?_
     exact ⟨fun b_ => (fun x_ => if x_ < m then x_ else 0) (c28 b_), rfl, E.leave B0 (fun x_ => if x_ < m then x_ else 0) (by intro x_ hx_; show (if x_ < m then x_ else 0) = x_; ((repeat' split) <;> omega)), (fun b_ hb_ => by show (if (c28 b_) < m then (c28 b_) else 0) < m; ((repeat' split) <;> omega))⟩
   refine reg ?_
   refine q_val F rfl rfl (by decide) (r_move F rfl) fun a F => ?_
   refine q_val F rfl rfl (by decide) (r_nil F rfl) fun a F => ?_
   refine q_val F rfl rfl (by decide) (r_fieldAddr F rfl ff_112_0) fun a F => ?_
   refine q_val F rfl rfl (by decide) (r_load F rfl ag_23 (AT.cell hat15 rfl)) fun a F => ?_
   refine q_val F rfl rfl (by decide) (r_lensl F Try.underlying23 rfl) fun a F => ?_
   refine q_val F rfl rfl (by decide) (r_gtr F rfl rfl) fun a F => ?_
   refine q_val F rfl rfl (by decide) (r_move F rfl) fun a F => ?_
   by_cases hb25 : 0 < (ob11.left.length : Int)
   ·have H := (if_pos hb25).symm.trans H
    refine q_no F rfl (by decide) rfl (decide_eq_true hb25) (by decide) fun a F => ?_
    refine q_no F rfl (by decide) rfl (decide_eq_true hb25) (by decide) fun a F => ?_
    refine q_no F rfl (by decide) rfl (decide_eq_true hb25) (by decide) fun a F => ?_
    refine q_no F rfl (by decide) rfl (decide_eq_true hb25) (by decide) fun a F => ?_
    refine q_no F rfl (by decide) rfl (decide_eq_true hb25) (by decide) fun a F => ?_
    refine q_no F rfl (by decide) rfl (decide_eq_true hb25) (by decide) fun a F => ?_
    refine q_val F rfl rfl (by decide) (r_pick_t F rfl (decide_eq_true hb25) rfl) fun a F => ?_
    refine q_val F rfl rfl (by decide) (r_assign F rfl) fun a F => ?_
    refine nil ?_
    exact J27 c0 w0 a true (F.sub ⟨rfl, trivial⟩) E B  H
   ·have H := (if_neg hb25).symm.trans H
    refine q_yes F rfl (by decide) rfl (decide_eq_false hb25) ?_
    refine q_val F rfl rfl (by decide) (r_move F rfl) fun a F => ?_
    refine q_yes F rfl (by decide) rfl (decide_eq_false hb25) ?_
    refine q_val F rfl rfl (by decide) (r_nil F rfl) fun a F => ?_
    refine q_yes F rfl (by decide) rfl (decide_eq_false hb25) ?_
    refine q_val F rfl rfl (by decide) (r_fieldAddr F rfl ff_112_1) fun a F => ?_
    refine q_yes F rfl (by decide) rfl (decide_eq_false hb25) ?_
    refine q_val F rfl rfl (by decide) (r_load F rfl ag_59 (AT.cell hat15 rfl)) fun a F => ?_
    refine q_yes F rfl (by decide) rfl (decide_eq_false hb25) ?_
    refine q_val F rfl rfl (by decide) (r_lensl F Try.underlying59 rfl) fun a F => ?_
    refine q_yes F rfl (by decide) rfl (decide_eq_false hb25) ?_
    refine q_val F rfl rfl (by decide) (r_gtr F rfl rfl) fun a F => ?_
    refine q_val F rfl rfl (by decide) (r_pick_f F rfl (decide_eq_false hb25) rfl) fun a F => ?_
    refine q_val F rfl rfl (by decide) (r_assign F rfl) fun a F => ?_
    refine nil ?_
    exact J27 c0 w0 a (decide (0 < (ob11.outer.length : Int))) (F.sub ⟨rfl, trivial⟩) E B  H
  ·have H := (if_neg hb23).symm.trans H
   refine wp_cond_true ((F.ev rfl).trans (congrArg Value.bool (congrArg not (decide_eq_false hb23)))) ?_
   refine wp_seq_k fun K32 hK32 => ?_
   refine reg ?_
   refine q_val F rfl rfl (by decide) (r_move F rfl) fun a F => ?_
   refine q_val F rfl rfl (by decide) (r_nil F rfl) fun a F => ?_
   refine q_val F rfl rfl (by decide) (r_fieldAddr F rfl ff_112_2) fun a F => ?_
   refine q_val F rfl rfl (by decide) (r_load F rfl ag_29 (AT.cell hat15 rfl)) fun a F => ?_
   refine q_val F rfl rfl (by decide) (r_assign F rfl) fun a F => ?_
   refine nil ?_
   refine hK32 _ _ ?_
   refine wp_ret ?_
   refine inbR ?_
   refine thenR ?_
   have H := Option.some.inj H
   subst H
   refine out1 F rfl rfl ?_
   exact ⟨fun b_ => (fun x_ => if x_ < m then x_ else 0) (c0 b_), rfl, E.leave B0 (fun x_ => if x_ < m then x_ else 0) (by intro x_ hx_; show (if x_ < m then x_ else 0) = x_; ((repeat' split) <;> omega)), (fun b_ hb_ => by show (if (c0 b_) < m then (c0 b_) else 0) < m; ((repeat' split) <;> omega))⟩
end Go.Proofs.Ytcolmmjcdlmcoaa.G
namespace Go.Proofs.Ytcolmmjcdlmcoaa.G
open Go Go.RowKit
set_option linter.unusedVariables false
set_option linter.unusedSimpArgs false
set_option maxRecDepth 100000 in
set_option maxHeartbeats 4000000 in
theorem parcel_copied.calls {m : Nat} {c0 : Nat → Nat} {w0 : World} {A2 : Option Addr} {C3 : Nat} {a1 : List Int} (hm0 : 0 < m) (B0 : CB m c0 w0) (h4 : SL false (Kint .u8) 0 0 c0 w0 A2 C3 a1) (jr27 : Nat) (bjr27 : jr27 < m) (r : (List Int)) (H : parcel_copied.f a1 = some r) : Calls Try.prog 72 #[.slice A2 a1.length C3] w0 (fun e w_ => ∃ (c_ : Nat → Nat) (A0_ : Option Addr) (C0_ : Nat), e = .returned (.slice A0_ r.length C0_) ∧ Ev (fun x => False) c0 w0 c_ w_ ∧ CB m c_ w_ ∧ SL true (Kint .u8) jr27 0 c_ w_ A0_ C0_ r) := by
 unfold parcel_copied.f at H
 have B := B0.mono (show m ≤ m + 2 by omega)
 have E : Ev (fun x => False ∨ m ≤ x) c0 w0 c0 w0 := Ev.refl
 refine enter (N := 11) (l := [.slice A2 a1.length C3]) Try.func72 rfl rfl (Nat.le_of_ble_eq_true rfl) fun a F => ?_
 refine wp_seq_k fun K5 hK5 => ?_
 refine reg ?_
 refine q_val F rfl rfl (by decide) (r_assign F rfl) fun a F => ?_
 refine nil ?_
 refine hK5 _ _ ?_
 refine wp_seq_k fun K6 hK6 => ?_
 refine wp_seq_k fun K7 hK7 => ?_
 refine reg ?_
 refine q_val F rfl rfl (by decide) (r_move F rfl) fun a F => ?_
 refine q_val F rfl rfl (by decide) (r_lensl F Try.underlying23 rfl) fun a F => ?_
 refine q_val F rfl rfl (by decide) (r_eql F rfl rfl) fun a F => ?_
 refine nil ?_
 refine hK7 _ _ ?_
 by_cases hb8 : (a1.length : Int) = 0
 ·have H := (if_pos hb8).symm.trans H
  refine wp_cond_true ((F.ev rfl).trans (congrArg Value.bool (decide_eq_true hb8))) ?_
  refine wp_seq_k fun K9 hK9 => ?_
  refine reg ?_
  refine q_val F rfl rfl (by decide) (r_assign F rfl) fun a F => ?_
  refine nil ?_
  refine hK9 _ _ ?_
  refine wp_ret ?_
  refine thenR ?_
  have H := Option.some.inj H
  subst H
  refine out1 F rfl rfl ?_
  exact ⟨fun b_ => (fun x_ => if x_ = m + 1 then jr27 else if x_ < m then x_ else 0) (c0 b_), none, 0, rfl, E.leave B0 (fun x_ => if x_ = m + 1 then jr27 else if x_ < m then x_ else 0) (by intro x_ hx_; show (if x_ = m + 1 then jr27 else if x_ < m then x_ else 0) = x_; ((repeat' split) <;> omega)), (fun b_ hb_ => by show (if (c0 b_) = m + 1 then jr27 else if (c0 b_) < m then (c0 b_) else 0) < m; ((repeat' split) <;> omega)), SL.nil⟩
 ·have H := (if_neg hb8).symm.trans H
  refine wp_cond_false ((F.ev rfl).trans (congrArg Value.bool (decide_eq_false hb8))) ?_
  refine wp_skip ?_
  refine hK6 _ _ ?_
  refine wp_seq_k fun K10 hK10 => ?_
  refine reg ?_
  refine q_val F rfl rfl (by decide) (r_move F rfl) fun a F => ?_
  refine q_val F rfl rfl (by decide) (r_lensl F Try.underlying23 rfl) fun a F => ?_
  obtain ⟨g11, H⟩ := ifN H
  refine q_eff F rfl rfl (by decide) (e_make (k := (Kint .u8)) (x0 := 0) F et_23 rfl rfl (fun _ _ _ => rfl) (by decide) g11 c0 (m + 1) 0) ?_
  rintro v w13 a ⟨c12, A14, C15, rfl, E16, h17, B18⟩ F
  have B := B18 _ B (by omega)
  have h4 := SL.ev h4 E16 (fun q => q.elim) (fun q => q.elim)
  have E := E.trans E16 (fun x q => q.elim)
  refine q_val F rfl rfl (by decide) (r_move F rfl) fun a F => ?_
  obtain ⟨g19, H⟩ := ifN H
  refine q_eff F rfl rfl (by decide) (e_append (k := (Kint .u8)) (xs := (List.replicate (0 : Int).toNat (0 : Int))) (ys := a1) (c := c12) (j := (m + 1)) (i := 0) F et_23 rfl rfl h17 h4 (by simpa using g19) (by have g_ := g19; unfold maxLen; simp at g_ ⊢; omega) (by omega)) ?_
  rintro v w21 a ⟨c20, A22, C23, rfl, E24, h25, B26⟩ F
  have B := B26 _ B (by omega)
  have h4 := SL.ev h4 E24 (by show ¬ (0 = m + 1); omega) (by show ¬ (0 = m + 1); omega)
  have E := E.trans E24 (fun x q => by replace q : x = m + 1 := q; show False ∨ m ≤ x; omega)
  refine q_val F rfl rfl (by decide) (r_assign F rfl) fun a F => ?_
  refine nil ?_
  refine hK10 _ _ ?_
  refine wp_ret ?_
  have H := Option.some.inj H
  subst H
  refine out1 F rfl rfl ?_
  exact ⟨fun b_ => (fun x_ => if x_ = m + 1 then jr27 else if x_ < m then x_ else 0) (c20 b_), A22, C23, rfl, E.leave B0 (fun x_ => if x_ = m + 1 then jr27 else if x_ < m then x_ else 0) (by intro x_ hx_; show (if x_ = m + 1 then jr27 else if x_ < m then x_ else 0) = x_; ((repeat' split) <;> omega)), (fun b_ hb_ => by show (if (c20 b_) = m + 1 then jr27 else if (c20 b_) < m then (c20 b_) else 0) < m; ((repeat' split) <;> omega)), SL.rc h25 (fun k_ hk_ => by show (if (c20 k_) = m + 1 then jr27 else if (c20 k_) < m then (c20 k_) else 0) = _; rw [hk_]; ((repeat' split) <;> omega)) (fun k_ hk_ => by show (if (c20 k_) = m + 1 then jr27 else if (c20 k_) < m then (c20 k_) else 0) = _; rw [hk_]; ((repeat' split) <;> omega))⟩
end Go.Proofs.Ytcolmmjcdlmcoaa.G
/-! The reader, told by hand: pieces are taken out of bytes; what goes beyond the end is a panic, which becomes a fault. -/
namespace Go.Proofs.Ytcolmmjcdlmcoaa.G
open Go Go.RowKit
set_option linter.unusedVariables false
set_option linter.unusedSimpArgs false
/-! ### regions that may panic -/
section
variable {P : Program} {ops : Array Oper} {Q : Exit → Act → World → Prop} {a : Act} {N : Nat} {L : List (Nat × Value)} {D : List Deferred} {w w' : World} {v : Value} {rest : List Oper} {o : Oper} {d : Nat}
theorem preg {id : Nat} {l : List Oper} (h : wpList P l.toArray Q l a w) : (Code.region id l.toArray false).wp P Q a w := wp_region_lit h
theorem pnil (h : Q .normal a w) : wpList P ops Q [] a w := h
theorem p_upon (hg : o.guard = none) {r : Result Next} (hr : (execOp a.eval o).run P w = r) (h : o.upon P a (wpList P ops Q rest) Q r) : wpList P ops Q (o :: rest) a w := by
  unfold wpList; rw [if_pos (by simp [Region.wanted, hg])]
  left; show o.upon P a _ Q _; rw [hr]; exact h
theorem p_val (F : Fr a N L D) (hg : o.guard = none) (hd : o.dst = some d) (hN : d < N) (hr : (execOp a.eval o).run P w = .ok (.value v) w')
    (k : ∀ a', Fr a' N ((d, v) :: L) D → wpList P ops Q rest a' w') : wpList P ops Q (o :: rest) a w :=
  p_upon hg hr (by show wpList P ops Q rest (a.put o.dst v) w'; rw [hd]; exact k _ (F.put v hN))
theorem p_skip (F : Fr a N L D) (hg : o.guard = none) (hd : o.dst = none) (hr : (execOp a.eval o).run P w = .ok .skip w')
    (k : ∀ a', Fr a' N L D → wpList P ops Q rest a' w') : wpList P ops Q (o :: rest) a w :=
  p_upon hg hr (by show wpList P ops Q rest (a.put o.dst undef) w'; rw [hd]; exact k _ F)
theorem p_eff {R : Value → World → Prop} (F : Fr a N L D) (hg : o.guard = none) (hd : o.dst = some d) (hN : d < N) (h : ∃ v w', (execOp a.eval o).run P w = .ok (.value v) w' ∧ R v w')
    (k : ∀ v w' a', R v w' → Fr a' N ((d, v) :: L) D → wpList P ops Q rest a' w') : wpList P ops Q (o :: rest) a w := by
  obtain ⟨v, w', hr, hR⟩ := h
  exact p_val F hg hd hN hr fun a' F' => k v w' a' hR F'
theorem p_eff0 {R0 : World → Prop} (F : Fr a N L D) (hg : o.guard = none) (hd : o.dst = none) (h : ∃ w', (execOp a.eval o).run P w = .ok .skip w' ∧ R0 w')
    (k : ∀ w' a', R0 w' → Fr a' N L D → wpList P ops Q rest a' w') : wpList P ops Q (o :: rest) a w := by
  obtain ⟨w', hr, hR⟩ := h
  exact p_skip F hg hd hr fun a' F' => k w' a' hR F'
theorem p_call (F : Fr a N L D) (hg : o.guard = none) (hd : o.dst = some d) (hN : d < N) {f : FuncId} {args : Array Value} {R : Ending → World → Prop} (hr : (execOp a.eval o).run P w = .ok (.enter f args) w) (hc : Calls P f args w R)
    (k : ∀ e w', R e w' → (∃ v, e = .returned v ∧ ∀ a', Fr a' N ((d, v) :: L) D → wpList P ops Q rest a' w') ∨ (∃ ch, e = .panicked ch ∧ ∀ a', Fr a' N L D → Q (.panic ch) a' w')) : wpList P ops Q (o :: rest) a w :=
  p_upon hg hr (hc.mono fun e w' hR => by
    rcases k e w' hR with ⟨v, rfl, hk⟩ | ⟨ch, rfl, hk⟩
    · show wpList P ops Q rest (a.put o.dst v) w'; rw [hd]; exact hk _ (F.put v hN)
    · exact hk _ F)
theorem p_halt (F : Fr a N L D) (hg : o.guard = none) (hr : (execOp a.eval o).run P w = .halt (.panic v) w') (k : ∀ a', Fr a' N L D → Q (.panic [{ v, recovered := false }]) a' w') : wpList P ops Q (o :: rest) a w :=
  p_upon hg hr (k _ F)
theorem thenP {K : Act → World → Prop} {ch : List PanicEntry} (h : Q (.panic ch) a w) : Exit.then K Q (.panic ch) a w := h
theorem inbP {id : Nat} {ch : List PanicEntry} (h : Q (.panic ch) a w) : Exit.inBlock id Q (.panic ch) a w := h
theorem outP {fn : Func} {R : Ending → World → Prop} {ch : List PanicEntry} (F : Fr a N L) (h : R (.panicked ch) w) : bodyPost P fn R (.panic ch) a w := ⟨F.dfr, h⟩
end
/-! ### bounds -/
def Still (w w' : World) : Prop := w'.heap = w.heap ∧ w'.os = w.os ∧ w'.tape = w.tape ∧ w'.output = w.output
theorem Still.ev {M : Nat → Prop} {w w' : World} (h : Still w w') (c : Nat → Nat) : Ev M c w c w' := Ev.same h.1 h.2.1 h.2.2.1 h.2.2.2
theorem bounds_still {α : Type} {P : Program} (k : IntKind) (x y : Int) (code : BoundsCode) (w : World) : ∃ t u w', (boundsPanic k x y code : Sem α).run P w = .halt (.panic (.iface t u)) w' ∧ Still w w' := by
  unfold boundsPanic
  split
  · simp only [runtimePanic, goPanic, go_sem]
    exact ⟨_, _, _, rfl, rfl, rfl, rfl, rfl⟩
  · simp only [runtimePanic, goPanic, go_sem]
    exact ⟨_, _, _, rfl, rfl, rfl, rfl, rfl⟩
section
variable {P : Program} {a : Act} {N : Nat} {L : List (Nat × Value)} {D : List Deferred} {w w' : World} {x : Operand} {d : Option Tmp} {t e ty : TypeId} {pos : String} {af : Array Edge} {gd : Option (Nat × Bool)} {A : Option Addr} {cap n0 : Nat} {h : Halt}
theorem r_sliceH (F : Fr a N L D) {lo hi mx : Option Operand} {vl vh vm : Option Value} (hx : ev L x = some (.slice A n0 cap)) (h1 : lo.map (ev L) = vl.map some) (h2 : hi.map (ev L) = vh.map some) (h3 : mx.map (ev L) = vm.map some)
    (hr : (Instr.sliceAt t (.slice A n0 cap) vl vh vm).run P w = .halt h w') :
    (execOp a.eval { dst := d, op := .slice t x lo hi mx, type := ty, pos := pos, after := af, guard := gd }).run P w = .halt h w' := by
  have e1 : lo.map a.eval = vl := by
    cases lo <;> cases vl <;> simp at h1 ⊢; rw [F.ev h1]
  have e2 : hi.map a.eval = vh := by
    cases hi <;> cases vh <;> simp at h2 ⊢; rw [F.ev h2]
  have e3 : mx.map a.eval = vm := by
    cases mx <;> cases vm <;> simp at h3 ⊢; rw [F.ev h3]
  simp [execOp, F.ev hx, e1, e2, e3, hr]
theorem pan_nn {n : Int} (hu : P.underlying t = some (.slice e)) (g : ¬ (0 ≤ n ∧ n ≤ (cap : Int))) (w : World) :
    ∃ t1 u w', (Instr.sliceAt t (.slice A n0 cap) none (some (.int .i64 n)) (some (.int .i64 n))).run P w = .halt (.panic (.iface t1 u)) w' ∧ Still w w' := by
  obtain ⟨t1, u, w', h1, h2⟩ := bounds_still (α := Nat) (P := P) .i64 n cap .slice3Acap w
  refine ⟨t1, u, w', ?_, h2⟩
  simp [Instr.sliceAt, run_underlying hu, Instr.slice, Instr.sliceBounds, Instr.sliceBound, asIntOf, g, h1]
theorem ok_nn {n : Int} {sz : Nat} (hu : P.underlying t = some (.slice e)) (hs : ∀ w, (sizeOf e).run P w = .ok sz w) (g : 0 ≤ n ∧ n ≤ (cap : Int)) :
    ∃ v, ∀ w, (Instr.sliceAt t (.slice A n0 cap) none (some (.int .i64 n)) (some (.int .i64 n))).run P w = .ok v w := by
  obtain ⟨k, rfl⟩ := Int.eq_ofNat_of_zero_le g.1
  have g2 : k ≤ cap := by omega
  exact ⟨_, run_cut hu hs none (some (.int .i64 (k : Int))) (some (.int .i64 (k : Int))) (l := 0) (r := k) (m := k) (fun w => by simp [Instr.sliceBounds, Instr.sliceBound, asIntOf, g2])⟩
theorem pan_l {n : Int} (hu : P.underlying t = some (.slice e)) (g : ¬ (0 ≤ n ∧ n ≤ (n0 : Int))) (w : World) :
    ∃ t1 u w', (Instr.sliceAt t (.slice A n0 cap) (some (.int .i64 n)) none none).run P w = .halt (.panic (.iface t1 u)) w' ∧ Still w w' := by
  obtain ⟨t1, u, w', h1, h2⟩ := bounds_still (α := Nat) (P := P) .i64 n n0 .sliceB w
  refine ⟨t1, u, w', ?_, h2⟩
  simp [Instr.sliceAt, run_underlying hu, Instr.slice, Instr.sliceBounds, Instr.sliceBound, asIntOf, g, h1]
theorem cut_nn {α : Type} {k : K α} {own : Bool} {j i : Nat} {c : Nat → Nat} {xs : List α} {n : Int} (hu : P.underlying t = some (.slice e)) (hs : ∀ w, (sizeOf e).run P w = .ok k.sz w) (hx : SL own k j i c w A cap xs) (g : 0 ≤ n ∧ n ≤ (xs.length : Int)) :
    ∃ A' cap', (∀ w, (Instr.sliceAt t (.slice A xs.length cap) none (some (.int .i64 n)) (some (.int .i64 n))).run P w = .ok (.slice A' (xs.take n.toNat).length cap') w) ∧ SL own k j i c w A' cap' (xs.take n.toNat) := by
  have hc : xs.length ≤ cap := by obtain ⟨cs, h2, _⟩ := hx; exact h2
  obtain ⟨q, rfl⟩ := Int.eq_ofNat_of_zero_le g.1
  have g1 : q ≤ xs.length := by omega
  have hcut := hx.cut 0 q q (by omega) (by omega) (by omega) (Nat.le_refl _)
  rw [List.drop_zero] at hcut
  refine ⟨_, _, fun w => ?_, by simpa using hcut⟩
  have g2 : q ≤ cap := by omega
  rw [run_cut hu hs none (some (.int .i64 (q : Int))) (some (.int .i64 (q : Int))) (l := 0) (r := q) (m := q) (fun w => by simp [Instr.sliceBounds, Instr.sliceBound, asIntOf, g2]) w]
  simp [Nat.min_eq_left g1]
end
/-! ### what a piece of reading leaves -/
def RX {α : Type} (m j : Nat) (c0 : Nat → Nat) (w0 : World) (p : Option Addr) (ou : List (List Int)) (res : (List Int × Int) ⊕ (α × List Int × Int)) (ret : α → (Nat → Nat) → World → Value → Prop) (e : Ending) (w_ : World) : Prop :=
  ∃ c_, Ev (fun x => x = j) c0 w0 c_ w_ ∧ CB m c_ w_ ∧ match res with
    | .inl (l, f) => (∃ t u, e = .panicked [{ v := .iface t u, recovered := false }]) ∧ RD j c_ w_ p (some ⟨l, ou, f⟩)
    | .inr (x, l, f) => (∃ v, e = .returned v ∧ ret x c_ w_ v) ∧ RD j c_ w_ p (some ⟨l, ou, f⟩)
def retS (x : List Int) (c : Nat → Nat) (w : World) (v : Value) : Prop := ∃ A C, v = .slice A x.length C ∧ SL false (Kint .u8) 0 0 c w A C x
def rnext (l : List Int) (f n : Int) : (List Int × Int) ⊕ (List Int × List Int × Int) := if 0 ≤ n ∧ n ≤ (l.length : Int) then .inr (l.take n.toNat, l.drop n.toNat, f) else .inl (l, f)
set_option maxHeartbeats 1000000 in
theorem next_calls {m : Nat} {c0 : Nat → Nat} {w0 : World} {j : Nat} {p : Option Addr} {r : Rdr} {n : Int} (B0 : CB m c0 w0) (h : RD j c0 w0 p (some r)) (hj : 0 < j) :
    Calls Try.prog 73 #[.pointer p, .int .i64 n] w0 (RX m j c0 w0 p r.outer (rnext r.left r.fault n) retS) := by
  obtain ⟨ad, A1, C1, A2, C2, rfl, hat, hl, ho⟩ := RD.some h
  refine enter (N := 23) (l := [.pointer (some ad), .int .i64 n]) Try.func73 rfl rfl (Nat.le_of_ble_eq_true rfl) fun a F => ?_
  refine wp_seq_k fun K1 hK1 => ?_
  refine reg ?_
  refine q_val F rfl rfl (by decide) (r_assign F rfl) fun a F => ?_
  refine nil ?_
  refine hK1 _ _ ?_
  refine wp_seq_k fun K2 hK2 => ?_
  refine preg ?_
  refine p_val F rfl rfl (by decide) (r_move F rfl) fun a F => ?_
  refine p_val F rfl rfl (by decide) (r_nil F rfl) fun a F => ?_
  refine p_val F rfl rfl (by decide) (r_fieldAddr F rfl ff_112_0) fun a F => ?_
  refine p_val F rfl rfl (by decide) (r_load F rfl ag_23 (AT.cell hat rfl)) fun a F => ?_
  refine p_val F rfl rfl (by decide) (r_move F rfl) fun a F => ?_
  refine p_val F rfl rfl (by decide) (r_move F rfl) fun a F => ?_
  by_cases g : 0 ≤ n ∧ n ≤ (r.left.length : Int)
  · obtain ⟨A3, C3, hr3, h3⟩ := cut_nn (n := n) Try.underlying23 sz_5 hl g
    refine p_val F rfl rfl (by decide) (r_slice (vl := none) (vh := some (.int .i64 n)) (vm := some (.int .i64 n)) F rfl rfl rfl rfl hr3) fun a F => ?_
    refine p_val F rfl rfl (by decide) (r_assign F rfl) fun a F => ?_
    refine pnil ?_
    refine hK2 _ _ ?_
    refine wp_seq_k fun K3 hK3 => ?_
    refine reg ?_
    refine q_val F rfl rfl (by decide) (r_move F rfl) fun a F => ?_
    refine q_val F rfl rfl (by decide) (r_move F rfl) fun a F => ?_
    refine q_val F rfl rfl (by decide) (r_nil F rfl) fun a F => ?_
    refine q_val F rfl rfl (by decide) (r_fieldAddr F rfl ff_112_0) fun a F => ?_
    refine q_val F rfl rfl (by decide) (r_load F rfl ag_23 (AT.cell hat rfl)) fun a F => ?_
    refine q_val F rfl rfl (by decide) (r_move F rfl) fun a F => ?_
    obtain ⟨A4, C4, hr4, h4⟩ := cut_l (kl := .i64) (l := n) Try.underlying23 sz_5 hl g
    refine q_val F rfl rfl (by decide) (r_slice (vl := some (.int .i64 n)) (vh := none) (vm := none) F rfl rfl rfl rfl hr4) fun a F => ?_
    refine q_val F rfl rfl (by decide) (r_nil F rfl) fun a F => ?_
    refine q_val F rfl rfl (by decide) (r_fieldAddr F rfl ff_112_0) fun a F => ?_
    refine q_eff0 F rfl rfl (e_store F rfl rfl sz_23 hat (by simp) rfl) ?_
    rintro w1 a ⟨E1, hat1, hz⟩ F
    refine nil ?_
    refine hK3 _ _ ?_
    refine wp_seq_k fun K4 hK4 => ?_
    refine reg ?_
    refine q_val F rfl rfl (by decide) (r_move F rfl) fun a F => ?_
    refine q_val F rfl rfl (by decide) (r_assign F rfl) fun a F => ?_
    refine nil ?_
    refine hK4 _ _ ?_
    refine wp_ret ?_
    refine out1 F rfl rfl ?_
    have n0 : ¬ ((0 : Nat) = j) := by omega
    refine ⟨c0, E1, B0.size hz, ?_⟩
    unfold rnext
    rw [if_pos g]
    exact ⟨⟨_, rfl, A3, C3, rfl, h3.ev E1 n0 n0⟩, RD.mk hat1 (h4.ev E1 n0 n0) (ho.ev E1 n0 n0)⟩
  · have fin : ∀ (w' : World) (t : TypeId) (u : Value), Still w0 w' → RX m j c0 w0 (some ad) r.outer (rnext r.left r.fault n) retS (.panicked [{ v := .iface t u, recovered := false }]) w' := by
      intro w' t u hS
      refine ⟨c0, hS.ev c0, B0.same hS.1, ?_⟩
      unfold rnext
      rw [if_neg g]
      exact ⟨⟨t, u, rfl⟩, h.ev (hS.ev (M := No) c0) (fun q => q) (fun q => q)⟩
    by_cases g2 : 0 ≤ n ∧ n ≤ (C1 : Int)
    · obtain ⟨v, hv⟩ := ok_nn (P := Try.prog) (A := A1) (n0 := r.left.length) Try.underlying23 sz_5 g2
      refine p_val F rfl rfl (by decide) (r_slice (xs := r.left) (vl := none) (vh := some (.int .i64 n)) (vm := some (.int .i64 n)) F rfl rfl rfl rfl hv) fun a F => ?_
      refine p_val F rfl rfl (by decide) (r_assign F rfl) fun a F => ?_
      refine pnil ?_
      refine hK2 _ _ ?_
      refine wp_seq_k fun K3 hK3 => ?_
      refine preg ?_
      refine p_val F rfl rfl (by decide) (r_move F rfl) fun a F => ?_
      refine p_val F rfl rfl (by decide) (r_move F rfl) fun a F => ?_
      refine p_val F rfl rfl (by decide) (r_nil F rfl) fun a F => ?_
      refine p_val F rfl rfl (by decide) (r_fieldAddr F rfl ff_112_0) fun a F => ?_
      refine p_val F rfl rfl (by decide) (r_load F rfl ag_23 (AT.cell hat rfl)) fun a F => ?_
      refine p_val F rfl rfl (by decide) (r_move F rfl) fun a F => ?_
      obtain ⟨t1, u, w', hr, hS⟩ := pan_l (P := Try.prog) (A := A1) (cap := C1) (n0 := r.left.length) (n := n) Try.underlying23 g w0
      refine p_halt F rfl (r_sliceH (vl := some (.int .i64 n)) (vh := none) (vm := none) F rfl rfl rfl rfl hr) fun a F => ?_
      repeat (refine thenP ?_)
      exact outP F (fin w' t1 u hS)
    · obtain ⟨t1, u, w', hr, hS⟩ := pan_nn (P := Try.prog) (A := A1) (n0 := r.left.length) (n := n) Try.underlying23 g2 w0
      refine p_halt F rfl (r_sliceH (vl := none) (vh := some (.int .i64 n)) (vm := some (.int .i64 n)) F rfl rfl rfl rfl hr) fun a F => ?_
      repeat (refine thenP ?_)
      exact outP F (fin w' t1 u hS)
theorem sl_one {c : Nat → Nat} {w : World} {A : Option Addr} {C : Nat} {x : Int} (h : SL false (Kint .u8) 0 0 c w A C [x]) : ∃ q, A = some q ∧ w.cell? (q.add 0) = some (.int .u8 x) := by
  obtain ⟨q, cs, hA, hat, hr⟩ := h.at 0 (by omega) (by simp)
  refine ⟨q, hA, ?_⟩
  have hr' : cs = [.int .u8 x] := hr
  subst hr'
  have := hat.cell (n := 0) rfl
  simpa [Addr.add] using this
/-- one number, seven bits at a time -/
def retI (k : IntKind) (x : Int) (c : Nat → Nat) (w : World) (v : Value) : Prop := v = .int k x
set_option maxHeartbeats 2000000 in
theorem num_calls {m : Nat} {c0 : Nat → Nat} {w0 : World} {j : Nat} {p : Option Addr} {r : Rdr} (B0 : CB m c0 w0) (h : RD j c0 w0 p (some r)) (hj : 0 < j) :
    Calls Try.prog 68 #[.pointer p] w0 (RX m j c0 w0 p r.outer (rnum r.fault r.left 0 0) (retI .u64)) := by
  refine enter (N := 41) (l := [.pointer p]) Try.func68 rfl rfl (Nat.le_of_ble_eq_true rfl) fun a F => ?_
  refine wp_seq_k fun K1 hK1 => ?_
  refine reg ?_
  refine q_val F rfl rfl (by decide) (r_assign F rfl) fun a F => ?_
  refine nil ?_
  refine hK1 _ _ ?_
  refine wp_seq_k fun K2 hK2 => ?_
  refine reg ?_
  refine q_val F rfl rfl (by decide) (r_assign F rfl) fun a F => ?_
  refine nil ?_
  refine hK2 _ _ ?_
  refine wp_seq_k fun K3 hK3 => ?_
  refine reg ?_
  refine q_val F rfl rfl (by decide) (r_assign F rfl) fun a F => ?_
  refine nil ?_
  refine hK3 _ _ ?_
  refine wp_block ?_
  refine loop_fuel (I := fun q a w => ∃ (xs : List Int) (i : Nat) (n : Int) (c : Nat → Nat), q = xs.length ∧ i ≤ 9 ∧ Fr a 41 [(0, .pointer p), (3, .int .u64 n), (4, .int .i64 i)] ∧ Ev (fun x => x = j) c0 w0 c w ∧ CB m c w ∧ RD j c w p (some ⟨xs, r.outer, r.fault⟩) ∧ rnum r.fault xs i n = rnum r.fault r.left 0 0) (k := r.left.length)
    ⟨r.left, 0, 0, c0, rfl, by omega, F.sub ⟨rfl, rfl, rfl, trivial⟩, Ev.refl, B0, h, rfl⟩ ?_
  clear F
  intro q X hX a w ⟨xs, i, n, c, hq, hi, F, E, B, hR, hres⟩
  subst hq
  refine wp_seq_k fun K4 hK4 => ?_
  refine wp_block ?_
  refine wp_seq_k fun K5 hK5 => ?_
  refine preg ?_
  refine p_val F rfl rfl (by decide) (r_move F rfl) fun a F => ?_
  refine p_call F rfl rfl (by decide) (r_call (vs := [.pointer p, .int .i64 1]) F Try.func73 rfl rfl rfl) (next_calls B hR hj) ?_
  rintro e w1 ⟨c1, E1, B1, hx⟩
  cases xs with
  | nil =>
    right
    have e0 : rnext ([] : List Int) r.fault 1 = .inl ([], r.fault) := rfl
    rw [show (⟨[], r.outer, r.fault⟩ : Rdr).left = [] from rfl, show (⟨[], r.outer, r.fault⟩ : Rdr).fault = r.fault from rfl, e0] at hx
    obtain ⟨⟨t, u, rfl⟩, hR1⟩ := hx
    refine ⟨_, rfl, fun a F => ?_⟩
    repeat (first | refine thenP ?_ | refine inbP ?_)
    refine outP (F.sub (L' := []) trivial) ?_
    refine ⟨c1, E.trans E1 (fun _ q => q), B1, ?_⟩
    rw [← hres]
    exact ⟨⟨t, u, rfl⟩, hR1⟩
  | cons x xs =>
    left
    have e0 : rnext (x :: xs) r.fault 1 = .inr ([x], xs, r.fault) := by
      unfold rnext; rw [if_pos (by simp; omega)]; rfl
    rw [show (⟨x :: xs, r.outer, r.fault⟩ : Rdr).left = x :: xs from rfl, show (⟨x :: xs, r.outer, r.fault⟩ : Rdr).fault = r.fault from rfl, e0] at hx
    obtain ⟨⟨v, rfl, A, C, rfl, hs⟩, hR1⟩ := hx
    obtain ⟨qa, rfl, hcell⟩ := sl_one hs
    refine ⟨_, rfl, fun a F => ?_⟩
    have E := E.trans E1 (fun _ q => q)
    refine p_val F rfl rfl (by decide) (r_indexAddr F Try.underlying23 sz_5 rfl rfl (by omega) (by simp)) fun a F => ?_
    refine p_val F rfl rfl (by decide) (r_load F rfl ag_5 hcell) fun a F => ?_
    refine p_val F rfl rfl (by decide) (r_assign F rfl) fun a F => ?_
    refine pnil ?_
    refine hK5 _ _ ?_
    have hi9 : ((i : Int) = 9) = (i = 9) := by simp; omega
    have hi0 : (0 < (i : Int)) = (0 < i) := by simp
    refine wp_seq_k fun K6 hK6 => ?_
    refine wp_seq_k fun K7 hK7 => ?_
    have bad : ∀ a, Fr a 41 [(0, .pointer p), (25, .bool true)] → ((i = 9 ∧ 1 < x) ∨ (0 < i ∧ x = 0)) → K7 a w1 := by
      intro a F hc
      refine hK7 _ _ ?_
      refine wp_cond_true (F.ev rfl) ?_
      obtain ⟨ad, A1, C1, A2, C2, rfl, hat, hl, ho⟩ := RD.some hR1
      refine wp_seq_k fun K8 hK8 => ?_
      refine reg ?_
      refine q_val F rfl rfl (by decide) (r_move F rfl) fun a F => ?_
      refine q_val F rfl rfl (by decide) (r_nil F rfl) fun a F => ?_
      refine q_val F rfl rfl (by decide) (r_fieldAddr F rfl ff_112_2) fun a F => ?_
      refine q_eff0 F rfl rfl (e_store F rfl rfl sz_29 hat (by simp) rfl) ?_
      rintro w2 a ⟨E2, hat2, hz⟩ F
      refine nil ?_
      refine hK8 _ _ ?_
      refine wp_seq_k fun K9 hK9 => ?_
      refine reg ?_
      refine q_val F rfl rfl (by decide) (r_assign F rfl) fun a F => ?_
      refine nil ?_
      refine hK9 _ _ ?_
      refine wp_ret ?_
      repeat (first | refine thenR ?_ | refine inbR ?_)
      refine out1 F rfl rfl ?_
      have n0 : ¬ ((0 : Nat) = j) := by omega
      refine ⟨c1, E.trans E2 (fun _ q => q), B1.size hz, ?_⟩
      rw [← hres]
      unfold rnum
      rw [if_pos hc]
      exact ⟨⟨_, rfl, rfl⟩, RD.mk (t := ⟨xs, r.outer, 11⟩) hat2 (hl.ev E2 n0 n0) (ho.ev E2 n0 n0)⟩
    have good : ∀ a, Fr a 41 [(0, .pointer p), (3, .int .u64 n), (4, .int .i64 i), (5, .int .u8 x), (25, .bool false)] → ¬ ((i = 9 ∧ 1 < x) ∨ (0 < i ∧ x = 0)) → K7 a w1 := by
      intro a F hc
      refine hK7 _ _ ?_
      refine wp_cond_false (F.ev rfl) ?_
      refine wp_skip ?_
      refine hK6 _ _ ?_
      refine wp_seq_k fun K8 hK8 => ?_
      refine reg ?_
      refine q_val F rfl rfl (by decide) (r_move F rfl) fun a F => ?_
      refine q_val F rfl rfl (by decide) (r_move F rfl) fun a F => ?_
      refine q_val F rfl rfl (by decide) (r_and F rfl rfl) fun a F => ?_
      refine q_val F rfl rfl (by decide) (r_convi F Try.underlying80 (by kernel_rfl) rfl) fun a F => ?_
      refine q_val F rfl rfl (by decide) (r_move F rfl) fun a F => ?_
      refine q_val F rfl rfl (by decide) (r_mul F rfl rfl) fun a F => ?_
      refine q_val F rfl rfl (by decide) (r_convi F Try.underlying116 (by kernel_rfl) rfl) fun a F => ?_
      have hw : IntKind.u64.wrap (IntKind.i64.wrap (7 * (i : Int))) = 7 * (i : Int) := by
        simp only [IntKind.wrap, IntKind.bits, IntKind.signed]; simp; omega
      rw [hw] at F
      refine q_val F rfl rfl (by decide) (r_shl F rfl rfl (by omega)) fun a F => ?_
      refine q_val F rfl rfl (by decide) (r_or F rfl rfl) fun a F => ?_
      refine q_val F rfl rfl (by decide) (r_assign F rfl) fun a F => ?_
      refine nil ?_
      refine hK8 _ _ ?_
      refine wp_seq_k fun K9 hK9 => ?_
      refine reg ?_
      refine q_val F rfl rfl (by decide) (r_move F rfl) fun a F => ?_
      refine q_val F rfl rfl (by decide) (r_lss F rfl rfl) fun a F => ?_
      refine nil ?_
      refine hK9 _ _ ?_
      by_cases hb : x < 128
      · refine wp_cond_true ((F.ev rfl).trans (congrArg Value.bool (decide_eq_true hb))) ?_
        refine wp_seq_k fun K10 hK10 => ?_
        refine reg ?_
        refine q_val F rfl rfl (by decide) (r_move F rfl) fun a F => ?_
        refine q_val F rfl rfl (by decide) (r_assign F rfl) fun a F => ?_
        refine nil ?_
        refine hK10 _ _ ?_
        refine wp_ret ?_
        repeat (first | refine thenR ?_ | refine inbR ?_)
        refine out1 F rfl rfl ?_
        refine ⟨c1, E, B1, ?_⟩
        rw [← hres]
        unfold rnum
        rw [if_neg hc, if_pos hb]
        exact ⟨⟨_, rfl, rfl⟩, hR1⟩
      · refine wp_cond_false ((F.ev rfl).trans (congrArg Value.bool (decide_eq_false hb))) ?_
        refine wp_skip ?_
        repeat (first | refine inbN ?_ | refine hK4 _ _ ?_)
        refine reg ?_
        refine q_val F rfl rfl (by decide) (r_move F rfl) fun a F => ?_
        refine q_val F rfl rfl (by decide) (r_add F rfl rfl) fun a F => ?_
        refine q_val F rfl rfl (by decide) (r_assign F rfl) fun a F => ?_
        refine nil ?_
        have hw1 : IntKind.i64.wrap ((i : Int) + 1) = ((i + 1 : Nat) : Int) := by
          simp only [IntKind.wrap_i64]; omega
        rw [hw1] at F
        refine hX xs.length _ _ (by simp) ⟨xs, i + 1, _, c1, rfl, ?_, F.sub ⟨rfl, rfl, rfl, trivial⟩, E, B1, hR1, ?_⟩
        · have : i ≠ 9 := fun e => hb (by have : ¬ (1 < x) := fun q => hc (Or.inl ⟨e, q⟩); omega)
          omega
        · rw [← hres]
          conv => rhs; unfold rnum
          rw [if_neg hc, if_neg hb]
    refine reg ?_
    refine q_val F rfl rfl (by decide) (r_move F rfl) fun a F => ?_
    refine q_val F rfl rfl (by decide) (r_eql F rfl rfl) fun a F => ?_
    refine q_val F rfl rfl (by decide) (r_move F rfl) fun a F => ?_
    by_cases b9 : i = 9
    · have b9' : (i : Int) = 9 := by omega
      refine q_yes F rfl (by decide) rfl (decide_eq_true b9') ?_
      refine q_val F rfl rfl (by decide) (r_move F rfl) fun a F => ?_
      refine q_yes F rfl (by decide) rfl (decide_eq_true b9') ?_
      refine q_val F rfl rfl (by decide) (r_gtr F rfl rfl) fun a F => ?_
      refine q_val F rfl rfl (by decide) (r_pick_t F rfl (decide_eq_true b9') rfl) fun a F => ?_
      refine q_val F rfl rfl (by decide) (r_move F rfl) fun a F => ?_
      by_cases b1 : 1 < x
      · refine q_no F rfl (by decide) rfl (decide_eq_true b1) (by decide) fun a F => ?_
        refine q_no F rfl (by decide) rfl (decide_eq_true b1) (by decide) fun a F => ?_
        refine q_no F rfl (by decide) rfl (decide_eq_true b1) (by decide) fun a F => ?_
        refine q_nu F rfl (by decide) rfl (by decide) fun a F => ?_
        refine q_nu F rfl (by decide) rfl (by decide) fun a F => ?_
        refine q_no F rfl (by decide) rfl (decide_eq_true b1) (by decide) fun a F => ?_
        refine q_val F rfl rfl (by decide) (r_pick_t F rfl (decide_eq_true b1) rfl) fun a F => ?_
        refine nil ?_
        exact bad a (F.sub ⟨rfl, rfl, trivial⟩) (Or.inl ⟨b9, b1⟩)
      · refine q_yes F rfl (by decide) rfl (decide_eq_false b1) ?_
        refine q_val F rfl rfl (by decide) (r_move F rfl) fun a F => ?_
        refine q_yes F rfl (by decide) rfl (decide_eq_false b1) ?_
        refine q_val F rfl rfl (by decide) (r_gtr F rfl rfl) fun a F => ?_
        refine q_yes F rfl (by decide) rfl (decide_eq_false b1) ?_
        refine q_val F rfl rfl (by decide) (r_move F rfl) fun a F => ?_
        have b0 : 0 < (i : Int) := by omega
        refine q_yes F rfl (by decide) rfl (decide_eq_true b0) ?_
        refine q_val F rfl rfl (by decide) (r_move F rfl) fun a F => ?_
        refine q_yes F rfl (by decide) rfl (decide_eq_true b0) ?_
        refine q_val F rfl rfl (by decide) (r_eql F rfl rfl) fun a F => ?_
        refine q_yes F rfl (by decide) rfl (decide_eq_false b1) ?_
        refine q_val F rfl rfl (by decide) (r_pick_t F rfl (decide_eq_true b0) rfl) fun a F => ?_
        refine q_val F rfl rfl (by decide) (r_pick_f F rfl (decide_eq_false b1) rfl) fun a F => ?_
        refine nil ?_
        by_cases bz : x = 0
        · rw [decide_eq_true bz] at F
          exact bad a (F.sub ⟨rfl, rfl, trivial⟩) (Or.inr ⟨by omega, bz⟩)
        · rw [decide_eq_false bz] at F
          exact good a (F.sub ⟨rfl, rfl, rfl, rfl, rfl, trivial⟩) (by rintro (⟨_, q⟩ | ⟨_, q⟩); exact b1 q; exact bz q)
    · have b9' : ¬ (i : Int) = 9 := by omega
      refine q_no F rfl (by decide) rfl (decide_eq_false b9') (by decide) fun a F => ?_
      refine q_no F rfl (by decide) rfl (decide_eq_false b9') (by decide) fun a F => ?_
      refine q_val F rfl rfl (by decide) (r_pick_f F rfl (decide_eq_false b9') rfl) fun a F => ?_
      refine q_val F rfl rfl (by decide) (r_move F rfl) fun a F => ?_
      refine q_yes F rfl (by decide) rfl rfl ?_
      refine q_val F rfl rfl (by decide) (r_move F rfl) fun a F => ?_
      refine q_yes F rfl (by decide) rfl rfl ?_
      refine q_val F rfl rfl (by decide) (r_gtr F rfl rfl) fun a F => ?_
      refine q_yes F rfl (by decide) rfl rfl ?_
      refine q_val F rfl rfl (by decide) (r_move F rfl) fun a F => ?_
      by_cases b0 : 0 < (i : Int)
      · refine q_yes F rfl (by decide) rfl (decide_eq_true b0) ?_
        refine q_val F rfl rfl (by decide) (r_move F rfl) fun a F => ?_
        refine q_yes F rfl (by decide) rfl (decide_eq_true b0) ?_
        refine q_val F rfl rfl (by decide) (r_eql F rfl rfl) fun a F => ?_
        refine q_yes F rfl (by decide) rfl rfl ?_
        refine q_val F rfl rfl (by decide) (r_pick_t F rfl (decide_eq_true b0) rfl) fun a F => ?_
        refine q_val F rfl rfl (by decide) (r_pick_f F rfl rfl rfl) fun a F => ?_
        refine nil ?_
        by_cases bz : x = 0
        · rw [decide_eq_true bz] at F
          exact bad a (F.sub ⟨rfl, rfl, trivial⟩) (Or.inr ⟨by omega, bz⟩)
        · rw [decide_eq_false bz] at F
          exact good a (F.sub ⟨rfl, rfl, rfl, rfl, rfl, trivial⟩) (by rintro (⟨q, _⟩ | ⟨_, q⟩); exact b9 q; exact bz q)
      · refine q_no F rfl (by decide) rfl (decide_eq_false b0) (by decide) fun a F => ?_
        refine q_no F rfl (by decide) rfl (decide_eq_false b0) (by decide) fun a F => ?_
        refine q_yes F rfl (by decide) rfl rfl ?_
        refine q_val F rfl rfl (by decide) (r_pick_f F rfl (decide_eq_false b0) rfl) fun a F => ?_
        refine q_val F rfl rfl (by decide) (r_pick_f F rfl rfl rfl) fun a F => ?_
        refine nil ?_
        exact good a (F.sub ⟨rfl, rfl, rfl, rfl, rfl, trivial⟩) (by rintro (⟨q, _⟩ | ⟨q, _⟩); exact b9 q; omega)
set_option maxHeartbeats 2000000 in
theorem size_calls {m : Nat} {c0 : Nat → Nat} {w0 : World} {j : Nat} {p : Option Addr} {r : Rdr} {most : Int} (B0 : CB m c0 w0) (h : RD j c0 w0 p (some r)) (hj : 0 < j) :
    Calls Try.prog 71 #[.pointer p, .int .u64 most] w0 (RX m j c0 w0 p r.outer (rsize r.left r.fault most) (retI .i64)) := by
  refine enter (N := 39) (l := [.pointer p, .int .u64 most]) Try.func71 rfl rfl (Nat.le_of_ble_eq_true rfl) fun a F => ?_
  refine wp_seq_k fun K1 hK1 => ?_
  refine reg ?_
  refine q_val F rfl rfl (by decide) (r_assign F rfl) fun a F => ?_
  refine nil ?_
  refine hK1 _ _ ?_
  refine wp_seq_k fun K2 hK2 => ?_
  refine preg ?_
  refine p_val F rfl rfl (by decide) (r_move F rfl) fun a F => ?_
  refine p_call F rfl rfl (by decide) (r_call (vs := [.pointer p]) F Try.func68 rfl rfl rfl) (num_calls B0 h hj) ?_
  rintro e w1 ⟨c1, E, B, hx⟩
  generalize hn : rnum r.fault r.left 0 0 = res at hx
  match res with
  | .inl (l, f) =>
    right
    obtain ⟨⟨t, u, rfl⟩, hR1⟩ := hx
    refine ⟨_, rfl, fun a F => ?_⟩
    repeat (first | refine thenP ?_ | refine inbP ?_)
    refine outP (F.sub (L' := []) trivial) ?_
    refine ⟨c1, E, B, ?_⟩
    rw [show rsize r.left r.fault most = .inl (l, f) from by unfold rsize; rw [hn]]
    exact ⟨⟨t, u, rfl⟩, hR1⟩
  | .inr (n, l, f) =>
    left
    obtain ⟨⟨v, rfl, hv⟩, hR1⟩ := hx
    have hv : v = .int .u64 n := hv
    subst hv
    refine ⟨_, rfl, fun a F => ?_⟩
    refine p_val F rfl rfl (by decide) (r_assign F rfl) fun a F => ?_
    refine pnil ?_
    refine hK2 _ _ ?_
    have hlm : l.length ≤ maxLen := by
      obtain ⟨ad, A1, C1, A2, C2, rfl, hat, hl, ho⟩ := RD.some hR1
      exact hl.lenB
    obtain ⟨ad, A1, C1, A2, C2, rfl, hat, hl, ho⟩ := RD.some hR1
    have n0 : ¬ ((0 : Nat) = j) := by omega
    refine wp_seq_k fun K3 hK3 => ?_
    refine wp_seq_k fun K4 hK4 => ?_
    refine reg ?_
    refine q_val F rfl rfl (by decide) (r_move F rfl) fun a F => ?_
    refine q_val F rfl rfl (by decide) (r_nil F rfl) fun a F => ?_
    refine q_val F rfl rfl (by decide) (r_fieldAddr F rfl ff_112_2) fun a F => ?_
    refine q_val F rfl rfl (by decide) (r_load F rfl ag_29 (AT.cell hat rfl)) fun a F => ?_
    refine q_val F rfl rfl (by decide) (r_eql F rfl rfl) fun a F => ?_
    refine q_val F rfl rfl (by decide) (r_move F rfl) fun a F => ?_
    -- the fault is told
    have out : ∀ (a : Act) (w2 : World) (l : List Int) (f : Int), Fr a 39 [(4, .int .i64 0)] → f ≠ 0 → RX m j c0 w0 (some ad) r.outer (.inr (0, l, f)) (retI .i64) (.returned (.int .i64 0)) w2 → True := fun _ _ _ _ _ _ _ => trivial
    by_cases hf : f = 0
    · subst hf
      refine q_yes F rfl (by decide) rfl (decide_eq_true rfl) ?_
      refine q_val F rfl rfl (by decide) (r_move F rfl) fun a F => ?_
      refine q_yes F rfl (by decide) rfl (decide_eq_true rfl) ?_
      refine q_val F rfl rfl (by decide) (r_move F rfl) fun a F => ?_
      refine q_yes F rfl (by decide) rfl (decide_eq_true rfl) ?_
      refine q_val F rfl rfl (by decide) (r_gtr F rfl rfl) fun a F => ?_
      refine q_val F rfl rfl (by decide) (r_pick_t F rfl (decide_eq_true rfl) rfl) fun a F => ?_
      refine nil ?_
      refine hK4 _ _ ?_
      by_cases hm : most < n
      · refine wp_cond_true ((F.ev rfl).trans (congrArg Value.bool (decide_eq_true hm))) ?_
        refine reg ?_
        refine q_val F rfl rfl (by decide) (r_move F rfl) fun a F => ?_
        refine q_val F rfl rfl (by decide) (r_nil F rfl) fun a F => ?_
        refine q_val F rfl rfl (by decide) (r_fieldAddr F rfl ff_112_2) fun a F => ?_
        refine q_eff0 F rfl rfl (e_store F rfl rfl sz_29 hat (by simp) rfl) ?_
        rintro w2 a ⟨E2, hat2, hz⟩ F
        refine nil ?_
        refine hK3 _ _ ?_
        refine wp_seq_k fun K5 hK5 => ?_
        refine wp_seq_k fun K6 hK6 => ?_
        refine reg ?_
        refine q_val F rfl rfl (by decide) (r_move F rfl) fun a F => ?_
        refine q_val F rfl rfl (by decide) (r_nil F rfl) fun a F => ?_
        refine q_val F rfl rfl (by decide) (r_fieldAddr F rfl ff_112_2) fun a F => ?_
        refine q_val F rfl rfl (by decide) (r_load F rfl ag_29 (AT.cell hat2 rfl)) fun a F => ?_
        refine q_val F rfl rfl (by decide) (r_neq F rfl rfl) fun a F => ?_
        refine nil ?_
        refine hK6 _ _ ?_
        refine wp_cond_true (F.ev rfl) ?_
        refine wp_seq_k fun K7 hK7 => ?_
        refine reg ?_
        refine q_val F rfl rfl (by decide) (r_assign F rfl) fun a F => ?_
        refine nil ?_
        refine hK7 _ _ ?_
        refine wp_ret ?_
        repeat (first | refine thenR ?_ | refine inbR ?_)
        refine out1 F rfl rfl ?_
        refine ⟨c1, E.trans E2 (fun _ q => q), B.size hz, ?_⟩
        rw [show rsize r.left r.fault most = .inr (0, l, 11) from by unfold rsize; rw [hn]; simp [hm]]
        exact ⟨⟨_, rfl, rfl⟩, RD.mk (t := ⟨l, r.outer, 11⟩) hat2 (hl.ev E2 n0 n0) (ho.ev E2 n0 n0)⟩
      · refine wp_cond_false ((F.ev rfl).trans (congrArg Value.bool (decide_eq_false hm))) ?_
        refine wp_skip ?_
        refine hK3 _ _ ?_
        refine wp_seq_k fun K5 hK5 => ?_
        refine wp_seq_k fun K6 hK6 => ?_
        refine reg ?_
        refine q_val F rfl rfl (by decide) (r_move F rfl) fun a F => ?_
        refine q_val F rfl rfl (by decide) (r_nil F rfl) fun a F => ?_
        refine q_val F rfl rfl (by decide) (r_fieldAddr F rfl ff_112_2) fun a F => ?_
        refine q_val F rfl rfl (by decide) (r_load F rfl ag_29 (AT.cell hat rfl)) fun a F => ?_
        refine q_val F rfl rfl (by decide) (r_neq F rfl rfl) fun a F => ?_
        refine nil ?_
        refine hK6 _ _ ?_
        refine wp_cond_false (F.ev rfl) ?_
        refine wp_skip ?_
        refine hK5 _ _ ?_
        refine wp_seq_k fun K7 hK7 => ?_
        refine wp_seq_k fun K8 hK8 => ?_
        refine reg ?_
        refine q_val F rfl rfl (by decide) (r_move F rfl) fun a F => ?_
        refine q_val F rfl rfl (by decide) (r_move F rfl) fun a F => ?_
        refine q_val F rfl rfl (by decide) (r_nil F rfl) fun a F => ?_
        refine q_val F rfl rfl (by decide) (r_fieldAddr F rfl ff_112_0) fun a F => ?_
        refine q_val F rfl rfl (by decide) (r_load F rfl ag_23 (AT.cell hat rfl)) fun a F => ?_
        refine q_val F rfl rfl (by decide) (r_lensl F Try.underlying23 rfl) fun a F => ?_
        refine q_val F rfl rfl (by decide) (r_convi F Try.underlying80 (by kernel_rfl) rfl) fun a F => ?_
        have hw : IntKind.u64.wrap (l.length : Int) = (l.length : Int) := by
          unfold maxLen at hlm
          simp only [IntKind.wrap, IntKind.bits, IntKind.signed]; simp; omega
        rw [show ((⟨l, r.outer, 0⟩ : Rdr).left.length : Int) = (l.length : Int) from rfl, hw] at F
        refine q_val F rfl rfl (by decide) (r_gtr F rfl rfl) fun a F => ?_
        refine nil ?_
        refine hK8 _ _ ?_
        by_cases hg : (l.length : Int) < n
        · refine wp_cond_true ((F.ev rfl).trans (congrArg Value.bool (decide_eq_true hg))) ?_
          refine wp_seq_k fun K9 hK9 => ?_
          refine reg ?_
          refine q_val F rfl rfl (by decide) (r_move F rfl) fun a F => ?_
          refine q_val F rfl rfl (by decide) (r_nil F rfl) fun a F => ?_
          refine q_val F rfl rfl (by decide) (r_fieldAddr F rfl ff_112_2) fun a F => ?_
          refine q_eff0 F rfl rfl (e_store F rfl rfl sz_29 hat (by simp) rfl) ?_
          rintro w2 a ⟨E2, hat2, hz⟩ F
          refine nil ?_
          refine hK9 _ _ ?_
          refine wp_seq_k fun K10 hK10 => ?_
          refine reg ?_
          refine q_val F rfl rfl (by decide) (r_assign F rfl) fun a F => ?_
          refine nil ?_
          refine hK10 _ _ ?_
          refine wp_ret ?_
          repeat (first | refine thenR ?_ | refine inbR ?_)
          refine out1 F rfl rfl ?_
          refine ⟨c1, E.trans E2 (fun _ q => q), B.size hz, ?_⟩
          rw [show rsize r.left r.fault most = .inr (0, l, 10) from by unfold rsize; rw [hn]; simp [hm, hg]]
          exact ⟨⟨_, rfl, rfl⟩, RD.mk (t := ⟨l, r.outer, 10⟩) hat2 (hl.ev E2 n0 n0) (ho.ev E2 n0 n0)⟩
        · refine wp_cond_false ((F.ev rfl).trans (congrArg Value.bool (decide_eq_false hg))) ?_
          refine wp_skip ?_
          refine hK7 _ _ ?_
          refine wp_seq_k fun K9 hK9 => ?_
          refine reg ?_
          refine q_val F rfl rfl (by decide) (r_move F rfl) fun a F => ?_
          refine q_val F rfl rfl (by decide) (r_convi F Try.underlying3 (by kernel_rfl) rfl) fun a F => ?_
          refine q_val F rfl rfl (by decide) (r_assign F rfl) fun a F => ?_
          refine nil ?_
          refine hK9 _ _ ?_
          refine wp_ret ?_
          repeat (first | refine thenR ?_ | refine inbR ?_)
          refine out1 F rfl rfl ?_
          refine ⟨c1, E, B, ?_⟩
          rw [show rsize r.left r.fault most = .inr (IntKind.i64.wrap n, l, 0) from by unfold rsize; rw [hn]; simp [hm, hg]]
          exact ⟨⟨_, rfl, rfl⟩, RD.mk (t := ⟨l, r.outer, 0⟩) hat hl ho⟩
    · refine q_no F rfl (by decide) rfl (decide_eq_false hf) (by decide) fun a F => ?_
      refine q_no F rfl (by decide) rfl (decide_eq_false hf) (by decide) fun a F => ?_
      refine q_no F rfl (by decide) rfl (decide_eq_false hf) (by decide) fun a F => ?_
      refine q_val F rfl rfl (by decide) (r_pick_f F rfl (decide_eq_false hf) rfl) fun a F => ?_
      refine nil ?_
      refine hK4 _ _ ?_
      refine wp_cond_false (F.ev rfl) ?_
      refine wp_skip ?_
      refine hK3 _ _ ?_
      refine wp_seq_k fun K5 hK5 => ?_
      refine wp_seq_k fun K6 hK6 => ?_
      refine reg ?_
      refine q_val F rfl rfl (by decide) (r_move F rfl) fun a F => ?_
      refine q_val F rfl rfl (by decide) (r_nil F rfl) fun a F => ?_
      refine q_val F rfl rfl (by decide) (r_fieldAddr F rfl ff_112_2) fun a F => ?_
      refine q_val F rfl rfl (by decide) (r_load F rfl ag_29 (AT.cell hat rfl)) fun a F => ?_
      refine q_val F rfl rfl (by decide) (r_neq F rfl rfl) fun a F => ?_
      refine nil ?_
      refine hK6 _ _ ?_
      refine wp_cond_true ((F.ev rfl).trans (congrArg Value.bool (congrArg not (decide_eq_false hf)))) ?_
      refine wp_seq_k fun K7 hK7 => ?_
      refine reg ?_
      refine q_val F rfl rfl (by decide) (r_assign F rfl) fun a F => ?_
      refine nil ?_
      refine hK7 _ _ ?_
      refine wp_ret ?_
      repeat (first | refine thenR ?_ | refine inbR ?_)
      refine out1 F rfl rfl ?_
      refine ⟨c1, E, B, ?_⟩
      rw [show rsize r.left r.fault most = .inr (0, l, f) from by unfold rsize; rw [hn]; simp [hf]]
      exact ⟨⟨_, rfl, rfl⟩, RD.mk (t := ⟨l, r.outer, f⟩) hat hl ho⟩
end Go.Proofs.Ytcolmmjcdlmcoaa.G
