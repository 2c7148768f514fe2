/- Walks: each function of the program answers as its plain function says: treeTreeLen, treeTreeDepth, treenode, treeturnLeft, treeturnRight, treejoin, treelast, treeboth, treeNew, cmpisNaN, cmpCompare, cmpLess, treeTreeGet. -/
import Derived.Test.YtcolmmjcdlmcoaaNB
namespace Go.Proofs.Ytcolmmjcdlmcoaa.G
open Go Go.RowKit
set_option linter.unusedVariables false
set_option linter.unusedSimpArgs false
set_option maxRecDepth 100000 in
set_option maxHeartbeats 4000000 in
theorem tree_Tree_Len.calls {m : Nat} {c0 : Nat → Nat} {w0 : World} {p2 : Option Addr} {a1 : Tr} (hm0 : 0 < m) (B0 : CB m c0 w0) (h3 : TR 0 c0 w0 p2 a1) (r : Int) (H : tree_Tree_Len.f a1 = some r) : Calls Try.prog 46 #[.pointer p2] w0 (fun e w_ => ∃ (c_ : Nat → Nat), e = .returned (.int .i64 r) ∧ Ev (fun x => False) c0 w0 c_ w_ ∧ CB m c_ w_) := by
 unfold tree_Tree_Len.f at H
 have B := B0.mono (show m ≤ m + 1 by omega)
 have E : Ev (fun x => False ∨ m ≤ x) c0 w0 c0 w0 := Ev.refl
 refine enter (N := 9) (l := [.pointer p2]) Try.func46 rfl rfl (Nat.le_of_ble_eq_true rfl) fun a F => ?_
 refine wp_seq_k fun K4 hK4 => ?_
 refine reg ?_
 refine q_val F rfl rfl (by decide) (r_assign F rfl) fun a F => ?_
 refine nil ?_
 refine hK4 _ _ ?_
 refine wp_seq_k fun K5 hK5 => ?_
 refine wp_seq_k fun K6 hK6 => ?_
 refine reg ?_
 refine q_val F rfl rfl (by decide) (r_move F rfl) fun a F => ?_
 refine q_val F rfl rfl (by decide) (r_peqlA F Try.underlying68 rfl rfl (TR.isNil h3)) fun a F => ?_
 refine nil ?_
 refine hK6 _ _ ?_
 by_cases hb7 : (Tr.isNil a1) = true
 ·have H := (if_pos hb7).symm.trans H
  refine wp_cond_true ((F.ev rfl).trans (congrArg Value.bool hb7)) ?_
  refine wp_seq_k fun K8 hK8 => ?_
  refine reg ?_
  refine q_val F rfl rfl (by decide) (r_assign F rfl) fun a F => ?_
  refine nil ?_
  refine hK8 _ _ ?_
  refine wp_ret ?_
  refine thenR ?_
  have H := Option.some.inj H
  subst H
  refine out1 F rfl rfl ?_
  exact ⟨fun b_ => (fun x_ => if x_ < m then x_ else 0) (c0 b_), rfl, E.leave B0 (fun x_ => if x_ < m then x_ else 0) (by intro x_ hx_; show (if x_ < m then x_ else 0) = x_; ((repeat' split) <;> omega)), (fun b_ hb_ => by show (if (c0 b_) < m then (c0 b_) else 0) < m; ((repeat' split) <;> omega))⟩
 ·have H := (if_neg hb7).symm.trans H
  refine wp_cond_false ((F.ev rfl).trans (congrArg Value.bool (bfalse hb7))) ?_
  refine wp_skip ?_
  refine hK5 _ _ ?_
  refine wp_seq_k fun K9 hK9 => ?_
  refine reg ?_
  refine q_val F rfl rfl (by decide) (r_move F rfl) fun a F => ?_
  obtain ⟨tl10, tr11, tk12, tv13, ts14, td15, e16, H⟩ := cs_some H
  have z17 := h3
  rw [e16] at z17
  obtain ⟨ad21, lp22, rp23, A18, C19, rfl, hat24, h20, hl25, hr26⟩ := TR.node z17
  refine q_val F rfl rfl (by decide) (r_nil F rfl) fun a F => ?_
  refine q_val F rfl rfl (by decide) (r_fieldAddr F rfl ff_98_4) fun a F => ?_
  refine q_val F rfl rfl (by decide) (r_load F rfl ag_3 (AT.cell hat24 rfl)) fun a F => ?_
  refine q_val F rfl rfl (by decide) (r_assign F rfl) fun a F => ?_
  refine nil ?_
  refine hK9 _ _ ?_
  refine wp_ret ?_
  have H := Option.some.inj H
  subst H
  refine out1 F rfl rfl ?_
  exact ⟨fun b_ => (fun x_ => if x_ < m then x_ else 0) (c0 b_), rfl, E.leave B0 (fun x_ => if x_ < m then x_ else 0) (by intro x_ hx_; show (if x_ < m then x_ else 0) = x_; ((repeat' split) <;> omega)), (fun b_ hb_ => by show (if (c0 b_) < m then (c0 b_) else 0) < m; ((repeat' split) <;> omega))⟩
end Go.Proofs.Ytcolmmjcdlmcoaa.G
namespace Go.Proofs.Ytcolmmjcdlmcoaa.G
open Go Go.RowKit
set_option linter.unusedVariables false
set_option linter.unusedSimpArgs false
set_option maxRecDepth 100000 in
set_option maxHeartbeats 4000000 in
theorem tree_Tree_Depth.calls {m : Nat} {c0 : Nat → Nat} {w0 : World} {p2 : Option Addr} {a1 : Tr} (hm0 : 0 < m) (B0 : CB m c0 w0) (h3 : TR 0 c0 w0 p2 a1) (r : Int) (H : tree_Tree_Depth.f a1 = some r) : Calls Try.prog 85 #[.pointer p2] w0 (fun e w_ => ∃ (c_ : Nat → Nat), e = .returned (.int .i64 r) ∧ Ev (fun x => False) c0 w0 c_ w_ ∧ CB m c_ w_) := by
 unfold tree_Tree_Depth.f at H
 have B := B0.mono (show m ≤ m + 1 by omega)
 have E : Ev (fun x => False ∨ m ≤ x) c0 w0 c0 w0 := Ev.refl
 refine enter (N := 9) (l := [.pointer p2]) Try.func85 rfl rfl (Nat.le_of_ble_eq_true rfl) fun a F => ?_
 refine wp_seq_k fun K4 hK4 => ?_
 refine reg ?_
 refine q_val F rfl rfl (by decide) (r_assign F rfl) fun a F => ?_
 refine nil ?_
 refine hK4 _ _ ?_
 refine wp_seq_k fun K5 hK5 => ?_
 refine wp_seq_k fun K6 hK6 => ?_
 refine reg ?_
 refine q_val F rfl rfl (by decide) (r_move F rfl) fun a F => ?_
 refine q_val F rfl rfl (by decide) (r_peqlA F Try.underlying68 rfl rfl (TR.isNil h3)) fun a F => ?_
 refine nil ?_
 refine hK6 _ _ ?_
 by_cases hb7 : (Tr.isNil a1) = true
 ·have H := (if_pos hb7).symm.trans H
  refine wp_cond_true ((F.ev rfl).trans (congrArg Value.bool hb7)) ?_
  refine wp_seq_k fun K8 hK8 => ?_
  refine reg ?_
  refine q_val F rfl rfl (by decide) (r_assign F rfl) fun a F => ?_
  refine nil ?_
  refine hK8 _ _ ?_
  refine wp_ret ?_
  refine thenR ?_
  have H := Option.some.inj H
  subst H
  refine out1 F rfl rfl ?_
  exact ⟨fun b_ => (fun x_ => if x_ < m then x_ else 0) (c0 b_), rfl, E.leave B0 (fun x_ => if x_ < m then x_ else 0) (by intro x_ hx_; show (if x_ < m then x_ else 0) = x_; ((repeat' split) <;> omega)), (fun b_ hb_ => by show (if (c0 b_) < m then (c0 b_) else 0) < m; ((repeat' split) <;> omega))⟩
 ·have H := (if_neg hb7).symm.trans H
  refine wp_cond_false ((F.ev rfl).trans (congrArg Value.bool (bfalse hb7))) ?_
  refine wp_skip ?_
  refine hK5 _ _ ?_
  refine wp_seq_k fun K9 hK9 => ?_
  refine reg ?_
  refine q_val F rfl rfl (by decide) (r_move F rfl) fun a F => ?_
  obtain ⟨tl10, tr11, tk12, tv13, ts14, td15, e16, H⟩ := cs_some H
  have z17 := h3
  rw [e16] at z17
  obtain ⟨ad21, lp22, rp23, A18, C19, rfl, hat24, h20, hl25, hr26⟩ := TR.node z17
  refine q_val F rfl rfl (by decide) (r_nil F rfl) fun a F => ?_
  refine q_val F rfl rfl (by decide) (r_fieldAddr F rfl ff_98_5) fun a F => ?_
  refine q_val F rfl rfl (by decide) (r_load F rfl ag_3 (AT.cell hat24 rfl)) fun a F => ?_
  refine q_val F rfl rfl (by decide) (r_assign F rfl) fun a F => ?_
  refine nil ?_
  refine hK9 _ _ ?_
  refine wp_ret ?_
  have H := Option.some.inj H
  subst H
  refine out1 F rfl rfl ?_
  exact ⟨fun b_ => (fun x_ => if x_ < m then x_ else 0) (c0 b_), rfl, E.leave B0 (fun x_ => if x_ < m then x_ else 0) (by intro x_ hx_; show (if x_ < m then x_ else 0) = x_; ((repeat' split) <;> omega)), (fun b_ hb_ => by show (if (c0 b_) < m then (c0 b_) else 0) < m; ((repeat' split) <;> omega))⟩
end Go.Proofs.Ytcolmmjcdlmcoaa.G
namespace Go.Proofs.Ytcolmmjcdlmcoaa.G
open Go Go.RowKit
set_option linter.unusedVariables false
set_option linter.unusedSimpArgs false
set_option maxRecDepth 100000 in
set_option maxHeartbeats 4000000 in
theorem tree_node.calls {m : Nat} {c0 : Nat → Nat} {w0 : World} {p2 : Option Addr} {A6 : Option Addr} {C7 : Nat} {p10 : Option Addr} {a1 : Tr} {a4 : ByteArray} {a5 : table_cell} {a9 : Tr} (hm0 : 0 < m) (B0 : CB m c0 w0) (h3 : TR 0 c0 w0 p2 a1) (h8 : SL false (Kint .u8) 0 0 c0 w0 A6 C7 a5.value) (h11 : TR 0 c0 w0 p10 a9) (r : Tr) (H : tree_node.f a1 a4 a5 a9 = some r) : Calls Try.prog 79 #[.pointer p2, .string a4, .agg #[.slice A6 a5.value.length C7, .int .i64 a5.rev], .pointer p10] w0 (fun e w_ => ∃ (c_ : Nat → Nat) (P0_ : Option Addr), e = .returned (.pointer P0_) ∧ Ev (fun x => False) c0 w0 c_ w_ ∧ CB m c_ w_ ∧ TR 0 c_ w_ P0_ r) := by
 unfold tree_node.f at H
 have B := B0.mono (show m ≤ m + 2 by omega)
 have E : Ev (fun x => False ∨ m ≤ x) c0 w0 c0 w0 := Ev.refl
 refine enter (N := 27) (l := [.pointer p2, .string a4, .agg #[.slice A6 a5.value.length C7, .int .i64 a5.rev], .pointer p10]) Try.func79 rfl rfl (Nat.le_of_ble_eq_true rfl) fun a F => ?_
 refine wp_seq_k fun K12 hK12 => ?_
 refine reg ?_
 refine q_eff F rfl rfl (by decide) (e_box F (v := .agg #[.slice A6 a5.value.length C7, .int .i64 a5.rev]) rfl c0 (m + 1)) ?_
 rintro v w14 a ⟨c13, qa15, rfl, E16, h17, B18⟩ F
 have B := B18 _ B (by omega)
 have h3 := TR.ev h3 E16 (fun q => q.elim) (fun q => q.elim)
 have h8 := SL.ev h8 E16 (fun q => q.elim) (fun q => q.elim)
 have h11 := TR.ev h11 E16 (fun q => q.elim) (fun q => q.elim)
 have E := E.trans E16 (fun x q => q.elim)
 have h17 : AT true (m + 1) c13 w14 qa15 [.slice A6 a5.value.length C7, .int .i64 a5.rev] := h17
 refine q_val F rfl rfl (by decide) (r_assign F rfl) fun a F => ?_
 refine nil ?_
 refine hK12 _ _ ?_
 refine wp_seq_k fun K20 hK20 => ?_
 refine regD (SB No c13 w14) 19 (.q 0 (.q 1 (.q 2 (.q 3 (.q 4 (.q 7 (.q 10 (.q 12 (.e 5 (.q 6 (.e 8 (.q 9 (.e 11 (.e 13 (.q 14 (.q 15 (.q 16 (.e 17 (.q 18 .nil))))))))))))))))))) Try_hm (by decide +kernel) ?_
 intro w21 w1_ w2_ w3_ w4_
 have E22 : Ev No c13 w14 c13 w21 := Ev.same w1_ w2_ w3_ w4_
 have B := B.same w1_
 have zh3 := h3
 have zh8 := h8
 have zh11 := h11
 have zh17 := h17
 have ER : Ev No c13 w14 c13 w21 := Ev.same w1_ w2_ w3_ w4_
 have h3 := TR.ev h3 E22 (fun q => q.elim) (fun q => q.elim)
 have h8 := SL.ev h8 E22 (fun q => q.elim) (fun q => q.elim)
 have h11 := TR.ev h11 E22 (fun q => q.elim) (fun q => q.elim)
 have h17 := AT.ev h17 E22 (fun q => q.elim)
 have E := E.trans E22 (fun x q => q.elim)
 refine d_q F rfl rfl rfl (by decide) (fun wq hS => r_move F rfl) ER.sb fun a F => ?_
 refine d_q F rfl rfl rfl (by decide) (fun wq hS => r_move F rfl) ER.sb fun a F => ?_
 refine d_q F rfl rfl rfl (by decide) (fun wq hS => r_move F rfl) ER.sb fun a F => ?_
 refine d_q F rfl rfl rfl (by decide) (fun wq hS => r_loads (cs := [.slice A6 a5.value.length C7, .int .i64 a5.rev]) F rfl ag_66 sz_66 (AT.sb zh17 hS (fun q => q.elim))) ER.sb fun a F => ?_
 refine d_q F rfl rfl rfl (by decide) (fun wq hS => r_move F rfl) ER.sb fun a F => ?_
 refine d_q F rfl rfl rfl (by decide) (fun wq hS => r_move F rfl) ER.sb fun a F => ?_
 refine d_q F rfl rfl rfl (by decide) (fun wq hS => r_move F rfl) ER.sb fun a F => ?_
 refine d_q F rfl rfl rfl (by decide) (fun wq hS => r_move F rfl) ER.sb fun a F => ?_
 refine d_e ?_
 obtain ⟨t23, q24, H⟩ := bind_some H
 refine o_call F rfl (wanted_none rfl) rfl (by decide) (r_call F Try.func46 rfl (by kernel_rfl) rfl) (tree_Tree_Len.calls (m := m + 2) (by omega) B h3 _ q24) ?_
 rintro e w26 ⟨c25, rfl, E27, B28⟩
 refine ⟨_, rfl, fun a F => ?_⟩
 have B := B28
 have ER := ER.trans E27 (fun x q => q.elim)
 have h3 := TR.ev h3 E27 (fun q => q.elim) (fun q => q.elim)
 have h8 := SL.ev h8 E27 (fun q => q.elim) (fun q => q.elim)
 have h11 := TR.ev h11 E27 (fun q => q.elim) (fun q => q.elim)
 have h17 := AT.ev h17 E27 (fun q => q.elim)
 have E := E.trans E27 (fun x q => q.elim)
 refine ⟨fun _ => ER.sb, ?_⟩
 refine d_q F rfl rfl rfl (by decide) (fun wq hS => r_add F rfl rfl) ER.sb fun a F => ?_
 refine d_e ?_
 obtain ⟨t30, q31, H⟩ := bind_some H
 refine o_call F rfl (wanted_none rfl) rfl (by decide) (r_call F Try.func46 rfl (by kernel_rfl) rfl) (tree_Tree_Len.calls (m := m + 2) (by omega) B h11 _ q31) ?_
 rintro e w33 ⟨c32, rfl, E34, B35⟩
 refine ⟨_, rfl, fun a F => ?_⟩
 have B := B35
 have ER := ER.trans E34 (fun x q => q.elim)
 have h3 := TR.ev h3 E34 (fun q => q.elim) (fun q => q.elim)
 have h8 := SL.ev h8 E34 (fun q => q.elim) (fun q => q.elim)
 have h11 := TR.ev h11 E34 (fun q => q.elim) (fun q => q.elim)
 have h17 := AT.ev h17 E34 (fun q => q.elim)
 have E := E.trans E34 (fun x q => q.elim)
 refine ⟨fun _ => ER.sb, ?_⟩
 refine d_q F rfl rfl rfl (by decide) (fun wq hS => r_add F rfl rfl) ER.sb fun a F => ?_
 refine d_e ?_
 obtain ⟨t37, q38, H⟩ := bind_some H
 refine o_call F rfl (wanted_none rfl) rfl (by decide) (r_call F Try.func85 rfl (by kernel_rfl) rfl) (tree_Tree_Depth.calls (m := m + 2) (by omega) B h3 _ q38) ?_
 rintro e w40 ⟨c39, rfl, E41, B42⟩
 refine ⟨_, rfl, fun a F => ?_⟩
 have B := B42
 have ER := ER.trans E41 (fun x q => q.elim)
 have h3 := TR.ev h3 E41 (fun q => q.elim) (fun q => q.elim)
 have h8 := SL.ev h8 E41 (fun q => q.elim) (fun q => q.elim)
 have h11 := TR.ev h11 E41 (fun q => q.elim) (fun q => q.elim)
 have h17 := AT.ev h17 E41 (fun q => q.elim)
 have E := E.trans E41 (fun x q => q.elim)
 refine ⟨fun _ => ER.sb, ?_⟩
 refine d_e ?_
 obtain ⟨t44, q45, H⟩ := bind_some H
 refine o_call F rfl (wanted_none rfl) rfl (by decide) (r_call F Try.func85 rfl (by kernel_rfl) rfl) (tree_Tree_Depth.calls (m := m + 2) (by omega) B h11 _ q45) ?_
 rintro e w47 ⟨c46, rfl, E48, B49⟩
 refine ⟨_, rfl, fun a F => ?_⟩
 have B := B49
 have ER := ER.trans E48 (fun x q => q.elim)
 have h3 := TR.ev h3 E48 (fun q => q.elim) (fun q => q.elim)
 have h8 := SL.ev h8 E48 (fun q => q.elim) (fun q => q.elim)
 have h11 := TR.ev h11 E48 (fun q => q.elim) (fun q => q.elim)
 have h17 := AT.ev h17 E48 (fun q => q.elim)
 have E := E.trans E48 (fun x q => q.elim)
 refine ⟨fun _ => ER.sb, ?_⟩
 refine d_q F rfl rfl rfl (by decide) (fun wq hS => r_max F rfl rfl) ER.sb fun a F => ?_
 refine d_q F rfl rfl rfl (by decide) (fun wq hS => r_add F rfl rfl) ER.sb fun a F => ?_
 refine d_q F rfl rfl rfl (by decide) (fun wq hS => r_build (v := .agg #[.pointer p2, .pointer p10, .string a4, .slice A6 a5.value.length C7, .int .i64 a5.rev, .int .i64 (IntKind.i64.wrap ((IntKind.i64.wrap (t23 + 1)) + t30)), .int .i64 (IntKind.i64.wrap (1 + (max t37 t44)))]) F [(0, .pointer p2), (1, .pointer p10), (2, .string a4), (3, .agg #[.slice A6 a5.value.length C7, .int .i64 a5.rev]), (4, .int .i64 (IntKind.i64.wrap ((IntKind.i64.wrap (t23 + 1)) + t30))), (5, .int .i64 (IntKind.i64.wrap (1 + (max t37 t44))))] (by exact ⟨rfl, rfl, rfl, rfl, rfl, rfl, rfl, rfl, rfl, rfl, rfl, rfl, trivial⟩) (fun w => by kernel_rfl)) ER.sb fun a F => ?_
 refine d_e ?_
 refine o_eff F rfl rfl rfl (by decide) (e_box F (v := .agg #[.pointer p2, .pointer p10, .string a4, .slice A6 a5.value.length C7, .int .i64 a5.rev, .int .i64 (IntKind.i64.wrap ((IntKind.i64.wrap (t23 + 1)) + t30)), .int .i64 (IntKind.i64.wrap (1 + (max t37 t44)))]) rfl c46 0) ?_
 rintro v w52 a ⟨c51, qa53, rfl, E54, h55, B56⟩ F
 have B := B56 _ B (by omega)
 have ER := ER.trans E54 (fun x q => q.elim)
 have h3 := TR.ev h3 E54 (fun q => q.elim) (fun q => q.elim)
 have h8 := SL.ev h8 E54 (fun q => q.elim) (fun q => q.elim)
 have h11 := TR.ev h11 E54 (fun q => q.elim) (fun q => q.elim)
 have h17 := AT.ev h17 E54 (fun q => q.elim)
 have E := E.trans E54 (fun x q => q.elim)
 have h55 : AT true 0 c51 w52 qa53 [.pointer p2, .pointer p10, .string a4, .slice A6 a5.value.length C7, .int .i64 a5.rev, .int .i64 (IntKind.i64.wrap ((IntKind.i64.wrap (t23 + 1)) + t30)), .int .i64 (IntKind.i64.wrap (1 + (max t37 t44)))] := h55
 refine ⟨fun _ => ER.sb, ?_⟩
 refine d_q F rfl rfl rfl (by decide) (fun wq hS => r_assign F rfl) ER.sb fun a F => ?_
 refine d_nil ?_
 refine hK20 _ _ ?_
 refine wp_ret ?_
 have h58 : TR 0 c51 w52 (some qa53) (Tr.node a1 a9 a4 a5 (IntKind.i64.wrap ((IntKind.i64.wrap (t23 + 1)) + t30)) (IntKind.i64.wrap (1 + (max t37 t44)))) := TR.mk h55.r h8 h3 h11
 have H := Option.some.inj H
 subst H
 refine out1 F rfl rfl ?_
 exact ⟨fun b_ => (fun x_ => if x_ < m then x_ else 0) (c51 b_), (some qa53), rfl, E.leave B0 (fun x_ => if x_ < m then x_ else 0) (by intro x_ hx_; show (if x_ < m then x_ else 0) = x_; ((repeat' split) <;> omega)), (fun b_ hb_ => by show (if (c51 b_) < m then (c51 b_) else 0) < m; ((repeat' split) <;> omega)), TR.rc h58 (fun k_ hk_ => by show (if (c51 k_) < m then (c51 k_) else 0) = _; rw [hk_]; ((repeat' split) <;> omega)) (fun k_ hk_ => by show (if (c51 k_) < m then (c51 k_) else 0) = _; rw [hk_]; ((repeat' split) <;> omega))⟩
end Go.Proofs.Ytcolmmjcdlmcoaa.G
namespace Go.Proofs.Ytcolmmjcdlmcoaa.G
open Go Go.RowKit
set_option linter.unusedVariables false
set_option linter.unusedSimpArgs false
set_option maxRecDepth 100000 in
set_option maxHeartbeats 4000000 in
theorem tree_turnLeft.calls {m : Nat} {c0 : Nat → Nat} {w0 : World} {p2 : Option Addr} {a1 : Tr} (hm0 : 0 < m) (B0 : CB m c0 w0) (h3 : TR 0 c0 w0 p2 a1) (r : Tr) (H : tree_turnLeft.f a1 = some r) : Calls Try.prog 87 #[.pointer p2] w0 (fun e w_ => ∃ (c_ : Nat → Nat) (P0_ : Option Addr), e = .returned (.pointer P0_) ∧ Ev (fun x => False) c0 w0 c_ w_ ∧ CB m c_ w_ ∧ TR 0 c_ w_ P0_ r) := by
 unfold tree_turnLeft.f at H
 have B := B0.mono (show m ≤ m + 1 by omega)
 have E : Ev (fun x => False ∨ m ≤ x) c0 w0 c0 w0 := Ev.refl
 refine enter (N := 38) (l := [.pointer p2]) Try.func87 rfl rfl (Nat.le_of_ble_eq_true rfl) fun a F => ?_
 refine wp_seq_k fun K4 hK4 => ?_
 refine reg ?_
 refine q_val F rfl rfl (by decide) (r_assign F rfl) fun a F => ?_
 refine nil ?_
 refine hK4 _ _ ?_
 refine wp_seq_k fun K5 hK5 => ?_
 refine reg ?_
 refine q_val F rfl rfl (by decide) (r_move F rfl) fun a F => ?_
 obtain ⟨tl6, tr7, tk8, tv9, ts10, td11, e12, H⟩ := cs_some H
 have z13 := h3
 rw [e12] at z13
 obtain ⟨ad17, lp18, rp19, A14, C15, rfl, hat20, h16, hl21, hr22⟩ := TR.node z13
 refine q_val F rfl rfl (by decide) (r_nil F rfl) fun a F => ?_
 refine q_val F rfl rfl (by decide) (r_fieldAddr F rfl ff_98_1) fun a F => ?_
 refine q_val F rfl rfl (by decide) (r_load F rfl ag_68 (AT.cell hat20 rfl)) fun a F => ?_
 refine q_val F rfl rfl (by decide) (r_assign F rfl) fun a F => ?_
 refine nil ?_
 refine hK5 _ _ ?_
 refine wp_seq_k fun K24 hK24 => ?_
 refine regD (SB No c0 w0) 31 (.q 0 (.q 1 (.q 2 (.q 3 (.q 4 (.q 5 (.q 6 (.q 7 (.q 8 (.q 9 (.q 10 (.q 11 (.q 12 (.q 13 (.q 14 (.q 15 (.q 17 (.q 18 (.q 19 (.q 20 (.q 21 (.q 22 (.q 23 (.q 24 (.q 25 (.q 26 (.q 27 (.q 28 (.e 16 (.e 29 (.q 30 .nil))))))))))))))))))))))))))))))) Try_hm (by decide +kernel) ?_
 intro w25 w1_ w2_ w3_ w4_
 have E26 : Ev No c0 w0 c0 w25 := Ev.same w1_ w2_ w3_ w4_
 have B := B.same w1_
 have zh3 := h3
 have zh16 := h16
 have zhl21 := hl21
 have zhr22 := hr22
 have zhat20 := hat20
 have ER : Ev No c0 w0 c0 w25 := Ev.same w1_ w2_ w3_ w4_
 have h3 := TR.ev h3 E26 (fun q => q.elim) (fun q => q.elim)
 have h16 := SL.ev h16 E26 (fun q => q.elim) (fun q => q.elim)
 have hl21 := TR.ev hl21 E26 (fun q => q.elim) (fun q => q.elim)
 have hr22 := TR.ev hr22 E26 (fun q => q.elim) (fun q => q.elim)
 have hat20 := AT.ev hat20 E26 (fun q => q.elim)
 have E := E.trans E26 (fun x q => q.elim)
 refine d_q F rfl rfl rfl (by decide) (fun wq hS => r_move F rfl) ER.sb fun a F => ?_
 refine d_q F rfl rfl rfl (by decide) (fun wq hS => r_nil F rfl) ER.sb fun a F => ?_
 refine d_q F rfl rfl rfl (by decide) (fun wq hS => r_fieldAddr F rfl ff_98_0) ER.sb fun a F => ?_
 refine d_q F rfl rfl rfl (by decide) (fun wq hS => r_load F rfl ag_68 (AT.cell (AT.sb zhat20 hS (fun q => q.elim)) rfl)) ER.sb fun a F => ?_
 refine d_q F rfl rfl rfl (by decide) (fun wq hS => r_move F rfl) ER.sb fun a F => ?_
 refine d_q F rfl rfl rfl (by decide) (fun wq hS => r_nil F rfl) ER.sb fun a F => ?_
 refine d_q F rfl rfl rfl (by decide) (fun wq hS => r_fieldAddr F rfl ff_98_2) ER.sb fun a F => ?_
 refine d_q F rfl rfl rfl (by decide) (fun wq hS => r_load F rfl ag_9 (AT.cell (AT.sb zhat20 hS (fun q => q.elim)) rfl)) ER.sb fun a F => ?_
 refine d_q F rfl rfl rfl (by decide) (fun wq hS => r_move F rfl) ER.sb fun a F => ?_
 refine d_q F rfl rfl rfl (by decide) (fun wq hS => r_nil F rfl) ER.sb fun a F => ?_
 refine d_q F rfl rfl rfl (by decide) (fun wq hS => r_fieldAddr F rfl ff_98_3) ER.sb fun a F => ?_
 refine d_q F rfl rfl rfl (by decide) (fun wq hS => r_loads (cs := [.slice A14 tv9.value.length C15, .int .i64 tv9.rev]) F rfl ag_66 sz_66 (AT.sub (AT.sb zhat20 hS (fun q => q.elim)) 3 2 (Nat.le_of_ble_eq_true rfl))) ER.sb fun a F => ?_
 refine d_q F rfl rfl rfl (by decide) (fun wq hS => r_move F rfl) ER.sb fun a F => ?_
 obtain ⟨tl27, tr28, tk29, tv30, ts31, td32, e33, H⟩ := cs_some H
 have z34 := zhr22
 rw [e33] at z34
 obtain ⟨ad38, lp39, rp40, A35, C36, rfl, hat41, h37, hl42, hr43⟩ := TR.node z34
 have zh37 := h37
 have h37 := SL.ev h37 ER (fun q => q.elim) (fun q => q.elim)
 have zhl42 := hl42
 have hl42 := TR.ev hl42 ER (fun q => q.elim) (fun q => q.elim)
 have zhr43 := hr43
 have hr43 := TR.ev hr43 ER (fun q => q.elim) (fun q => q.elim)
 have zhat41 := hat41
 have hat41 := AT.ev hat41 ER (fun q => q.elim)
 refine d_q F rfl rfl rfl (by decide) (fun wq hS => r_nil F rfl) ER.sb fun a F => ?_
 refine d_q F rfl rfl rfl (by decide) (fun wq hS => r_fieldAddr F rfl ff_98_0) ER.sb fun a F => ?_
 refine d_q F rfl rfl rfl (by decide) (fun wq hS => r_load F rfl ag_68 (AT.cell (AT.sb zhat41 hS (fun q => q.elim)) rfl)) ER.sb fun a F => ?_
 refine d_q F rfl rfl rfl (by decide) (fun wq hS => r_move F rfl) ER.sb fun a F => ?_
 refine d_q F rfl rfl rfl (by decide) (fun wq hS => r_nil F rfl) ER.sb fun a F => ?_
 refine d_q F rfl rfl rfl (by decide) (fun wq hS => r_fieldAddr F rfl ff_98_2) ER.sb fun a F => ?_
 refine d_q F rfl rfl rfl (by decide) (fun wq hS => r_load F rfl ag_9 (AT.cell (AT.sb zhat41 hS (fun q => q.elim)) rfl)) ER.sb fun a F => ?_
 refine d_q F rfl rfl rfl (by decide) (fun wq hS => r_move F rfl) ER.sb fun a F => ?_
 refine d_q F rfl rfl rfl (by decide) (fun wq hS => r_nil F rfl) ER.sb fun a F => ?_
 refine d_q F rfl rfl rfl (by decide) (fun wq hS => r_fieldAddr F rfl ff_98_3) ER.sb fun a F => ?_
 refine d_q F rfl rfl rfl (by decide) (fun wq hS => r_loads (cs := [.slice A35 tv30.value.length C36, .int .i64 tv30.rev]) F rfl ag_66 sz_66 (AT.sub (AT.sb zhat41 hS (fun q => q.elim)) 3 2 (Nat.le_of_ble_eq_true rfl))) ER.sb fun a F => ?_
 refine d_q F rfl rfl rfl (by decide) (fun wq hS => r_move F rfl) ER.sb fun a F => ?_
 refine d_q F rfl rfl rfl (by decide) (fun wq hS => r_nil F rfl) ER.sb fun a F => ?_
 refine d_q F rfl rfl rfl (by decide) (fun wq hS => r_fieldAddr F rfl ff_98_1) ER.sb fun a F => ?_
 refine d_q F rfl rfl rfl (by decide) (fun wq hS => r_load F rfl ag_68 (AT.cell (AT.sb zhat41 hS (fun q => q.elim)) rfl)) ER.sb fun a F => ?_
 refine d_e ?_
 obtain ⟨t45, q46, H⟩ := bind_some H
 refine o_call F rfl (wanted_none rfl) rfl (by decide) (r_call F Try.func79 rfl (by kernel_rfl) rfl) (tree_node.calls (m := m + 1) (by omega) B hl21 h16 hl42 _ q46) ?_
 rintro e w48 ⟨c47, p51, rfl, E49, B50, h52⟩
 refine ⟨_, rfl, fun a F => ?_⟩
 have B := B50
 have ER := ER.trans E49 (fun x q => q.elim)
 have h3 := TR.ev h3 E49 (fun q => q.elim) (fun q => q.elim)
 have h16 := SL.ev h16 E49 (fun q => q.elim) (fun q => q.elim)
 have hl21 := TR.ev hl21 E49 (fun q => q.elim) (fun q => q.elim)
 have hr22 := TR.ev hr22 E49 (fun q => q.elim) (fun q => q.elim)
 have hat20 := AT.ev hat20 E49 (fun q => q.elim)
 have h37 := SL.ev h37 E49 (fun q => q.elim) (fun q => q.elim)
 have hl42 := TR.ev hl42 E49 (fun q => q.elim) (fun q => q.elim)
 have hr43 := TR.ev hr43 E49 (fun q => q.elim) (fun q => q.elim)
 have hat41 := AT.ev hat41 E49 (fun q => q.elim)
 have E := E.trans E49 (fun x q => q.elim)
 refine ⟨fun _ => ER.sb, ?_⟩
 refine d_e ?_
 obtain ⟨t54, q55, H⟩ := bind_some H
 refine o_call F rfl (wanted_none rfl) rfl (by decide) (r_call F Try.func79 rfl (by kernel_rfl) rfl) (tree_node.calls (m := m + 1) (by omega) B h52 h37 hr43 _ q55) ?_
 rintro e w57 ⟨c56, p60, rfl, E58, B59, h61⟩
 refine ⟨_, rfl, fun a F => ?_⟩
 have B := B59
 have ER := ER.trans E58 (fun x q => q.elim)
 have h3 := TR.ev h3 E58 (fun q => q.elim) (fun q => q.elim)
 have h16 := SL.ev h16 E58 (fun q => q.elim) (fun q => q.elim)
 have hl21 := TR.ev hl21 E58 (fun q => q.elim) (fun q => q.elim)
 have hr22 := TR.ev hr22 E58 (fun q => q.elim) (fun q => q.elim)
 have hat20 := AT.ev hat20 E58 (fun q => q.elim)
 have h37 := SL.ev h37 E58 (fun q => q.elim) (fun q => q.elim)
 have hl42 := TR.ev hl42 E58 (fun q => q.elim) (fun q => q.elim)
 have hr43 := TR.ev hr43 E58 (fun q => q.elim) (fun q => q.elim)
 have hat41 := AT.ev hat41 E58 (fun q => q.elim)
 have h52 := TR.ev h52 E58 (fun q => q.elim) (fun q => q.elim)
 have E := E.trans E58 (fun x q => q.elim)
 refine ⟨fun _ => ER.sb, ?_⟩
 refine d_q F rfl rfl rfl (by decide) (fun wq hS => r_assign F rfl) ER.sb fun a F => ?_
 refine d_nil ?_
 refine hK24 _ _ ?_
 refine wp_ret ?_
 have H := Option.some.inj H
 subst H
 refine out1 F rfl rfl ?_
 exact ⟨fun b_ => (fun x_ => if x_ < m then x_ else 0) (c56 b_), p60, rfl, E.leave B0 (fun x_ => if x_ < m then x_ else 0) (by intro x_ hx_; show (if x_ < m then x_ else 0) = x_; ((repeat' split) <;> omega)), (fun b_ hb_ => by show (if (c56 b_) < m then (c56 b_) else 0) < m; ((repeat' split) <;> omega)), TR.rc h61 (fun k_ hk_ => by show (if (c56 k_) < m then (c56 k_) else 0) = _; rw [hk_]; ((repeat' split) <;> omega)) (fun k_ hk_ => by show (if (c56 k_) < m then (c56 k_) else 0) = _; rw [hk_]; ((repeat' split) <;> omega))⟩
end Go.Proofs.Ytcolmmjcdlmcoaa.G
namespace Go.Proofs.Ytcolmmjcdlmcoaa.G
open Go Go.RowKit
set_option linter.unusedVariables false
set_option linter.unusedSimpArgs false
set_option maxRecDepth 100000 in
set_option maxHeartbeats 4000000 in
theorem tree_turnRight.calls {m : Nat} {c0 : Nat → Nat} {w0 : World} {p2 : Option Addr} {a1 : Tr} (hm0 : 0 < m) (B0 : CB m c0 w0) (h3 : TR 0 c0 w0 p2 a1) (r : Tr) (H : tree_turnRight.f a1 = some r) : Calls Try.prog 86 #[.pointer p2] w0 (fun e w_ => ∃ (c_ : Nat → Nat) (P0_ : Option Addr), e = .returned (.pointer P0_) ∧ Ev (fun x => False) c0 w0 c_ w_ ∧ CB m c_ w_ ∧ TR 0 c_ w_ P0_ r) := by
 unfold tree_turnRight.f at H
 have B := B0.mono (show m ≤ m + 1 by omega)
 have E : Ev (fun x => False ∨ m ≤ x) c0 w0 c0 w0 := Ev.refl
 refine enter (N := 38) (l := [.pointer p2]) Try.func86 rfl rfl (Nat.le_of_ble_eq_true rfl) fun a F => ?_
 refine wp_seq_k fun K4 hK4 => ?_
 refine reg ?_
 refine q_val F rfl rfl (by decide) (r_assign F rfl) fun a F => ?_
 refine nil ?_
 refine hK4 _ _ ?_
 refine wp_seq_k fun K5 hK5 => ?_
 refine reg ?_
 refine q_val F rfl rfl (by decide) (r_move F rfl) fun a F => ?_
 obtain ⟨tl6, tr7, tk8, tv9, ts10, td11, e12, H⟩ := cs_some H
 have z13 := h3
 rw [e12] at z13
 obtain ⟨ad17, lp18, rp19, A14, C15, rfl, hat20, h16, hl21, hr22⟩ := TR.node z13
 refine q_val F rfl rfl (by decide) (r_nil F rfl) fun a F => ?_
 refine q_val F rfl rfl (by decide) (r_fieldAddr F rfl ff_98_0) fun a F => ?_
 refine q_val F rfl rfl (by decide) (r_load F rfl ag_68 (AT.cell hat20 rfl)) fun a F => ?_
 refine q_val F rfl rfl (by decide) (r_assign F rfl) fun a F => ?_
 refine nil ?_
 refine hK5 _ _ ?_
 refine wp_seq_k fun K24 hK24 => ?_
 refine regD (SB No c0 w0) 31 (.q 0 (.q 1 (.q 2 (.q 3 (.q 4 (.q 5 (.q 6 (.q 7 (.q 8 (.q 9 (.q 10 (.q 11 (.q 12 (.q 13 (.q 14 (.q 15 (.q 16 (.q 17 (.q 18 (.q 19 (.q 20 (.q 21 (.q 22 (.q 23 (.q 24 (.q 25 (.q 26 (.q 27 (.e 28 (.e 29 (.q 30 .nil))))))))))))))))))))))))))))))) Try_hm (by decide +kernel) ?_
 intro w25 w1_ w2_ w3_ w4_
 have E26 : Ev No c0 w0 c0 w25 := Ev.same w1_ w2_ w3_ w4_
 have B := B.same w1_
 have zh3 := h3
 have zh16 := h16
 have zhl21 := hl21
 have zhr22 := hr22
 have zhat20 := hat20
 have ER : Ev No c0 w0 c0 w25 := Ev.same w1_ w2_ w3_ w4_
 have h3 := TR.ev h3 E26 (fun q => q.elim) (fun q => q.elim)
 have h16 := SL.ev h16 E26 (fun q => q.elim) (fun q => q.elim)
 have hl21 := TR.ev hl21 E26 (fun q => q.elim) (fun q => q.elim)
 have hr22 := TR.ev hr22 E26 (fun q => q.elim) (fun q => q.elim)
 have hat20 := AT.ev hat20 E26 (fun q => q.elim)
 have E := E.trans E26 (fun x q => q.elim)
 refine d_q F rfl rfl rfl (by decide) (fun wq hS => r_move F rfl) ER.sb fun a F => ?_
 obtain ⟨tl27, tr28, tk29, tv30, ts31, td32, e33, H⟩ := cs_some H
 have z34 := zhl21
 rw [e33] at z34
 obtain ⟨ad38, lp39, rp40, A35, C36, rfl, hat41, h37, hl42, hr43⟩ := TR.node z34
 have zh37 := h37
 have h37 := SL.ev h37 ER (fun q => q.elim) (fun q => q.elim)
 have zhl42 := hl42
 have hl42 := TR.ev hl42 ER (fun q => q.elim) (fun q => q.elim)
 have zhr43 := hr43
 have hr43 := TR.ev hr43 ER (fun q => q.elim) (fun q => q.elim)
 have zhat41 := hat41
 have hat41 := AT.ev hat41 ER (fun q => q.elim)
 refine d_q F rfl rfl rfl (by decide) (fun wq hS => r_nil F rfl) ER.sb fun a F => ?_
 refine d_q F rfl rfl rfl (by decide) (fun wq hS => r_fieldAddr F rfl ff_98_0) ER.sb fun a F => ?_
 refine d_q F rfl rfl rfl (by decide) (fun wq hS => r_load F rfl ag_68 (AT.cell (AT.sb zhat41 hS (fun q => q.elim)) rfl)) ER.sb fun a F => ?_
 refine d_q F rfl rfl rfl (by decide) (fun wq hS => r_move F rfl) ER.sb fun a F => ?_
 refine d_q F rfl rfl rfl (by decide) (fun wq hS => r_nil F rfl) ER.sb fun a F => ?_
 refine d_q F rfl rfl rfl (by decide) (fun wq hS => r_fieldAddr F rfl ff_98_2) ER.sb fun a F => ?_
 refine d_q F rfl rfl rfl (by decide) (fun wq hS => r_load F rfl ag_9 (AT.cell (AT.sb zhat41 hS (fun q => q.elim)) rfl)) ER.sb fun a F => ?_
 refine d_q F rfl rfl rfl (by decide) (fun wq hS => r_move F rfl) ER.sb fun a F => ?_
 refine d_q F rfl rfl rfl (by decide) (fun wq hS => r_nil F rfl) ER.sb fun a F => ?_
 refine d_q F rfl rfl rfl (by decide) (fun wq hS => r_fieldAddr F rfl ff_98_3) ER.sb fun a F => ?_
 refine d_q F rfl rfl rfl (by decide) (fun wq hS => r_loads (cs := [.slice A35 tv30.value.length C36, .int .i64 tv30.rev]) F rfl ag_66 sz_66 (AT.sub (AT.sb zhat41 hS (fun q => q.elim)) 3 2 (Nat.le_of_ble_eq_true rfl))) ER.sb fun a F => ?_
 refine d_q F rfl rfl rfl (by decide) (fun wq hS => r_move F rfl) ER.sb fun a F => ?_
 refine d_q F rfl rfl rfl (by decide) (fun wq hS => r_nil F rfl) ER.sb fun a F => ?_
 refine d_q F rfl rfl rfl (by decide) (fun wq hS => r_fieldAddr F rfl ff_98_1) ER.sb fun a F => ?_
 refine d_q F rfl rfl rfl (by decide) (fun wq hS => r_load F rfl ag_68 (AT.cell (AT.sb zhat41 hS (fun q => q.elim)) rfl)) ER.sb fun a F => ?_
 refine d_q F rfl rfl rfl (by decide) (fun wq hS => r_move F rfl) ER.sb fun a F => ?_
 refine d_q F rfl rfl rfl (by decide) (fun wq hS => r_nil F rfl) ER.sb fun a F => ?_
 refine d_q F rfl rfl rfl (by decide) (fun wq hS => r_fieldAddr F rfl ff_98_2) ER.sb fun a F => ?_
 refine d_q F rfl rfl rfl (by decide) (fun wq hS => r_load F rfl ag_9 (AT.cell (AT.sb zhat20 hS (fun q => q.elim)) rfl)) ER.sb fun a F => ?_
 refine d_q F rfl rfl rfl (by decide) (fun wq hS => r_move F rfl) ER.sb fun a F => ?_
 refine d_q F rfl rfl rfl (by decide) (fun wq hS => r_nil F rfl) ER.sb fun a F => ?_
 refine d_q F rfl rfl rfl (by decide) (fun wq hS => r_fieldAddr F rfl ff_98_3) ER.sb fun a F => ?_
 refine d_q F rfl rfl rfl (by decide) (fun wq hS => r_loads (cs := [.slice A14 tv9.value.length C15, .int .i64 tv9.rev]) F rfl ag_66 sz_66 (AT.sub (AT.sb zhat20 hS (fun q => q.elim)) 3 2 (Nat.le_of_ble_eq_true rfl))) ER.sb fun a F => ?_
 refine d_q F rfl rfl rfl (by decide) (fun wq hS => r_move F rfl) ER.sb fun a F => ?_
 refine d_q F rfl rfl rfl (by decide) (fun wq hS => r_nil F rfl) ER.sb fun a F => ?_
 refine d_q F rfl rfl rfl (by decide) (fun wq hS => r_fieldAddr F rfl ff_98_1) ER.sb fun a F => ?_
 refine d_q F rfl rfl rfl (by decide) (fun wq hS => r_load F rfl ag_68 (AT.cell (AT.sb zhat20 hS (fun q => q.elim)) rfl)) ER.sb fun a F => ?_
 refine d_e ?_
 obtain ⟨t45, q46, H⟩ := bind_some H
 refine o_call F rfl (wanted_none rfl) rfl (by decide) (r_call F Try.func79 rfl (by kernel_rfl) rfl) (tree_node.calls (m := m + 1) (by omega) B hr43 h16 hr22 _ q46) ?_
 rintro e w48 ⟨c47, p51, rfl, E49, B50, h52⟩
 refine ⟨_, rfl, fun a F => ?_⟩
 have B := B50
 have ER := ER.trans E49 (fun x q => q.elim)
 have h3 := TR.ev h3 E49 (fun q => q.elim) (fun q => q.elim)
 have h16 := SL.ev h16 E49 (fun q => q.elim) (fun q => q.elim)
 have hl21 := TR.ev hl21 E49 (fun q => q.elim) (fun q => q.elim)
 have hr22 := TR.ev hr22 E49 (fun q => q.elim) (fun q => q.elim)
 have hat20 := AT.ev hat20 E49 (fun q => q.elim)
 have h37 := SL.ev h37 E49 (fun q => q.elim) (fun q => q.elim)
 have hl42 := TR.ev hl42 E49 (fun q => q.elim) (fun q => q.elim)
 have hr43 := TR.ev hr43 E49 (fun q => q.elim) (fun q => q.elim)
 have hat41 := AT.ev hat41 E49 (fun q => q.elim)
 have E := E.trans E49 (fun x q => q.elim)
 refine ⟨fun _ => ER.sb, ?_⟩
 refine d_e ?_
 obtain ⟨t54, q55, H⟩ := bind_some H
 refine o_call F rfl (wanted_none rfl) rfl (by decide) (r_call F Try.func79 rfl (by kernel_rfl) rfl) (tree_node.calls (m := m + 1) (by omega) B hl42 h37 h52 _ q55) ?_
 rintro e w57 ⟨c56, p60, rfl, E58, B59, h61⟩
 refine ⟨_, rfl, fun a F => ?_⟩
 have B := B59
 have ER := ER.trans E58 (fun x q => q.elim)
 have h3 := TR.ev h3 E58 (fun q => q.elim) (fun q => q.elim)
 have h16 := SL.ev h16 E58 (fun q => q.elim) (fun q => q.elim)
 have hl21 := TR.ev hl21 E58 (fun q => q.elim) (fun q => q.elim)
 have hr22 := TR.ev hr22 E58 (fun q => q.elim) (fun q => q.elim)
 have hat20 := AT.ev hat20 E58 (fun q => q.elim)
 have h37 := SL.ev h37 E58 (fun q => q.elim) (fun q => q.elim)
 have hl42 := TR.ev hl42 E58 (fun q => q.elim) (fun q => q.elim)
 have hr43 := TR.ev hr43 E58 (fun q => q.elim) (fun q => q.elim)
 have hat41 := AT.ev hat41 E58 (fun q => q.elim)
 have h52 := TR.ev h52 E58 (fun q => q.elim) (fun q => q.elim)
 have E := E.trans E58 (fun x q => q.elim)
 refine ⟨fun _ => ER.sb, ?_⟩
 refine d_q F rfl rfl rfl (by decide) (fun wq hS => r_assign F rfl) ER.sb fun a F => ?_
 refine d_nil ?_
 refine hK24 _ _ ?_
 refine wp_ret ?_
 have H := Option.some.inj H
 subst H
 refine out1 F rfl rfl ?_
 exact ⟨fun b_ => (fun x_ => if x_ < m then x_ else 0) (c56 b_), p60, rfl, E.leave B0 (fun x_ => if x_ < m then x_ else 0) (by intro x_ hx_; show (if x_ < m then x_ else 0) = x_; ((repeat' split) <;> omega)), (fun b_ hb_ => by show (if (c56 b_) < m then (c56 b_) else 0) < m; ((repeat' split) <;> omega)), TR.rc h61 (fun k_ hk_ => by show (if (c56 k_) < m then (c56 k_) else 0) = _; rw [hk_]; ((repeat' split) <;> omega)) (fun k_ hk_ => by show (if (c56 k_) < m then (c56 k_) else 0) = _; rw [hk_]; ((repeat' split) <;> omega))⟩
end Go.Proofs.Ytcolmmjcdlmcoaa.G
namespace Go.Proofs.Ytcolmmjcdlmcoaa.G
open Go Go.RowKit
set_option linter.unusedVariables false
set_option linter.unusedSimpArgs false
set_option maxRecDepth 100000 in
set_option maxHeartbeats 4000000 in
theorem tree_join.calls (k : Nat) : ∀ {m : Nat} {c0 : Nat → Nat} {w0 : World} {p2 : Option Addr} {A6 : Option Addr} {C7 : Nat} {p10 : Option Addr} {a1 : Tr} {a4 : ByteArray} {a5 : table_cell} {a9 : Tr} (hm0 : 0 < m) (B0 : CB m c0 w0) (h3 : TR 0 c0 w0 p2 a1) (h8 : SL false (Kint .u8) 0 0 c0 w0 A6 C7 a5.value) (h11 : TR 0 c0 w0 p10 a9) (r : Tr) (H : tree_join.f k a1 a4 a5 a9 = some r), Calls Try.prog 77 #[.pointer p2, .string a4, .agg #[.slice A6 a5.value.length C7, .int .i64 a5.rev], .pointer p10] w0 (fun e w_ => ∃ (c_ : Nat → Nat) (P0_ : Option Addr), e = .returned (.pointer P0_) ∧ Ev (fun x => False) c0 w0 c_ w_ ∧ CB m c_ w_ ∧ TR 0 c_ w_ P0_ r) := by
 induction k with
 | zero => intro m c0 w0 p2 A6 C7 p10 a1 a4 a5 a9 hm0 B0 h3 h8 h11 r H; exact absurd H (by simp [tree_join.f])
 | succ k ih =>
  intro m c0 w0 p2 A6 C7 p10 a1 a4 a5 a9 hm0 B0 h3 h8 h11 r H
  unfold tree_join.f at H
  have B := B0.mono (show m ≤ m + 2 by omega)
  have E : Ev (fun x => False ∨ m ≤ x) c0 w0 c0 w0 := Ev.refl
  refine enter (N := 152) (l := [.pointer p2, .string a4, .agg #[.slice A6 a5.value.length C7, .int .i64 a5.rev], .pointer p10]) Try.func77 rfl rfl (Nat.le_of_ble_eq_true rfl) fun a F => ?_
  refine wp_seq_k fun K12 hK12 => ?_
  refine reg ?_
  refine q_eff F rfl rfl (by decide) (e_box F (v := .agg #[.slice A6 a5.value.length C7, .int .i64 a5.rev]) rfl c0 (m + 1)) ?_
  rintro v w14 a ⟨c13, qa15, rfl, E16, h17, B18⟩ F
  have B := B18 _ B (by omega)
  have h3 := TR.ev h3 E16 (fun q => q.elim) (fun q => q.elim)
  have h8 := SL.ev h8 E16 (fun q => q.elim) (fun q => q.elim)
  have h11 := TR.ev h11 E16 (fun q => q.elim) (fun q => q.elim)
  have E := E.trans E16 (fun x q => q.elim)
  have h17 : AT true (m + 1) c13 w14 qa15 [.slice A6 a5.value.length C7, .int .i64 a5.rev] := h17
  refine q_val F rfl rfl (by decide) (r_assign F rfl) fun a F => ?_
  refine nil ?_
  refine hK12 _ _ ?_
  refine wp_seq_k fun K20 hK20 => ?_
  refine wp_block ?_
  refine wp_seq_k fun K21 hK21 => ?_
  refine reg ?_
  refine q_val F rfl rfl (by decide) (r_move F rfl) fun a F => ?_
  obtain ⟨t22, q23, H⟩ := bind_some H
  refine q_call F rfl rfl (by decide) (r_call F Try.func85 rfl (by kernel_rfl) rfl) (tree_Tree_Depth.calls (m := m + 2) (by omega) B h3 _ q23) ?_
  rintro e w25 ⟨c24, rfl, E26, B27⟩
  refine ⟨_, rfl, fun a F => ?_⟩
  have B := B27
  have h3 := TR.ev h3 E26 (fun q => q.elim) (fun q => q.elim)
  have h8 := SL.ev h8 E26 (fun q => q.elim) (fun q => q.elim)
  have h11 := TR.ev h11 E26 (fun q => q.elim) (fun q => q.elim)
  have h17 := AT.ev h17 E26 (fun q => q.elim)
  have E := E.trans E26 (fun x q => q.elim)
  refine q_val F rfl rfl (by decide) (r_move F rfl) fun a F => ?_
  obtain ⟨t29, q30, H⟩ := bind_some H
  refine q_call F rfl rfl (by decide) (r_call F Try.func85 rfl (by kernel_rfl) rfl) (tree_Tree_Depth.calls (m := m + 2) (by omega) B h11 _ q30) ?_
  rintro e w32 ⟨c31, rfl, E33, B34⟩
  refine ⟨_, rfl, fun a F => ?_⟩
  have B := B34
  have h3 := TR.ev h3 E33 (fun q => q.elim) (fun q => q.elim)
  have h8 := SL.ev h8 E33 (fun q => q.elim) (fun q => q.elim)
  have h11 := TR.ev h11 E33 (fun q => q.elim) (fun q => q.elim)
  have h17 := AT.ev h17 E33 (fun q => q.elim)
  have E := E.trans E33 (fun x q => q.elim)
  refine q_val F rfl rfl (by decide) (r_add F rfl rfl) fun a F => ?_
  refine q_val F rfl rfl (by decide) (r_gtr F rfl rfl) fun a F => ?_
  refine q_val F rfl rfl (by decide) (r_assign F rfl) fun a F => ?_
  refine nil ?_
  refine hK21 _ _ ?_
  by_cases hb36 : (IntKind.i64.wrap (t29 + 1)) < t22
  ·have H := (if_pos hb36).symm.trans H
   refine wp_cond_true ((F.ev rfl).trans (congrArg Value.bool (decide_eq_true hb36))) ?_
   refine wp_seq_k fun K37 hK37 => ?_
   refine regD (SB No c31 w32) 9 (.q 0 (.q 1 (.q 2 (.q 3 (.q 4 (.q 5 (.q 6 (.e 7 (.q 8 .nil))))))))) Try_hm (by decide +kernel) ?_
   intro w38 w1_ w2_ w3_ w4_
   have E39 : Ev No c31 w32 c31 w38 := Ev.same w1_ w2_ w3_ w4_
   have B := B.same w1_
   have zh3 := h3
   have zh8 := h8
   have zh11 := h11
   have zh17 := h17
   have ER : Ev No c31 w32 c31 w38 := Ev.same w1_ w2_ w3_ w4_
   have h3 := TR.ev h3 E39 (fun q => q.elim) (fun q => q.elim)
   have h8 := SL.ev h8 E39 (fun q => q.elim) (fun q => q.elim)
   have h11 := TR.ev h11 E39 (fun q => q.elim) (fun q => q.elim)
   have h17 := AT.ev h17 E39 (fun q => q.elim)
   have E := E.trans E39 (fun x q => q.elim)
   refine d_q F rfl rfl rfl (by decide) (fun wq hS => r_move F rfl) ER.sb fun a F => ?_
   obtain ⟨tl40, tr41, tk42, tv43, ts44, td45, e46, H⟩ := cs_some H
   have z47 := zh3
   rw [e46] at z47
   obtain ⟨ad51, lp52, rp53, A48, C49, rfl, hat54, h50, hl55, hr56⟩ := TR.node z47
   have zh50 := h50
   have h50 := SL.ev h50 ER (fun q => q.elim) (fun q => q.elim)
   have zhl55 := hl55
   have hl55 := TR.ev hl55 ER (fun q => q.elim) (fun q => q.elim)
   have zhr56 := hr56
   have hr56 := TR.ev hr56 ER (fun q => q.elim) (fun q => q.elim)
   have zhat54 := hat54
   have hat54 := AT.ev hat54 ER (fun q => q.elim)
   refine d_q F rfl rfl rfl (by decide) (fun wq hS => r_nil F rfl) ER.sb fun a F => ?_
   refine d_q F rfl rfl rfl (by decide) (fun wq hS => r_fieldAddr F rfl ff_98_1) ER.sb fun a F => ?_
   refine d_q F rfl rfl rfl (by decide) (fun wq hS => r_load F rfl ag_68 (AT.cell (AT.sb zhat54 hS (fun q => q.elim)) rfl)) ER.sb fun a F => ?_
   refine d_q F rfl rfl rfl (by decide) (fun wq hS => r_move F rfl) ER.sb fun a F => ?_
   refine d_q F rfl rfl rfl (by decide) (fun wq hS => r_loads (cs := [.slice A6 a5.value.length C7, .int .i64 a5.rev]) F rfl ag_66 sz_66 (AT.sb zh17 hS (fun q => q.elim))) ER.sb fun a F => ?_
   refine d_q F rfl rfl rfl (by decide) (fun wq hS => r_move F rfl) ER.sb fun a F => ?_
   refine d_e ?_
   obtain ⟨t58, q59, H⟩ := bind_some H
   refine o_call F rfl (wanted_none rfl) rfl (by decide) (r_call F Try.func77 rfl (by kernel_rfl) rfl) (ih (m := m + 2) (by omega) B hr56 h8 h11 _ q59) ?_
   rintro e w61 ⟨c60, p64, rfl, E62, B63, h65⟩
   refine ⟨_, rfl, fun a F => ?_⟩
   have B := B63
   have ER := ER.trans E62 (fun x q => q.elim)
   have h3 := TR.ev h3 E62 (fun q => q.elim) (fun q => q.elim)
   have h8 := SL.ev h8 E62 (fun q => q.elim) (fun q => q.elim)
   have h11 := TR.ev h11 E62 (fun q => q.elim) (fun q => q.elim)
   have h17 := AT.ev h17 E62 (fun q => q.elim)
   have h50 := SL.ev h50 E62 (fun q => q.elim) (fun q => q.elim)
   have hl55 := TR.ev hl55 E62 (fun q => q.elim) (fun q => q.elim)
   have hr56 := TR.ev hr56 E62 (fun q => q.elim) (fun q => q.elim)
   have hat54 := AT.ev hat54 E62 (fun q => q.elim)
   have E := E.trans E62 (fun x q => q.elim)
   refine ⟨fun _ => ER.sb, ?_⟩
   refine d_q F rfl rfl rfl (by decide) (fun wq hS => r_assign F rfl) ER.sb fun a F => ?_
   refine d_nil ?_
   refine hK37 _ _ ?_
   refine wp_seq_k fun K67 hK67 => ?_
   refine wp_seq_k fun K68 hK68 => ?_
   refine regD (SB No c60 w61) 11 (.q 0 (.q 1 (.q 2 (.q 3 (.q 4 (.q 5 (.q 6 (.q 7 (.e 8 (.q 9 (.q 10 .nil))))))))))) Try_hm (by decide +kernel) ?_
   intro w69 w1_ w2_ w3_ w4_
   have E70 : Ev No c60 w61 c60 w69 := Ev.same w1_ w2_ w3_ w4_
   have B := B.same w1_
   have zh3 := h3
   have zh8 := h8
   have zh11 := h11
   have zh17 := h17
   have zh50 := h50
   have zhl55 := hl55
   have zhr56 := hr56
   have zhat54 := hat54
   have zh65 := h65
   have ER : Ev No c60 w61 c60 w69 := Ev.same w1_ w2_ w3_ w4_
   have h3 := TR.ev h3 E70 (fun q => q.elim) (fun q => q.elim)
   have h8 := SL.ev h8 E70 (fun q => q.elim) (fun q => q.elim)
   have h11 := TR.ev h11 E70 (fun q => q.elim) (fun q => q.elim)
   have h17 := AT.ev h17 E70 (fun q => q.elim)
   have h50 := SL.ev h50 E70 (fun q => q.elim) (fun q => q.elim)
   have hl55 := TR.ev hl55 E70 (fun q => q.elim) (fun q => q.elim)
   have hr56 := TR.ev hr56 E70 (fun q => q.elim) (fun q => q.elim)
   have hat54 := AT.ev hat54 E70 (fun q => q.elim)
   have h65 := TR.ev h65 E70 (fun q => q.elim) (fun q => q.elim)
   have E := E.trans E70 (fun x q => q.elim)
   refine d_q F rfl rfl rfl (by decide) (fun wq hS => r_move F rfl) ER.sb fun a F => ?_
   obtain ⟨tl71, tr72, tk73, tv74, ts75, td76, e77, H⟩ := cs_some H
   have z78 := zh65
   rw [e77] at z78
   obtain ⟨ad82, lp83, rp84, A79, C80, rfl, hat85, h81, hl86, hr87⟩ := TR.node z78
   have zh81 := h81
   have h81 := SL.ev h81 ER (fun q => q.elim) (fun q => q.elim)
   have zhl86 := hl86
   have hl86 := TR.ev hl86 ER (fun q => q.elim) (fun q => q.elim)
   have zhr87 := hr87
   have hr87 := TR.ev hr87 ER (fun q => q.elim) (fun q => q.elim)
   have zhat85 := hat85
   have hat85 := AT.ev hat85 ER (fun q => q.elim)
   refine d_q F rfl rfl rfl (by decide) (fun wq hS => r_nil F rfl) ER.sb fun a F => ?_
   refine d_q F rfl rfl rfl (by decide) (fun wq hS => r_fieldAddr F rfl ff_98_5) ER.sb fun a F => ?_
   refine d_q F rfl rfl rfl (by decide) (fun wq hS => r_load F rfl ag_3 (AT.cell (AT.sb zhat85 hS (fun q => q.elim)) rfl)) ER.sb fun a F => ?_
   refine d_q F rfl rfl rfl (by decide) (fun wq hS => r_move F rfl) ER.sb fun a F => ?_
   refine d_q F rfl rfl rfl (by decide) (fun wq hS => r_nil F rfl) ER.sb fun a F => ?_
   refine d_q F rfl rfl rfl (by decide) (fun wq hS => r_fieldAddr F rfl ff_98_0) ER.sb fun a F => ?_
   refine d_q F rfl rfl rfl (by decide) (fun wq hS => r_load F rfl ag_68 (AT.cell (AT.sb zhat54 hS (fun q => q.elim)) rfl)) ER.sb fun a F => ?_
   refine d_e ?_
   obtain ⟨t89, q90, H⟩ := bind_some H
   refine o_call F rfl (wanted_none rfl) rfl (by decide) (r_call F Try.func85 rfl (by kernel_rfl) rfl) (tree_Tree_Depth.calls (m := m + 2) (by omega) B hl55 _ q90) ?_
   rintro e w92 ⟨c91, rfl, E93, B94⟩
   refine ⟨_, rfl, fun a F => ?_⟩
   have B := B94
   have ER := ER.trans E93 (fun x q => q.elim)
   have h3 := TR.ev h3 E93 (fun q => q.elim) (fun q => q.elim)
   have h8 := SL.ev h8 E93 (fun q => q.elim) (fun q => q.elim)
   have h11 := TR.ev h11 E93 (fun q => q.elim) (fun q => q.elim)
   have h17 := AT.ev h17 E93 (fun q => q.elim)
   have h50 := SL.ev h50 E93 (fun q => q.elim) (fun q => q.elim)
   have hl55 := TR.ev hl55 E93 (fun q => q.elim) (fun q => q.elim)
   have hr56 := TR.ev hr56 E93 (fun q => q.elim) (fun q => q.elim)
   have hat54 := AT.ev hat54 E93 (fun q => q.elim)
   have h65 := TR.ev h65 E93 (fun q => q.elim) (fun q => q.elim)
   have h81 := SL.ev h81 E93 (fun q => q.elim) (fun q => q.elim)
   have hl86 := TR.ev hl86 E93 (fun q => q.elim) (fun q => q.elim)
   have hr87 := TR.ev hr87 E93 (fun q => q.elim) (fun q => q.elim)
   have hat85 := AT.ev hat85 E93 (fun q => q.elim)
   have E := E.trans E93 (fun x q => q.elim)
   refine ⟨fun _ => ER.sb, ?_⟩
   refine d_q F rfl rfl rfl (by decide) (fun wq hS => r_add F rfl rfl) ER.sb fun a F => ?_
   refine d_q F rfl rfl rfl (by decide) (fun wq hS => r_gtr F rfl rfl) ER.sb fun a F => ?_
   refine d_nil ?_
   refine hK68 _ _ ?_
   by_cases hb96 : (IntKind.i64.wrap (t89 + 1)) < td76
   ·have H := (if_pos hb96).symm.trans H
    refine wp_cond_true ((F.ev rfl).trans (congrArg Value.bool (decide_eq_true hb96))) ?_
    refine wp_seq_k fun K97 hK97 => ?_
    refine wp_seq_k fun K98 hK98 => ?_
    refine regD (SB No c91 w92) 11 (.q 0 (.q 1 (.q 2 (.q 3 (.q 5 (.q 6 (.q 7 (.q 8 (.e 4 (.e 9 (.q 10 .nil))))))))))) Try_hm (by decide +kernel) ?_
    intro w99 w1_ w2_ w3_ w4_
    have E100 : Ev No c91 w92 c91 w99 := Ev.same w1_ w2_ w3_ w4_
    have B := B.same w1_
    have zh3 := h3
    have zh8 := h8
    have zh11 := h11
    have zh17 := h17
    have zh50 := h50
    have zhl55 := hl55
    have zhr56 := hr56
    have zhat54 := hat54
    have zh65 := h65
    have zh81 := h81
    have zhl86 := hl86
    have zhr87 := hr87
    have zhat85 := hat85
    have ER : Ev No c91 w92 c91 w99 := Ev.same w1_ w2_ w3_ w4_
    have h3 := TR.ev h3 E100 (fun q => q.elim) (fun q => q.elim)
    have h8 := SL.ev h8 E100 (fun q => q.elim) (fun q => q.elim)
    have h11 := TR.ev h11 E100 (fun q => q.elim) (fun q => q.elim)
    have h17 := AT.ev h17 E100 (fun q => q.elim)
    have h50 := SL.ev h50 E100 (fun q => q.elim) (fun q => q.elim)
    have hl55 := TR.ev hl55 E100 (fun q => q.elim) (fun q => q.elim)
    have hr56 := TR.ev hr56 E100 (fun q => q.elim) (fun q => q.elim)
    have hat54 := AT.ev hat54 E100 (fun q => q.elim)
    have h65 := TR.ev h65 E100 (fun q => q.elim) (fun q => q.elim)
    have h81 := SL.ev h81 E100 (fun q => q.elim) (fun q => q.elim)
    have hl86 := TR.ev hl86 E100 (fun q => q.elim) (fun q => q.elim)
    have hr87 := TR.ev hr87 E100 (fun q => q.elim) (fun q => q.elim)
    have hat85 := AT.ev hat85 E100 (fun q => q.elim)
    have E := E.trans E100 (fun x q => q.elim)
    refine d_q F rfl rfl rfl (by decide) (fun wq hS => r_move F rfl) ER.sb fun a F => ?_
    refine d_q F rfl rfl rfl (by decide) (fun wq hS => r_nil F rfl) ER.sb fun a F => ?_
    refine d_q F rfl rfl rfl (by decide) (fun wq hS => r_fieldAddr F rfl ff_98_0) ER.sb fun a F => ?_
    refine d_q F rfl rfl rfl (by decide) (fun wq hS => r_load F rfl ag_68 (AT.cell (AT.sb zhat85 hS (fun q => q.elim)) rfl)) ER.sb fun a F => ?_
    refine d_q F rfl rfl rfl (by decide) (fun wq hS => r_move F rfl) ER.sb fun a F => ?_
    refine d_q F rfl rfl rfl (by decide) (fun wq hS => r_nil F rfl) ER.sb fun a F => ?_
    refine d_q F rfl rfl rfl (by decide) (fun wq hS => r_fieldAddr F rfl ff_98_1) ER.sb fun a F => ?_
    refine d_q F rfl rfl rfl (by decide) (fun wq hS => r_load F rfl ag_68 (AT.cell (AT.sb zhat85 hS (fun q => q.elim)) rfl)) ER.sb fun a F => ?_
    refine d_e ?_
    obtain ⟨t101, q102, H⟩ := bind_some H
    refine o_call F rfl (wanted_none rfl) rfl (by decide) (r_call F Try.func85 rfl (by kernel_rfl) rfl) (tree_Tree_Depth.calls (m := m + 2) (by omega) B hl86 _ q102) ?_
    rintro e w104 ⟨c103, rfl, E105, B106⟩
    refine ⟨_, rfl, fun a F => ?_⟩
    have B := B106
    have ER := ER.trans E105 (fun x q => q.elim)
    have h3 := TR.ev h3 E105 (fun q => q.elim) (fun q => q.elim)
    have h8 := SL.ev h8 E105 (fun q => q.elim) (fun q => q.elim)
    have h11 := TR.ev h11 E105 (fun q => q.elim) (fun q => q.elim)
    have h17 := AT.ev h17 E105 (fun q => q.elim)
    have h50 := SL.ev h50 E105 (fun q => q.elim) (fun q => q.elim)
    have hl55 := TR.ev hl55 E105 (fun q => q.elim) (fun q => q.elim)
    have hr56 := TR.ev hr56 E105 (fun q => q.elim) (fun q => q.elim)
    have hat54 := AT.ev hat54 E105 (fun q => q.elim)
    have h65 := TR.ev h65 E105 (fun q => q.elim) (fun q => q.elim)
    have h81 := SL.ev h81 E105 (fun q => q.elim) (fun q => q.elim)
    have hl86 := TR.ev hl86 E105 (fun q => q.elim) (fun q => q.elim)
    have hr87 := TR.ev hr87 E105 (fun q => q.elim) (fun q => q.elim)
    have hat85 := AT.ev hat85 E105 (fun q => q.elim)
    have E := E.trans E105 (fun x q => q.elim)
    refine ⟨fun _ => ER.sb, ?_⟩
    refine d_e ?_
    obtain ⟨t108, q109, H⟩ := bind_some H
    refine o_call F rfl (wanted_none rfl) rfl (by decide) (r_call F Try.func85 rfl (by kernel_rfl) rfl) (tree_Tree_Depth.calls (m := m + 2) (by omega) B hr87 _ q109) ?_
    rintro e w111 ⟨c110, rfl, E112, B113⟩
    refine ⟨_, rfl, fun a F => ?_⟩
    have B := B113
    have ER := ER.trans E112 (fun x q => q.elim)
    have h3 := TR.ev h3 E112 (fun q => q.elim) (fun q => q.elim)
    have h8 := SL.ev h8 E112 (fun q => q.elim) (fun q => q.elim)
    have h11 := TR.ev h11 E112 (fun q => q.elim) (fun q => q.elim)
    have h17 := AT.ev h17 E112 (fun q => q.elim)
    have h50 := SL.ev h50 E112 (fun q => q.elim) (fun q => q.elim)
    have hl55 := TR.ev hl55 E112 (fun q => q.elim) (fun q => q.elim)
    have hr56 := TR.ev hr56 E112 (fun q => q.elim) (fun q => q.elim)
    have hat54 := AT.ev hat54 E112 (fun q => q.elim)
    have h65 := TR.ev h65 E112 (fun q => q.elim) (fun q => q.elim)
    have h81 := SL.ev h81 E112 (fun q => q.elim) (fun q => q.elim)
    have hl86 := TR.ev hl86 E112 (fun q => q.elim) (fun q => q.elim)
    have hr87 := TR.ev hr87 E112 (fun q => q.elim) (fun q => q.elim)
    have hat85 := AT.ev hat85 E112 (fun q => q.elim)
    have E := E.trans E112 (fun x q => q.elim)
    refine ⟨fun _ => ER.sb, ?_⟩
    refine d_q F rfl rfl rfl (by decide) (fun wq hS => r_gtr F rfl rfl) ER.sb fun a F => ?_
    refine d_nil ?_
    refine hK98 _ _ ?_
    by_cases hb115 : t108 < t101
    ·have H := (if_pos hb115).symm.trans H
     refine wp_cond_true ((F.ev rfl).trans (congrArg Value.bool (decide_eq_true hb115))) ?_
     refine reg ?_
     refine q_val F rfl rfl (by decide) (r_move F rfl) fun a F => ?_
     obtain ⟨t116, q117, H⟩ := bind_some H
     refine q_call F rfl rfl (by decide) (r_call F Try.func86 rfl (by kernel_rfl) rfl) (tree_turnRight.calls (m := m + 2) (by omega) B h65 _ q117) ?_
     rintro e w119 ⟨c118, p122, rfl, E120, B121, h123⟩
     refine ⟨_, rfl, fun a F => ?_⟩
     have B := B121
     have h3 := TR.ev h3 E120 (fun q => q.elim) (fun q => q.elim)
     have h8 := SL.ev h8 E120 (fun q => q.elim) (fun q => q.elim)
     have h11 := TR.ev h11 E120 (fun q => q.elim) (fun q => q.elim)
     have h17 := AT.ev h17 E120 (fun q => q.elim)
     have h50 := SL.ev h50 E120 (fun q => q.elim) (fun q => q.elim)
     have hl55 := TR.ev hl55 E120 (fun q => q.elim) (fun q => q.elim)
     have hr56 := TR.ev hr56 E120 (fun q => q.elim) (fun q => q.elim)
     have hat54 := AT.ev hat54 E120 (fun q => q.elim)
     have h65 := TR.ev h65 E120 (fun q => q.elim) (fun q => q.elim)
     have h81 := SL.ev h81 E120 (fun q => q.elim) (fun q => q.elim)
     have hl86 := TR.ev hl86 E120 (fun q => q.elim) (fun q => q.elim)
     have hr87 := TR.ev hr87 E120 (fun q => q.elim) (fun q => q.elim)
     have hat85 := AT.ev hat85 E120 (fun q => q.elim)
     have E := E.trans E120 (fun x q => q.elim)
     refine q_val F rfl rfl (by decide) (r_assign F rfl) fun a F => ?_
     refine nil ?_
     refine hK97 _ _ ?_
     refine wp_seq_k fun K125 hK125 => ?_
     refine regD (SB No c118 w119) 16 (.q 0 (.q 1 (.q 2 (.q 3 (.q 4 (.q 5 (.q 6 (.q 7 (.q 8 (.q 9 (.q 10 (.q 11 (.q 12 (.e 13 (.e 14 (.q 15 .nil)))))))))))))))) Try_hm (by decide +kernel) ?_
     intro w126 w1_ w2_ w3_ w4_
     have E127 : Ev No c118 w119 c118 w126 := Ev.same w1_ w2_ w3_ w4_
     have B := B.same w1_
     have zh3 := h3
     have zh8 := h8
     have zh11 := h11
     have zh17 := h17
     have zh50 := h50
     have zhl55 := hl55
     have zhr56 := hr56
     have zhat54 := hat54
     have zh65 := h65
     have zh81 := h81
     have zhl86 := hl86
     have zhr87 := hr87
     have zhat85 := hat85
     have zh123 := h123
     have ER : Ev No c118 w119 c118 w126 := Ev.same w1_ w2_ w3_ w4_
     have h3 := TR.ev h3 E127 (fun q => q.elim) (fun q => q.elim)
     have h8 := SL.ev h8 E127 (fun q => q.elim) (fun q => q.elim)
     have h11 := TR.ev h11 E127 (fun q => q.elim) (fun q => q.elim)
     have h17 := AT.ev h17 E127 (fun q => q.elim)
     have h50 := SL.ev h50 E127 (fun q => q.elim) (fun q => q.elim)
     have hl55 := TR.ev hl55 E127 (fun q => q.elim) (fun q => q.elim)
     have hr56 := TR.ev hr56 E127 (fun q => q.elim) (fun q => q.elim)
     have hat54 := AT.ev hat54 E127 (fun q => q.elim)
     have h65 := TR.ev h65 E127 (fun q => q.elim) (fun q => q.elim)
     have h81 := SL.ev h81 E127 (fun q => q.elim) (fun q => q.elim)
     have hl86 := TR.ev hl86 E127 (fun q => q.elim) (fun q => q.elim)
     have hr87 := TR.ev hr87 E127 (fun q => q.elim) (fun q => q.elim)
     have hat85 := AT.ev hat85 E127 (fun q => q.elim)
     have h123 := TR.ev h123 E127 (fun q => q.elim) (fun q => q.elim)
     have E := E.trans E127 (fun x q => q.elim)
     refine d_q F rfl rfl rfl (by decide) (fun wq hS => r_move F rfl) ER.sb fun a F => ?_
     refine d_q F rfl rfl rfl (by decide) (fun wq hS => r_nil F rfl) ER.sb fun a F => ?_
     refine d_q F rfl rfl rfl (by decide) (fun wq hS => r_fieldAddr F rfl ff_98_0) ER.sb fun a F => ?_
     refine d_q F rfl rfl rfl (by decide) (fun wq hS => r_load F rfl ag_68 (AT.cell (AT.sb zhat54 hS (fun q => q.elim)) rfl)) ER.sb fun a F => ?_
     refine d_q F rfl rfl rfl (by decide) (fun wq hS => r_move F rfl) ER.sb fun a F => ?_
     refine d_q F rfl rfl rfl (by decide) (fun wq hS => r_nil F rfl) ER.sb fun a F => ?_
     refine d_q F rfl rfl rfl (by decide) (fun wq hS => r_fieldAddr F rfl ff_98_2) ER.sb fun a F => ?_
     refine d_q F rfl rfl rfl (by decide) (fun wq hS => r_load F rfl ag_9 (AT.cell (AT.sb zhat54 hS (fun q => q.elim)) rfl)) ER.sb fun a F => ?_
     refine d_q F rfl rfl rfl (by decide) (fun wq hS => r_move F rfl) ER.sb fun a F => ?_
     refine d_q F rfl rfl rfl (by decide) (fun wq hS => r_nil F rfl) ER.sb fun a F => ?_
     refine d_q F rfl rfl rfl (by decide) (fun wq hS => r_fieldAddr F rfl ff_98_3) ER.sb fun a F => ?_
     refine d_q F rfl rfl rfl (by decide) (fun wq hS => r_loads (cs := [.slice A48 tv43.value.length C49, .int .i64 tv43.rev]) F rfl ag_66 sz_66 (AT.sub (AT.sb zhat54 hS (fun q => q.elim)) 3 2 (Nat.le_of_ble_eq_true rfl))) ER.sb fun a F => ?_
     refine d_q F rfl rfl rfl (by decide) (fun wq hS => r_move F rfl) ER.sb fun a F => ?_
     refine d_e ?_
     obtain ⟨t128, q129, H⟩ := bind_some H
     refine o_call F rfl (wanted_none rfl) rfl (by decide) (r_call F Try.func79 rfl (by kernel_rfl) rfl) (tree_node.calls (m := m + 2) (by omega) B hl55 h50 h123 _ q129) ?_
     rintro e w131 ⟨c130, p134, rfl, E132, B133, h135⟩
     refine ⟨_, rfl, fun a F => ?_⟩
     have B := B133
     have ER := ER.trans E132 (fun x q => q.elim)
     have h3 := TR.ev h3 E132 (fun q => q.elim) (fun q => q.elim)
     have h8 := SL.ev h8 E132 (fun q => q.elim) (fun q => q.elim)
     have h11 := TR.ev h11 E132 (fun q => q.elim) (fun q => q.elim)
     have h17 := AT.ev h17 E132 (fun q => q.elim)
     have h50 := SL.ev h50 E132 (fun q => q.elim) (fun q => q.elim)
     have hl55 := TR.ev hl55 E132 (fun q => q.elim) (fun q => q.elim)
     have hr56 := TR.ev hr56 E132 (fun q => q.elim) (fun q => q.elim)
     have hat54 := AT.ev hat54 E132 (fun q => q.elim)
     have h65 := TR.ev h65 E132 (fun q => q.elim) (fun q => q.elim)
     have h81 := SL.ev h81 E132 (fun q => q.elim) (fun q => q.elim)
     have hl86 := TR.ev hl86 E132 (fun q => q.elim) (fun q => q.elim)
     have hr87 := TR.ev hr87 E132 (fun q => q.elim) (fun q => q.elim)
     have hat85 := AT.ev hat85 E132 (fun q => q.elim)
     have h123 := TR.ev h123 E132 (fun q => q.elim) (fun q => q.elim)
     have E := E.trans E132 (fun x q => q.elim)
     refine ⟨fun _ => ER.sb, ?_⟩
     refine d_e ?_
     obtain ⟨t137, q138, H⟩ := bind_some H
     refine o_call F rfl (wanted_none rfl) rfl (by decide) (r_call F Try.func87 rfl (by kernel_rfl) rfl) (tree_turnLeft.calls (m := m + 2) (by omega) B h135 _ q138) ?_
     rintro e w140 ⟨c139, p143, rfl, E141, B142, h144⟩
     refine ⟨_, rfl, fun a F => ?_⟩
     have B := B142
     have ER := ER.trans E141 (fun x q => q.elim)
     have h3 := TR.ev h3 E141 (fun q => q.elim) (fun q => q.elim)
     have h8 := SL.ev h8 E141 (fun q => q.elim) (fun q => q.elim)
     have h11 := TR.ev h11 E141 (fun q => q.elim) (fun q => q.elim)
     have h17 := AT.ev h17 E141 (fun q => q.elim)
     have h50 := SL.ev h50 E141 (fun q => q.elim) (fun q => q.elim)
     have hl55 := TR.ev hl55 E141 (fun q => q.elim) (fun q => q.elim)
     have hr56 := TR.ev hr56 E141 (fun q => q.elim) (fun q => q.elim)
     have hat54 := AT.ev hat54 E141 (fun q => q.elim)
     have h65 := TR.ev h65 E141 (fun q => q.elim) (fun q => q.elim)
     have h81 := SL.ev h81 E141 (fun q => q.elim) (fun q => q.elim)
     have hl86 := TR.ev hl86 E141 (fun q => q.elim) (fun q => q.elim)
     have hr87 := TR.ev hr87 E141 (fun q => q.elim) (fun q => q.elim)
     have hat85 := AT.ev hat85 E141 (fun q => q.elim)
     have h123 := TR.ev h123 E141 (fun q => q.elim) (fun q => q.elim)
     have h135 := TR.ev h135 E141 (fun q => q.elim) (fun q => q.elim)
     have E := E.trans E141 (fun x q => q.elim)
     refine ⟨fun _ => ER.sb, ?_⟩
     refine d_q F rfl rfl rfl (by decide) (fun wq hS => r_assign F rfl) ER.sb fun a F => ?_
     refine d_nil ?_
     refine hK125 _ _ ?_
     refine wp_ret ?_
     refine thenR ?_
     refine inbR ?_
     refine thenR ?_
     have H := Option.some.inj H
     subst H
     refine out1 F rfl rfl ?_
     exact ⟨fun b_ => (fun x_ => if x_ < m then x_ else 0) (c139 b_), p143, rfl, E.leave B0 (fun x_ => if x_ < m then x_ else 0) (by intro x_ hx_; show (if x_ < m then x_ else 0) = x_; ((repeat' split) <;> omega)), (fun b_ hb_ => by show (if (c139 b_) < m then (c139 b_) else 0) < m; ((repeat' split) <;> omega)), TR.rc h144 (fun k_ hk_ => by show (if (c139 k_) < m then (c139 k_) else 0) = _; rw [hk_]; ((repeat' split) <;> omega)) (fun k_ hk_ => by show (if (c139 k_) < m then (c139 k_) else 0) = _; rw [hk_]; ((repeat' split) <;> omega))⟩
    ·have H := (if_neg hb115).symm.trans H
     refine wp_cond_false ((F.ev rfl).trans (congrArg Value.bool (decide_eq_false hb115))) ?_
     refine wp_skip ?_
     refine hK97 _ _ ?_
     refine wp_seq_k fun K146 hK146 => ?_
     refine regD (SB No c110 w111) 16 (.q 0 (.q 1 (.q 2 (.q 3 (.q 4 (.q 5 (.q 6 (.q 7 (.q 8 (.q 9 (.q 10 (.q 11 (.q 12 (.e 13 (.e 14 (.q 15 .nil)))))))))))))))) Try_hm (by decide +kernel) ?_
     intro w147 w1_ w2_ w3_ w4_
     have E148 : Ev No c110 w111 c110 w147 := Ev.same w1_ w2_ w3_ w4_
     have B := B.same w1_
     have zh3 := h3
     have zh8 := h8
     have zh11 := h11
     have zh17 := h17
     have zh50 := h50
     have zhl55 := hl55
     have zhr56 := hr56
     have zhat54 := hat54
     have zh65 := h65
     have zh81 := h81
     have zhl86 := hl86
     have zhr87 := hr87
     have zhat85 := hat85
     have ER : Ev No c110 w111 c110 w147 := Ev.same w1_ w2_ w3_ w4_
     have h3 := TR.ev h3 E148 (fun q => q.elim) (fun q => q.elim)
     have h8 := SL.ev h8 E148 (fun q => q.elim) (fun q => q.elim)
     have h11 := TR.ev h11 E148 (fun q => q.elim) (fun q => q.elim)
     have h17 := AT.ev h17 E148 (fun q => q.elim)
     have h50 := SL.ev h50 E148 (fun q => q.elim) (fun q => q.elim)
     have hl55 := TR.ev hl55 E148 (fun q => q.elim) (fun q => q.elim)
     have hr56 := TR.ev hr56 E148 (fun q => q.elim) (fun q => q.elim)
     have hat54 := AT.ev hat54 E148 (fun q => q.elim)
     have h65 := TR.ev h65 E148 (fun q => q.elim) (fun q => q.elim)
     have h81 := SL.ev h81 E148 (fun q => q.elim) (fun q => q.elim)
     have hl86 := TR.ev hl86 E148 (fun q => q.elim) (fun q => q.elim)
     have hr87 := TR.ev hr87 E148 (fun q => q.elim) (fun q => q.elim)
     have hat85 := AT.ev hat85 E148 (fun q => q.elim)
     have E := E.trans E148 (fun x q => q.elim)
     refine d_q F rfl rfl rfl (by decide) (fun wq hS => r_move F rfl) ER.sb fun a F => ?_
     refine d_q F rfl rfl rfl (by decide) (fun wq hS => r_nil F rfl) ER.sb fun a F => ?_
     refine d_q F rfl rfl rfl (by decide) (fun wq hS => r_fieldAddr F rfl ff_98_0) ER.sb fun a F => ?_
     refine d_q F rfl rfl rfl (by decide) (fun wq hS => r_load F rfl ag_68 (AT.cell (AT.sb zhat54 hS (fun q => q.elim)) rfl)) ER.sb fun a F => ?_
     refine d_q F rfl rfl rfl (by decide) (fun wq hS => r_move F rfl) ER.sb fun a F => ?_
     refine d_q F rfl rfl rfl (by decide) (fun wq hS => r_nil F rfl) ER.sb fun a F => ?_
     refine d_q F rfl rfl rfl (by decide) (fun wq hS => r_fieldAddr F rfl ff_98_2) ER.sb fun a F => ?_
     refine d_q F rfl rfl rfl (by decide) (fun wq hS => r_load F rfl ag_9 (AT.cell (AT.sb zhat54 hS (fun q => q.elim)) rfl)) ER.sb fun a F => ?_
     refine d_q F rfl rfl rfl (by decide) (fun wq hS => r_move F rfl) ER.sb fun a F => ?_
     refine d_q F rfl rfl rfl (by decide) (fun wq hS => r_nil F rfl) ER.sb fun a F => ?_
     refine d_q F rfl rfl rfl (by decide) (fun wq hS => r_fieldAddr F rfl ff_98_3) ER.sb fun a F => ?_
     refine d_q F rfl rfl rfl (by decide) (fun wq hS => r_loads (cs := [.slice A48 tv43.value.length C49, .int .i64 tv43.rev]) F rfl ag_66 sz_66 (AT.sub (AT.sb zhat54 hS (fun q => q.elim)) 3 2 (Nat.le_of_ble_eq_true rfl))) ER.sb fun a F => ?_
     refine d_q F rfl rfl rfl (by decide) (fun wq hS => r_move F rfl) ER.sb fun a F => ?_
     refine d_e ?_
     obtain ⟨t128, q129, H⟩ := bind_some H
     refine o_call F rfl (wanted_none rfl) rfl (by decide) (r_call F Try.func79 rfl (by kernel_rfl) rfl) (tree_node.calls (m := m + 2) (by omega) B hl55 h50 h65 _ q129) ?_
     rintro e w150 ⟨c149, p153, rfl, E151, B152, h154⟩
     refine ⟨_, rfl, fun a F => ?_⟩
     have B := B152
     have ER := ER.trans E151 (fun x q => q.elim)
     have h3 := TR.ev h3 E151 (fun q => q.elim) (fun q => q.elim)
     have h8 := SL.ev h8 E151 (fun q => q.elim) (fun q => q.elim)
     have h11 := TR.ev h11 E151 (fun q => q.elim) (fun q => q.elim)
     have h17 := AT.ev h17 E151 (fun q => q.elim)
     have h50 := SL.ev h50 E151 (fun q => q.elim) (fun q => q.elim)
     have hl55 := TR.ev hl55 E151 (fun q => q.elim) (fun q => q.elim)
     have hr56 := TR.ev hr56 E151 (fun q => q.elim) (fun q => q.elim)
     have hat54 := AT.ev hat54 E151 (fun q => q.elim)
     have h65 := TR.ev h65 E151 (fun q => q.elim) (fun q => q.elim)
     have h81 := SL.ev h81 E151 (fun q => q.elim) (fun q => q.elim)
     have hl86 := TR.ev hl86 E151 (fun q => q.elim) (fun q => q.elim)
     have hr87 := TR.ev hr87 E151 (fun q => q.elim) (fun q => q.elim)
     have hat85 := AT.ev hat85 E151 (fun q => q.elim)
     have E := E.trans E151 (fun x q => q.elim)
     refine ⟨fun _ => ER.sb, ?_⟩
     refine d_e ?_
     obtain ⟨t137, q138, H⟩ := bind_some H
     refine o_call F rfl (wanted_none rfl) rfl (by decide) (r_call F Try.func87 rfl (by kernel_rfl) rfl) (tree_turnLeft.calls (m := m + 2) (by omega) B h154 _ q138) ?_
     rintro e w157 ⟨c156, p160, rfl, E158, B159, h161⟩
     refine ⟨_, rfl, fun a F => ?_⟩
     have B := B159
     have ER := ER.trans E158 (fun x q => q.elim)
     have h3 := TR.ev h3 E158 (fun q => q.elim) (fun q => q.elim)
     have h8 := SL.ev h8 E158 (fun q => q.elim) (fun q => q.elim)
     have h11 := TR.ev h11 E158 (fun q => q.elim) (fun q => q.elim)
     have h17 := AT.ev h17 E158 (fun q => q.elim)
     have h50 := SL.ev h50 E158 (fun q => q.elim) (fun q => q.elim)
     have hl55 := TR.ev hl55 E158 (fun q => q.elim) (fun q => q.elim)
     have hr56 := TR.ev hr56 E158 (fun q => q.elim) (fun q => q.elim)
     have hat54 := AT.ev hat54 E158 (fun q => q.elim)
     have h65 := TR.ev h65 E158 (fun q => q.elim) (fun q => q.elim)
     have h81 := SL.ev h81 E158 (fun q => q.elim) (fun q => q.elim)
     have hl86 := TR.ev hl86 E158 (fun q => q.elim) (fun q => q.elim)
     have hr87 := TR.ev hr87 E158 (fun q => q.elim) (fun q => q.elim)
     have hat85 := AT.ev hat85 E158 (fun q => q.elim)
     have h154 := TR.ev h154 E158 (fun q => q.elim) (fun q => q.elim)
     have E := E.trans E158 (fun x q => q.elim)
     refine ⟨fun _ => ER.sb, ?_⟩
     refine d_q F rfl rfl rfl (by decide) (fun wq hS => r_assign F rfl) ER.sb fun a F => ?_
     refine d_nil ?_
     refine hK146 _ _ ?_
     refine wp_ret ?_
     refine thenR ?_
     refine inbR ?_
     refine thenR ?_
     have H := Option.some.inj H
     subst H
     refine out1 F rfl rfl ?_
     exact ⟨fun b_ => (fun x_ => if x_ < m then x_ else 0) (c156 b_), p160, rfl, E.leave B0 (fun x_ => if x_ < m then x_ else 0) (by intro x_ hx_; show (if x_ < m then x_ else 0) = x_; ((repeat' split) <;> omega)), (fun b_ hb_ => by show (if (c156 b_) < m then (c156 b_) else 0) < m; ((repeat' split) <;> omega)), TR.rc h161 (fun k_ hk_ => by show (if (c156 k_) < m then (c156 k_) else 0) = _; rw [hk_]; ((repeat' split) <;> omega)) (fun k_ hk_ => by show (if (c156 k_) < m then (c156 k_) else 0) = _; rw [hk_]; ((repeat' split) <;> omega))⟩
   ·have H := (if_neg hb96).symm.trans H
    refine wp_cond_false ((F.ev rfl).trans (congrArg Value.bool (decide_eq_false hb96))) ?_
    refine wp_skip ?_
    refine hK67 _ _ ?_
    refine wp_seq_k fun K163 hK163 => ?_
    refine regD (SB No c91 w92) 15 (.q 0 (.q 1 (.q 2 (.q 3 (.q 4 (.q 5 (.q 6 (.q 7 (.q 8 (.q 9 (.q 10 (.q 11 (.q 12 (.e 13 (.q 14 .nil))))))))))))))) Try_hm (by decide +kernel) ?_
    intro w164 w1_ w2_ w3_ w4_
    have E165 : Ev No c91 w92 c91 w164 := Ev.same w1_ w2_ w3_ w4_
    have B := B.same w1_
    have zh3 := h3
    have zh8 := h8
    have zh11 := h11
    have zh17 := h17
    have zh50 := h50
    have zhl55 := hl55
    have zhr56 := hr56
    have zhat54 := hat54
    have zh65 := h65
    have zh81 := h81
    have zhl86 := hl86
    have zhr87 := hr87
    have zhat85 := hat85
    have ER : Ev No c91 w92 c91 w164 := Ev.same w1_ w2_ w3_ w4_
    have h3 := TR.ev h3 E165 (fun q => q.elim) (fun q => q.elim)
    have h8 := SL.ev h8 E165 (fun q => q.elim) (fun q => q.elim)
    have h11 := TR.ev h11 E165 (fun q => q.elim) (fun q => q.elim)
    have h17 := AT.ev h17 E165 (fun q => q.elim)
    have h50 := SL.ev h50 E165 (fun q => q.elim) (fun q => q.elim)
    have hl55 := TR.ev hl55 E165 (fun q => q.elim) (fun q => q.elim)
    have hr56 := TR.ev hr56 E165 (fun q => q.elim) (fun q => q.elim)
    have hat54 := AT.ev hat54 E165 (fun q => q.elim)
    have h65 := TR.ev h65 E165 (fun q => q.elim) (fun q => q.elim)
    have h81 := SL.ev h81 E165 (fun q => q.elim) (fun q => q.elim)
    have hl86 := TR.ev hl86 E165 (fun q => q.elim) (fun q => q.elim)
    have hr87 := TR.ev hr87 E165 (fun q => q.elim) (fun q => q.elim)
    have hat85 := AT.ev hat85 E165 (fun q => q.elim)
    have E := E.trans E165 (fun x q => q.elim)
    refine d_q F rfl rfl rfl (by decide) (fun wq hS => r_move F rfl) ER.sb fun a F => ?_
    refine d_q F rfl rfl rfl (by decide) (fun wq hS => r_nil F rfl) ER.sb fun a F => ?_
    refine d_q F rfl rfl rfl (by decide) (fun wq hS => r_fieldAddr F rfl ff_98_0) ER.sb fun a F => ?_
    refine d_q F rfl rfl rfl (by decide) (fun wq hS => r_load F rfl ag_68 (AT.cell (AT.sb zhat54 hS (fun q => q.elim)) rfl)) ER.sb fun a F => ?_
    refine d_q F rfl rfl rfl (by decide) (fun wq hS => r_move F rfl) ER.sb fun a F => ?_
    refine d_q F rfl rfl rfl (by decide) (fun wq hS => r_nil F rfl) ER.sb fun a F => ?_
    refine d_q F rfl rfl rfl (by decide) (fun wq hS => r_fieldAddr F rfl ff_98_2) ER.sb fun a F => ?_
    refine d_q F rfl rfl rfl (by decide) (fun wq hS => r_load F rfl ag_9 (AT.cell (AT.sb zhat54 hS (fun q => q.elim)) rfl)) ER.sb fun a F => ?_
    refine d_q F rfl rfl rfl (by decide) (fun wq hS => r_move F rfl) ER.sb fun a F => ?_
    refine d_q F rfl rfl rfl (by decide) (fun wq hS => r_nil F rfl) ER.sb fun a F => ?_
    refine d_q F rfl rfl rfl (by decide) (fun wq hS => r_fieldAddr F rfl ff_98_3) ER.sb fun a F => ?_
    refine d_q F rfl rfl rfl (by decide) (fun wq hS => r_loads (cs := [.slice A48 tv43.value.length C49, .int .i64 tv43.rev]) F rfl ag_66 sz_66 (AT.sub (AT.sb zhat54 hS (fun q => q.elim)) 3 2 (Nat.le_of_ble_eq_true rfl))) ER.sb fun a F => ?_
    refine d_q F rfl rfl rfl (by decide) (fun wq hS => r_move F rfl) ER.sb fun a F => ?_
    refine d_e ?_
    obtain ⟨t166, q167, H⟩ := bind_some H
    refine o_call F rfl (wanted_none rfl) rfl (by decide) (r_call F Try.func79 rfl (by kernel_rfl) rfl) (tree_node.calls (m := m + 2) (by omega) B hl55 h50 h65 _ q167) ?_
    rintro e w169 ⟨c168, p172, rfl, E170, B171, h173⟩
    refine ⟨_, rfl, fun a F => ?_⟩
    have B := B171
    have ER := ER.trans E170 (fun x q => q.elim)
    have h3 := TR.ev h3 E170 (fun q => q.elim) (fun q => q.elim)
    have h8 := SL.ev h8 E170 (fun q => q.elim) (fun q => q.elim)
    have h11 := TR.ev h11 E170 (fun q => q.elim) (fun q => q.elim)
    have h17 := AT.ev h17 E170 (fun q => q.elim)
    have h50 := SL.ev h50 E170 (fun q => q.elim) (fun q => q.elim)
    have hl55 := TR.ev hl55 E170 (fun q => q.elim) (fun q => q.elim)
    have hr56 := TR.ev hr56 E170 (fun q => q.elim) (fun q => q.elim)
    have hat54 := AT.ev hat54 E170 (fun q => q.elim)
    have h65 := TR.ev h65 E170 (fun q => q.elim) (fun q => q.elim)
    have h81 := SL.ev h81 E170 (fun q => q.elim) (fun q => q.elim)
    have hl86 := TR.ev hl86 E170 (fun q => q.elim) (fun q => q.elim)
    have hr87 := TR.ev hr87 E170 (fun q => q.elim) (fun q => q.elim)
    have hat85 := AT.ev hat85 E170 (fun q => q.elim)
    have E := E.trans E170 (fun x q => q.elim)
    refine ⟨fun _ => ER.sb, ?_⟩
    refine d_q F rfl rfl rfl (by decide) (fun wq hS => r_assign F rfl) ER.sb fun a F => ?_
    refine d_nil ?_
    refine hK163 _ _ ?_
    refine wp_ret ?_
    refine inbR ?_
    refine thenR ?_
    have H := Option.some.inj H
    subst H
    refine out1 F rfl rfl ?_
    exact ⟨fun b_ => (fun x_ => if x_ < m then x_ else 0) (c168 b_), p172, rfl, E.leave B0 (fun x_ => if x_ < m then x_ else 0) (by intro x_ hx_; show (if x_ < m then x_ else 0) = x_; ((repeat' split) <;> omega)), (fun b_ hb_ => by show (if (c168 b_) < m then (c168 b_) else 0) < m; ((repeat' split) <;> omega)), TR.rc h173 (fun k_ hk_ => by show (if (c168 k_) < m then (c168 k_) else 0) = _; rw [hk_]; ((repeat' split) <;> omega)) (fun k_ hk_ => by show (if (c168 k_) < m then (c168 k_) else 0) = _; rw [hk_]; ((repeat' split) <;> omega))⟩
  ·have H := (if_neg hb36).symm.trans H
   refine wp_cond_false ((F.ev rfl).trans (congrArg Value.bool (decide_eq_false hb36))) ?_
   refine wp_seq_k fun K175 hK175 => ?_
   refine reg ?_
   refine q_val F rfl rfl (by decide) (r_move F rfl) fun a F => ?_
   obtain ⟨t176, q177, H⟩ := bind_some H
   refine q_call F rfl rfl (by decide) (r_call F Try.func85 rfl (by kernel_rfl) rfl) (tree_Tree_Depth.calls (m := m + 2) (by omega) B h11 _ q177) ?_
   rintro e w179 ⟨c178, rfl, E180, B181⟩
   refine ⟨_, rfl, fun a F => ?_⟩
   have B := B181
   have h3 := TR.ev h3 E180 (fun q => q.elim) (fun q => q.elim)
   have h8 := SL.ev h8 E180 (fun q => q.elim) (fun q => q.elim)
   have h11 := TR.ev h11 E180 (fun q => q.elim) (fun q => q.elim)
   have h17 := AT.ev h17 E180 (fun q => q.elim)
   have E := E.trans E180 (fun x q => q.elim)
   refine q_val F rfl rfl (by decide) (r_move F rfl) fun a F => ?_
   obtain ⟨t183, q184, H⟩ := bind_some H
   refine q_call F rfl rfl (by decide) (r_call F Try.func85 rfl (by kernel_rfl) rfl) (tree_Tree_Depth.calls (m := m + 2) (by omega) B h3 _ q184) ?_
   rintro e w186 ⟨c185, rfl, E187, B188⟩
   refine ⟨_, rfl, fun a F => ?_⟩
   have B := B188
   have h3 := TR.ev h3 E187 (fun q => q.elim) (fun q => q.elim)
   have h8 := SL.ev h8 E187 (fun q => q.elim) (fun q => q.elim)
   have h11 := TR.ev h11 E187 (fun q => q.elim) (fun q => q.elim)
   have h17 := AT.ev h17 E187 (fun q => q.elim)
   have E := E.trans E187 (fun x q => q.elim)
   refine q_val F rfl rfl (by decide) (r_add F rfl rfl) fun a F => ?_
   refine q_val F rfl rfl (by decide) (r_gtr F rfl rfl) fun a F => ?_
   refine q_val F rfl rfl (by decide) (r_assign F rfl) fun a F => ?_
   refine nil ?_
   refine hK175 _ _ ?_
   by_cases hb190 : (IntKind.i64.wrap (t183 + 1)) < t176
   ·have H := (if_pos hb190).symm.trans H
    refine wp_cond_true ((F.ev rfl).trans (congrArg Value.bool (decide_eq_true hb190))) ?_
    refine wp_seq_k fun K191 hK191 => ?_
    refine regD (SB No c185 w186) 9 (.q 0 (.q 1 (.q 2 (.q 3 (.q 4 (.q 5 (.q 6 (.e 7 (.q 8 .nil))))))))) Try_hm (by decide +kernel) ?_
    intro w192 w1_ w2_ w3_ w4_
    have E193 : Ev No c185 w186 c185 w192 := Ev.same w1_ w2_ w3_ w4_
    have B := B.same w1_
    have zh3 := h3
    have zh8 := h8
    have zh11 := h11
    have zh17 := h17
    have ER : Ev No c185 w186 c185 w192 := Ev.same w1_ w2_ w3_ w4_
    have h3 := TR.ev h3 E193 (fun q => q.elim) (fun q => q.elim)
    have h8 := SL.ev h8 E193 (fun q => q.elim) (fun q => q.elim)
    have h11 := TR.ev h11 E193 (fun q => q.elim) (fun q => q.elim)
    have h17 := AT.ev h17 E193 (fun q => q.elim)
    have E := E.trans E193 (fun x q => q.elim)
    refine d_q F rfl rfl rfl (by decide) (fun wq hS => r_move F rfl) ER.sb fun a F => ?_
    refine d_q F rfl rfl rfl (by decide) (fun wq hS => r_move F rfl) ER.sb fun a F => ?_
    refine d_q F rfl rfl rfl (by decide) (fun wq hS => r_loads (cs := [.slice A6 a5.value.length C7, .int .i64 a5.rev]) F rfl ag_66 sz_66 (AT.sb zh17 hS (fun q => q.elim))) ER.sb fun a F => ?_
    refine d_q F rfl rfl rfl (by decide) (fun wq hS => r_move F rfl) ER.sb fun a F => ?_
    obtain ⟨tl194, tr195, tk196, tv197, ts198, td199, e200, H⟩ := cs_some H
    have z201 := zh11
    rw [e200] at z201
    obtain ⟨ad205, lp206, rp207, A202, C203, rfl, hat208, h204, hl209, hr210⟩ := TR.node z201
    have zh204 := h204
    have h204 := SL.ev h204 ER (fun q => q.elim) (fun q => q.elim)
    have zhl209 := hl209
    have hl209 := TR.ev hl209 ER (fun q => q.elim) (fun q => q.elim)
    have zhr210 := hr210
    have hr210 := TR.ev hr210 ER (fun q => q.elim) (fun q => q.elim)
    have zhat208 := hat208
    have hat208 := AT.ev hat208 ER (fun q => q.elim)
    refine d_q F rfl rfl rfl (by decide) (fun wq hS => r_nil F rfl) ER.sb fun a F => ?_
    refine d_q F rfl rfl rfl (by decide) (fun wq hS => r_fieldAddr F rfl ff_98_0) ER.sb fun a F => ?_
    refine d_q F rfl rfl rfl (by decide) (fun wq hS => r_load F rfl ag_68 (AT.cell (AT.sb zhat208 hS (fun q => q.elim)) rfl)) ER.sb fun a F => ?_
    refine d_e ?_
    obtain ⟨t212, q213, H⟩ := bind_some H
    refine o_call F rfl (wanted_none rfl) rfl (by decide) (r_call F Try.func77 rfl (by kernel_rfl) rfl) (ih (m := m + 2) (by omega) B h3 h8 hl209 _ q213) ?_
    rintro e w215 ⟨c214, p218, rfl, E216, B217, h219⟩
    refine ⟨_, rfl, fun a F => ?_⟩
    have B := B217
    have ER := ER.trans E216 (fun x q => q.elim)
    have h3 := TR.ev h3 E216 (fun q => q.elim) (fun q => q.elim)
    have h8 := SL.ev h8 E216 (fun q => q.elim) (fun q => q.elim)
    have h11 := TR.ev h11 E216 (fun q => q.elim) (fun q => q.elim)
    have h17 := AT.ev h17 E216 (fun q => q.elim)
    have h204 := SL.ev h204 E216 (fun q => q.elim) (fun q => q.elim)
    have hl209 := TR.ev hl209 E216 (fun q => q.elim) (fun q => q.elim)
    have hr210 := TR.ev hr210 E216 (fun q => q.elim) (fun q => q.elim)
    have hat208 := AT.ev hat208 E216 (fun q => q.elim)
    have E := E.trans E216 (fun x q => q.elim)
    refine ⟨fun _ => ER.sb, ?_⟩
    refine d_q F rfl rfl rfl (by decide) (fun wq hS => r_assign F rfl) ER.sb fun a F => ?_
    refine d_nil ?_
    refine hK191 _ _ ?_
    refine wp_seq_k fun K221 hK221 => ?_
    refine wp_seq_k fun K222 hK222 => ?_
    refine regD (SB No c214 w215) 11 (.q 0 (.q 1 (.q 2 (.q 3 (.q 4 (.q 5 (.q 6 (.q 7 (.e 8 (.q 9 (.q 10 .nil))))))))))) Try_hm (by decide +kernel) ?_
    intro w223 w1_ w2_ w3_ w4_
    have E224 : Ev No c214 w215 c214 w223 := Ev.same w1_ w2_ w3_ w4_
    have B := B.same w1_
    have zh3 := h3
    have zh8 := h8
    have zh11 := h11
    have zh17 := h17
    have zh204 := h204
    have zhl209 := hl209
    have zhr210 := hr210
    have zhat208 := hat208
    have zh219 := h219
    have ER : Ev No c214 w215 c214 w223 := Ev.same w1_ w2_ w3_ w4_
    have h3 := TR.ev h3 E224 (fun q => q.elim) (fun q => q.elim)
    have h8 := SL.ev h8 E224 (fun q => q.elim) (fun q => q.elim)
    have h11 := TR.ev h11 E224 (fun q => q.elim) (fun q => q.elim)
    have h17 := AT.ev h17 E224 (fun q => q.elim)
    have h204 := SL.ev h204 E224 (fun q => q.elim) (fun q => q.elim)
    have hl209 := TR.ev hl209 E224 (fun q => q.elim) (fun q => q.elim)
    have hr210 := TR.ev hr210 E224 (fun q => q.elim) (fun q => q.elim)
    have hat208 := AT.ev hat208 E224 (fun q => q.elim)
    have h219 := TR.ev h219 E224 (fun q => q.elim) (fun q => q.elim)
    have E := E.trans E224 (fun x q => q.elim)
    refine d_q F rfl rfl rfl (by decide) (fun wq hS => r_move F rfl) ER.sb fun a F => ?_
    obtain ⟨tl225, tr226, tk227, tv228, ts229, td230, e231, H⟩ := cs_some H
    have z232 := zh219
    rw [e231] at z232
    obtain ⟨ad236, lp237, rp238, A233, C234, rfl, hat239, h235, hl240, hr241⟩ := TR.node z232
    have zh235 := h235
    have h235 := SL.ev h235 ER (fun q => q.elim) (fun q => q.elim)
    have zhl240 := hl240
    have hl240 := TR.ev hl240 ER (fun q => q.elim) (fun q => q.elim)
    have zhr241 := hr241
    have hr241 := TR.ev hr241 ER (fun q => q.elim) (fun q => q.elim)
    have zhat239 := hat239
    have hat239 := AT.ev hat239 ER (fun q => q.elim)
    refine d_q F rfl rfl rfl (by decide) (fun wq hS => r_nil F rfl) ER.sb fun a F => ?_
    refine d_q F rfl rfl rfl (by decide) (fun wq hS => r_fieldAddr F rfl ff_98_5) ER.sb fun a F => ?_
    refine d_q F rfl rfl rfl (by decide) (fun wq hS => r_load F rfl ag_3 (AT.cell (AT.sb zhat239 hS (fun q => q.elim)) rfl)) ER.sb fun a F => ?_
    refine d_q F rfl rfl rfl (by decide) (fun wq hS => r_move F rfl) ER.sb fun a F => ?_
    refine d_q F rfl rfl rfl (by decide) (fun wq hS => r_nil F rfl) ER.sb fun a F => ?_
    refine d_q F rfl rfl rfl (by decide) (fun wq hS => r_fieldAddr F rfl ff_98_1) ER.sb fun a F => ?_
    refine d_q F rfl rfl rfl (by decide) (fun wq hS => r_load F rfl ag_68 (AT.cell (AT.sb zhat208 hS (fun q => q.elim)) rfl)) ER.sb fun a F => ?_
    refine d_e ?_
    obtain ⟨t243, q244, H⟩ := bind_some H
    refine o_call F rfl (wanted_none rfl) rfl (by decide) (r_call F Try.func85 rfl (by kernel_rfl) rfl) (tree_Tree_Depth.calls (m := m + 2) (by omega) B hr210 _ q244) ?_
    rintro e w246 ⟨c245, rfl, E247, B248⟩
    refine ⟨_, rfl, fun a F => ?_⟩
    have B := B248
    have ER := ER.trans E247 (fun x q => q.elim)
    have h3 := TR.ev h3 E247 (fun q => q.elim) (fun q => q.elim)
    have h8 := SL.ev h8 E247 (fun q => q.elim) (fun q => q.elim)
    have h11 := TR.ev h11 E247 (fun q => q.elim) (fun q => q.elim)
    have h17 := AT.ev h17 E247 (fun q => q.elim)
    have h204 := SL.ev h204 E247 (fun q => q.elim) (fun q => q.elim)
    have hl209 := TR.ev hl209 E247 (fun q => q.elim) (fun q => q.elim)
    have hr210 := TR.ev hr210 E247 (fun q => q.elim) (fun q => q.elim)
    have hat208 := AT.ev hat208 E247 (fun q => q.elim)
    have h219 := TR.ev h219 E247 (fun q => q.elim) (fun q => q.elim)
    have h235 := SL.ev h235 E247 (fun q => q.elim) (fun q => q.elim)
    have hl240 := TR.ev hl240 E247 (fun q => q.elim) (fun q => q.elim)
    have hr241 := TR.ev hr241 E247 (fun q => q.elim) (fun q => q.elim)
    have hat239 := AT.ev hat239 E247 (fun q => q.elim)
    have E := E.trans E247 (fun x q => q.elim)
    refine ⟨fun _ => ER.sb, ?_⟩
    refine d_q F rfl rfl rfl (by decide) (fun wq hS => r_add F rfl rfl) ER.sb fun a F => ?_
    refine d_q F rfl rfl rfl (by decide) (fun wq hS => r_gtr F rfl rfl) ER.sb fun a F => ?_
    refine d_nil ?_
    refine hK222 _ _ ?_
    by_cases hb250 : (IntKind.i64.wrap (t243 + 1)) < td230
    ·have H := (if_pos hb250).symm.trans H
     refine wp_cond_true ((F.ev rfl).trans (congrArg Value.bool (decide_eq_true hb250))) ?_
     refine wp_seq_k fun K251 hK251 => ?_
     refine wp_seq_k fun K252 hK252 => ?_
     refine regD (SB No c245 w246) 11 (.q 0 (.q 1 (.q 2 (.q 3 (.q 5 (.q 6 (.q 7 (.q 8 (.e 4 (.e 9 (.q 10 .nil))))))))))) Try_hm (by decide +kernel) ?_
     intro w253 w1_ w2_ w3_ w4_
     have E254 : Ev No c245 w246 c245 w253 := Ev.same w1_ w2_ w3_ w4_
     have B := B.same w1_
     have zh3 := h3
     have zh8 := h8
     have zh11 := h11
     have zh17 := h17
     have zh204 := h204
     have zhl209 := hl209
     have zhr210 := hr210
     have zhat208 := hat208
     have zh219 := h219
     have zh235 := h235
     have zhl240 := hl240
     have zhr241 := hr241
     have zhat239 := hat239
     have ER : Ev No c245 w246 c245 w253 := Ev.same w1_ w2_ w3_ w4_
     have h3 := TR.ev h3 E254 (fun q => q.elim) (fun q => q.elim)
     have h8 := SL.ev h8 E254 (fun q => q.elim) (fun q => q.elim)
     have h11 := TR.ev h11 E254 (fun q => q.elim) (fun q => q.elim)
     have h17 := AT.ev h17 E254 (fun q => q.elim)
     have h204 := SL.ev h204 E254 (fun q => q.elim) (fun q => q.elim)
     have hl209 := TR.ev hl209 E254 (fun q => q.elim) (fun q => q.elim)
     have hr210 := TR.ev hr210 E254 (fun q => q.elim) (fun q => q.elim)
     have hat208 := AT.ev hat208 E254 (fun q => q.elim)
     have h219 := TR.ev h219 E254 (fun q => q.elim) (fun q => q.elim)
     have h235 := SL.ev h235 E254 (fun q => q.elim) (fun q => q.elim)
     have hl240 := TR.ev hl240 E254 (fun q => q.elim) (fun q => q.elim)
     have hr241 := TR.ev hr241 E254 (fun q => q.elim) (fun q => q.elim)
     have hat239 := AT.ev hat239 E254 (fun q => q.elim)
     have E := E.trans E254 (fun x q => q.elim)
     refine d_q F rfl rfl rfl (by decide) (fun wq hS => r_move F rfl) ER.sb fun a F => ?_
     refine d_q F rfl rfl rfl (by decide) (fun wq hS => r_nil F rfl) ER.sb fun a F => ?_
     refine d_q F rfl rfl rfl (by decide) (fun wq hS => r_fieldAddr F rfl ff_98_1) ER.sb fun a F => ?_
     refine d_q F rfl rfl rfl (by decide) (fun wq hS => r_load F rfl ag_68 (AT.cell (AT.sb zhat239 hS (fun q => q.elim)) rfl)) ER.sb fun a F => ?_
     refine d_q F rfl rfl rfl (by decide) (fun wq hS => r_move F rfl) ER.sb fun a F => ?_
     refine d_q F rfl rfl rfl (by decide) (fun wq hS => r_nil F rfl) ER.sb fun a F => ?_
     refine d_q F rfl rfl rfl (by decide) (fun wq hS => r_fieldAddr F rfl ff_98_0) ER.sb fun a F => ?_
     refine d_q F rfl rfl rfl (by decide) (fun wq hS => r_load F rfl ag_68 (AT.cell (AT.sb zhat239 hS (fun q => q.elim)) rfl)) ER.sb fun a F => ?_
     refine d_e ?_
     obtain ⟨t255, q256, H⟩ := bind_some H
     refine o_call F rfl (wanted_none rfl) rfl (by decide) (r_call F Try.func85 rfl (by kernel_rfl) rfl) (tree_Tree_Depth.calls (m := m + 2) (by omega) B hr241 _ q256) ?_
     rintro e w258 ⟨c257, rfl, E259, B260⟩
     refine ⟨_, rfl, fun a F => ?_⟩
     have B := B260
     have ER := ER.trans E259 (fun x q => q.elim)
     have h3 := TR.ev h3 E259 (fun q => q.elim) (fun q => q.elim)
     have h8 := SL.ev h8 E259 (fun q => q.elim) (fun q => q.elim)
     have h11 := TR.ev h11 E259 (fun q => q.elim) (fun q => q.elim)
     have h17 := AT.ev h17 E259 (fun q => q.elim)
     have h204 := SL.ev h204 E259 (fun q => q.elim) (fun q => q.elim)
     have hl209 := TR.ev hl209 E259 (fun q => q.elim) (fun q => q.elim)
     have hr210 := TR.ev hr210 E259 (fun q => q.elim) (fun q => q.elim)
     have hat208 := AT.ev hat208 E259 (fun q => q.elim)
     have h219 := TR.ev h219 E259 (fun q => q.elim) (fun q => q.elim)
     have h235 := SL.ev h235 E259 (fun q => q.elim) (fun q => q.elim)
     have hl240 := TR.ev hl240 E259 (fun q => q.elim) (fun q => q.elim)
     have hr241 := TR.ev hr241 E259 (fun q => q.elim) (fun q => q.elim)
     have hat239 := AT.ev hat239 E259 (fun q => q.elim)
     have E := E.trans E259 (fun x q => q.elim)
     refine ⟨fun _ => ER.sb, ?_⟩
     refine d_e ?_
     obtain ⟨t262, q263, H⟩ := bind_some H
     refine o_call F rfl (wanted_none rfl) rfl (by decide) (r_call F Try.func85 rfl (by kernel_rfl) rfl) (tree_Tree_Depth.calls (m := m + 2) (by omega) B hl240 _ q263) ?_
     rintro e w265 ⟨c264, rfl, E266, B267⟩
     refine ⟨_, rfl, fun a F => ?_⟩
     have B := B267
     have ER := ER.trans E266 (fun x q => q.elim)
     have h3 := TR.ev h3 E266 (fun q => q.elim) (fun q => q.elim)
     have h8 := SL.ev h8 E266 (fun q => q.elim) (fun q => q.elim)
     have h11 := TR.ev h11 E266 (fun q => q.elim) (fun q => q.elim)
     have h17 := AT.ev h17 E266 (fun q => q.elim)
     have h204 := SL.ev h204 E266 (fun q => q.elim) (fun q => q.elim)
     have hl209 := TR.ev hl209 E266 (fun q => q.elim) (fun q => q.elim)
     have hr210 := TR.ev hr210 E266 (fun q => q.elim) (fun q => q.elim)
     have hat208 := AT.ev hat208 E266 (fun q => q.elim)
     have h219 := TR.ev h219 E266 (fun q => q.elim) (fun q => q.elim)
     have h235 := SL.ev h235 E266 (fun q => q.elim) (fun q => q.elim)
     have hl240 := TR.ev hl240 E266 (fun q => q.elim) (fun q => q.elim)
     have hr241 := TR.ev hr241 E266 (fun q => q.elim) (fun q => q.elim)
     have hat239 := AT.ev hat239 E266 (fun q => q.elim)
     have E := E.trans E266 (fun x q => q.elim)
     refine ⟨fun _ => ER.sb, ?_⟩
     refine d_q F rfl rfl rfl (by decide) (fun wq hS => r_gtr F rfl rfl) ER.sb fun a F => ?_
     refine d_nil ?_
     refine hK252 _ _ ?_
     by_cases hb269 : t262 < t255
     ·have H := (if_pos hb269).symm.trans H
      refine wp_cond_true ((F.ev rfl).trans (congrArg Value.bool (decide_eq_true hb269))) ?_
      refine reg ?_
      refine q_val F rfl rfl (by decide) (r_move F rfl) fun a F => ?_
      obtain ⟨t270, q271, H⟩ := bind_some H
      refine q_call F rfl rfl (by decide) (r_call F Try.func87 rfl (by kernel_rfl) rfl) (tree_turnLeft.calls (m := m + 2) (by omega) B h219 _ q271) ?_
      rintro e w273 ⟨c272, p276, rfl, E274, B275, h277⟩
      refine ⟨_, rfl, fun a F => ?_⟩
      have B := B275
      have h3 := TR.ev h3 E274 (fun q => q.elim) (fun q => q.elim)
      have h8 := SL.ev h8 E274 (fun q => q.elim) (fun q => q.elim)
      have h11 := TR.ev h11 E274 (fun q => q.elim) (fun q => q.elim)
      have h17 := AT.ev h17 E274 (fun q => q.elim)
      have h204 := SL.ev h204 E274 (fun q => q.elim) (fun q => q.elim)
      have hl209 := TR.ev hl209 E274 (fun q => q.elim) (fun q => q.elim)
      have hr210 := TR.ev hr210 E274 (fun q => q.elim) (fun q => q.elim)
      have hat208 := AT.ev hat208 E274 (fun q => q.elim)
      have h219 := TR.ev h219 E274 (fun q => q.elim) (fun q => q.elim)
      have h235 := SL.ev h235 E274 (fun q => q.elim) (fun q => q.elim)
      have hl240 := TR.ev hl240 E274 (fun q => q.elim) (fun q => q.elim)
      have hr241 := TR.ev hr241 E274 (fun q => q.elim) (fun q => q.elim)
      have hat239 := AT.ev hat239 E274 (fun q => q.elim)
      have E := E.trans E274 (fun x q => q.elim)
      refine q_val F rfl rfl (by decide) (r_assign F rfl) fun a F => ?_
      refine nil ?_
      refine hK251 _ _ ?_
      refine wp_seq_k fun K279 hK279 => ?_
      refine regD (SB No c272 w273) 16 (.q 0 (.q 1 (.q 2 (.q 3 (.q 4 (.q 5 (.q 6 (.q 7 (.q 8 (.q 9 (.q 10 (.q 11 (.q 12 (.e 13 (.e 14 (.q 15 .nil)))))))))))))))) Try_hm (by decide +kernel) ?_
      intro w280 w1_ w2_ w3_ w4_
      have E281 : Ev No c272 w273 c272 w280 := Ev.same w1_ w2_ w3_ w4_
      have B := B.same w1_
      have zh3 := h3
      have zh8 := h8
      have zh11 := h11
      have zh17 := h17
      have zh204 := h204
      have zhl209 := hl209
      have zhr210 := hr210
      have zhat208 := hat208
      have zh219 := h219
      have zh235 := h235
      have zhl240 := hl240
      have zhr241 := hr241
      have zhat239 := hat239
      have zh277 := h277
      have ER : Ev No c272 w273 c272 w280 := Ev.same w1_ w2_ w3_ w4_
      have h3 := TR.ev h3 E281 (fun q => q.elim) (fun q => q.elim)
      have h8 := SL.ev h8 E281 (fun q => q.elim) (fun q => q.elim)
      have h11 := TR.ev h11 E281 (fun q => q.elim) (fun q => q.elim)
      have h17 := AT.ev h17 E281 (fun q => q.elim)
      have h204 := SL.ev h204 E281 (fun q => q.elim) (fun q => q.elim)
      have hl209 := TR.ev hl209 E281 (fun q => q.elim) (fun q => q.elim)
      have hr210 := TR.ev hr210 E281 (fun q => q.elim) (fun q => q.elim)
      have hat208 := AT.ev hat208 E281 (fun q => q.elim)
      have h219 := TR.ev h219 E281 (fun q => q.elim) (fun q => q.elim)
      have h235 := SL.ev h235 E281 (fun q => q.elim) (fun q => q.elim)
      have hl240 := TR.ev hl240 E281 (fun q => q.elim) (fun q => q.elim)
      have hr241 := TR.ev hr241 E281 (fun q => q.elim) (fun q => q.elim)
      have hat239 := AT.ev hat239 E281 (fun q => q.elim)
      have h277 := TR.ev h277 E281 (fun q => q.elim) (fun q => q.elim)
      have E := E.trans E281 (fun x q => q.elim)
      refine d_q F rfl rfl rfl (by decide) (fun wq hS => r_move F rfl) ER.sb fun a F => ?_
      refine d_q F rfl rfl rfl (by decide) (fun wq hS => r_move F rfl) ER.sb fun a F => ?_
      refine d_q F rfl rfl rfl (by decide) (fun wq hS => r_nil F rfl) ER.sb fun a F => ?_
      refine d_q F rfl rfl rfl (by decide) (fun wq hS => r_fieldAddr F rfl ff_98_2) ER.sb fun a F => ?_
      refine d_q F rfl rfl rfl (by decide) (fun wq hS => r_load F rfl ag_9 (AT.cell (AT.sb zhat208 hS (fun q => q.elim)) rfl)) ER.sb fun a F => ?_
      refine d_q F rfl rfl rfl (by decide) (fun wq hS => r_move F rfl) ER.sb fun a F => ?_
      refine d_q F rfl rfl rfl (by decide) (fun wq hS => r_nil F rfl) ER.sb fun a F => ?_
      refine d_q F rfl rfl rfl (by decide) (fun wq hS => r_fieldAddr F rfl ff_98_3) ER.sb fun a F => ?_
      refine d_q F rfl rfl rfl (by decide) (fun wq hS => r_loads (cs := [.slice A202 tv197.value.length C203, .int .i64 tv197.rev]) F rfl ag_66 sz_66 (AT.sub (AT.sb zhat208 hS (fun q => q.elim)) 3 2 (Nat.le_of_ble_eq_true rfl))) ER.sb fun a F => ?_
      refine d_q F rfl rfl rfl (by decide) (fun wq hS => r_move F rfl) ER.sb fun a F => ?_
      refine d_q F rfl rfl rfl (by decide) (fun wq hS => r_nil F rfl) ER.sb fun a F => ?_
      refine d_q F rfl rfl rfl (by decide) (fun wq hS => r_fieldAddr F rfl ff_98_1) ER.sb fun a F => ?_
      refine d_q F rfl rfl rfl (by decide) (fun wq hS => r_load F rfl ag_68 (AT.cell (AT.sb zhat208 hS (fun q => q.elim)) rfl)) ER.sb fun a F => ?_
      refine d_e ?_
      obtain ⟨t282, q283, H⟩ := bind_some H
      refine o_call F rfl (wanted_none rfl) rfl (by decide) (r_call F Try.func79 rfl (by kernel_rfl) rfl) (tree_node.calls (m := m + 2) (by omega) B h277 h204 hr210 _ q283) ?_
      rintro e w285 ⟨c284, p288, rfl, E286, B287, h289⟩
      refine ⟨_, rfl, fun a F => ?_⟩
      have B := B287
      have ER := ER.trans E286 (fun x q => q.elim)
      have h3 := TR.ev h3 E286 (fun q => q.elim) (fun q => q.elim)
      have h8 := SL.ev h8 E286 (fun q => q.elim) (fun q => q.elim)
      have h11 := TR.ev h11 E286 (fun q => q.elim) (fun q => q.elim)
      have h17 := AT.ev h17 E286 (fun q => q.elim)
      have h204 := SL.ev h204 E286 (fun q => q.elim) (fun q => q.elim)
      have hl209 := TR.ev hl209 E286 (fun q => q.elim) (fun q => q.elim)
      have hr210 := TR.ev hr210 E286 (fun q => q.elim) (fun q => q.elim)
      have hat208 := AT.ev hat208 E286 (fun q => q.elim)
      have h219 := TR.ev h219 E286 (fun q => q.elim) (fun q => q.elim)
      have h235 := SL.ev h235 E286 (fun q => q.elim) (fun q => q.elim)
      have hl240 := TR.ev hl240 E286 (fun q => q.elim) (fun q => q.elim)
      have hr241 := TR.ev hr241 E286 (fun q => q.elim) (fun q => q.elim)
      have hat239 := AT.ev hat239 E286 (fun q => q.elim)
      have h277 := TR.ev h277 E286 (fun q => q.elim) (fun q => q.elim)
      have E := E.trans E286 (fun x q => q.elim)
      refine ⟨fun _ => ER.sb, ?_⟩
      refine d_e ?_
      obtain ⟨t291, q292, H⟩ := bind_some H
      refine o_call F rfl (wanted_none rfl) rfl (by decide) (r_call F Try.func86 rfl (by kernel_rfl) rfl) (tree_turnRight.calls (m := m + 2) (by omega) B h289 _ q292) ?_
      rintro e w294 ⟨c293, p297, rfl, E295, B296, h298⟩
      refine ⟨_, rfl, fun a F => ?_⟩
      have B := B296
      have ER := ER.trans E295 (fun x q => q.elim)
      have h3 := TR.ev h3 E295 (fun q => q.elim) (fun q => q.elim)
      have h8 := SL.ev h8 E295 (fun q => q.elim) (fun q => q.elim)
      have h11 := TR.ev h11 E295 (fun q => q.elim) (fun q => q.elim)
      have h17 := AT.ev h17 E295 (fun q => q.elim)
      have h204 := SL.ev h204 E295 (fun q => q.elim) (fun q => q.elim)
      have hl209 := TR.ev hl209 E295 (fun q => q.elim) (fun q => q.elim)
      have hr210 := TR.ev hr210 E295 (fun q => q.elim) (fun q => q.elim)
      have hat208 := AT.ev hat208 E295 (fun q => q.elim)
      have h219 := TR.ev h219 E295 (fun q => q.elim) (fun q => q.elim)
      have h235 := SL.ev h235 E295 (fun q => q.elim) (fun q => q.elim)
      have hl240 := TR.ev hl240 E295 (fun q => q.elim) (fun q => q.elim)
      have hr241 := TR.ev hr241 E295 (fun q => q.elim) (fun q => q.elim)
      have hat239 := AT.ev hat239 E295 (fun q => q.elim)
      have h277 := TR.ev h277 E295 (fun q => q.elim) (fun q => q.elim)
      have h289 := TR.ev h289 E295 (fun q => q.elim) (fun q => q.elim)
      have E := E.trans E295 (fun x q => q.elim)
      refine ⟨fun _ => ER.sb, ?_⟩
      refine d_q F rfl rfl rfl (by decide) (fun wq hS => r_assign F rfl) ER.sb fun a F => ?_
      refine d_nil ?_
      refine hK279 _ _ ?_
      refine wp_ret ?_
      refine thenR ?_
      refine inbR ?_
      refine thenR ?_
      have H := Option.some.inj H
      subst H
      refine out1 F rfl rfl ?_
      exact ⟨fun b_ => (fun x_ => if x_ < m then x_ else 0) (c293 b_), p297, rfl, E.leave B0 (fun x_ => if x_ < m then x_ else 0) (by intro x_ hx_; show (if x_ < m then x_ else 0) = x_; ((repeat' split) <;> omega)), (fun b_ hb_ => by show (if (c293 b_) < m then (c293 b_) else 0) < m; ((repeat' split) <;> omega)), TR.rc h298 (fun k_ hk_ => by show (if (c293 k_) < m then (c293 k_) else 0) = _; rw [hk_]; ((repeat' split) <;> omega)) (fun k_ hk_ => by show (if (c293 k_) < m then (c293 k_) else 0) = _; rw [hk_]; ((repeat' split) <;> omega))⟩
     ·have H := (if_neg hb269).symm.trans H
      refine wp_cond_false ((F.ev rfl).trans (congrArg Value.bool (decide_eq_false hb269))) ?_
      refine wp_skip ?_
      refine hK251 _ _ ?_
      refine wp_seq_k fun K300 hK300 => ?_
      refine regD (SB No c264 w265) 16 (.q 0 (.q 1 (.q 2 (.q 3 (.q 4 (.q 5 (.q 6 (.q 7 (.q 8 (.q 9 (.q 10 (.q 11 (.q 12 (.e 13 (.e 14 (.q 15 .nil)))))))))))))))) Try_hm (by decide +kernel) ?_
      intro w301 w1_ w2_ w3_ w4_
      have E302 : Ev No c264 w265 c264 w301 := Ev.same w1_ w2_ w3_ w4_
      have B := B.same w1_
      have zh3 := h3
      have zh8 := h8
      have zh11 := h11
      have zh17 := h17
      have zh204 := h204
      have zhl209 := hl209
      have zhr210 := hr210
      have zhat208 := hat208
      have zh219 := h219
      have zh235 := h235
      have zhl240 := hl240
      have zhr241 := hr241
      have zhat239 := hat239
      have ER : Ev No c264 w265 c264 w301 := Ev.same w1_ w2_ w3_ w4_
      have h3 := TR.ev h3 E302 (fun q => q.elim) (fun q => q.elim)
      have h8 := SL.ev h8 E302 (fun q => q.elim) (fun q => q.elim)
      have h11 := TR.ev h11 E302 (fun q => q.elim) (fun q => q.elim)
      have h17 := AT.ev h17 E302 (fun q => q.elim)
      have h204 := SL.ev h204 E302 (fun q => q.elim) (fun q => q.elim)
      have hl209 := TR.ev hl209 E302 (fun q => q.elim) (fun q => q.elim)
      have hr210 := TR.ev hr210 E302 (fun q => q.elim) (fun q => q.elim)
      have hat208 := AT.ev hat208 E302 (fun q => q.elim)
      have h219 := TR.ev h219 E302 (fun q => q.elim) (fun q => q.elim)
      have h235 := SL.ev h235 E302 (fun q => q.elim) (fun q => q.elim)
      have hl240 := TR.ev hl240 E302 (fun q => q.elim) (fun q => q.elim)
      have hr241 := TR.ev hr241 E302 (fun q => q.elim) (fun q => q.elim)
      have hat239 := AT.ev hat239 E302 (fun q => q.elim)
      have E := E.trans E302 (fun x q => q.elim)
      refine d_q F rfl rfl rfl (by decide) (fun wq hS => r_move F rfl) ER.sb fun a F => ?_
      refine d_q F rfl rfl rfl (by decide) (fun wq hS => r_move F rfl) ER.sb fun a F => ?_
      refine d_q F rfl rfl rfl (by decide) (fun wq hS => r_nil F rfl) ER.sb fun a F => ?_
      refine d_q F rfl rfl rfl (by decide) (fun wq hS => r_fieldAddr F rfl ff_98_2) ER.sb fun a F => ?_
      refine d_q F rfl rfl rfl (by decide) (fun wq hS => r_load F rfl ag_9 (AT.cell (AT.sb zhat208 hS (fun q => q.elim)) rfl)) ER.sb fun a F => ?_
      refine d_q F rfl rfl rfl (by decide) (fun wq hS => r_move F rfl) ER.sb fun a F => ?_
      refine d_q F rfl rfl rfl (by decide) (fun wq hS => r_nil F rfl) ER.sb fun a F => ?_
      refine d_q F rfl rfl rfl (by decide) (fun wq hS => r_fieldAddr F rfl ff_98_3) ER.sb fun a F => ?_
      refine d_q F rfl rfl rfl (by decide) (fun wq hS => r_loads (cs := [.slice A202 tv197.value.length C203, .int .i64 tv197.rev]) F rfl ag_66 sz_66 (AT.sub (AT.sb zhat208 hS (fun q => q.elim)) 3 2 (Nat.le_of_ble_eq_true rfl))) ER.sb fun a F => ?_
      refine d_q F rfl rfl rfl (by decide) (fun wq hS => r_move F rfl) ER.sb fun a F => ?_
      refine d_q F rfl rfl rfl (by decide) (fun wq hS => r_nil F rfl) ER.sb fun a F => ?_
      refine d_q F rfl rfl rfl (by decide) (fun wq hS => r_fieldAddr F rfl ff_98_1) ER.sb fun a F => ?_
      refine d_q F rfl rfl rfl (by decide) (fun wq hS => r_load F rfl ag_68 (AT.cell (AT.sb zhat208 hS (fun q => q.elim)) rfl)) ER.sb fun a F => ?_
      refine d_e ?_
      obtain ⟨t282, q283, H⟩ := bind_some H
      refine o_call F rfl (wanted_none rfl) rfl (by decide) (r_call F Try.func79 rfl (by kernel_rfl) rfl) (tree_node.calls (m := m + 2) (by omega) B h219 h204 hr210 _ q283) ?_
      rintro e w304 ⟨c303, p307, rfl, E305, B306, h308⟩
      refine ⟨_, rfl, fun a F => ?_⟩
      have B := B306
      have ER := ER.trans E305 (fun x q => q.elim)
      have h3 := TR.ev h3 E305 (fun q => q.elim) (fun q => q.elim)
      have h8 := SL.ev h8 E305 (fun q => q.elim) (fun q => q.elim)
      have h11 := TR.ev h11 E305 (fun q => q.elim) (fun q => q.elim)
      have h17 := AT.ev h17 E305 (fun q => q.elim)
      have h204 := SL.ev h204 E305 (fun q => q.elim) (fun q => q.elim)
      have hl209 := TR.ev hl209 E305 (fun q => q.elim) (fun q => q.elim)
      have hr210 := TR.ev hr210 E305 (fun q => q.elim) (fun q => q.elim)
      have hat208 := AT.ev hat208 E305 (fun q => q.elim)
      have h219 := TR.ev h219 E305 (fun q => q.elim) (fun q => q.elim)
      have h235 := SL.ev h235 E305 (fun q => q.elim) (fun q => q.elim)
      have hl240 := TR.ev hl240 E305 (fun q => q.elim) (fun q => q.elim)
      have hr241 := TR.ev hr241 E305 (fun q => q.elim) (fun q => q.elim)
      have hat239 := AT.ev hat239 E305 (fun q => q.elim)
      have E := E.trans E305 (fun x q => q.elim)
      refine ⟨fun _ => ER.sb, ?_⟩
      refine d_e ?_
      obtain ⟨t291, q292, H⟩ := bind_some H
      refine o_call F rfl (wanted_none rfl) rfl (by decide) (r_call F Try.func86 rfl (by kernel_rfl) rfl) (tree_turnRight.calls (m := m + 2) (by omega) B h308 _ q292) ?_
      rintro e w311 ⟨c310, p314, rfl, E312, B313, h315⟩
      refine ⟨_, rfl, fun a F => ?_⟩
      have B := B313
      have ER := ER.trans E312 (fun x q => q.elim)
      have h3 := TR.ev h3 E312 (fun q => q.elim) (fun q => q.elim)
      have h8 := SL.ev h8 E312 (fun q => q.elim) (fun q => q.elim)
      have h11 := TR.ev h11 E312 (fun q => q.elim) (fun q => q.elim)
      have h17 := AT.ev h17 E312 (fun q => q.elim)
      have h204 := SL.ev h204 E312 (fun q => q.elim) (fun q => q.elim)
      have hl209 := TR.ev hl209 E312 (fun q => q.elim) (fun q => q.elim)
      have hr210 := TR.ev hr210 E312 (fun q => q.elim) (fun q => q.elim)
      have hat208 := AT.ev hat208 E312 (fun q => q.elim)
      have h219 := TR.ev h219 E312 (fun q => q.elim) (fun q => q.elim)
      have h235 := SL.ev h235 E312 (fun q => q.elim) (fun q => q.elim)
      have hl240 := TR.ev hl240 E312 (fun q => q.elim) (fun q => q.elim)
      have hr241 := TR.ev hr241 E312 (fun q => q.elim) (fun q => q.elim)
      have hat239 := AT.ev hat239 E312 (fun q => q.elim)
      have h308 := TR.ev h308 E312 (fun q => q.elim) (fun q => q.elim)
      have E := E.trans E312 (fun x q => q.elim)
      refine ⟨fun _ => ER.sb, ?_⟩
      refine d_q F rfl rfl rfl (by decide) (fun wq hS => r_assign F rfl) ER.sb fun a F => ?_
      refine d_nil ?_
      refine hK300 _ _ ?_
      refine wp_ret ?_
      refine thenR ?_
      refine inbR ?_
      refine thenR ?_
      have H := Option.some.inj H
      subst H
      refine out1 F rfl rfl ?_
      exact ⟨fun b_ => (fun x_ => if x_ < m then x_ else 0) (c310 b_), p314, rfl, E.leave B0 (fun x_ => if x_ < m then x_ else 0) (by intro x_ hx_; show (if x_ < m then x_ else 0) = x_; ((repeat' split) <;> omega)), (fun b_ hb_ => by show (if (c310 b_) < m then (c310 b_) else 0) < m; ((repeat' split) <;> omega)), TR.rc h315 (fun k_ hk_ => by show (if (c310 k_) < m then (c310 k_) else 0) = _; rw [hk_]; ((repeat' split) <;> omega)) (fun k_ hk_ => by show (if (c310 k_) < m then (c310 k_) else 0) = _; rw [hk_]; ((repeat' split) <;> omega))⟩
    ·have H := (if_neg hb250).symm.trans H
     refine wp_cond_false ((F.ev rfl).trans (congrArg Value.bool (decide_eq_false hb250))) ?_
     refine wp_skip ?_
     refine hK221 _ _ ?_
     refine wp_seq_k fun K317 hK317 => ?_
     refine regD (SB No c245 w246) 15 (.q 0 (.q 1 (.q 2 (.q 3 (.q 4 (.q 5 (.q 6 (.q 7 (.q 8 (.q 9 (.q 10 (.q 11 (.q 12 (.e 13 (.q 14 .nil))))))))))))))) Try_hm (by decide +kernel) ?_
     intro w318 w1_ w2_ w3_ w4_
     have E319 : Ev No c245 w246 c245 w318 := Ev.same w1_ w2_ w3_ w4_
     have B := B.same w1_
     have zh3 := h3
     have zh8 := h8
     have zh11 := h11
     have zh17 := h17
     have zh204 := h204
     have zhl209 := hl209
     have zhr210 := hr210
     have zhat208 := hat208
     have zh219 := h219
     have zh235 := h235
     have zhl240 := hl240
     have zhr241 := hr241
     have zhat239 := hat239
     have ER : Ev No c245 w246 c245 w318 := Ev.same w1_ w2_ w3_ w4_
     have h3 := TR.ev h3 E319 (fun q => q.elim) (fun q => q.elim)
     have h8 := SL.ev h8 E319 (fun q => q.elim) (fun q => q.elim)
     have h11 := TR.ev h11 E319 (fun q => q.elim) (fun q => q.elim)
     have h17 := AT.ev h17 E319 (fun q => q.elim)
     have h204 := SL.ev h204 E319 (fun q => q.elim) (fun q => q.elim)
     have hl209 := TR.ev hl209 E319 (fun q => q.elim) (fun q => q.elim)
     have hr210 := TR.ev hr210 E319 (fun q => q.elim) (fun q => q.elim)
     have hat208 := AT.ev hat208 E319 (fun q => q.elim)
     have h219 := TR.ev h219 E319 (fun q => q.elim) (fun q => q.elim)
     have h235 := SL.ev h235 E319 (fun q => q.elim) (fun q => q.elim)
     have hl240 := TR.ev hl240 E319 (fun q => q.elim) (fun q => q.elim)
     have hr241 := TR.ev hr241 E319 (fun q => q.elim) (fun q => q.elim)
     have hat239 := AT.ev hat239 E319 (fun q => q.elim)
     have E := E.trans E319 (fun x q => q.elim)
     refine d_q F rfl rfl rfl (by decide) (fun wq hS => r_move F rfl) ER.sb fun a F => ?_
     refine d_q F rfl rfl rfl (by decide) (fun wq hS => r_move F rfl) ER.sb fun a F => ?_
     refine d_q F rfl rfl rfl (by decide) (fun wq hS => r_nil F rfl) ER.sb fun a F => ?_
     refine d_q F rfl rfl rfl (by decide) (fun wq hS => r_fieldAddr F rfl ff_98_2) ER.sb fun a F => ?_
     refine d_q F rfl rfl rfl (by decide) (fun wq hS => r_load F rfl ag_9 (AT.cell (AT.sb zhat208 hS (fun q => q.elim)) rfl)) ER.sb fun a F => ?_
     refine d_q F rfl rfl rfl (by decide) (fun wq hS => r_move F rfl) ER.sb fun a F => ?_
     refine d_q F rfl rfl rfl (by decide) (fun wq hS => r_nil F rfl) ER.sb fun a F => ?_
     refine d_q F rfl rfl rfl (by decide) (fun wq hS => r_fieldAddr F rfl ff_98_3) ER.sb fun a F => ?_
     refine d_q F rfl rfl rfl (by decide) (fun wq hS => r_loads (cs := [.slice A202 tv197.value.length C203, .int .i64 tv197.rev]) F rfl ag_66 sz_66 (AT.sub (AT.sb zhat208 hS (fun q => q.elim)) 3 2 (Nat.le_of_ble_eq_true rfl))) ER.sb fun a F => ?_
     refine d_q F rfl rfl rfl (by decide) (fun wq hS => r_move F rfl) ER.sb fun a F => ?_
     refine d_q F rfl rfl rfl (by decide) (fun wq hS => r_nil F rfl) ER.sb fun a F => ?_
     refine d_q F rfl rfl rfl (by decide) (fun wq hS => r_fieldAddr F rfl ff_98_1) ER.sb fun a F => ?_
     refine d_q F rfl rfl rfl (by decide) (fun wq hS => r_load F rfl ag_68 (AT.cell (AT.sb zhat208 hS (fun q => q.elim)) rfl)) ER.sb fun a F => ?_
     refine d_e ?_
     obtain ⟨t320, q321, H⟩ := bind_some H
     refine o_call F rfl (wanted_none rfl) rfl (by decide) (r_call F Try.func79 rfl (by kernel_rfl) rfl) (tree_node.calls (m := m + 2) (by omega) B h219 h204 hr210 _ q321) ?_
     rintro e w323 ⟨c322, p326, rfl, E324, B325, h327⟩
     refine ⟨_, rfl, fun a F => ?_⟩
     have B := B325
     have ER := ER.trans E324 (fun x q => q.elim)
     have h3 := TR.ev h3 E324 (fun q => q.elim) (fun q => q.elim)
     have h8 := SL.ev h8 E324 (fun q => q.elim) (fun q => q.elim)
     have h11 := TR.ev h11 E324 (fun q => q.elim) (fun q => q.elim)
     have h17 := AT.ev h17 E324 (fun q => q.elim)
     have h204 := SL.ev h204 E324 (fun q => q.elim) (fun q => q.elim)
     have hl209 := TR.ev hl209 E324 (fun q => q.elim) (fun q => q.elim)
     have hr210 := TR.ev hr210 E324 (fun q => q.elim) (fun q => q.elim)
     have hat208 := AT.ev hat208 E324 (fun q => q.elim)
     have h219 := TR.ev h219 E324 (fun q => q.elim) (fun q => q.elim)
     have h235 := SL.ev h235 E324 (fun q => q.elim) (fun q => q.elim)
     have hl240 := TR.ev hl240 E324 (fun q => q.elim) (fun q => q.elim)
     have hr241 := TR.ev hr241 E324 (fun q => q.elim) (fun q => q.elim)
     have hat239 := AT.ev hat239 E324 (fun q => q.elim)
     have E := E.trans E324 (fun x q => q.elim)
     refine ⟨fun _ => ER.sb, ?_⟩
     refine d_q F rfl rfl rfl (by decide) (fun wq hS => r_assign F rfl) ER.sb fun a F => ?_
     refine d_nil ?_
     refine hK317 _ _ ?_
     refine wp_ret ?_
     refine inbR ?_
     refine thenR ?_
     have H := Option.some.inj H
     subst H
     refine out1 F rfl rfl ?_
     exact ⟨fun b_ => (fun x_ => if x_ < m then x_ else 0) (c322 b_), p326, rfl, E.leave B0 (fun x_ => if x_ < m then x_ else 0) (by intro x_ hx_; show (if x_ < m then x_ else 0) = x_; ((repeat' split) <;> omega)), (fun b_ hb_ => by show (if (c322 b_) < m then (c322 b_) else 0) < m; ((repeat' split) <;> omega)), TR.rc h327 (fun k_ hk_ => by show (if (c322 k_) < m then (c322 k_) else 0) = _; rw [hk_]; ((repeat' split) <;> omega)) (fun k_ hk_ => by show (if (c322 k_) < m then (c322 k_) else 0) = _; rw [hk_]; ((repeat' split) <;> omega))⟩
   ·have H := (if_neg hb190).symm.trans H
    refine wp_cond_false ((F.ev rfl).trans (congrArg Value.bool (decide_eq_false hb190))) ?_
    refine wp_skip ?_
    refine hK20 _ _ ?_
    refine wp_seq_k fun K329 hK329 => ?_
    refine reg ?_
    refine q_val F rfl rfl (by decide) (r_move F rfl) fun a F => ?_
    refine q_val F rfl rfl (by decide) (r_move F rfl) fun a F => ?_
    refine q_val F rfl rfl (by decide) (r_loads (cs := [.slice A6 a5.value.length C7, .int .i64 a5.rev]) F rfl ag_66 sz_66 h17) fun a F => ?_
    refine q_val F rfl rfl (by decide) (r_move F rfl) fun a F => ?_
    obtain ⟨t330, q331, H⟩ := bind_some H
    refine q_call F rfl rfl (by decide) (r_call F Try.func79 rfl (by kernel_rfl) rfl) (tree_node.calls (m := m + 2) (by omega) B h3 h8 h11 _ q331) ?_
    rintro e w333 ⟨c332, p336, rfl, E334, B335, h337⟩
    refine ⟨_, rfl, fun a F => ?_⟩
    have B := B335
    have h3 := TR.ev h3 E334 (fun q => q.elim) (fun q => q.elim)
    have h8 := SL.ev h8 E334 (fun q => q.elim) (fun q => q.elim)
    have h11 := TR.ev h11 E334 (fun q => q.elim) (fun q => q.elim)
    have h17 := AT.ev h17 E334 (fun q => q.elim)
    have E := E.trans E334 (fun x q => q.elim)
    refine q_val F rfl rfl (by decide) (r_assign F rfl) fun a F => ?_
    refine nil ?_
    refine hK329 _ _ ?_
    refine wp_ret ?_
    have H := Option.some.inj H
    subst H
    refine out1 F rfl rfl ?_
    exact ⟨fun b_ => (fun x_ => if x_ < m then x_ else 0) (c332 b_), p336, rfl, E.leave B0 (fun x_ => if x_ < m then x_ else 0) (by intro x_ hx_; show (if x_ < m then x_ else 0) = x_; ((repeat' split) <;> omega)), (fun b_ hb_ => by show (if (c332 b_) < m then (c332 b_) else 0) < m; ((repeat' split) <;> omega)), TR.rc h337 (fun k_ hk_ => by show (if (c332 k_) < m then (c332 k_) else 0) = _; rw [hk_]; ((repeat' split) <;> omega)) (fun k_ hk_ => by show (if (c332 k_) < m then (c332 k_) else 0) = _; rw [hk_]; ((repeat' split) <;> omega))⟩
end Go.Proofs.Ytcolmmjcdlmcoaa.G
namespace Go.Proofs.Ytcolmmjcdlmcoaa.G
open Go Go.RowKit
set_option linter.unusedVariables false
set_option linter.unusedSimpArgs false
set_option maxRecDepth 100000 in
set_option maxHeartbeats 4000000 in
theorem tree_last.calls (k : Nat) : ∀ {m : Nat} {c0 : Nat → Nat} {w0 : World} {p2 : Option Addr} {a1 : Tr} (hm0 : 0 < m) (B0 : CB m c0 w0) (h3 : TR 0 c0 w0 p2 a1) (r : Tr × ByteArray × table_cell) (H : tree_last.f k a1 = some r), Calls Try.prog 88 #[.pointer p2] w0 (fun e w_ => ∃ (c_ : Nat → Nat) (P0_ : Option Addr) (A1_ : Option Addr) (C1_ : Nat), e = .returned (.tuple #[.pointer P0_, .string r.2.1, .agg #[.slice A1_ r.2.2.value.length C1_, .int .i64 r.2.2.rev]]) ∧ Ev (fun x => False) c0 w0 c_ w_ ∧ CB m c_ w_ ∧ TR 0 c_ w_ P0_ r.1 ∧ SL false (Kint .u8) 0 0 c_ w_ A1_ C1_ r.2.2.value) := by
 induction k with
 | zero => intro m c0 w0 p2 a1 hm0 B0 h3 r H; exact absurd H (by simp [tree_last.f])
 | succ k ih =>
  intro m c0 w0 p2 a1 hm0 B0 h3 r H
  unfold tree_last.f at H
  have B := B0.mono (show m ≤ m + 3 by omega)
  have E : Ev (fun x => False ∨ m ≤ x) c0 w0 c0 w0 := Ev.refl
  refine enter (N := 50) (l := [.pointer p2]) Try.func88 rfl rfl (Nat.le_of_ble_eq_true rfl) fun a F => ?_
  refine wp_seq_k fun K4 hK4 => ?_
  refine reg ?_
  refine q_val F rfl rfl (by decide) (r_assign F rfl) fun a F => ?_
  refine q_val F rfl rfl (by decide) (r_assign F rfl) fun a F => ?_
  refine q_eff F rfl rfl (by decide) (e_alloc F zv_66 c0 (m + 1)) ?_
  rintro v w6 a ⟨c5, qa7, rfl, E8, h9, B10⟩ F
  have B := B10 _ B (by omega)
  have h3 := TR.ev h3 E8 (fun q => q.elim) (fun q => q.elim)
  have E := E.trans E8 (fun x q => q.elim)
  have h9 : AT true (m + 1) c5 w6 qa7 [.slice none 0 0, .int .i64 0] := h9
  refine nil ?_
  refine hK4 _ _ ?_
  refine wp_seq_k fun K12 hK12 => ?_
  refine wp_seq_k fun K13 hK13 => ?_
  refine reg ?_
  refine q_val F rfl rfl (by decide) (r_move F rfl) fun a F => ?_
  obtain ⟨tl14, tr15, tk16, tv17, ts18, td19, e20, H⟩ := cs_some H
  have z21 := h3
  rw [e20] at z21
  obtain ⟨ad25, lp26, rp27, A22, C23, rfl, hat28, h24, hl29, hr30⟩ := TR.node z21
  refine q_val F rfl rfl (by decide) (r_nil F rfl) fun a F => ?_
  refine q_val F rfl rfl (by decide) (r_fieldAddr F rfl ff_98_1) fun a F => ?_
  refine q_val F rfl rfl (by decide) (r_load F rfl ag_68 (AT.cell hat28 rfl)) fun a F => ?_
  refine q_val F rfl rfl (by decide) (r_peqlA F Try.underlying68 rfl rfl (TR.isNil hr30)) fun a F => ?_
  refine nil ?_
  refine hK13 _ _ ?_
  by_cases hb32 : (Tr.isNil tr15) = true
  ·have H := (if_pos hb32).symm.trans H
   refine wp_cond_true ((F.ev rfl).trans (congrArg Value.bool hb32)) ?_
   refine wp_seq_k fun K33 hK33 => ?_
   refine regD (SB No c5 w6) 14 (.q 0 (.q 1 (.q 2 (.q 3 (.q 4 (.q 5 (.q 6 (.q 7 (.q 8 (.q 9 (.q 10 (.q 11 (.q 12 (.q 13 (.e 14 .nil))))))))))))))) Try_hm (by decide +kernel) ?_
   intro w34 w1_ w2_ w3_ w4_
   have E35 : Ev No c5 w6 c5 w34 := Ev.same w1_ w2_ w3_ w4_
   have B := B.same w1_
   have zh3 := h3
   have zh9 := h9
   have zh24 := h24
   have zhl29 := hl29
   have zhr30 := hr30
   have zhat28 := hat28
   have ER : Ev No c5 w6 c5 w34 := Ev.same w1_ w2_ w3_ w4_
   have h3 := TR.ev h3 E35 (fun q => q.elim) (fun q => q.elim)
   have h9 := AT.ev h9 E35 (fun q => q.elim)
   have h24 := SL.ev h24 E35 (fun q => q.elim) (fun q => q.elim)
   have hl29 := TR.ev hl29 E35 (fun q => q.elim) (fun q => q.elim)
   have hr30 := TR.ev hr30 E35 (fun q => q.elim) (fun q => q.elim)
   have hat28 := AT.ev hat28 E35 (fun q => q.elim)
   have E := E.trans E35 (fun x q => q.elim)
   refine d_q F rfl rfl rfl (by decide) (fun wq hS => r_move F rfl) ER.sb fun a F => ?_
   refine d_q F rfl rfl rfl (by decide) (fun wq hS => r_nil F rfl) ER.sb fun a F => ?_
   refine d_q F rfl rfl rfl (by decide) (fun wq hS => r_fieldAddr F rfl ff_98_0) ER.sb fun a F => ?_
   refine d_q F rfl rfl rfl (by decide) (fun wq hS => r_load F rfl ag_68 (AT.cell (AT.sb zhat28 hS (fun q => q.elim)) rfl)) ER.sb fun a F => ?_
   refine d_q F rfl rfl rfl (by decide) (fun wq hS => r_move F rfl) ER.sb fun a F => ?_
   refine d_q F rfl rfl rfl (by decide) (fun wq hS => r_nil F rfl) ER.sb fun a F => ?_
   refine d_q F rfl rfl rfl (by decide) (fun wq hS => r_fieldAddr F rfl ff_98_2) ER.sb fun a F => ?_
   refine d_q F rfl rfl rfl (by decide) (fun wq hS => r_load F rfl ag_9 (AT.cell (AT.sb zhat28 hS (fun q => q.elim)) rfl)) ER.sb fun a F => ?_
   refine d_q F rfl rfl rfl (by decide) (fun wq hS => r_move F rfl) ER.sb fun a F => ?_
   refine d_q F rfl rfl rfl (by decide) (fun wq hS => r_nil F rfl) ER.sb fun a F => ?_
   refine d_q F rfl rfl rfl (by decide) (fun wq hS => r_fieldAddr F rfl ff_98_3) ER.sb fun a F => ?_
   refine d_q F rfl rfl rfl (by decide) (fun wq hS => r_loads (cs := [.slice A22 tv17.value.length C23, .int .i64 tv17.rev]) F rfl ag_66 sz_66 (AT.sub (AT.sb zhat28 hS (fun q => q.elim)) 3 2 (Nat.le_of_ble_eq_true rfl))) ER.sb fun a F => ?_
   refine d_q F rfl rfl rfl (by decide) (fun wq hS => r_assign F rfl) ER.sb fun a F => ?_
   refine d_q F rfl rfl rfl (by decide) (fun wq hS => r_assign F rfl) ER.sb fun a F => ?_
   refine d_e ?_
   refine o_eff0 F rfl rfl rfl (e_storeN0 (us := [.slice A22 tv17.value.length C23, .int .i64 tv17.rev]) F rfl rfl sz_66 h9 (Nat.le_of_ble_eq_true rfl) (one_all rfl)) ?_
   rintro w36 a ⟨E37, h9, Z38⟩ F
   have B := B.size Z38
   have h3 := TR.ev h3 E37 (by show ¬ (0 = m + 1); omega) (by show ¬ (0 = m + 1); omega)
   have h24 := SL.ev h24 E37 (by show ¬ (0 = m + 1); omega) (by show ¬ (0 = m + 1); omega)
   have hl29 := TR.ev hl29 E37 (by show ¬ (0 = m + 1); omega) (by show ¬ (0 = m + 1); omega)
   have hr30 := TR.ev hr30 E37 (by show ¬ (0 = m + 1); omega) (by show ¬ (0 = m + 1); omega)
   have hat28 := AT.ev hat28 E37 (by show ¬ (0 = m + 1); omega)
   have E := E.trans E37 (fun x q => by replace q : x = m + 1 := q; show False ∨ m ≤ x; omega)
   have h9 : AT true (m + 1) c5 w36 qa7 [.slice A22 tv17.value.length C23, .int .i64 tv17.rev] := h9
   refine ⟨fun q => absurd rfl q, ?_⟩
   refine d_nil ?_
   refine hK33 _ _ ?_
   refine wp_ret ?_
   refine thenR ?_
   have H := Option.some.inj H
   subst H
   refine outR3 F rfl rfl rfl ⟨_, rfl, lv_agg (cs := [.slice A22 tv17.value.length C23, .int .i64 tv17.rev]) ag_66 sz_66 h9⟩ ?_
   exact ⟨fun b_ => (fun x_ => if x_ < m then x_ else 0) (c5 b_), lp26, A22, C23, rfl, E.leave B0 (fun x_ => if x_ < m then x_ else 0) (by intro x_ hx_; show (if x_ < m then x_ else 0) = x_; ((repeat' split) <;> omega)), (fun b_ hb_ => by show (if (c5 b_) < m then (c5 b_) else 0) < m; ((repeat' split) <;> omega)), TR.rc hl29 (fun k_ hk_ => by show (if (c5 k_) < m then (c5 k_) else 0) = _; rw [hk_]; ((repeat' split) <;> omega)) (fun k_ hk_ => by show (if (c5 k_) < m then (c5 k_) else 0) = _; rw [hk_]; ((repeat' split) <;> omega)), SL.rc h24 (fun k_ hk_ => by show (if (c5 k_) < m then (c5 k_) else 0) = _; rw [hk_]; ((repeat' split) <;> omega)) (fun k_ hk_ => by show (if (c5 k_) < m then (c5 k_) else 0) = _; rw [hk_]; ((repeat' split) <;> omega))⟩
  ·have H := (if_neg hb32).symm.trans H
   refine wp_cond_false ((F.ev rfl).trans (congrArg Value.bool (bfalse hb32))) ?_
   refine wp_skip ?_
   refine hK12 _ _ ?_
   refine wp_seq_k fun K39 hK39 => ?_
   refine reg ?_
   refine q_val F rfl rfl (by decide) (r_move F rfl) fun a F => ?_
   refine q_val F rfl rfl (by decide) (r_nil F rfl) fun a F => ?_
   refine q_val F rfl rfl (by decide) (r_fieldAddr F rfl ff_98_1) fun a F => ?_
   refine q_val F rfl rfl (by decide) (r_load F rfl ag_68 (AT.cell hat28 rfl)) fun a F => ?_
   obtain ⟨t40, q41, H⟩ := bind_some H
   refine q_call F rfl rfl (by decide) (r_call F Try.func88 rfl (by kernel_rfl) rfl) (ih (m := m + 3) (by omega) B hr30 _ q41) ?_
   rintro e w43 ⟨c42, p46, A48, C49, rfl, E44, B45, h47, h50⟩
   refine ⟨_, rfl, fun a F => ?_⟩
   have B := B45
   have h3 := TR.ev h3 E44 (fun q => q.elim) (fun q => q.elim)
   have h9 := AT.ev h9 E44 (fun q => q.elim)
   have h24 := SL.ev h24 E44 (fun q => q.elim) (fun q => q.elim)
   have hl29 := TR.ev hl29 E44 (fun q => q.elim) (fun q => q.elim)
   have hr30 := TR.ev hr30 E44 (fun q => q.elim) (fun q => q.elim)
   have hat28 := AT.ev hat28 E44 (fun q => q.elim)
   have E := E.trans E44 (fun x q => q.elim)
   refine q_val F rfl rfl (by decide) (r_move F rfl) fun a F => ?_
   refine q_val F rfl rfl (by decide) (r_extract F rfl rfl) fun a F => ?_
   refine q_val F rfl rfl (by decide) (r_extract F rfl rfl) fun a F => ?_
   refine q_val F rfl rfl (by decide) (r_extract F rfl rfl) fun a F => ?_
   refine q_eff F rfl rfl (by decide) (e_alloc F zv_66 c42 (m + 2)) ?_
   rintro v w53 a ⟨c52, qa54, rfl, E55, h56, B57⟩ F
   have B := B57 _ B (by omega)
   have h3 := TR.ev h3 E55 (fun q => q.elim) (fun q => q.elim)
   have h9 := AT.ev h9 E55 (fun q => q.elim)
   have h24 := SL.ev h24 E55 (fun q => q.elim) (fun q => q.elim)
   have hl29 := TR.ev hl29 E55 (fun q => q.elim) (fun q => q.elim)
   have hr30 := TR.ev hr30 E55 (fun q => q.elim) (fun q => q.elim)
   have hat28 := AT.ev hat28 E55 (fun q => q.elim)
   have h47 := TR.ev h47 E55 (fun q => q.elim) (fun q => q.elim)
   have h50 := SL.ev h50 E55 (fun q => q.elim) (fun q => q.elim)
   have E := E.trans E55 (fun x q => q.elim)
   have h56 : AT true (m + 2) c52 w53 qa54 [.slice none 0 0, .int .i64 0] := h56
   refine q_val F rfl rfl (by decide) (r_assign F rfl) fun a F => ?_
   refine q_val F rfl rfl (by decide) (r_assign F rfl) fun a F => ?_
   refine q_eff0 F rfl rfl (e_storeN0 (us := [.slice A48 t40.2.2.value.length C49, .int .i64 t40.2.2.rev]) F rfl rfl sz_66 h56 (Nat.le_of_ble_eq_true rfl) (one_all rfl)) ?_
   rintro w59 a ⟨E60, h56, Z61⟩ F
   have B := B.size Z61
   have h3 := TR.ev h3 E60 (by show ¬ (0 = m + 2); omega) (by show ¬ (0 = m + 2); omega)
   have h9 := AT.ev h9 E60 (by show ¬ (m + 1 = m + 2); omega)
   have h24 := SL.ev h24 E60 (by show ¬ (0 = m + 2); omega) (by show ¬ (0 = m + 2); omega)
   have hl29 := TR.ev hl29 E60 (by show ¬ (0 = m + 2); omega) (by show ¬ (0 = m + 2); omega)
   have hr30 := TR.ev hr30 E60 (by show ¬ (0 = m + 2); omega) (by show ¬ (0 = m + 2); omega)
   have hat28 := AT.ev hat28 E60 (by show ¬ (0 = m + 2); omega)
   have h47 := TR.ev h47 E60 (by show ¬ (0 = m + 2); omega) (by show ¬ (0 = m + 2); omega)
   have h50 := SL.ev h50 E60 (by show ¬ (0 = m + 2); omega) (by show ¬ (0 = m + 2); omega)
   have E := E.trans E60 (fun x q => by replace q : x = m + 2 := q; show False ∨ m ≤ x; omega)
   have h56 : AT true (m + 2) c52 w59 qa54 [.slice A48 t40.2.2.value.length C49, .int .i64 t40.2.2.rev] := h56
   refine nil ?_
   refine hK39 _ _ ?_
   refine wp_seq_k fun K62 hK62 => ?_
   refine regD (SB No c52 w59) 18 (.q 0 (.q 1 (.q 2 (.q 3 (.q 4 (.q 5 (.q 6 (.q 7 (.q 8 (.q 9 (.q 10 (.q 11 (.q 12 (.q 14 (.q 15 (.e 13 (.q 16 (.q 17 (.e 18 .nil))))))))))))))))))) Try_hm (by decide +kernel) ?_
   intro w63 w1_ w2_ w3_ w4_
   have E64 : Ev No c52 w59 c52 w63 := Ev.same w1_ w2_ w3_ w4_
   have B := B.same w1_
   have zh3 := h3
   have zh9 := h9
   have zh24 := h24
   have zhl29 := hl29
   have zhr30 := hr30
   have zhat28 := hat28
   have zh47 := h47
   have zh50 := h50
   have zh56 := h56
   have ER : Ev No c52 w59 c52 w63 := Ev.same w1_ w2_ w3_ w4_
   have h3 := TR.ev h3 E64 (fun q => q.elim) (fun q => q.elim)
   have h9 := AT.ev h9 E64 (fun q => q.elim)
   have h24 := SL.ev h24 E64 (fun q => q.elim) (fun q => q.elim)
   have hl29 := TR.ev hl29 E64 (fun q => q.elim) (fun q => q.elim)
   have hr30 := TR.ev hr30 E64 (fun q => q.elim) (fun q => q.elim)
   have hat28 := AT.ev hat28 E64 (fun q => q.elim)
   have h47 := TR.ev h47 E64 (fun q => q.elim) (fun q => q.elim)
   have h50 := SL.ev h50 E64 (fun q => q.elim) (fun q => q.elim)
   have h56 := AT.ev h56 E64 (fun q => q.elim)
   have E := E.trans E64 (fun x q => q.elim)
   refine d_q F rfl rfl rfl (by decide) (fun wq hS => r_move F rfl) ER.sb fun a F => ?_
   refine d_q F rfl rfl rfl (by decide) (fun wq hS => r_nil F rfl) ER.sb fun a F => ?_
   refine d_q F rfl rfl rfl (by decide) (fun wq hS => r_fieldAddr F rfl ff_98_0) ER.sb fun a F => ?_
   refine d_q F rfl rfl rfl (by decide) (fun wq hS => r_load F rfl ag_68 (AT.cell (AT.sb zhat28 hS (fun q => q.elim)) rfl)) ER.sb fun a F => ?_
   refine d_q F rfl rfl rfl (by decide) (fun wq hS => r_move F rfl) ER.sb fun a F => ?_
   refine d_q F rfl rfl rfl (by decide) (fun wq hS => r_nil F rfl) ER.sb fun a F => ?_
   refine d_q F rfl rfl rfl (by decide) (fun wq hS => r_fieldAddr F rfl ff_98_2) ER.sb fun a F => ?_
   refine d_q F rfl rfl rfl (by decide) (fun wq hS => r_load F rfl ag_9 (AT.cell (AT.sb zhat28 hS (fun q => q.elim)) rfl)) ER.sb fun a F => ?_
   refine d_q F rfl rfl rfl (by decide) (fun wq hS => r_move F rfl) ER.sb fun a F => ?_
   refine d_q F rfl rfl rfl (by decide) (fun wq hS => r_nil F rfl) ER.sb fun a F => ?_
   refine d_q F rfl rfl rfl (by decide) (fun wq hS => r_fieldAddr F rfl ff_98_3) ER.sb fun a F => ?_
   refine d_q F rfl rfl rfl (by decide) (fun wq hS => r_loads (cs := [.slice A22 tv17.value.length C23, .int .i64 tv17.rev]) F rfl ag_66 sz_66 (AT.sub (AT.sb zhat28 hS (fun q => q.elim)) 3 2 (Nat.le_of_ble_eq_true rfl))) ER.sb fun a F => ?_
   refine d_q F rfl rfl rfl (by decide) (fun wq hS => r_move F rfl) ER.sb fun a F => ?_
   refine d_q F rfl rfl rfl (by decide) (fun wq hS => r_move F rfl) ER.sb fun a F => ?_
   refine d_q F rfl rfl rfl (by decide) (fun wq hS => r_loads (cs := [.slice A48 t40.2.2.value.length C49, .int .i64 t40.2.2.rev]) F rfl ag_66 sz_66 (AT.sb zh56 hS (fun q => q.elim))) ER.sb fun a F => ?_
   refine d_e ?_
   obtain ⟨t65, q66, H⟩ := bind_some H
   refine o_call F rfl (wanted_none rfl) rfl (by decide) (r_call F Try.func77 rfl (by kernel_rfl) rfl) (tree_join.calls k (m := m + 3) (by omega) B hl29 h24 h47 _ q66) ?_
   rintro e w68 ⟨c67, p71, rfl, E69, B70, h72⟩
   refine ⟨_, rfl, fun a F => ?_⟩
   have B := B70
   have ER := ER.trans E69 (fun x q => q.elim)
   have h3 := TR.ev h3 E69 (fun q => q.elim) (fun q => q.elim)
   have h9 := AT.ev h9 E69 (fun q => q.elim)
   have h24 := SL.ev h24 E69 (fun q => q.elim) (fun q => q.elim)
   have hl29 := TR.ev hl29 E69 (fun q => q.elim) (fun q => q.elim)
   have hr30 := TR.ev hr30 E69 (fun q => q.elim) (fun q => q.elim)
   have hat28 := AT.ev hat28 E69 (fun q => q.elim)
   have h47 := TR.ev h47 E69 (fun q => q.elim) (fun q => q.elim)
   have h50 := SL.ev h50 E69 (fun q => q.elim) (fun q => q.elim)
   have h56 := AT.ev h56 E69 (fun q => q.elim)
   have E := E.trans E69 (fun x q => q.elim)
   refine ⟨fun _ => ER.sb, ?_⟩
   refine d_q F rfl rfl rfl (by decide) (fun wq hS => r_assign F rfl) ER.sb fun a F => ?_
   refine d_q F rfl rfl rfl (by decide) (fun wq hS => r_assign F rfl) ER.sb fun a F => ?_
   refine d_e ?_
   refine o_eff0 F rfl rfl rfl (e_storeN0 (us := [.slice A48 t40.2.2.value.length C49, .int .i64 t40.2.2.rev]) F rfl rfl sz_66 h9 (Nat.le_of_ble_eq_true rfl) (one_all rfl)) ?_
   rintro w74 a ⟨E75, h9, Z76⟩ F
   have B := B.size Z76
   have h3 := TR.ev h3 E75 (by show ¬ (0 = m + 1); omega) (by show ¬ (0 = m + 1); omega)
   have h24 := SL.ev h24 E75 (by show ¬ (0 = m + 1); omega) (by show ¬ (0 = m + 1); omega)
   have hl29 := TR.ev hl29 E75 (by show ¬ (0 = m + 1); omega) (by show ¬ (0 = m + 1); omega)
   have hr30 := TR.ev hr30 E75 (by show ¬ (0 = m + 1); omega) (by show ¬ (0 = m + 1); omega)
   have hat28 := AT.ev hat28 E75 (by show ¬ (0 = m + 1); omega)
   have h47 := TR.ev h47 E75 (by show ¬ (0 = m + 1); omega) (by show ¬ (0 = m + 1); omega)
   have h50 := SL.ev h50 E75 (by show ¬ (0 = m + 1); omega) (by show ¬ (0 = m + 1); omega)
   have h56 := AT.ev h56 E75 (by show ¬ (m + 2 = m + 1); omega)
   have h72 := TR.ev h72 E75 (by show ¬ (0 = m + 1); omega) (by show ¬ (0 = m + 1); omega)
   have E := E.trans E75 (fun x q => by replace q : x = m + 1 := q; show False ∨ m ≤ x; omega)
   have h9 : AT true (m + 1) c67 w74 qa7 [.slice A48 t40.2.2.value.length C49, .int .i64 t40.2.2.rev] := h9
   refine ⟨fun q => absurd rfl q, ?_⟩
   refine d_nil ?_
   refine hK62 _ _ ?_
   refine wp_ret ?_
   have H := Option.some.inj H
   subst H
   refine outR3 F rfl rfl rfl ⟨_, rfl, lv_agg (cs := [.slice A48 t40.2.2.value.length C49, .int .i64 t40.2.2.rev]) ag_66 sz_66 h9⟩ ?_
   exact ⟨fun b_ => (fun x_ => if x_ < m then x_ else 0) (c67 b_), p71, A48, C49, rfl, E.leave B0 (fun x_ => if x_ < m then x_ else 0) (by intro x_ hx_; show (if x_ < m then x_ else 0) = x_; ((repeat' split) <;> omega)), (fun b_ hb_ => by show (if (c67 b_) < m then (c67 b_) else 0) < m; ((repeat' split) <;> omega)), TR.rc h72 (fun k_ hk_ => by show (if (c67 k_) < m then (c67 k_) else 0) = _; rw [hk_]; ((repeat' split) <;> omega)) (fun k_ hk_ => by show (if (c67 k_) < m then (c67 k_) else 0) = _; rw [hk_]; ((repeat' split) <;> omega)), SL.rc h50 (fun k_ hk_ => by show (if (c67 k_) < m then (c67 k_) else 0) = _; rw [hk_]; ((repeat' split) <;> omega)) (fun k_ hk_ => by show (if (c67 k_) < m then (c67 k_) else 0) = _; rw [hk_]; ((repeat' split) <;> omega))⟩
end Go.Proofs.Ytcolmmjcdlmcoaa.G
namespace Go.Proofs.Ytcolmmjcdlmcoaa.G
open Go Go.RowKit
set_option linter.unusedVariables false
set_option linter.unusedSimpArgs false
set_option maxRecDepth 100000 in
set_option maxHeartbeats 4000000 in
theorem tree_both.calls (k : Nat) {m : Nat} {c0 : Nat → Nat} {w0 : World} {p2 : Option Addr} {p5 : Option Addr} {a1 : Tr} {a4 : Tr} (hm0 : 0 < m) (B0 : CB m c0 w0) (h3 : TR 0 c0 w0 p2 a1) (h6 : TR 0 c0 w0 p5 a4) (r : Tr) (H : tree_both.f k a1 a4 = some r) : Calls Try.prog 78 #[.pointer p2, .pointer p5] w0 (fun e w_ => ∃ (c_ : Nat → Nat) (P0_ : Option Addr), e = .returned (.pointer P0_) ∧ Ev (fun x => False) c0 w0 c_ w_ ∧ CB m c_ w_ ∧ TR 0 c_ w_ P0_ r) := by
 unfold tree_both.f at H
 have B := B0.mono (show m ≤ m + 2 by omega)
 have E : Ev (fun x => False ∨ m ≤ x) c0 w0 c0 w0 := Ev.refl
 refine enter (N := 21) (l := [.pointer p2, .pointer p5]) Try.func78 rfl rfl (Nat.le_of_ble_eq_true rfl) fun a F => ?_
 refine wp_seq_k fun K7 hK7 => ?_
 refine reg ?_
 refine q_val F rfl rfl (by decide) (r_assign F rfl) fun a F => ?_
 refine nil ?_
 refine hK7 _ _ ?_
 refine wp_seq_k fun K8 hK8 => ?_
 refine wp_seq_k fun K9 hK9 => ?_
 refine reg ?_
 refine q_val F rfl rfl (by decide) (r_move F rfl) fun a F => ?_
 refine q_val F rfl rfl (by decide) (r_peqlA F Try.underlying68 rfl rfl (TR.isNil h3)) fun a F => ?_
 refine nil ?_
 refine hK9 _ _ ?_
 by_cases hb10 : (Tr.isNil a1) = true
 ·have H := (if_pos hb10).symm.trans H
  refine wp_cond_true ((F.ev rfl).trans (congrArg Value.bool hb10)) ?_
  refine wp_seq_k fun K11 hK11 => ?_
  refine reg ?_
  refine q_val F rfl rfl (by decide) (r_move F rfl) fun a F => ?_
  refine q_val F rfl rfl (by decide) (r_assign F rfl) fun a F => ?_
  refine nil ?_
  refine hK11 _ _ ?_
  refine wp_ret ?_
  refine thenR ?_
  have H := Option.some.inj H
  subst H
  refine out1 F rfl rfl ?_
  exact ⟨fun b_ => (fun x_ => if x_ < m then x_ else 0) (c0 b_), p5, rfl, E.leave B0 (fun x_ => if x_ < m then x_ else 0) (by intro x_ hx_; show (if x_ < m then x_ else 0) = x_; ((repeat' split) <;> omega)), (fun b_ hb_ => by show (if (c0 b_) < m then (c0 b_) else 0) < m; ((repeat' split) <;> omega)), TR.rc h6 (fun k_ hk_ => by show (if (c0 k_) < m then (c0 k_) else 0) = _; rw [hk_]; ((repeat' split) <;> omega)) (fun k_ hk_ => by show (if (c0 k_) < m then (c0 k_) else 0) = _; rw [hk_]; ((repeat' split) <;> omega))⟩
 ·have H := (if_neg hb10).symm.trans H
  refine wp_cond_false ((F.ev rfl).trans (congrArg Value.bool (bfalse hb10))) ?_
  refine wp_skip ?_
  refine hK8 _ _ ?_
  refine wp_seq_k fun K12 hK12 => ?_
  refine reg ?_
  refine q_val F rfl rfl (by decide) (r_move F rfl) fun a F => ?_
  obtain ⟨t13, q14, H⟩ := bind_some H
  refine q_call F rfl rfl (by decide) (r_call F Try.func88 rfl (by kernel_rfl) rfl) (tree_last.calls k (m := m + 2) (by omega) B h3 _ q14) ?_
  rintro e w16 ⟨c15, p19, A21, C22, rfl, E17, B18, h20, h23⟩
  refine ⟨_, rfl, fun a F => ?_⟩
  have B := B18
  have h3 := TR.ev h3 E17 (fun q => q.elim) (fun q => q.elim)
  have h6 := TR.ev h6 E17 (fun q => q.elim) (fun q => q.elim)
  have E := E.trans E17 (fun x q => q.elim)
  refine q_val F rfl rfl (by decide) (r_move F rfl) fun a F => ?_
  refine q_val F rfl rfl (by decide) (r_extract F rfl rfl) fun a F => ?_
  refine q_val F rfl rfl (by decide) (r_extract F rfl rfl) fun a F => ?_
  refine q_val F rfl rfl (by decide) (r_extract F rfl rfl) fun a F => ?_
  refine q_eff F rfl rfl (by decide) (e_alloc F zv_66 c15 (m + 1)) ?_
  rintro v w26 a ⟨c25, qa27, rfl, E28, h29, B30⟩ F
  have B := B30 _ B (by omega)
  have h3 := TR.ev h3 E28 (fun q => q.elim) (fun q => q.elim)
  have h6 := TR.ev h6 E28 (fun q => q.elim) (fun q => q.elim)
  have h20 := TR.ev h20 E28 (fun q => q.elim) (fun q => q.elim)
  have h23 := SL.ev h23 E28 (fun q => q.elim) (fun q => q.elim)
  have E := E.trans E28 (fun x q => q.elim)
  have h29 : AT true (m + 1) c25 w26 qa27 [.slice none 0 0, .int .i64 0] := h29
  refine q_val F rfl rfl (by decide) (r_assign F rfl) fun a F => ?_
  refine q_val F rfl rfl (by decide) (r_assign F rfl) fun a F => ?_
  refine q_eff0 F rfl rfl (e_storeN0 (us := [.slice A21 t13.2.2.value.length C22, .int .i64 t13.2.2.rev]) F rfl rfl sz_66 h29 (Nat.le_of_ble_eq_true rfl) (one_all rfl)) ?_
  rintro w32 a ⟨E33, h29, Z34⟩ F
  have B := B.size Z34
  have h3 := TR.ev h3 E33 (by show ¬ (0 = m + 1); omega) (by show ¬ (0 = m + 1); omega)
  have h6 := TR.ev h6 E33 (by show ¬ (0 = m + 1); omega) (by show ¬ (0 = m + 1); omega)
  have h20 := TR.ev h20 E33 (by show ¬ (0 = m + 1); omega) (by show ¬ (0 = m + 1); omega)
  have h23 := SL.ev h23 E33 (by show ¬ (0 = m + 1); omega) (by show ¬ (0 = m + 1); omega)
  have E := E.trans E33 (fun x q => by replace q : x = m + 1 := q; show False ∨ m ≤ x; omega)
  have h29 : AT true (m + 1) c25 w32 qa27 [.slice A21 t13.2.2.value.length C22, .int .i64 t13.2.2.rev] := h29
  refine nil ?_
  refine hK12 _ _ ?_
  refine wp_seq_k fun K35 hK35 => ?_
  refine reg ?_
  refine q_val F rfl rfl (by decide) (r_move F rfl) fun a F => ?_
  refine q_val F rfl rfl (by decide) (r_move F rfl) fun a F => ?_
  refine q_val F rfl rfl (by decide) (r_loads (cs := [.slice A21 t13.2.2.value.length C22, .int .i64 t13.2.2.rev]) F rfl ag_66 sz_66 h29) fun a F => ?_
  refine q_val F rfl rfl (by decide) (r_move F rfl) fun a F => ?_
  obtain ⟨t36, q37, H⟩ := bind_some H
  refine q_call F rfl rfl (by decide) (r_call F Try.func77 rfl (by kernel_rfl) rfl) (tree_join.calls k (m := m + 2) (by omega) B h20 h23 h6 _ q37) ?_
  rintro e w39 ⟨c38, p42, rfl, E40, B41, h43⟩
  refine ⟨_, rfl, fun a F => ?_⟩
  have B := B41
  have h3 := TR.ev h3 E40 (fun q => q.elim) (fun q => q.elim)
  have h6 := TR.ev h6 E40 (fun q => q.elim) (fun q => q.elim)
  have h20 := TR.ev h20 E40 (fun q => q.elim) (fun q => q.elim)
  have h23 := SL.ev h23 E40 (fun q => q.elim) (fun q => q.elim)
  have h29 := AT.ev h29 E40 (fun q => q.elim)
  have E := E.trans E40 (fun x q => q.elim)
  refine q_val F rfl rfl (by decide) (r_assign F rfl) fun a F => ?_
  refine nil ?_
  refine hK35 _ _ ?_
  refine wp_ret ?_
  have H := Option.some.inj H
  subst H
  refine out1 F rfl rfl ?_
  exact ⟨fun b_ => (fun x_ => if x_ < m then x_ else 0) (c38 b_), p42, rfl, E.leave B0 (fun x_ => if x_ < m then x_ else 0) (by intro x_ hx_; show (if x_ < m then x_ else 0) = x_; ((repeat' split) <;> omega)), (fun b_ hb_ => by show (if (c38 b_) < m then (c38 b_) else 0) < m; ((repeat' split) <;> omega)), TR.rc h43 (fun k_ hk_ => by show (if (c38 k_) < m then (c38 k_) else 0) = _; rw [hk_]; ((repeat' split) <;> omega)) (fun k_ hk_ => by show (if (c38 k_) < m then (c38 k_) else 0) = _; rw [hk_]; ((repeat' split) <;> omega))⟩
end Go.Proofs.Ytcolmmjcdlmcoaa.G
namespace Go.Proofs.Ytcolmmjcdlmcoaa.G
open Go Go.RowKit
set_option linter.unusedVariables false
set_option linter.unusedSimpArgs false
set_option maxRecDepth 100000 in
set_option maxHeartbeats 4000000 in
theorem tree_New.calls {m : Nat} {c0 : Nat → Nat} {w0 : World} (hm0 : 0 < m) (B0 : CB m c0 w0) (r : Tr) (H : tree_New.f = some r) : Calls Try.prog 50 #[] w0 (fun e w_ => ∃ (c_ : Nat → Nat) (P0_ : Option Addr), e = .returned (.pointer P0_) ∧ Ev (fun x => False) c0 w0 c_ w_ ∧ CB m c_ w_ ∧ TR 0 c_ w_ P0_ r) := by
 unfold tree_New.f at H
 have B := B0.mono (show m ≤ m + 1 by omega)
 have E : Ev (fun x => False ∨ m ≤ x) c0 w0 c0 w0 := Ev.refl
 refine enter (N := 1) (l := []) Try.func50 rfl rfl (Nat.le_of_ble_eq_true rfl) fun a F => ?_
 refine wp_seq_k fun K1 hK1 => ?_
 refine reg ?_
 refine q_val F rfl rfl (by decide) (r_assign F rfl) fun a F => ?_
 refine nil ?_
 refine hK1 _ _ ?_
 refine wp_seq_k fun K2 hK2 => ?_
 refine reg ?_
 refine q_val F rfl rfl (by decide) (r_assign F rfl) fun a F => ?_
 refine nil ?_
 refine hK2 _ _ ?_
 refine wp_ret ?_
 have H := Option.some.inj H
 subst H
 refine out1 F rfl rfl ?_
 exact ⟨fun b_ => (fun x_ => if x_ < m then x_ else 0) (c0 b_), none, rfl, E.leave B0 (fun x_ => if x_ < m then x_ else 0) (by intro x_ hx_; show (if x_ < m then x_ else 0) = x_; ((repeat' split) <;> omega)), (fun b_ hb_ => by show (if (c0 b_) < m then (c0 b_) else 0) < m; ((repeat' split) <;> omega)), TR.nil⟩
end Go.Proofs.Ytcolmmjcdlmcoaa.G
namespace Go.Proofs.Ytcolmmjcdlmcoaa.G
open Go Go.RowKit
set_option linter.unusedVariables false
set_option linter.unusedSimpArgs false
set_option maxRecDepth 100000 in
set_option maxHeartbeats 4000000 in
theorem cmp_isNaN.calls {m : Nat} {c0 : Nat → Nat} {w0 : World} {a1 : ByteArray} (hm0 : 0 < m) (B0 : CB m c0 w0) (r : Bool) (H : cmp_isNaN.f a1 = some r) : Calls Try.prog 76 #[.string a1] w0 (fun e w_ => ∃ (c_ : Nat → Nat), e = .returned (.bool r) ∧ Ev (fun x => False) c0 w0 c_ w_ ∧ CB m c_ w_) := by
 unfold cmp_isNaN.f at H
 have B := B0.mono (show m ≤ m + 1 by omega)
 have E : Ev (fun x => False ∨ m ≤ x) c0 w0 c0 w0 := Ev.refl
 refine enter (N := 6) (l := [.string a1]) Try.func76 rfl rfl (Nat.le_of_ble_eq_true rfl) fun a F => ?_
 refine wp_seq_k fun K2 hK2 => ?_
 refine reg ?_
 refine q_val F rfl rfl (by decide) (r_assign F rfl) fun a F => ?_
 refine nil ?_
 refine hK2 _ _ ?_
 refine wp_seq_k fun K3 hK3 => ?_
 refine reg ?_
 refine q_val F rfl rfl (by decide) (r_move F rfl) fun a F => ?_
 refine q_val F rfl rfl (by decide) (r_move F rfl) fun a F => ?_
 refine q_val F rfl rfl (by decide) (r_sneq F rfl rfl) fun a F => ?_
 refine q_val F rfl rfl (by decide) (r_assign F rfl) fun a F => ?_
 refine nil ?_
 refine hK3 _ _ ?_
 refine wp_ret ?_
 have H := Option.some.inj H
 subst H
 refine out1 F rfl rfl ?_
 exact ⟨fun b_ => (fun x_ => if x_ < m then x_ else 0) (c0 b_), rfl, E.leave B0 (fun x_ => if x_ < m then x_ else 0) (by intro x_ hx_; show (if x_ < m then x_ else 0) = x_; ((repeat' split) <;> omega)), (fun b_ hb_ => by show (if (c0 b_) < m then (c0 b_) else 0) < m; ((repeat' split) <;> omega))⟩
end Go.Proofs.Ytcolmmjcdlmcoaa.G
namespace Go.Proofs.Ytcolmmjcdlmcoaa.G
open Go Go.RowKit
set_option linter.unusedVariables false
set_option linter.unusedSimpArgs false
set_option maxRecDepth 100000 in
set_option maxHeartbeats 4000000 in
theorem cmp_Compare.calls {m : Nat} {c0 : Nat → Nat} {w0 : World} {a1 : ByteArray} {a2 : ByteArray} (hm0 : 0 < m) (B0 : CB m c0 w0) (r : Int) (H : cmp_Compare.f a1 a2 = some r) : Calls Try.prog 58 #[.string a1, .string a2] w0 (fun e w_ => ∃ (c_ : Nat → Nat), e = .returned (.int .i64 r) ∧ Ev (fun x => False) c0 w0 c_ w_ ∧ CB m c_ w_) := by
 unfold cmp_Compare.f at H
 have B := B0.mono (show m ≤ m + 1 by omega)
 have E : Ev (fun x => False ∨ m ≤ x) c0 w0 c0 w0 := Ev.refl
 refine enter (N := 20) (l := [.string a1, .string a2]) Try.func58 rfl rfl (Nat.le_of_ble_eq_true rfl) fun a F => ?_
 refine wp_seq_k fun K3 hK3 => ?_
 refine reg ?_
 refine q_val F rfl rfl (by decide) (r_assign F rfl) fun a F => ?_
 refine nil ?_
 refine hK3 _ _ ?_
 refine wp_seq_k fun K4 hK4 => ?_
 refine reg ?_
 refine q_val F rfl rfl (by decide) (r_move F rfl) fun a F => ?_
 obtain ⟨t5, q6, H⟩ := bind_some H
 refine q_call F rfl rfl (by decide) (r_call F Try.func76 rfl (by kernel_rfl) rfl) (cmp_isNaN.calls (m := m + 1) (by omega) B _ q6) ?_
 rintro e w8 ⟨c7, rfl, E9, B10⟩
 refine ⟨_, rfl, fun a F => ?_⟩
 have B := B10
 have E := E.trans E9 (fun x q => q.elim)
 refine q_val F rfl rfl (by decide) (r_assign F rfl) fun a F => ?_
 refine nil ?_
 refine hK4 _ _ ?_
 refine wp_seq_k fun K12 hK12 => ?_
 refine reg ?_
 refine q_val F rfl rfl (by decide) (r_move F rfl) fun a F => ?_
 obtain ⟨t13, q14, H⟩ := bind_some H
 refine q_call F rfl rfl (by decide) (r_call F Try.func76 rfl (by kernel_rfl) rfl) (cmp_isNaN.calls (m := m + 1) (by omega) B _ q14) ?_
 rintro e w16 ⟨c15, rfl, E17, B18⟩
 refine ⟨_, rfl, fun a F => ?_⟩
 have B := B18
 have E := E.trans E17 (fun x q => q.elim)
 refine q_val F rfl rfl (by decide) (r_assign F rfl) fun a F => ?_
 refine nil ?_
 refine hK12 _ _ ?_
 refine wp_seq_k fun K20 hK20 => ?_
 refine wp_seq_k fun K21 hK21 => ?_
 refine reg ?_
 refine q_val F rfl rfl (by decide) (r_move F rfl) fun a F => ?_
 refine nil ?_
 refine hK21 _ _ ?_
 by_cases hb22 : t5 = true
 ·have H := (if_pos hb22).symm.trans H
  refine wp_cond_true ((F.ev rfl).trans (congrArg Value.bool hb22)) ?_
  refine wp_seq_k fun K23 hK23 => ?_
  refine wp_seq_k fun K24 hK24 => ?_
  refine reg ?_
  refine q_val F rfl rfl (by decide) (r_move F rfl) fun a F => ?_
  refine nil ?_
  refine hK24 _ _ ?_
  by_cases hb25 : t13 = true
  ·have H := (if_pos hb25).symm.trans H
   refine wp_cond_true ((F.ev rfl).trans (congrArg Value.bool hb25)) ?_
   refine wp_seq_k fun K26 hK26 => ?_
   refine reg ?_
   refine q_val F rfl rfl (by decide) (r_assign F rfl) fun a F => ?_
   refine nil ?_
   refine hK26 _ _ ?_
   refine wp_ret ?_
   refine thenR ?_
   refine thenR ?_
   have H := Option.some.inj H
   subst H
   refine out1 F rfl rfl ?_
   exact ⟨fun b_ => (fun x_ => if x_ < m then x_ else 0) (c15 b_), rfl, E.leave B0 (fun x_ => if x_ < m then x_ else 0) (by intro x_ hx_; show (if x_ < m then x_ else 0) = x_; ((repeat' split) <;> omega)), (fun b_ hb_ => by show (if (c15 b_) < m then (c15 b_) else 0) < m; ((repeat' split) <;> omega))⟩
  ·have H := (if_neg hb25).symm.trans H
   refine wp_cond_false ((F.ev rfl).trans (congrArg Value.bool (bfalse hb25))) ?_
   refine wp_skip ?_
   refine hK23 _ _ ?_
   refine wp_seq_k fun K27 hK27 => ?_
   refine reg ?_
   refine q_val F rfl rfl (by decide) (r_assign F rfl) fun a F => ?_
   refine nil ?_
   refine hK27 _ _ ?_
   refine wp_ret ?_
   refine thenR ?_
   have H := Option.some.inj H
   subst H
   refine out1 F rfl rfl ?_
   exact ⟨fun b_ => (fun x_ => if x_ < m then x_ else 0) (c15 b_), rfl, E.leave B0 (fun x_ => if x_ < m then x_ else 0) (by intro x_ hx_; show (if x_ < m then x_ else 0) = x_; ((repeat' split) <;> omega)), (fun b_ hb_ => by show (if (c15 b_) < m then (c15 b_) else 0) < m; ((repeat' split) <;> omega))⟩
 ·have H := (if_neg hb22).symm.trans H
  refine wp_cond_false ((F.ev rfl).trans (congrArg Value.bool (bfalse hb22))) ?_
  refine wp_skip ?_
  refine hK20 _ _ ?_
  refine wp_seq_k fun K28 hK28 => ?_
  refine wp_seq_k fun K29 hK29 => ?_
  refine reg ?_
  refine q_val F rfl rfl (by decide) (r_move F rfl) fun a F => ?_
  refine nil ?_
  refine hK29 _ _ ?_
  by_cases hb30 : t13 = true
  ·have H := (if_pos hb30).symm.trans H
   refine wp_cond_true ((F.ev rfl).trans (congrArg Value.bool hb30)) ?_
   refine wp_seq_k fun K31 hK31 => ?_
   refine reg ?_
   refine q_val F rfl rfl (by decide) (r_assign F rfl) fun a F => ?_
   refine nil ?_
   refine hK31 _ _ ?_
   refine wp_ret ?_
   refine thenR ?_
   have H := Option.some.inj H
   subst H
   refine out1 F rfl rfl ?_
   exact ⟨fun b_ => (fun x_ => if x_ < m then x_ else 0) (c15 b_), rfl, E.leave B0 (fun x_ => if x_ < m then x_ else 0) (by intro x_ hx_; show (if x_ < m then x_ else 0) = x_; ((repeat' split) <;> omega)), (fun b_ hb_ => by show (if (c15 b_) < m then (c15 b_) else 0) < m; ((repeat' split) <;> omega))⟩
  ·have H := (if_neg hb30).symm.trans H
   refine wp_cond_false ((F.ev rfl).trans (congrArg Value.bool (bfalse hb30))) ?_
   refine wp_skip ?_
   refine hK28 _ _ ?_
   refine wp_seq_k fun K32 hK32 => ?_
   refine wp_seq_k fun K33 hK33 => ?_
   refine reg ?_
   refine q_val F rfl rfl (by decide) (r_move F rfl) fun a F => ?_
   refine q_val F rfl rfl (by decide) (r_move F rfl) fun a F => ?_
   refine q_val F rfl rfl (by decide) (r_slss F rfl rfl) fun a F => ?_
   refine nil ?_
   refine hK33 _ _ ?_
   by_cases hb34 : (Op.bytesLess a1.toList a2.toList) = true
   ·have H := (if_pos hb34).symm.trans H
    refine wp_cond_true ((F.ev rfl).trans (congrArg Value.bool hb34)) ?_
    refine wp_seq_k fun K35 hK35 => ?_
    refine reg ?_
    refine q_val F rfl rfl (by decide) (r_assign F rfl) fun a F => ?_
    refine nil ?_
    refine hK35 _ _ ?_
    refine wp_ret ?_
    refine thenR ?_
    have H := Option.some.inj H
    subst H
    refine out1 F rfl rfl ?_
    exact ⟨fun b_ => (fun x_ => if x_ < m then x_ else 0) (c15 b_), rfl, E.leave B0 (fun x_ => if x_ < m then x_ else 0) (by intro x_ hx_; show (if x_ < m then x_ else 0) = x_; ((repeat' split) <;> omega)), (fun b_ hb_ => by show (if (c15 b_) < m then (c15 b_) else 0) < m; ((repeat' split) <;> omega))⟩
   ·have H := (if_neg hb34).symm.trans H
    refine wp_cond_false ((F.ev rfl).trans (congrArg Value.bool (bfalse hb34))) ?_
    refine wp_skip ?_
    refine hK32 _ _ ?_
    refine wp_seq_k fun K36 hK36 => ?_
    refine wp_seq_k fun K37 hK37 => ?_
    refine reg ?_
    refine q_val F rfl rfl (by decide) (r_move F rfl) fun a F => ?_
    refine q_val F rfl rfl (by decide) (r_move F rfl) fun a F => ?_
    refine q_val F rfl rfl (by decide) (r_sgtr F rfl rfl) fun a F => ?_
    refine nil ?_
    refine hK37 _ _ ?_
    by_cases hb38 : (Op.bytesLess a1.toList a2.toList || (a1.toList == a2.toList)) = true
    ·have H := (if_pos hb38).symm.trans H
     refine wp_cond_false ((F.ev rfl).trans (congrArg Value.bool (congrArg not hb38))) ?_
     refine wp_skip ?_
     refine hK36 _ _ ?_
     refine wp_seq_k fun K40 hK40 => ?_
     refine reg ?_
     refine q_val F rfl rfl (by decide) (r_assign F rfl) fun a F => ?_
     refine nil ?_
     refine hK40 _ _ ?_
     refine wp_ret ?_
     have H := Option.some.inj H
     subst H
     refine out1 F rfl rfl ?_
     exact ⟨fun b_ => (fun x_ => if x_ < m then x_ else 0) (c15 b_), rfl, E.leave B0 (fun x_ => if x_ < m then x_ else 0) (by intro x_ hx_; show (if x_ < m then x_ else 0) = x_; ((repeat' split) <;> omega)), (fun b_ hb_ => by show (if (c15 b_) < m then (c15 b_) else 0) < m; ((repeat' split) <;> omega))⟩
    ·have H := (if_neg hb38).symm.trans H
     refine wp_cond_true ((F.ev rfl).trans (congrArg Value.bool (congrArg not (bfalse hb38)))) ?_
     refine wp_seq_k fun K39 hK39 => ?_
     refine reg ?_
     refine q_val F rfl rfl (by decide) (r_assign F rfl) fun a F => ?_
     refine nil ?_
     refine hK39 _ _ ?_
     refine wp_ret ?_
     refine thenR ?_
     have H := Option.some.inj H
     subst H
     refine out1 F rfl rfl ?_
     exact ⟨fun b_ => (fun x_ => if x_ < m then x_ else 0) (c15 b_), rfl, E.leave B0 (fun x_ => if x_ < m then x_ else 0) (by intro x_ hx_; show (if x_ < m then x_ else 0) = x_; ((repeat' split) <;> omega)), (fun b_ hb_ => by show (if (c15 b_) < m then (c15 b_) else 0) < m; ((repeat' split) <;> omega))⟩
end Go.Proofs.Ytcolmmjcdlmcoaa.G
namespace Go.Proofs.Ytcolmmjcdlmcoaa.G
open Go Go.RowKit
set_option linter.unusedVariables false
set_option linter.unusedSimpArgs false
set_option maxRecDepth 100000 in
set_option maxHeartbeats 4000000 in
theorem cmp_Less.calls {m : Nat} {c0 : Nat → Nat} {w0 : World} {a1 : ByteArray} {a2 : ByteArray} (hm0 : 0 < m) (B0 : CB m c0 w0) (r : Bool) (H : cmp_Less.f a1 a2 = some r) : Calls Try.prog 84 #[.string a1, .string a2] w0 (fun e w_ => ∃ (c_ : Nat → Nat), e = .returned (.bool r) ∧ Ev (fun x => False) c0 w0 c_ w_ ∧ CB m c_ w_) := by
 unfold cmp_Less.f at H
 have B := B0.mono (show m ≤ m + 1 by omega)
 have E : Ev (fun x => False ∨ m ≤ x) c0 w0 c0 w0 := Ev.refl
 refine enter (N := 17) (l := [.string a1, .string a2]) Try.func84 rfl rfl (Nat.le_of_ble_eq_true rfl) fun a F => ?_
 refine wp_seq_k fun K3 hK3 => ?_
 refine reg ?_
 refine q_val F rfl rfl (by decide) (r_assign F rfl) fun a F => ?_
 refine nil ?_
 refine hK3 _ _ ?_
 refine wp_seq_k fun K4 hK4 => ?_
 refine reg ?_
 refine q_val F rfl rfl (by decide) (r_move F rfl) fun a F => ?_
 obtain ⟨t5, q6, H⟩ := bind_some H
 refine q_call F rfl rfl (by decide) (r_call F Try.func76 rfl (by kernel_rfl) rfl) (cmp_isNaN.calls (m := m + 1) (by omega) B _ q6) ?_
 rintro e w8 ⟨c7, rfl, E9, B10⟩
 refine ⟨_, rfl, fun a F => ?_⟩
 have B := B10
 have E := E.trans E9 (fun x q => q.elim)
 refine q_val F rfl rfl (by decide) (r_move F rfl) fun a F => ?_
 by_cases hb12 : t5 = true
 ·have H := (if_pos hb12).symm.trans H
  refine q_yes F rfl (by decide) rfl hb12 ?_
  refine q_val F rfl rfl (by decide) (r_move F rfl) fun a F => ?_
  obtain ⟨t13, q14, H⟩ := bind_some H
  refine q_yes F rfl (by decide) rfl hb12 ?_
  refine q_call F rfl rfl (by decide) (r_call F Try.func76 rfl (by kernel_rfl) rfl) (cmp_isNaN.calls (m := m + 1) (by omega) B _ q14) ?_
  rintro e w16 ⟨c15, rfl, E17, B18⟩
  refine ⟨_, rfl, fun a F => ?_⟩
  have B := B18
  have E := E.trans E17 (fun x q => q.elim)
  refine q_yes F rfl (by decide) rfl hb12 ?_
  refine q_val F rfl rfl (by decide) (r_not F rfl) fun a F => ?_
  refine q_val F rfl rfl (by decide) (r_pick_t F rfl hb12 rfl) fun a F => ?_
  refine q_val F rfl rfl (by decide) (r_move F rfl) fun a F => ?_
  by_cases hb20 : t13 = true
  ·have H := (if_pos hb20).symm.trans H
   refine q_yes F rfl (by decide) rfl (congrArg not hb20) ?_
   refine q_val F rfl rfl (by decide) (r_move F rfl) fun a F => ?_
   refine q_yes F rfl (by decide) rfl (congrArg not hb20) ?_
   refine q_val F rfl rfl (by decide) (r_move F rfl) fun a F => ?_
   refine q_yes F rfl (by decide) rfl (congrArg not hb20) ?_
   refine q_val F rfl rfl (by decide) (r_slss F rfl rfl) fun a F => ?_
   refine q_val F rfl rfl (by decide) (r_pick_f F rfl (congrArg not hb20) rfl) fun a F => ?_
   refine q_val F rfl rfl (by decide) (r_assign F rfl) fun a F => ?_
   refine nil ?_
   refine hK4 _ _ ?_
   refine wp_ret ?_
   have H := Option.some.inj H
   subst H
   refine out1 F rfl rfl ?_
   exact ⟨fun b_ => (fun x_ => if x_ < m then x_ else 0) (c15 b_), rfl, E.leave B0 (fun x_ => if x_ < m then x_ else 0) (by intro x_ hx_; show (if x_ < m then x_ else 0) = x_; ((repeat' split) <;> omega)), (fun b_ hb_ => by show (if (c15 b_) < m then (c15 b_) else 0) < m; ((repeat' split) <;> omega))⟩
  ·have H := (if_neg hb20).symm.trans H
   refine q_no F rfl (by decide) rfl (congrArg not (bfalse hb20)) (by decide) fun a F => ?_
   refine q_no F rfl (by decide) rfl (congrArg not (bfalse hb20)) (by decide) fun a F => ?_
   refine q_no F rfl (by decide) rfl (congrArg not (bfalse hb20)) (by decide) fun a F => ?_
   refine q_val F rfl rfl (by decide) (r_pick_t F rfl (congrArg not (bfalse hb20)) rfl) fun a F => ?_
   refine q_val F rfl rfl (by decide) (r_assign F rfl) fun a F => ?_
   refine nil ?_
   refine hK4 _ _ ?_
   refine wp_ret ?_
   have H := Option.some.inj H
   subst H
   refine out1 F rfl rfl ?_
   exact ⟨fun b_ => (fun x_ => if x_ < m then x_ else 0) (c15 b_), rfl, E.leave B0 (fun x_ => if x_ < m then x_ else 0) (by intro x_ hx_; show (if x_ < m then x_ else 0) = x_; ((repeat' split) <;> omega)), (fun b_ hb_ => by show (if (c15 b_) < m then (c15 b_) else 0) < m; ((repeat' split) <;> omega))⟩
 ·have H := (if_neg hb12).symm.trans H
  refine q_no F rfl (by decide) rfl (bfalse hb12) (by decide) fun a F => ?_
  refine q_no F rfl (by decide) rfl (bfalse hb12) (by decide) fun a F => ?_
  refine q_no F rfl (by decide) rfl (bfalse hb12) (by decide) fun a F => ?_
  refine q_val F rfl rfl (by decide) (r_pick_f F rfl (bfalse hb12) rfl) fun a F => ?_
  refine q_val F rfl rfl (by decide) (r_move F rfl) fun a F => ?_
  refine q_yes F rfl (by decide) rfl rfl ?_
  refine q_val F rfl rfl (by decide) (r_move F rfl) fun a F => ?_
  refine q_yes F rfl (by decide) rfl rfl ?_
  refine q_val F rfl rfl (by decide) (r_move F rfl) fun a F => ?_
  refine q_yes F rfl (by decide) rfl rfl ?_
  refine q_val F rfl rfl (by decide) (r_slss F rfl rfl) fun a F => ?_
  refine q_val F rfl rfl (by decide) (r_pick_f F rfl rfl rfl) fun a F => ?_
  refine q_val F rfl rfl (by decide) (r_assign F rfl) fun a F => ?_
  refine nil ?_
  refine hK4 _ _ ?_
  refine wp_ret ?_
  have H := Option.some.inj H
  subst H
  refine out1 F rfl rfl ?_
  exact ⟨fun b_ => (fun x_ => if x_ < m then x_ else 0) (c7 b_), rfl, E.leave B0 (fun x_ => if x_ < m then x_ else 0) (by intro x_ hx_; show (if x_ < m then x_ else 0) = x_; ((repeat' split) <;> omega)), (fun b_ hb_ => by show (if (c7 b_) < m then (c7 b_) else 0) < m; ((repeat' split) <;> omega))⟩
end Go.Proofs.Ytcolmmjcdlmcoaa.G
namespace Go.Proofs.Ytcolmmjcdlmcoaa.G
open Go Go.RowKit
set_option linter.unusedVariables false
set_option linter.unusedSimpArgs false
set_option maxRecDepth 100000 in
set_option maxHeartbeats 4000000 in
theorem tree_Tree_Get.calls (k : Nat) {m : Nat} {c0 : Nat → Nat} {w0 : World} {p2 : Option Addr} {a1 : Tr} {a4 : ByteArray} (hm0 : 0 < m) (B0 : CB m c0 w0) (h3 : TR 0 c0 w0 p2 a1) (r : table_cell × Bool) (H : tree_Tree_Get.f k a1 a4 = some r) : Calls Try.prog 40 #[.pointer p2, .string a4] w0 (fun e w_ => ∃ (c_ : Nat → Nat) (A0_ : Option Addr) (C0_ : Nat), e = .returned (.tuple #[.agg #[.slice A0_ r.1.value.length C0_, .int .i64 r.1.rev], .bool r.2]) ∧ Ev (fun x => False) c0 w0 c_ w_ ∧ CB m c_ w_ ∧ SL false (Kint .u8) 0 0 c_ w_ A0_ C0_ r.1.value) := by
 unfold tree_Tree_Get.f at H
 have B := B0.mono (show m ≤ m + 2 by omega)
 have E : Ev (fun x => False ∨ m ≤ x) c0 w0 c0 w0 := Ev.refl
 refine enter (N := 34) (l := [.pointer p2, .string a4]) Try.func40 rfl rfl (Nat.le_of_ble_eq_true rfl) fun a F => ?_
 refine wp_seq_k fun K5 hK5 => ?_
 refine reg ?_
 refine q_eff F rfl rfl (by decide) (e_alloc F zv_66 c0 (m + 1)) ?_
 rintro v w7 a ⟨c6, qa8, rfl, E9, h10, B11⟩ F
 have B := B11 _ B (by omega)
 have h3 := TR.ev h3 E9 (fun q => q.elim) (fun q => q.elim)
 have E := E.trans E9 (fun x q => q.elim)
 have h10 : AT true (m + 1) c6 w7 qa8 [.slice none 0 0, .int .i64 0] := h10
 refine q_val F rfl rfl (by decide) (r_assign F rfl) fun a F => ?_
 refine nil ?_
 refine hK5 _ _ ?_
 refine wp_seq_k fun K13 hK13 => ?_
 refine wp_block ?_
 obtain ⟨x26, HL, HR25⟩ := bind_some H
 have J67 : ∀ (c68 : Nat → Nat) (w69 : World) (a : Act), Fr a 34 [(4, .pointer (some qa8))] → Ev (fun x => False ∨ m ≤ x) c0 w0 c68 w69 → CB (m + 2) c68 w69 → AT true (m + 1) c68 w69 qa8 [.slice none 0 0, .int .i64 0] → tree_Tree_Get.j2 = some r → K13 a w69 := by
  intro c68 w69 a  F E B h10 H
  unfold tree_Tree_Get.j2 at H
  refine hK13 _ _ ?_
  refine wp_seq_k fun K70 hK70 => ?_
  refine reg ?_
  refine q_val F rfl rfl (by decide) (r_loads (cs := [.slice none 0 0, .int .i64 0]) F rfl ag_66 sz_66 h10) fun a F => ?_
  refine q_eff0 F rfl rfl (e_storeN0 (us := [.slice none 0 0, .int .i64 0]) F rfl rfl sz_66 h10 (Nat.le_of_ble_eq_true rfl) (one_all rfl)) ?_
  rintro w71 a ⟨E72, h10, Z73⟩ F
  have B := B.size Z73
  have E := E.trans E72 (fun x q => by replace q : x = m + 1 := q; show False ∨ m ≤ x; omega)
  have h10 : AT true (m + 1) c68 w71 qa8 [.slice none 0 0, .int .i64 0] := h10
  refine q_val F rfl rfl (by decide) (r_assign F rfl) fun a F => ?_
  refine nil ?_
  refine hK70 _ _ ?_
  refine wp_ret ?_
  have H := Option.some.inj H
  subst H
  refine outR2 F rfl ⟨_, rfl, lv_agg (cs := [.slice none 0 0, .int .i64 0]) ag_66 sz_66 h10⟩ rfl ?_
  exact ⟨fun b_ => (fun x_ => if x_ < m then x_ else 0) (c68 b_), none, 0, rfl, E.leave B0 (fun x_ => if x_ < m then x_ else 0) (by intro x_ hx_; show (if x_ < m then x_ else 0) = x_; ((repeat' split) <;> omega)), (fun b_ hb_ => by show (if (c68 b_) < m then (c68 b_) else 0) < m; ((repeat' split) <;> omega)), SL.nil⟩
 refine loop_fuel (I := fun n a w => ∃ (o14 : Tr) (p15 : Option Addr) (c : Nat → Nat), Fr a 34 [(0, .pointer p15), (1, .string a4), (4, .pointer (some qa8))] ∧ Ev (fun x => False ∨ m ≤ x) c0 w0 c w ∧ CB (m + 2) c w ∧ AT true (m + 1) c w qa8 [.slice none 0 0, .int .i64 0] ∧ TR 0 c w p15 o14 ∧ loop (fun (s_ : Tr) => tree_Tree_Get.b1 a4 s_) n o14 = some x26) (k := k) ⟨a1, p2, c6, F.sub ⟨rfl, rfl, rfl, trivial⟩, E, B, h10, h3, HL⟩ ?_
 clear HL H E F B
 intro n23 X19 hX19 a w18 ⟨o14, p15, c17, F, E, B, h10, h16, HL⟩
 obtain ⟨n24, ctl22, rfl, HB, HN20, HD21⟩ := loop_some HL
 have H : tree_Tree_Get.b1 a4 o14 = some ctl22 := HB
 clear HB HL
 unfold tree_Tree_Get.b1 at H
 refine wp_seq_k fun K27 hK27 => ?_
 refine wp_seq_k fun K28 hK28 => ?_
 refine reg ?_
 refine q_val F rfl rfl (by decide) (r_move F rfl) fun a F => ?_
 refine q_val F rfl rfl (by decide) (r_pneqA F Try.underlying68 rfl rfl (TR.isNil h16)) fun a F => ?_
 refine nil ?_
 refine hK28 _ _ ?_
 by_cases hb29 : (Tr.isNil o14) = true
 ·have H := (if_pos hb29).symm.trans H
  refine wp_cond_false ((F.ev rfl).trans (congrArg Value.bool (congrArg not hb29))) ?_
  refine wp_exit ?_
  refine thenE ?_
  refine thenE ?_
  refine inbE ?_
  have hx_ := HD21 _ (Option.some.inj H).symm
  have H := HR25
  rw [← hx_] at H
  exact J67 c17 w18 a  (F.sub ⟨rfl, trivial⟩) E B h10 H
 ·have H := (if_neg hb29).symm.trans H
  refine wp_cond_true ((F.ev rfl).trans (congrArg Value.bool (congrArg not (bfalse hb29)))) ?_
  refine wp_skip ?_
  refine hK27 _ _ ?_
  refine wp_block ?_
  refine wp_seq_k fun K30 hK30 => ?_
  refine reg ?_
  refine q_val F rfl rfl (by decide) (r_move F rfl) fun a F => ?_
  refine q_val F rfl rfl (by decide) (r_move F rfl) fun a F => ?_
  obtain ⟨tl31, tr32, tk33, tv34, ts35, td36, e37, H⟩ := cs_some H
  have z38 := h16
  rw [e37] at z38
  obtain ⟨ad42, lp43, rp44, A39, C40, rfl, hat45, h41, hl46, hr47⟩ := TR.node z38
  refine q_val F rfl rfl (by decide) (r_nil F rfl) fun a F => ?_
  refine q_val F rfl rfl (by decide) (r_fieldAddr F rfl ff_98_2) fun a F => ?_
  refine q_val F rfl rfl (by decide) (r_load F rfl ag_9 (AT.cell hat45 rfl)) fun a F => ?_
  obtain ⟨t49, q50, H⟩ := bind_some H
  refine q_call F rfl rfl (by decide) (r_call F Try.func58 rfl (by kernel_rfl) rfl) (cmp_Compare.calls (m := m + 2) (by omega) B _ q50) ?_
  rintro e w52 ⟨c51, rfl, E53, B54⟩
  refine ⟨_, rfl, fun a F => ?_⟩
  have B := B54
  have h10 := AT.ev h10 E53 (fun q => q.elim)
  have h16 := TR.ev h16 E53 (fun q => q.elim) (fun q => q.elim)
  have h41 := SL.ev h41 E53 (fun q => q.elim) (fun q => q.elim)
  have hl46 := TR.ev hl46 E53 (fun q => q.elim) (fun q => q.elim)
  have hr47 := TR.ev hr47 E53 (fun q => q.elim) (fun q => q.elim)
  have hat45 := AT.ev hat45 E53 (fun q => q.elim)
  have E := E.trans E53 (fun x q => q.elim)
  refine q_val F rfl rfl (by decide) (r_assign F rfl) fun a F => ?_
  refine nil ?_
  refine hK30 _ _ ?_
  refine wp_block ?_
  refine wp_seq_k fun K56 hK56 => ?_
  refine reg ?_
  refine q_val F rfl rfl (by decide) (r_move F rfl) fun a F => ?_
  refine q_val F rfl rfl (by decide) (r_eql F rfl rfl) fun a F => ?_
  refine q_val F rfl rfl (by decide) (r_assign F rfl) fun a F => ?_
  refine nil ?_
  refine hK56 _ _ ?_
  by_cases hb57 : t49 = 0
  ·have H := (if_pos hb57).symm.trans H
   refine wp_cond_true ((F.ev rfl).trans (congrArg Value.bool (decide_eq_true hb57))) ?_
   refine wp_seq_k fun K58 hK58 => ?_
   refine reg ?_
   refine q_val F rfl rfl (by decide) (r_move F rfl) fun a F => ?_
   refine q_val F rfl rfl (by decide) (r_nil F rfl) fun a F => ?_
   refine q_val F rfl rfl (by decide) (r_fieldAddr F rfl ff_98_3) fun a F => ?_
   refine q_val F rfl rfl (by decide) (r_loads (cs := [.slice A39 tv34.value.length C40, .int .i64 tv34.rev]) F rfl ag_66 sz_66 (AT.sub hat45 3 2 (Nat.le_of_ble_eq_true rfl))) fun a F => ?_
   refine q_eff0 F rfl rfl (e_storeN0 (us := [.slice A39 tv34.value.length C40, .int .i64 tv34.rev]) F rfl rfl sz_66 h10 (Nat.le_of_ble_eq_true rfl) (one_all rfl)) ?_
   rintro w59 a ⟨E60, h10, Z61⟩ F
   have B := B.size Z61
   have h16 := TR.ev h16 E60 (by show ¬ (0 = m + 1); omega) (by show ¬ (0 = m + 1); omega)
   have h41 := SL.ev h41 E60 (by show ¬ (0 = m + 1); omega) (by show ¬ (0 = m + 1); omega)
   have hl46 := TR.ev hl46 E60 (by show ¬ (0 = m + 1); omega) (by show ¬ (0 = m + 1); omega)
   have hr47 := TR.ev hr47 E60 (by show ¬ (0 = m + 1); omega) (by show ¬ (0 = m + 1); omega)
   have hat45 := AT.ev hat45 E60 (by show ¬ (0 = m + 1); omega)
   have E := E.trans E60 (fun x q => by replace q : x = m + 1 := q; show False ∨ m ≤ x; omega)
   have h10 : AT true (m + 1) c51 w59 qa8 [.slice A39 tv34.value.length C40, .int .i64 tv34.rev] := h10
   refine q_val F rfl rfl (by decide) (r_assign F rfl) fun a F => ?_
   refine nil ?_
   refine hK58 _ _ ?_
   refine wp_ret ?_
   refine inbR ?_
   refine inbR ?_
   refine thenR ?_
   refine inbR ?_
   refine thenR ?_
   have hx_ := HD21 _ (Option.some.inj H).symm
   have H := HR25
   rw [← hx_] at H
   replace H : some (tv34, true) = some r := H
   have H := Option.some.inj H
   subst H
   refine outR2 F rfl ⟨_, rfl, lv_agg (cs := [.slice A39 tv34.value.length C40, .int .i64 tv34.rev]) ag_66 sz_66 h10⟩ rfl ?_
   exact ⟨fun b_ => (fun x_ => if x_ < m then x_ else 0) (c51 b_), A39, C40, rfl, E.leave B0 (fun x_ => if x_ < m then x_ else 0) (by intro x_ hx_; show (if x_ < m then x_ else 0) = x_; ((repeat' split) <;> omega)), (fun b_ hb_ => by show (if (c51 b_) < m then (c51 b_) else 0) < m; ((repeat' split) <;> omega)), SL.rc h41 (fun k_ hk_ => by show (if (c51 k_) < m then (c51 k_) else 0) = _; rw [hk_]; ((repeat' split) <;> omega)) (fun k_ hk_ => by show (if (c51 k_) < m then (c51 k_) else 0) = _; rw [hk_]; ((repeat' split) <;> omega))⟩
  ·have H := (if_neg hb57).symm.trans H
   refine wp_cond_false ((F.ev rfl).trans (congrArg Value.bool (decide_eq_false hb57))) ?_
   refine wp_seq_k fun K62 hK62 => ?_
   refine reg ?_
   refine q_val F rfl rfl (by decide) (r_move F rfl) fun a F => ?_
   refine q_val F rfl rfl (by decide) (r_lss F rfl rfl) fun a F => ?_
   refine q_val F rfl rfl (by decide) (r_assign F rfl) fun a F => ?_
   refine nil ?_
   refine hK62 _ _ ?_
   by_cases hb63 : t49 < 0
   ·have H := (if_pos hb63).symm.trans H
    refine wp_cond_true ((F.ev rfl).trans (congrArg Value.bool (decide_eq_true hb63))) ?_
    refine reg ?_
    refine q_val F rfl rfl (by decide) (r_move F rfl) fun a F => ?_
    refine q_val F rfl rfl (by decide) (r_nil F rfl) fun a F => ?_
    refine q_val F rfl rfl (by decide) (r_fieldAddr F rfl ff_98_0) fun a F => ?_
    refine q_val F rfl rfl (by decide) (r_load F rfl ag_68 (AT.cell hat45 rfl)) fun a F => ?_
    refine q_val F rfl rfl (by decide) (r_assign F rfl) fun a F => ?_
    refine nil ?_
    have H := HN20 _ (Option.some.inj H).symm
    exact hX19 _ _ _ (Nat.lt_succ_self _) ⟨tl31, lp43, c51, F.sub ⟨rfl, rfl, rfl, trivial⟩, E, B, h10, hl46, H⟩
   ·have H := (if_neg hb63).symm.trans H
    refine wp_cond_false ((F.ev rfl).trans (congrArg Value.bool (decide_eq_false hb63))) ?_
    refine reg ?_
    refine q_val F rfl rfl (by decide) (r_move F rfl) fun a F => ?_
    refine q_val F rfl rfl (by decide) (r_nil F rfl) fun a F => ?_
    refine q_val F rfl rfl (by decide) (r_fieldAddr F rfl ff_98_1) fun a F => ?_
    refine q_val F rfl rfl (by decide) (r_load F rfl ag_68 (AT.cell hat45 rfl)) fun a F => ?_
    refine q_val F rfl rfl (by decide) (r_assign F rfl) fun a F => ?_
    refine nil ?_
    have H := HN20 _ (Option.some.inj H).symm
    exact hX19 _ _ _ (Nat.lt_succ_self _) ⟨tr32, rp44, c51, F.sub ⟨rfl, rfl, rfl, trivial⟩, E, B, h10, hr47, H⟩
end Go.Proofs.Ytcolmmjcdlmcoaa.G
