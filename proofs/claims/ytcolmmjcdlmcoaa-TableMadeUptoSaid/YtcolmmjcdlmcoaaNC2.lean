/- Walks: each function of the program answers as its plain function says: treeTreePut, treeTreeDelete, tablenum, tablelong, tablewrites, tableRight, treeTreeup, treeTreefrom, treeTreeAll1, treeTreeFrom1, ITR, treeTreeAll, treeTreeFrom, treeTreeSeek, tableNew. -/
import Derived.Test.YtcolmmjcdlmcoaaNB
import Derived.Test.YtcolmmjcdlmcoaaNC1
namespace Go.Proofs.Ytcolmmjcdlmcoaa.G
open Go Go.RowKit
set_option linter.unusedVariables false
set_option linter.unusedSimpArgs false
set_option maxRecDepth 100000 in
set_option maxHeartbeats 4000000 in
theorem tree_Tree_Put.calls (k : Nat) : ∀ {m : Nat} {c0 : Nat → Nat} {w0 : World} {p2 : Option Addr} {A6 : Option Addr} {C7 : Nat} {a1 : Tr} {a4 : ByteArray} {a5 : table_cell} (hm0 : 0 < m) (B0 : CB m c0 w0) (h3 : TR 0 c0 w0 p2 a1) (h8 : SL false (Kint .u8) 0 0 c0 w0 A6 C7 a5.value) (r : Tr) (H : tree_Tree_Put.f k a1 a4 a5 = some r), Calls Try.prog 61 #[.pointer p2, .string a4, .agg #[.slice A6 a5.value.length C7, .int .i64 a5.rev]] w0 (fun e w_ => ∃ (c_ : Nat → Nat) (P0_ : Option Addr), e = .returned (.pointer P0_) ∧ Ev (fun x => False) c0 w0 c_ w_ ∧ CB m c_ w_ ∧ TR 0 c_ w_ P0_ r) := by
 induction k with
 | zero => intro m c0 w0 p2 A6 C7 a1 a4 a5 hm0 B0 h3 h8 r H; exact absurd H (by simp [tree_Tree_Put.f])
 | succ k ih =>
  intro m c0 w0 p2 A6 C7 a1 a4 a5 hm0 B0 h3 h8 r H
  unfold tree_Tree_Put.f at H
  have B := B0.mono (show m ≤ m + 2 by omega)
  have E : Ev (fun x => False ∨ m ≤ x) c0 w0 c0 w0 := Ev.refl
  refine enter (N := 76) (l := [.pointer p2, .string a4, .agg #[.slice A6 a5.value.length C7, .int .i64 a5.rev]]) Try.func61 rfl rfl (Nat.le_of_ble_eq_true rfl) fun a F => ?_
  refine wp_seq_k fun K9 hK9 => ?_
  refine reg ?_
  refine q_eff F rfl rfl (by decide) (e_box F (v := .agg #[.slice A6 a5.value.length C7, .int .i64 a5.rev]) rfl c0 (m + 1)) ?_
  rintro v w11 a ⟨c10, qa12, rfl, E13, h14, B15⟩ F
  have B := B15 _ B (by omega)
  have h3 := TR.ev h3 E13 (fun q => q.elim) (fun q => q.elim)
  have h8 := SL.ev h8 E13 (fun q => q.elim) (fun q => q.elim)
  have E := E.trans E13 (fun x q => q.elim)
  have h14 : AT true (m + 1) c10 w11 qa12 [.slice A6 a5.value.length C7, .int .i64 a5.rev] := h14
  refine q_val F rfl rfl (by decide) (r_assign F rfl) fun a F => ?_
  refine nil ?_
  refine hK9 _ _ ?_
  refine wp_seq_k fun K17 hK17 => ?_
  refine wp_seq_k fun K18 hK18 => ?_
  refine reg ?_
  refine q_val F rfl rfl (by decide) (r_move F rfl) fun a F => ?_
  refine q_val F rfl rfl (by decide) (r_peqlA F Try.underlying68 rfl rfl (TR.isNil h3)) fun a F => ?_
  refine nil ?_
  refine hK18 _ _ ?_
  by_cases hb19 : (Tr.isNil a1) = true
  ·have H := (if_pos hb19).symm.trans H
   refine wp_cond_true ((F.ev rfl).trans (congrArg Value.bool hb19)) ?_
   refine wp_seq_k fun K20 hK20 => ?_
   refine reg ?_
   refine q_val F rfl rfl (by decide) (r_move F rfl) fun a F => ?_
   refine q_val F rfl rfl (by decide) (r_loads (cs := [.slice A6 a5.value.length C7, .int .i64 a5.rev]) F rfl ag_66 sz_66 h14) fun a F => ?_
   obtain ⟨t21, q22, H⟩ := bind_some H
   refine q_call F rfl rfl (by decide) (r_call F Try.func79 rfl (by kernel_rfl) rfl) (tree_node.calls (m := m + 2) (by omega) B TR.nil h8 TR.nil _ q22) ?_
   rintro e w24 ⟨c23, p27, rfl, E25, B26, h28⟩
   refine ⟨_, rfl, fun a F => ?_⟩
   have B := B26
   have h3 := TR.ev h3 E25 (fun q => q.elim) (fun q => q.elim)
   have h8 := SL.ev h8 E25 (fun q => q.elim) (fun q => q.elim)
   have h14 := AT.ev h14 E25 (fun q => q.elim)
   have E := E.trans E25 (fun x q => q.elim)
   refine q_val F rfl rfl (by decide) (r_assign F rfl) fun a F => ?_
   refine nil ?_
   refine hK20 _ _ ?_
   refine wp_ret ?_
   refine thenR ?_
   have H := Option.some.inj H
   subst H
   refine out1 F rfl rfl ?_
   exact ⟨fun b_ => (fun x_ => if x_ < m then x_ else 0) (c23 b_), p27, rfl, E.leave B0 (fun x_ => if x_ < m then x_ else 0) (by intro x_ hx_; show (if x_ < m then x_ else 0) = x_; ((repeat' split) <;> omega)), (fun b_ hb_ => by show (if (c23 b_) < m then (c23 b_) else 0) < m; ((repeat' split) <;> omega)), TR.rc h28 (fun k_ hk_ => by show (if (c23 k_) < m then (c23 k_) else 0) = _; rw [hk_]; ((repeat' split) <;> omega)) (fun k_ hk_ => by show (if (c23 k_) < m then (c23 k_) else 0) = _; rw [hk_]; ((repeat' split) <;> omega))⟩
  ·have H := (if_neg hb19).symm.trans H
   refine wp_cond_false ((F.ev rfl).trans (congrArg Value.bool (bfalse hb19))) ?_
   refine wp_skip ?_
   refine hK17 _ _ ?_
   refine wp_seq_k fun K30 hK30 => ?_
   refine wp_seq_k fun K31 hK31 => ?_
   refine reg ?_
   refine q_val F rfl rfl (by decide) (r_move F rfl) fun a F => ?_
   refine q_val F rfl rfl (by decide) (r_move F rfl) fun a F => ?_
   obtain ⟨tl32, tr33, tk34, tv35, ts36, td37, e38, H⟩ := cs_some H
   have z39 := h3
   rw [e38] at z39
   obtain ⟨ad43, lp44, rp45, A40, C41, rfl, hat46, h42, hl47, hr48⟩ := TR.node z39
   refine q_val F rfl rfl (by decide) (r_nil F rfl) fun a F => ?_
   refine q_val F rfl rfl (by decide) (r_fieldAddr F rfl ff_98_2) fun a F => ?_
   refine q_val F rfl rfl (by decide) (r_load F rfl ag_9 (AT.cell hat46 rfl)) fun a F => ?_
   obtain ⟨t50, q51, H⟩ := bind_some H
   refine q_call F rfl rfl (by decide) (r_call F Try.func58 rfl (by kernel_rfl) rfl) (cmp_Compare.calls (m := m + 2) (by omega) B _ q51) ?_
   rintro e w53 ⟨c52, rfl, E54, B55⟩
   refine ⟨_, rfl, fun a F => ?_⟩
   have B := B55
   have h3 := TR.ev h3 E54 (fun q => q.elim) (fun q => q.elim)
   have h8 := SL.ev h8 E54 (fun q => q.elim) (fun q => q.elim)
   have h14 := AT.ev h14 E54 (fun q => q.elim)
   have h42 := SL.ev h42 E54 (fun q => q.elim) (fun q => q.elim)
   have hl47 := TR.ev hl47 E54 (fun q => q.elim) (fun q => q.elim)
   have hr48 := TR.ev hr48 E54 (fun q => q.elim) (fun q => q.elim)
   have hat46 := AT.ev hat46 E54 (fun q => q.elim)
   have E := E.trans E54 (fun x q => q.elim)
   refine q_val F rfl rfl (by decide) (r_assign F rfl) fun a F => ?_
   refine nil ?_
   refine hK31 _ _ ?_
   refine wp_block ?_
   refine wp_seq_k fun K57 hK57 => ?_
   refine reg ?_
   refine q_val F rfl rfl (by decide) (r_move F rfl) fun a F => ?_
   refine q_val F rfl rfl (by decide) (r_lss F rfl rfl) fun a F => ?_
   refine q_val F rfl rfl (by decide) (r_assign F rfl) fun a F => ?_
   refine nil ?_
   refine hK57 _ _ ?_
   by_cases hb58 : t50 < 0
   ·have H := (if_pos hb58).symm.trans H
    refine wp_cond_true ((F.ev rfl).trans (congrArg Value.bool (decide_eq_true hb58))) ?_
    refine wp_seq_k fun K59 hK59 => ?_
    refine regD (SB No c52 w53) 21 (.q 0 (.q 1 (.q 2 (.q 3 (.q 4 (.q 5 (.q 7 (.q 8 (.q 9 (.q 10 (.q 11 (.q 12 (.q 13 (.q 14 (.q 15 (.q 16 (.q 17 (.q 18 (.e 6 (.e 19 (.q 20 .nil))))))))))))))))))))) Try_hm (by decide +kernel) ?_
    intro w60 w1_ w2_ w3_ w4_
    have E61 : Ev No c52 w53 c52 w60 := Ev.same w1_ w2_ w3_ w4_
    have B := B.same w1_
    have zh3 := h3
    have zh8 := h8
    have zh14 := h14
    have zh42 := h42
    have zhl47 := hl47
    have zhr48 := hr48
    have zhat46 := hat46
    have ER : Ev No c52 w53 c52 w60 := Ev.same w1_ w2_ w3_ w4_
    have h3 := TR.ev h3 E61 (fun q => q.elim) (fun q => q.elim)
    have h8 := SL.ev h8 E61 (fun q => q.elim) (fun q => q.elim)
    have h14 := AT.ev h14 E61 (fun q => q.elim)
    have h42 := SL.ev h42 E61 (fun q => q.elim) (fun q => q.elim)
    have hl47 := TR.ev hl47 E61 (fun q => q.elim) (fun q => q.elim)
    have hr48 := TR.ev hr48 E61 (fun q => q.elim) (fun q => q.elim)
    have hat46 := AT.ev hat46 E61 (fun q => q.elim)
    have E := E.trans E61 (fun x q => q.elim)
    refine d_q F rfl rfl rfl (by decide) (fun wq hS => r_move F rfl) ER.sb fun a F => ?_
    refine d_q F rfl rfl rfl (by decide) (fun wq hS => r_nil F rfl) ER.sb fun a F => ?_
    refine d_q F rfl rfl rfl (by decide) (fun wq hS => r_fieldAddr F rfl ff_98_0) ER.sb fun a F => ?_
    refine d_q F rfl rfl rfl (by decide) (fun wq hS => r_load F rfl ag_68 (AT.cell (AT.sb zhat46 hS (fun q => q.elim)) rfl)) ER.sb fun a F => ?_
    refine d_q F rfl rfl rfl (by decide) (fun wq hS => r_move F rfl) ER.sb fun a F => ?_
    refine d_q F rfl rfl rfl (by decide) (fun wq hS => r_loads (cs := [.slice A6 a5.value.length C7, .int .i64 a5.rev]) F rfl ag_66 sz_66 (AT.sb zh14 hS (fun q => q.elim))) ER.sb fun a F => ?_
    refine d_q F rfl rfl rfl (by decide) (fun wq hS => r_move F rfl) ER.sb fun a F => ?_
    refine d_q F rfl rfl rfl (by decide) (fun wq hS => r_nil F rfl) ER.sb fun a F => ?_
    refine d_q F rfl rfl rfl (by decide) (fun wq hS => r_fieldAddr F rfl ff_98_2) ER.sb fun a F => ?_
    refine d_q F rfl rfl rfl (by decide) (fun wq hS => r_load F rfl ag_9 (AT.cell (AT.sb zhat46 hS (fun q => q.elim)) rfl)) ER.sb fun a F => ?_
    refine d_q F rfl rfl rfl (by decide) (fun wq hS => r_move F rfl) ER.sb fun a F => ?_
    refine d_q F rfl rfl rfl (by decide) (fun wq hS => r_nil F rfl) ER.sb fun a F => ?_
    refine d_q F rfl rfl rfl (by decide) (fun wq hS => r_fieldAddr F rfl ff_98_3) ER.sb fun a F => ?_
    refine d_q F rfl rfl rfl (by decide) (fun wq hS => r_loads (cs := [.slice A40 tv35.value.length C41, .int .i64 tv35.rev]) F rfl ag_66 sz_66 (AT.sub (AT.sb zhat46 hS (fun q => q.elim)) 3 2 (Nat.le_of_ble_eq_true rfl))) ER.sb fun a F => ?_
    refine d_q F rfl rfl rfl (by decide) (fun wq hS => r_move F rfl) ER.sb fun a F => ?_
    refine d_q F rfl rfl rfl (by decide) (fun wq hS => r_nil F rfl) ER.sb fun a F => ?_
    refine d_q F rfl rfl rfl (by decide) (fun wq hS => r_fieldAddr F rfl ff_98_1) ER.sb fun a F => ?_
    refine d_q F rfl rfl rfl (by decide) (fun wq hS => r_load F rfl ag_68 (AT.cell (AT.sb zhat46 hS (fun q => q.elim)) rfl)) ER.sb fun a F => ?_
    refine d_e ?_
    obtain ⟨t62, q63, H⟩ := bind_some H
    refine o_call F rfl (wanted_none rfl) rfl (by decide) (r_call F Try.func61 rfl (by kernel_rfl) rfl) (ih (m := m + 2) (by omega) B hl47 h8 _ q63) ?_
    rintro e w65 ⟨c64, p68, rfl, E66, B67, h69⟩
    refine ⟨_, rfl, fun a F => ?_⟩
    have B := B67
    have ER := ER.trans E66 (fun x q => q.elim)
    have h3 := TR.ev h3 E66 (fun q => q.elim) (fun q => q.elim)
    have h8 := SL.ev h8 E66 (fun q => q.elim) (fun q => q.elim)
    have h14 := AT.ev h14 E66 (fun q => q.elim)
    have h42 := SL.ev h42 E66 (fun q => q.elim) (fun q => q.elim)
    have hl47 := TR.ev hl47 E66 (fun q => q.elim) (fun q => q.elim)
    have hr48 := TR.ev hr48 E66 (fun q => q.elim) (fun q => q.elim)
    have hat46 := AT.ev hat46 E66 (fun q => q.elim)
    have E := E.trans E66 (fun x q => q.elim)
    refine ⟨fun _ => ER.sb, ?_⟩
    refine d_e ?_
    obtain ⟨t71, q72, H⟩ := bind_some H
    refine o_call F rfl (wanted_none rfl) rfl (by decide) (r_call F Try.func77 rfl (by kernel_rfl) rfl) (tree_join.calls k (m := m + 2) (by omega) B h69 h42 hr48 _ q72) ?_
    rintro e w74 ⟨c73, p77, rfl, E75, B76, h78⟩
    refine ⟨_, rfl, fun a F => ?_⟩
    have B := B76
    have ER := ER.trans E75 (fun x q => q.elim)
    have h3 := TR.ev h3 E75 (fun q => q.elim) (fun q => q.elim)
    have h8 := SL.ev h8 E75 (fun q => q.elim) (fun q => q.elim)
    have h14 := AT.ev h14 E75 (fun q => q.elim)
    have h42 := SL.ev h42 E75 (fun q => q.elim) (fun q => q.elim)
    have hl47 := TR.ev hl47 E75 (fun q => q.elim) (fun q => q.elim)
    have hr48 := TR.ev hr48 E75 (fun q => q.elim) (fun q => q.elim)
    have hat46 := AT.ev hat46 E75 (fun q => q.elim)
    have h69 := TR.ev h69 E75 (fun q => q.elim) (fun q => q.elim)
    have E := E.trans E75 (fun x q => q.elim)
    refine ⟨fun _ => ER.sb, ?_⟩
    refine d_q F rfl rfl rfl (by decide) (fun wq hS => r_assign F rfl) ER.sb fun a F => ?_
    refine d_nil ?_
    refine hK59 _ _ ?_
    refine wp_ret ?_
    refine inbR ?_
    refine thenR ?_
    have H := Option.some.inj H
    subst H
    refine out1 F rfl rfl ?_
    exact ⟨fun b_ => (fun x_ => if x_ < m then x_ else 0) (c73 b_), p77, rfl, E.leave B0 (fun x_ => if x_ < m then x_ else 0) (by intro x_ hx_; show (if x_ < m then x_ else 0) = x_; ((repeat' split) <;> omega)), (fun b_ hb_ => by show (if (c73 b_) < m then (c73 b_) else 0) < m; ((repeat' split) <;> omega)), TR.rc h78 (fun k_ hk_ => by show (if (c73 k_) < m then (c73 k_) else 0) = _; rw [hk_]; ((repeat' split) <;> omega)) (fun k_ hk_ => by show (if (c73 k_) < m then (c73 k_) else 0) = _; rw [hk_]; ((repeat' split) <;> omega))⟩
   ·have H := (if_neg hb58).symm.trans H
    refine wp_cond_false ((F.ev rfl).trans (congrArg Value.bool (decide_eq_false hb58))) ?_
    refine wp_seq_k fun K80 hK80 => ?_
    refine reg ?_
    refine q_val F rfl rfl (by decide) (r_move F rfl) fun a F => ?_
    refine q_val F rfl rfl (by decide) (r_gtr F rfl rfl) fun a F => ?_
    refine q_val F rfl rfl (by decide) (r_assign F rfl) fun a F => ?_
    refine nil ?_
    refine hK80 _ _ ?_
    by_cases hb81 : 0 < t50
    ·have H := (if_pos hb81).symm.trans H
     refine wp_cond_true ((F.ev rfl).trans (congrArg Value.bool (decide_eq_true hb81))) ?_
     refine wp_seq_k fun K82 hK82 => ?_
     refine regD (SB No c52 w53) 21 (.q 0 (.q 1 (.q 2 (.q 3 (.q 4 (.q 5 (.q 6 (.q 7 (.q 8 (.q 9 (.q 10 (.q 11 (.q 12 (.q 13 (.q 14 (.q 15 (.q 16 (.q 17 (.e 18 (.e 19 (.q 20 .nil))))))))))))))))))))) Try_hm (by decide +kernel) ?_
     intro w83 w1_ w2_ w3_ w4_
     have E84 : Ev No c52 w53 c52 w83 := Ev.same w1_ w2_ w3_ w4_
     have B := B.same w1_
     have zh3 := h3
     have zh8 := h8
     have zh14 := h14
     have zh42 := h42
     have zhl47 := hl47
     have zhr48 := hr48
     have zhat46 := hat46
     have ER : Ev No c52 w53 c52 w83 := Ev.same w1_ w2_ w3_ w4_
     have h3 := TR.ev h3 E84 (fun q => q.elim) (fun q => q.elim)
     have h8 := SL.ev h8 E84 (fun q => q.elim) (fun q => q.elim)
     have h14 := AT.ev h14 E84 (fun q => q.elim)
     have h42 := SL.ev h42 E84 (fun q => q.elim) (fun q => q.elim)
     have hl47 := TR.ev hl47 E84 (fun q => q.elim) (fun q => q.elim)
     have hr48 := TR.ev hr48 E84 (fun q => q.elim) (fun q => q.elim)
     have hat46 := AT.ev hat46 E84 (fun q => q.elim)
     have E := E.trans E84 (fun x q => q.elim)
     refine d_q F rfl rfl rfl (by decide) (fun wq hS => r_move F rfl) ER.sb fun a F => ?_
     refine d_q F rfl rfl rfl (by decide) (fun wq hS => r_nil F rfl) ER.sb fun a F => ?_
     refine d_q F rfl rfl rfl (by decide) (fun wq hS => r_fieldAddr F rfl ff_98_0) ER.sb fun a F => ?_
     refine d_q F rfl rfl rfl (by decide) (fun wq hS => r_load F rfl ag_68 (AT.cell (AT.sb zhat46 hS (fun q => q.elim)) rfl)) ER.sb fun a F => ?_
     refine d_q F rfl rfl rfl (by decide) (fun wq hS => r_move F rfl) ER.sb fun a F => ?_
     refine d_q F rfl rfl rfl (by decide) (fun wq hS => r_nil F rfl) ER.sb fun a F => ?_
     refine d_q F rfl rfl rfl (by decide) (fun wq hS => r_fieldAddr F rfl ff_98_2) ER.sb fun a F => ?_
     refine d_q F rfl rfl rfl (by decide) (fun wq hS => r_load F rfl ag_9 (AT.cell (AT.sb zhat46 hS (fun q => q.elim)) rfl)) ER.sb fun a F => ?_
     refine d_q F rfl rfl rfl (by decide) (fun wq hS => r_move F rfl) ER.sb fun a F => ?_
     refine d_q F rfl rfl rfl (by decide) (fun wq hS => r_nil F rfl) ER.sb fun a F => ?_
     refine d_q F rfl rfl rfl (by decide) (fun wq hS => r_fieldAddr F rfl ff_98_3) ER.sb fun a F => ?_
     refine d_q F rfl rfl rfl (by decide) (fun wq hS => r_loads (cs := [.slice A40 tv35.value.length C41, .int .i64 tv35.rev]) F rfl ag_66 sz_66 (AT.sub (AT.sb zhat46 hS (fun q => q.elim)) 3 2 (Nat.le_of_ble_eq_true rfl))) ER.sb fun a F => ?_
     refine d_q F rfl rfl rfl (by decide) (fun wq hS => r_move F rfl) ER.sb fun a F => ?_
     refine d_q F rfl rfl rfl (by decide) (fun wq hS => r_nil F rfl) ER.sb fun a F => ?_
     refine d_q F rfl rfl rfl (by decide) (fun wq hS => r_fieldAddr F rfl ff_98_1) ER.sb fun a F => ?_
     refine d_q F rfl rfl rfl (by decide) (fun wq hS => r_load F rfl ag_68 (AT.cell (AT.sb zhat46 hS (fun q => q.elim)) rfl)) ER.sb fun a F => ?_
     refine d_q F rfl rfl rfl (by decide) (fun wq hS => r_move F rfl) ER.sb fun a F => ?_
     refine d_q F rfl rfl rfl (by decide) (fun wq hS => r_loads (cs := [.slice A6 a5.value.length C7, .int .i64 a5.rev]) F rfl ag_66 sz_66 (AT.sb zh14 hS (fun q => q.elim))) ER.sb fun a F => ?_
     refine d_e ?_
     obtain ⟨t85, q86, H⟩ := bind_some H
     refine o_call F rfl (wanted_none rfl) rfl (by decide) (r_call F Try.func61 rfl (by kernel_rfl) rfl) (ih (m := m + 2) (by omega) B hr48 h8 _ q86) ?_
     rintro e w88 ⟨c87, p91, rfl, E89, B90, h92⟩
     refine ⟨_, rfl, fun a F => ?_⟩
     have B := B90
     have ER := ER.trans E89 (fun x q => q.elim)
     have h3 := TR.ev h3 E89 (fun q => q.elim) (fun q => q.elim)
     have h8 := SL.ev h8 E89 (fun q => q.elim) (fun q => q.elim)
     have h14 := AT.ev h14 E89 (fun q => q.elim)
     have h42 := SL.ev h42 E89 (fun q => q.elim) (fun q => q.elim)
     have hl47 := TR.ev hl47 E89 (fun q => q.elim) (fun q => q.elim)
     have hr48 := TR.ev hr48 E89 (fun q => q.elim) (fun q => q.elim)
     have hat46 := AT.ev hat46 E89 (fun q => q.elim)
     have E := E.trans E89 (fun x q => q.elim)
     refine ⟨fun _ => ER.sb, ?_⟩
     refine d_e ?_
     obtain ⟨t94, q95, H⟩ := bind_some H
     refine o_call F rfl (wanted_none rfl) rfl (by decide) (r_call F Try.func77 rfl (by kernel_rfl) rfl) (tree_join.calls k (m := m + 2) (by omega) B hl47 h42 h92 _ q95) ?_
     rintro e w97 ⟨c96, p100, rfl, E98, B99, h101⟩
     refine ⟨_, rfl, fun a F => ?_⟩
     have B := B99
     have ER := ER.trans E98 (fun x q => q.elim)
     have h3 := TR.ev h3 E98 (fun q => q.elim) (fun q => q.elim)
     have h8 := SL.ev h8 E98 (fun q => q.elim) (fun q => q.elim)
     have h14 := AT.ev h14 E98 (fun q => q.elim)
     have h42 := SL.ev h42 E98 (fun q => q.elim) (fun q => q.elim)
     have hl47 := TR.ev hl47 E98 (fun q => q.elim) (fun q => q.elim)
     have hr48 := TR.ev hr48 E98 (fun q => q.elim) (fun q => q.elim)
     have hat46 := AT.ev hat46 E98 (fun q => q.elim)
     have h92 := TR.ev h92 E98 (fun q => q.elim) (fun q => q.elim)
     have E := E.trans E98 (fun x q => q.elim)
     refine ⟨fun _ => ER.sb, ?_⟩
     refine d_q F rfl rfl rfl (by decide) (fun wq hS => r_assign F rfl) ER.sb fun a F => ?_
     refine d_nil ?_
     refine hK82 _ _ ?_
     refine wp_ret ?_
     refine inbR ?_
     refine thenR ?_
     have H := Option.some.inj H
     subst H
     refine out1 F rfl rfl ?_
     exact ⟨fun b_ => (fun x_ => if x_ < m then x_ else 0) (c96 b_), p100, rfl, E.leave B0 (fun x_ => if x_ < m then x_ else 0) (by intro x_ hx_; show (if x_ < m then x_ else 0) = x_; ((repeat' split) <;> omega)), (fun b_ hb_ => by show (if (c96 b_) < m then (c96 b_) else 0) < m; ((repeat' split) <;> omega)), TR.rc h101 (fun k_ hk_ => by show (if (c96 k_) < m then (c96 k_) else 0) = _; rw [hk_]; ((repeat' split) <;> omega)) (fun k_ hk_ => by show (if (c96 k_) < m then (c96 k_) else 0) = _; rw [hk_]; ((repeat' split) <;> omega))⟩
    ·have H := (if_neg hb81).symm.trans H
     refine wp_cond_false ((F.ev rfl).trans (congrArg Value.bool (decide_eq_false hb81))) ?_
     refine wp_skip ?_
     refine hK30 _ _ ?_
     refine wp_seq_k fun K103 hK103 => ?_
     refine regD (SB No c52 w53) 12 (.q 0 (.q 1 (.q 2 (.q 3 (.q 4 (.q 5 (.q 6 (.q 7 (.q 8 (.q 9 (.e 10 (.q 11 .nil)))))))))))) Try_hm (by decide +kernel) ?_
     intro w104 w1_ w2_ w3_ w4_
     have E105 : Ev No c52 w53 c52 w104 := Ev.same w1_ w2_ w3_ w4_
     have B := B.same w1_
     have zh3 := h3
     have zh8 := h8
     have zh14 := h14
     have zh42 := h42
     have zhl47 := hl47
     have zhr48 := hr48
     have zhat46 := hat46
     have ER : Ev No c52 w53 c52 w104 := Ev.same w1_ w2_ w3_ w4_
     have h3 := TR.ev h3 E105 (fun q => q.elim) (fun q => q.elim)
     have h8 := SL.ev h8 E105 (fun q => q.elim) (fun q => q.elim)
     have h14 := AT.ev h14 E105 (fun q => q.elim)
     have h42 := SL.ev h42 E105 (fun q => q.elim) (fun q => q.elim)
     have hl47 := TR.ev hl47 E105 (fun q => q.elim) (fun q => q.elim)
     have hr48 := TR.ev hr48 E105 (fun q => q.elim) (fun q => q.elim)
     have hat46 := AT.ev hat46 E105 (fun q => q.elim)
     have E := E.trans E105 (fun x q => q.elim)
     refine d_q F rfl rfl rfl (by decide) (fun wq hS => r_move F rfl) ER.sb fun a F => ?_
     refine d_q F rfl rfl rfl (by decide) (fun wq hS => r_nil F rfl) ER.sb fun a F => ?_
     refine d_q F rfl rfl rfl (by decide) (fun wq hS => r_fieldAddr F rfl ff_98_0) ER.sb fun a F => ?_
     refine d_q F rfl rfl rfl (by decide) (fun wq hS => r_load F rfl ag_68 (AT.cell (AT.sb zhat46 hS (fun q => q.elim)) rfl)) ER.sb fun a F => ?_
     refine d_q F rfl rfl rfl (by decide) (fun wq hS => r_move F rfl) ER.sb fun a F => ?_
     refine d_q F rfl rfl rfl (by decide) (fun wq hS => r_loads (cs := [.slice A6 a5.value.length C7, .int .i64 a5.rev]) F rfl ag_66 sz_66 (AT.sb zh14 hS (fun q => q.elim))) ER.sb fun a F => ?_
     refine d_q F rfl rfl rfl (by decide) (fun wq hS => r_move F rfl) ER.sb fun a F => ?_
     refine d_q F rfl rfl rfl (by decide) (fun wq hS => r_nil F rfl) ER.sb fun a F => ?_
     refine d_q F rfl rfl rfl (by decide) (fun wq hS => r_fieldAddr F rfl ff_98_1) ER.sb fun a F => ?_
     refine d_q F rfl rfl rfl (by decide) (fun wq hS => r_load F rfl ag_68 (AT.cell (AT.sb zhat46 hS (fun q => q.elim)) rfl)) ER.sb fun a F => ?_
     refine d_e ?_
     obtain ⟨t106, q107, H⟩ := bind_some H
     refine o_call F rfl (wanted_none rfl) rfl (by decide) (r_call F Try.func79 rfl (by kernel_rfl) rfl) (tree_node.calls (m := m + 2) (by omega) B hl47 h8 hr48 _ q107) ?_
     rintro e w109 ⟨c108, p112, rfl, E110, B111, h113⟩
     refine ⟨_, rfl, fun a F => ?_⟩
     have B := B111
     have ER := ER.trans E110 (fun x q => q.elim)
     have h3 := TR.ev h3 E110 (fun q => q.elim) (fun q => q.elim)
     have h8 := SL.ev h8 E110 (fun q => q.elim) (fun q => q.elim)
     have h14 := AT.ev h14 E110 (fun q => q.elim)
     have h42 := SL.ev h42 E110 (fun q => q.elim) (fun q => q.elim)
     have hl47 := TR.ev hl47 E110 (fun q => q.elim) (fun q => q.elim)
     have hr48 := TR.ev hr48 E110 (fun q => q.elim) (fun q => q.elim)
     have hat46 := AT.ev hat46 E110 (fun q => q.elim)
     have E := E.trans E110 (fun x q => q.elim)
     refine ⟨fun _ => ER.sb, ?_⟩
     refine d_q F rfl rfl rfl (by decide) (fun wq hS => r_assign F rfl) ER.sb fun a F => ?_
     refine d_nil ?_
     refine hK103 _ _ ?_
     refine wp_ret ?_
     have H := Option.some.inj H
     subst H
     refine out1 F rfl rfl ?_
     exact ⟨fun b_ => (fun x_ => if x_ < m then x_ else 0) (c108 b_), p112, rfl, E.leave B0 (fun x_ => if x_ < m then x_ else 0) (by intro x_ hx_; show (if x_ < m then x_ else 0) = x_; ((repeat' split) <;> omega)), (fun b_ hb_ => by show (if (c108 b_) < m then (c108 b_) else 0) < m; ((repeat' split) <;> omega)), TR.rc h113 (fun k_ hk_ => by show (if (c108 k_) < m then (c108 k_) else 0) = _; rw [hk_]; ((repeat' split) <;> omega)) (fun k_ hk_ => by show (if (c108 k_) < m then (c108 k_) else 0) = _; rw [hk_]; ((repeat' split) <;> omega))⟩
end Go.Proofs.Ytcolmmjcdlmcoaa.G
namespace Go.Proofs.Ytcolmmjcdlmcoaa.G
open Go Go.RowKit
set_option linter.unusedVariables false
set_option linter.unusedSimpArgs false
set_option maxRecDepth 100000 in
set_option maxHeartbeats 4000000 in
theorem tree_Tree_Delete.calls (k : Nat) : ∀ {m : Nat} {c0 : Nat → Nat} {w0 : World} {p2 : Option Addr} {a1 : Tr} {a4 : ByteArray} (hm0 : 0 < m) (B0 : CB m c0 w0) (h3 : TR 0 c0 w0 p2 a1) (r : Tr × Bool) (H : tree_Tree_Delete.f k a1 a4 = some r), Calls Try.prog 60 #[.pointer p2, .string a4] w0 (fun e w_ => ∃ (c_ : Nat → Nat) (P0_ : Option Addr), e = .returned (.tuple #[.pointer P0_, .bool r.2]) ∧ Ev (fun x => False) c0 w0 c_ w_ ∧ CB m c_ w_ ∧ TR 0 c_ w_ P0_ r.1) := by
 induction k with
 | zero => intro m c0 w0 p2 a1 a4 hm0 B0 h3 r H; exact absurd H (by simp [tree_Tree_Delete.f])
 | succ k ih =>
  intro m c0 w0 p2 a1 a4 hm0 B0 h3 r H
  unfold tree_Tree_Delete.f at H
  have B := B0.mono (show m ≤ m + 1 by omega)
  have E : Ev (fun x => False ∨ m ≤ x) c0 w0 c0 w0 := Ev.refl
  refine enter (N := 86) (l := [.pointer p2, .string a4]) Try.func60 rfl rfl (Nat.le_of_ble_eq_true rfl) fun a F => ?_
  refine wp_seq_k fun K5 hK5 => ?_
  refine reg ?_
  refine q_val F rfl rfl (by decide) (r_assign F rfl) fun a F => ?_
  refine q_val F rfl rfl (by decide) (r_assign F rfl) fun a F => ?_
  refine nil ?_
  refine hK5 _ _ ?_
  refine wp_seq_k fun K6 hK6 => ?_
  refine wp_seq_k fun K7 hK7 => ?_
  refine reg ?_
  refine q_val F rfl rfl (by decide) (r_move F rfl) fun a F => ?_
  refine q_val F rfl rfl (by decide) (r_peqlA F Try.underlying68 rfl rfl (TR.isNil h3)) fun a F => ?_
  refine nil ?_
  refine hK7 _ _ ?_
  by_cases hb8 : (Tr.isNil a1) = true
  ·have H := (if_pos hb8).symm.trans H
   refine wp_cond_true ((F.ev rfl).trans (congrArg Value.bool hb8)) ?_
   refine wp_seq_k fun K9 hK9 => ?_
   refine reg ?_
   refine q_val F rfl rfl (by decide) (r_assign F rfl) fun a F => ?_
   refine q_val F rfl rfl (by decide) (r_assign F rfl) fun a F => ?_
   refine nil ?_
   refine hK9 _ _ ?_
   refine wp_ret ?_
   refine thenR ?_
   have H := Option.some.inj H
   subst H
   refine out2 F rfl rfl rfl ?_
   exact ⟨fun b_ => (fun x_ => if x_ < m then x_ else 0) (c0 b_), none, rfl, E.leave B0 (fun x_ => if x_ < m then x_ else 0) (by intro x_ hx_; show (if x_ < m then x_ else 0) = x_; ((repeat' split) <;> omega)), (fun b_ hb_ => by show (if (c0 b_) < m then (c0 b_) else 0) < m; ((repeat' split) <;> omega)), TR.nil⟩
  ·have H := (if_neg hb8).symm.trans H
   refine wp_cond_false ((F.ev rfl).trans (congrArg Value.bool (bfalse hb8))) ?_
   refine wp_skip ?_
   refine hK6 _ _ ?_
   refine wp_seq_k fun K10 hK10 => ?_
   refine wp_seq_k fun K11 hK11 => ?_
   refine reg ?_
   refine q_val F rfl rfl (by decide) (r_move F rfl) fun a F => ?_
   refine q_val F rfl rfl (by decide) (r_move F rfl) fun a F => ?_
   obtain ⟨tl12, tr13, tk14, tv15, ts16, td17, e18, H⟩ := cs_some H
   have z19 := h3
   rw [e18] at z19
   obtain ⟨ad23, lp24, rp25, A20, C21, rfl, hat26, h22, hl27, hr28⟩ := TR.node z19
   refine q_val F rfl rfl (by decide) (r_nil F rfl) fun a F => ?_
   refine q_val F rfl rfl (by decide) (r_fieldAddr F rfl ff_98_2) fun a F => ?_
   refine q_val F rfl rfl (by decide) (r_load F rfl ag_9 (AT.cell hat26 rfl)) fun a F => ?_
   obtain ⟨t30, q31, H⟩ := bind_some H
   refine q_call F rfl rfl (by decide) (r_call F Try.func58 rfl (by kernel_rfl) rfl) (cmp_Compare.calls (m := m + 1) (by omega) B _ q31) ?_
   rintro e w33 ⟨c32, rfl, E34, B35⟩
   refine ⟨_, rfl, fun a F => ?_⟩
   have B := B35
   have h3 := TR.ev h3 E34 (fun q => q.elim) (fun q => q.elim)
   have h22 := SL.ev h22 E34 (fun q => q.elim) (fun q => q.elim)
   have hl27 := TR.ev hl27 E34 (fun q => q.elim) (fun q => q.elim)
   have hr28 := TR.ev hr28 E34 (fun q => q.elim) (fun q => q.elim)
   have hat26 := AT.ev hat26 E34 (fun q => q.elim)
   have E := E.trans E34 (fun x q => q.elim)
   refine q_val F rfl rfl (by decide) (r_assign F rfl) fun a F => ?_
   refine nil ?_
   refine hK11 _ _ ?_
   refine wp_block ?_
   refine wp_seq_k fun K37 hK37 => ?_
   refine reg ?_
   refine q_val F rfl rfl (by decide) (r_move F rfl) fun a F => ?_
   refine q_val F rfl rfl (by decide) (r_lss F rfl rfl) fun a F => ?_
   refine q_val F rfl rfl (by decide) (r_assign F rfl) fun a F => ?_
   refine nil ?_
   refine hK37 _ _ ?_
   by_cases hb38 : t30 < 0
   ·have H := (if_pos hb38).symm.trans H
    refine wp_cond_true ((F.ev rfl).trans (congrArg Value.bool (decide_eq_true hb38))) ?_
    refine wp_seq_k fun K39 hK39 => ?_
    refine reg ?_
    refine q_val F rfl rfl (by decide) (r_move F rfl) fun a F => ?_
    refine q_val F rfl rfl (by decide) (r_nil F rfl) fun a F => ?_
    refine q_val F rfl rfl (by decide) (r_fieldAddr F rfl ff_98_0) fun a F => ?_
    refine q_val F rfl rfl (by decide) (r_load F rfl ag_68 (AT.cell hat26 rfl)) fun a F => ?_
    refine q_val F rfl rfl (by decide) (r_move F rfl) fun a F => ?_
    obtain ⟨t40, q41, H⟩ := bind_some H
    refine q_call F rfl rfl (by decide) (r_call F Try.func60 rfl (by kernel_rfl) rfl) (ih (m := m + 1) (by omega) B hl27 _ q41) ?_
    rintro e w43 ⟨c42, p46, rfl, E44, B45, h47⟩
    refine ⟨_, rfl, fun a F => ?_⟩
    have B := B45
    have h3 := TR.ev h3 E44 (fun q => q.elim) (fun q => q.elim)
    have h22 := SL.ev h22 E44 (fun q => q.elim) (fun q => q.elim)
    have hl27 := TR.ev hl27 E44 (fun q => q.elim) (fun q => q.elim)
    have hr28 := TR.ev hr28 E44 (fun q => q.elim) (fun q => q.elim)
    have hat26 := AT.ev hat26 E44 (fun q => q.elim)
    have E := E.trans E44 (fun x q => q.elim)
    refine q_val F rfl rfl (by decide) (r_move F rfl) fun a F => ?_
    refine q_val F rfl rfl (by decide) (r_extract F rfl rfl) fun a F => ?_
    refine q_val F rfl rfl (by decide) (r_extract F rfl rfl) fun a F => ?_
    refine q_val F rfl rfl (by decide) (r_assign F rfl) fun a F => ?_
    refine q_val F rfl rfl (by decide) (r_assign F rfl) fun a F => ?_
    refine nil ?_
    refine hK39 _ _ ?_
    refine wp_seq_k fun K49 hK49 => ?_
    refine wp_seq_k fun K50 hK50 => ?_
    refine reg ?_
    refine q_val F rfl rfl (by decide) (r_move F rfl) fun a F => ?_
    refine q_val F rfl rfl (by decide) (r_not F rfl) fun a F => ?_
    refine nil ?_
    refine hK50 _ _ ?_
    by_cases hb51 : t40.2 = true
    ·have H := (if_pos hb51).symm.trans H
     refine wp_cond_false ((F.ev rfl).trans (congrArg Value.bool (congrArg not hb51))) ?_
     refine wp_skip ?_
     refine hK49 _ _ ?_
     refine wp_seq_k fun K53 hK53 => ?_
     refine regD (SB No c42 w43) 16 (.q 0 (.q 1 (.q 2 (.q 3 (.q 4 (.q 5 (.q 6 (.q 7 (.q 8 (.q 9 (.q 10 (.q 11 (.q 12 (.e 13 (.q 14 (.q 15 .nil)))))))))))))))) Try_hm (by decide +kernel) ?_
     intro w54 w1_ w2_ w3_ w4_
     have E55 : Ev No c42 w43 c42 w54 := Ev.same w1_ w2_ w3_ w4_
     have B := B.same w1_
     have zh3 := h3
     have zh22 := h22
     have zhl27 := hl27
     have zhr28 := hr28
     have zhat26 := hat26
     have zh47 := h47
     have ER : Ev No c42 w43 c42 w54 := Ev.same w1_ w2_ w3_ w4_
     have h3 := TR.ev h3 E55 (fun q => q.elim) (fun q => q.elim)
     have h22 := SL.ev h22 E55 (fun q => q.elim) (fun q => q.elim)
     have hl27 := TR.ev hl27 E55 (fun q => q.elim) (fun q => q.elim)
     have hr28 := TR.ev hr28 E55 (fun q => q.elim) (fun q => q.elim)
     have hat26 := AT.ev hat26 E55 (fun q => q.elim)
     have h47 := TR.ev h47 E55 (fun q => q.elim) (fun q => q.elim)
     have E := E.trans E55 (fun x q => q.elim)
     refine d_q F rfl rfl rfl (by decide) (fun wq hS => r_move F rfl) ER.sb fun a F => ?_
     refine d_q F rfl rfl rfl (by decide) (fun wq hS => r_move F rfl) ER.sb fun a F => ?_
     refine d_q F rfl rfl rfl (by decide) (fun wq hS => r_nil F rfl) ER.sb fun a F => ?_
     refine d_q F rfl rfl rfl (by decide) (fun wq hS => r_fieldAddr F rfl ff_98_2) ER.sb fun a F => ?_
     refine d_q F rfl rfl rfl (by decide) (fun wq hS => r_load F rfl ag_9 (AT.cell (AT.sb zhat26 hS (fun q => q.elim)) rfl)) ER.sb fun a F => ?_
     refine d_q F rfl rfl rfl (by decide) (fun wq hS => r_move F rfl) ER.sb fun a F => ?_
     refine d_q F rfl rfl rfl (by decide) (fun wq hS => r_nil F rfl) ER.sb fun a F => ?_
     refine d_q F rfl rfl rfl (by decide) (fun wq hS => r_fieldAddr F rfl ff_98_3) ER.sb fun a F => ?_
     refine d_q F rfl rfl rfl (by decide) (fun wq hS => r_loads (cs := [.slice A20 tv15.value.length C21, .int .i64 tv15.rev]) F rfl ag_66 sz_66 (AT.sub (AT.sb zhat26 hS (fun q => q.elim)) 3 2 (Nat.le_of_ble_eq_true rfl))) ER.sb fun a F => ?_
     refine d_q F rfl rfl rfl (by decide) (fun wq hS => r_move F rfl) ER.sb fun a F => ?_
     refine d_q F rfl rfl rfl (by decide) (fun wq hS => r_nil F rfl) ER.sb fun a F => ?_
     refine d_q F rfl rfl rfl (by decide) (fun wq hS => r_fieldAddr F rfl ff_98_1) ER.sb fun a F => ?_
     refine d_q F rfl rfl rfl (by decide) (fun wq hS => r_load F rfl ag_68 (AT.cell (AT.sb zhat26 hS (fun q => q.elim)) rfl)) ER.sb fun a F => ?_
     refine d_e ?_
     obtain ⟨t56, q57, H⟩ := bind_some H
     refine o_call F rfl (wanted_none rfl) rfl (by decide) (r_call F Try.func77 rfl (by kernel_rfl) rfl) (tree_join.calls k (m := m + 1) (by omega) B h47 h22 hr28 _ q57) ?_
     rintro e w59 ⟨c58, p62, rfl, E60, B61, h63⟩
     refine ⟨_, rfl, fun a F => ?_⟩
     have B := B61
     have ER := ER.trans E60 (fun x q => q.elim)
     have h3 := TR.ev h3 E60 (fun q => q.elim) (fun q => q.elim)
     have h22 := SL.ev h22 E60 (fun q => q.elim) (fun q => q.elim)
     have hl27 := TR.ev hl27 E60 (fun q => q.elim) (fun q => q.elim)
     have hr28 := TR.ev hr28 E60 (fun q => q.elim) (fun q => q.elim)
     have hat26 := AT.ev hat26 E60 (fun q => q.elim)
     have h47 := TR.ev h47 E60 (fun q => q.elim) (fun q => q.elim)
     have E := E.trans E60 (fun x q => q.elim)
     refine ⟨fun _ => ER.sb, ?_⟩
     refine d_q F rfl rfl rfl (by decide) (fun wq hS => r_assign F rfl) ER.sb fun a F => ?_
     refine d_q F rfl rfl rfl (by decide) (fun wq hS => r_assign F rfl) ER.sb fun a F => ?_
     refine d_nil ?_
     refine hK53 _ _ ?_
     refine wp_ret ?_
     refine inbR ?_
     refine thenR ?_
     have H := Option.some.inj H
     subst H
     refine out2 F rfl rfl rfl ?_
     exact ⟨fun b_ => (fun x_ => if x_ < m then x_ else 0) (c58 b_), p62, rfl, E.leave B0 (fun x_ => if x_ < m then x_ else 0) (by intro x_ hx_; show (if x_ < m then x_ else 0) = x_; ((repeat' split) <;> omega)), (fun b_ hb_ => by show (if (c58 b_) < m then (c58 b_) else 0) < m; ((repeat' split) <;> omega)), TR.rc h63 (fun k_ hk_ => by show (if (c58 k_) < m then (c58 k_) else 0) = _; rw [hk_]; ((repeat' split) <;> omega)) (fun k_ hk_ => by show (if (c58 k_) < m then (c58 k_) else 0) = _; rw [hk_]; ((repeat' split) <;> omega))⟩
    ·have H := (if_neg hb51).symm.trans H
     refine wp_cond_true ((F.ev rfl).trans (congrArg Value.bool (congrArg not (bfalse hb51)))) ?_
     refine wp_seq_k fun K52 hK52 => ?_
     refine reg ?_
     refine q_val F rfl rfl (by decide) (r_move F rfl) fun a F => ?_
     refine q_val F rfl rfl (by decide) (r_assign F rfl) fun a F => ?_
     refine q_val F rfl rfl (by decide) (r_assign F rfl) fun a F => ?_
     refine nil ?_
     refine hK52 _ _ ?_
     refine wp_ret ?_
     refine thenR ?_
     refine inbR ?_
     refine thenR ?_
     have H := Option.some.inj H
     subst H
     refine out2 F rfl rfl rfl ?_
     exact ⟨fun b_ => (fun x_ => if x_ < m then x_ else 0) (c42 b_), (some ad23), rfl, E.leave B0 (fun x_ => if x_ < m then x_ else 0) (by intro x_ hx_; show (if x_ < m then x_ else 0) = x_; ((repeat' split) <;> omega)), (fun b_ hb_ => by show (if (c42 b_) < m then (c42 b_) else 0) < m; ((repeat' split) <;> omega)), TR.rc h3 (fun k_ hk_ => by show (if (c42 k_) < m then (c42 k_) else 0) = _; rw [hk_]; ((repeat' split) <;> omega)) (fun k_ hk_ => by show (if (c42 k_) < m then (c42 k_) else 0) = _; rw [hk_]; ((repeat' split) <;> omega))⟩
   ·have H := (if_neg hb38).symm.trans H
    refine wp_cond_false ((F.ev rfl).trans (congrArg Value.bool (decide_eq_false hb38))) ?_
    refine wp_seq_k fun K65 hK65 => ?_
    refine reg ?_
    refine q_val F rfl rfl (by decide) (r_move F rfl) fun a F => ?_
    refine q_val F rfl rfl (by decide) (r_gtr F rfl rfl) fun a F => ?_
    refine q_val F rfl rfl (by decide) (r_assign F rfl) fun a F => ?_
    refine nil ?_
    refine hK65 _ _ ?_
    by_cases hb66 : 0 < t30
    ·have H := (if_pos hb66).symm.trans H
     refine wp_cond_true ((F.ev rfl).trans (congrArg Value.bool (decide_eq_true hb66))) ?_
     refine wp_seq_k fun K67 hK67 => ?_
     refine reg ?_
     refine q_val F rfl rfl (by decide) (r_move F rfl) fun a F => ?_
     refine q_val F rfl rfl (by decide) (r_nil F rfl) fun a F => ?_
     refine q_val F rfl rfl (by decide) (r_fieldAddr F rfl ff_98_1) fun a F => ?_
     refine q_val F rfl rfl (by decide) (r_load F rfl ag_68 (AT.cell hat26 rfl)) fun a F => ?_
     refine q_val F rfl rfl (by decide) (r_move F rfl) fun a F => ?_
     obtain ⟨t68, q69, H⟩ := bind_some H
     refine q_call F rfl rfl (by decide) (r_call F Try.func60 rfl (by kernel_rfl) rfl) (ih (m := m + 1) (by omega) B hr28 _ q69) ?_
     rintro e w71 ⟨c70, p74, rfl, E72, B73, h75⟩
     refine ⟨_, rfl, fun a F => ?_⟩
     have B := B73
     have h3 := TR.ev h3 E72 (fun q => q.elim) (fun q => q.elim)
     have h22 := SL.ev h22 E72 (fun q => q.elim) (fun q => q.elim)
     have hl27 := TR.ev hl27 E72 (fun q => q.elim) (fun q => q.elim)
     have hr28 := TR.ev hr28 E72 (fun q => q.elim) (fun q => q.elim)
     have hat26 := AT.ev hat26 E72 (fun q => q.elim)
     have E := E.trans E72 (fun x q => q.elim)
     refine q_val F rfl rfl (by decide) (r_move F rfl) fun a F => ?_
     refine q_val F rfl rfl (by decide) (r_extract F rfl rfl) fun a F => ?_
     refine q_val F rfl rfl (by decide) (r_extract F rfl rfl) fun a F => ?_
     refine q_val F rfl rfl (by decide) (r_assign F rfl) fun a F => ?_
     refine q_val F rfl rfl (by decide) (r_assign F rfl) fun a F => ?_
     refine nil ?_
     refine hK67 _ _ ?_
     refine wp_seq_k fun K77 hK77 => ?_
     refine wp_seq_k fun K78 hK78 => ?_
     refine reg ?_
     refine q_val F rfl rfl (by decide) (r_move F rfl) fun a F => ?_
     refine q_val F rfl rfl (by decide) (r_not F rfl) fun a F => ?_
     refine nil ?_
     refine hK78 _ _ ?_
     by_cases hb79 : t68.2 = true
     ·have H := (if_pos hb79).symm.trans H
      refine wp_cond_false ((F.ev rfl).trans (congrArg Value.bool (congrArg not hb79))) ?_
      refine wp_skip ?_
      refine hK77 _ _ ?_
      refine wp_seq_k fun K81 hK81 => ?_
      refine regD (SB No c70 w71) 16 (.q 0 (.q 1 (.q 2 (.q 3 (.q 4 (.q 5 (.q 6 (.q 7 (.q 8 (.q 9 (.q 10 (.q 11 (.q 12 (.e 13 (.q 14 (.q 15 .nil)))))))))))))))) Try_hm (by decide +kernel) ?_
      intro w82 w1_ w2_ w3_ w4_
      have E83 : Ev No c70 w71 c70 w82 := Ev.same w1_ w2_ w3_ w4_
      have B := B.same w1_
      have zh3 := h3
      have zh22 := h22
      have zhl27 := hl27
      have zhr28 := hr28
      have zhat26 := hat26
      have zh75 := h75
      have ER : Ev No c70 w71 c70 w82 := Ev.same w1_ w2_ w3_ w4_
      have h3 := TR.ev h3 E83 (fun q => q.elim) (fun q => q.elim)
      have h22 := SL.ev h22 E83 (fun q => q.elim) (fun q => q.elim)
      have hl27 := TR.ev hl27 E83 (fun q => q.elim) (fun q => q.elim)
      have hr28 := TR.ev hr28 E83 (fun q => q.elim) (fun q => q.elim)
      have hat26 := AT.ev hat26 E83 (fun q => q.elim)
      have h75 := TR.ev h75 E83 (fun q => q.elim) (fun q => q.elim)
      have E := E.trans E83 (fun x q => q.elim)
      refine d_q F rfl rfl rfl (by decide) (fun wq hS => r_move F rfl) ER.sb fun a F => ?_
      refine d_q F rfl rfl rfl (by decide) (fun wq hS => r_nil F rfl) ER.sb fun a F => ?_
      refine d_q F rfl rfl rfl (by decide) (fun wq hS => r_fieldAddr F rfl ff_98_0) ER.sb fun a F => ?_
      refine d_q F rfl rfl rfl (by decide) (fun wq hS => r_load F rfl ag_68 (AT.cell (AT.sb zhat26 hS (fun q => q.elim)) rfl)) ER.sb fun a F => ?_
      refine d_q F rfl rfl rfl (by decide) (fun wq hS => r_move F rfl) ER.sb fun a F => ?_
      refine d_q F rfl rfl rfl (by decide) (fun wq hS => r_nil F rfl) ER.sb fun a F => ?_
      refine d_q F rfl rfl rfl (by decide) (fun wq hS => r_fieldAddr F rfl ff_98_2) ER.sb fun a F => ?_
      refine d_q F rfl rfl rfl (by decide) (fun wq hS => r_load F rfl ag_9 (AT.cell (AT.sb zhat26 hS (fun q => q.elim)) rfl)) ER.sb fun a F => ?_
      refine d_q F rfl rfl rfl (by decide) (fun wq hS => r_move F rfl) ER.sb fun a F => ?_
      refine d_q F rfl rfl rfl (by decide) (fun wq hS => r_nil F rfl) ER.sb fun a F => ?_
      refine d_q F rfl rfl rfl (by decide) (fun wq hS => r_fieldAddr F rfl ff_98_3) ER.sb fun a F => ?_
      refine d_q F rfl rfl rfl (by decide) (fun wq hS => r_loads (cs := [.slice A20 tv15.value.length C21, .int .i64 tv15.rev]) F rfl ag_66 sz_66 (AT.sub (AT.sb zhat26 hS (fun q => q.elim)) 3 2 (Nat.le_of_ble_eq_true rfl))) ER.sb fun a F => ?_
      refine d_q F rfl rfl rfl (by decide) (fun wq hS => r_move F rfl) ER.sb fun a F => ?_
      refine d_e ?_
      obtain ⟨t84, q85, H⟩ := bind_some H
      refine o_call F rfl (wanted_none rfl) rfl (by decide) (r_call F Try.func77 rfl (by kernel_rfl) rfl) (tree_join.calls k (m := m + 1) (by omega) B hl27 h22 h75 _ q85) ?_
      rintro e w87 ⟨c86, p90, rfl, E88, B89, h91⟩
      refine ⟨_, rfl, fun a F => ?_⟩
      have B := B89
      have ER := ER.trans E88 (fun x q => q.elim)
      have h3 := TR.ev h3 E88 (fun q => q.elim) (fun q => q.elim)
      have h22 := SL.ev h22 E88 (fun q => q.elim) (fun q => q.elim)
      have hl27 := TR.ev hl27 E88 (fun q => q.elim) (fun q => q.elim)
      have hr28 := TR.ev hr28 E88 (fun q => q.elim) (fun q => q.elim)
      have hat26 := AT.ev hat26 E88 (fun q => q.elim)
      have h75 := TR.ev h75 E88 (fun q => q.elim) (fun q => q.elim)
      have E := E.trans E88 (fun x q => q.elim)
      refine ⟨fun _ => ER.sb, ?_⟩
      refine d_q F rfl rfl rfl (by decide) (fun wq hS => r_assign F rfl) ER.sb fun a F => ?_
      refine d_q F rfl rfl rfl (by decide) (fun wq hS => r_assign F rfl) ER.sb fun a F => ?_
      refine d_nil ?_
      refine hK81 _ _ ?_
      refine wp_ret ?_
      refine inbR ?_
      refine thenR ?_
      have H := Option.some.inj H
      subst H
      refine out2 F rfl rfl rfl ?_
      exact ⟨fun b_ => (fun x_ => if x_ < m then x_ else 0) (c86 b_), p90, rfl, E.leave B0 (fun x_ => if x_ < m then x_ else 0) (by intro x_ hx_; show (if x_ < m then x_ else 0) = x_; ((repeat' split) <;> omega)), (fun b_ hb_ => by show (if (c86 b_) < m then (c86 b_) else 0) < m; ((repeat' split) <;> omega)), TR.rc h91 (fun k_ hk_ => by show (if (c86 k_) < m then (c86 k_) else 0) = _; rw [hk_]; ((repeat' split) <;> omega)) (fun k_ hk_ => by show (if (c86 k_) < m then (c86 k_) else 0) = _; rw [hk_]; ((repeat' split) <;> omega))⟩
     ·have H := (if_neg hb79).symm.trans H
      refine wp_cond_true ((F.ev rfl).trans (congrArg Value.bool (congrArg not (bfalse hb79)))) ?_
      refine wp_seq_k fun K80 hK80 => ?_
      refine reg ?_
      refine q_val F rfl rfl (by decide) (r_move F rfl) fun a F => ?_
      refine q_val F rfl rfl (by decide) (r_assign F rfl) fun a F => ?_
      refine q_val F rfl rfl (by decide) (r_assign F rfl) fun a F => ?_
      refine nil ?_
      refine hK80 _ _ ?_
      refine wp_ret ?_
      refine thenR ?_
      refine inbR ?_
      refine thenR ?_
      have H := Option.some.inj H
      subst H
      refine out2 F rfl rfl rfl ?_
      exact ⟨fun b_ => (fun x_ => if x_ < m then x_ else 0) (c70 b_), (some ad23), rfl, E.leave B0 (fun x_ => if x_ < m then x_ else 0) (by intro x_ hx_; show (if x_ < m then x_ else 0) = x_; ((repeat' split) <;> omega)), (fun b_ hb_ => by show (if (c70 b_) < m then (c70 b_) else 0) < m; ((repeat' split) <;> omega)), TR.rc h3 (fun k_ hk_ => by show (if (c70 k_) < m then (c70 k_) else 0) = _; rw [hk_]; ((repeat' split) <;> omega)) (fun k_ hk_ => by show (if (c70 k_) < m then (c70 k_) else 0) = _; rw [hk_]; ((repeat' split) <;> omega))⟩
    ·have H := (if_neg hb66).symm.trans H
     refine wp_cond_false ((F.ev rfl).trans (congrArg Value.bool (decide_eq_false hb66))) ?_
     refine wp_skip ?_
     refine hK10 _ _ ?_
     refine wp_seq_k fun K93 hK93 => ?_
     refine regD (SB No c32 w33) 11 (.q 0 (.q 1 (.q 2 (.q 3 (.q 4 (.q 5 (.q 6 (.q 7 (.e 8 (.q 9 (.q 10 .nil))))))))))) Try_hm (by decide +kernel) ?_
     intro w94 w1_ w2_ w3_ w4_
     have E95 : Ev No c32 w33 c32 w94 := Ev.same w1_ w2_ w3_ w4_
     have B := B.same w1_
     have zh3 := h3
     have zh22 := h22
     have zhl27 := hl27
     have zhr28 := hr28
     have zhat26 := hat26
     have ER : Ev No c32 w33 c32 w94 := Ev.same w1_ w2_ w3_ w4_
     have h3 := TR.ev h3 E95 (fun q => q.elim) (fun q => q.elim)
     have h22 := SL.ev h22 E95 (fun q => q.elim) (fun q => q.elim)
     have hl27 := TR.ev hl27 E95 (fun q => q.elim) (fun q => q.elim)
     have hr28 := TR.ev hr28 E95 (fun q => q.elim) (fun q => q.elim)
     have hat26 := AT.ev hat26 E95 (fun q => q.elim)
     have E := E.trans E95 (fun x q => q.elim)
     refine d_q F rfl rfl rfl (by decide) (fun wq hS => r_move F rfl) ER.sb fun a F => ?_
     refine d_q F rfl rfl rfl (by decide) (fun wq hS => r_nil F rfl) ER.sb fun a F => ?_
     refine d_q F rfl rfl rfl (by decide) (fun wq hS => r_fieldAddr F rfl ff_98_0) ER.sb fun a F => ?_
     refine d_q F rfl rfl rfl (by decide) (fun wq hS => r_load F rfl ag_68 (AT.cell (AT.sb zhat26 hS (fun q => q.elim)) rfl)) ER.sb fun a F => ?_
     refine d_q F rfl rfl rfl (by decide) (fun wq hS => r_move F rfl) ER.sb fun a F => ?_
     refine d_q F rfl rfl rfl (by decide) (fun wq hS => r_nil F rfl) ER.sb fun a F => ?_
     refine d_q F rfl rfl rfl (by decide) (fun wq hS => r_fieldAddr F rfl ff_98_1) ER.sb fun a F => ?_
     refine d_q F rfl rfl rfl (by decide) (fun wq hS => r_load F rfl ag_68 (AT.cell (AT.sb zhat26 hS (fun q => q.elim)) rfl)) ER.sb fun a F => ?_
     refine d_e ?_
     obtain ⟨t96, q97, H⟩ := bind_some H
     refine o_call F rfl (wanted_none rfl) rfl (by decide) (r_call F Try.func78 rfl (by kernel_rfl) rfl) (tree_both.calls k (m := m + 1) (by omega) B hl27 hr28 _ q97) ?_
     rintro e w99 ⟨c98, p102, rfl, E100, B101, h103⟩
     refine ⟨_, rfl, fun a F => ?_⟩
     have B := B101
     have ER := ER.trans E100 (fun x q => q.elim)
     have h3 := TR.ev h3 E100 (fun q => q.elim) (fun q => q.elim)
     have h22 := SL.ev h22 E100 (fun q => q.elim) (fun q => q.elim)
     have hl27 := TR.ev hl27 E100 (fun q => q.elim) (fun q => q.elim)
     have hr28 := TR.ev hr28 E100 (fun q => q.elim) (fun q => q.elim)
     have hat26 := AT.ev hat26 E100 (fun q => q.elim)
     have E := E.trans E100 (fun x q => q.elim)
     refine ⟨fun _ => ER.sb, ?_⟩
     refine d_q F rfl rfl rfl (by decide) (fun wq hS => r_assign F rfl) ER.sb fun a F => ?_
     refine d_q F rfl rfl rfl (by decide) (fun wq hS => r_assign F rfl) ER.sb fun a F => ?_
     refine d_nil ?_
     refine hK93 _ _ ?_
     refine wp_ret ?_
     have H := Option.some.inj H
     subst H
     refine out2 F rfl rfl rfl ?_
     exact ⟨fun b_ => (fun x_ => if x_ < m then x_ else 0) (c98 b_), p102, rfl, E.leave B0 (fun x_ => if x_ < m then x_ else 0) (by intro x_ hx_; show (if x_ < m then x_ else 0) = x_; ((repeat' split) <;> omega)), (fun b_ hb_ => by show (if (c98 b_) < m then (c98 b_) else 0) < m; ((repeat' split) <;> omega)), TR.rc h103 (fun k_ hk_ => by show (if (c98 k_) < m then (c98 k_) else 0) = _; rw [hk_]; ((repeat' split) <;> omega)) (fun k_ hk_ => by show (if (c98 k_) < m then (c98 k_) else 0) = _; rw [hk_]; ((repeat' split) <;> omega))⟩
end Go.Proofs.Ytcolmmjcdlmcoaa.G
namespace Go.Proofs.Ytcolmmjcdlmcoaa.G
open Go Go.RowKit
set_option linter.unusedVariables false
set_option linter.unusedSimpArgs false
set_option maxRecDepth 100000 in
set_option maxHeartbeats 4000000 in
theorem table_num.calls (k : Nat) {m : Nat} {c0 : Nat → Nat} {w0 : World} {a1 : Int} (hm0 : 0 < m) (B0 : CB m c0 w0) (r : Int) (H : table_num.f k a1 = some r) : Calls Try.prog 55 #[.int .i64 a1] w0 (fun e w_ => ∃ (c_ : Nat → Nat), e = .returned (.int .i64 r) ∧ Ev (fun x => False) c0 w0 c_ w_ ∧ CB m c_ w_) := by
 unfold table_num.f at H
 have B := B0.mono (show m ≤ m + 1 by omega)
 have E : Ev (fun x => False ∨ m ≤ x) c0 w0 c0 w0 := Ev.refl
 refine enter (N := 11) (l := [.int .i64 a1]) Try.func55 rfl rfl (Nat.le_of_ble_eq_true rfl) fun a F => ?_
 refine wp_seq_k fun K2 hK2 => ?_
 refine reg ?_
 refine q_val F rfl rfl (by decide) (r_assign F rfl) fun a F => ?_
 refine nil ?_
 refine hK2 _ _ ?_
 refine wp_seq_k fun K3 hK3 => ?_
 refine reg ?_
 refine q_val F rfl rfl (by decide) (r_assign F rfl) fun a F => ?_
 refine nil ?_
 refine hK3 _ _ ?_
 refine wp_seq_k fun K4 hK4 => ?_
 refine wp_block ?_
 obtain ⟨x16, HL, HR15⟩ := bind_some H
 have J24 : ∀ (c25 : Nat → Nat) (w26 : World) (a : Act) (i23 : Int), Fr a 11 [(3, .int .i64 i23)] → Ev (fun x => False ∨ m ≤ x) c0 w0 c25 w26 → CB (m + 1) c25 w26 → table_num.j2 i23 = some r → K4 a w26 := by
  intro c25 w26 a i23 F E B  H
  unfold table_num.j2 at H
  refine hK4 _ _ ?_
  refine wp_seq_k fun K27 hK27 => ?_
  refine reg ?_
  refine q_val F rfl rfl (by decide) (r_move F rfl) fun a F => ?_
  refine q_val F rfl rfl (by decide) (r_assign F rfl) fun a F => ?_
  refine nil ?_
  refine hK27 _ _ ?_
  refine wp_ret ?_
  have H := Option.some.inj H
  subst H
  refine out1 F rfl rfl ?_
  exact ⟨fun b_ => (fun x_ => if x_ < m then x_ else 0) (c25 b_), rfl, E.leave B0 (fun x_ => if x_ < m then x_ else 0) (by intro x_ hx_; show (if x_ < m then x_ else 0) = x_; ((repeat' split) <;> omega)), (fun b_ hb_ => by show (if (c25 b_) < m then (c25 b_) else 0) < m; ((repeat' split) <;> omega))⟩
 refine loop_fuel (I := fun n a w => ∃ (i5 : Int) (i6 : Int) (c : Nat → Nat), Fr a 11 [(0, .int .i64 i5), (3, .int .i64 i6)] ∧ Ev (fun x => False ∨ m ≤ x) c0 w0 c w ∧ CB (m + 1) c w ∧ loop (fun (s_ : Int × Int) => table_num.b1 s_.1 s_.2) n (i5, i6) = some x16) (k := k) ⟨a1, 1, c0, F.sub ⟨rfl, rfl, trivial⟩, E, B, HL⟩ ?_
 clear HL H E F B
 intro n13 X9 hX9 a w8 ⟨i5, i6, c7, F, E, B, HL⟩
 obtain ⟨n14, ctl12, rfl, HB, HN10, HD11⟩ := loop_some HL
 have H : table_num.b1 i5 i6 = some ctl12 := HB
 clear HB HL
 unfold table_num.b1 at H
 refine wp_seq_k fun K17 hK17 => ?_
 refine wp_seq_k fun K18 hK18 => ?_
 refine reg ?_
 refine q_val F rfl rfl (by decide) (r_move F rfl) fun a F => ?_
 refine q_val F rfl rfl (by decide) (r_gtr F rfl rfl) fun a F => ?_
 refine nil ?_
 refine hK18 _ _ ?_
 by_cases hb19 : 127 < i5
 ·have H := (if_pos hb19).symm.trans H
  refine wp_cond_true ((F.ev rfl).trans (congrArg Value.bool (decide_eq_true hb19))) ?_
  refine wp_skip ?_
  refine hK17 _ _ ?_
  refine wp_seq_k fun K20 hK20 => ?_
  refine wp_block ?_
  refine reg ?_
  refine q_val F rfl rfl (by decide) (r_move F rfl) fun a F => ?_
  refine q_val F rfl rfl (by decide) (r_add F rfl rfl) fun a F => ?_
  refine q_val F rfl rfl (by decide) (r_assign F rfl) fun a F => ?_
  refine nil ?_
  refine hK20 _ _ ?_
  refine reg ?_
  refine q_val F rfl rfl (by decide) (r_move F rfl) fun a F => ?_
  refine q_val F rfl rfl (by decide) (r_shr F rfl rfl (by decide)) fun a F => ?_
  refine q_val F rfl rfl (by decide) (r_assign F rfl) fun a F => ?_
  refine nil ?_
  have H := HN10 _ (Option.some.inj H).symm
  exact hX9 _ _ _ (Nat.lt_succ_self _) ⟨(shr .i64 i5 7), (IntKind.i64.wrap (i6 + 1)), c7, F.sub ⟨rfl, rfl, trivial⟩, E, B, H⟩
 ·have H := (if_neg hb19).symm.trans H
  refine wp_cond_false ((F.ev rfl).trans (congrArg Value.bool (decide_eq_false hb19))) ?_
  refine wp_exit ?_
  refine thenE ?_
  refine thenE ?_
  refine inbE ?_
  have hx_ := HD11 _ (Option.some.inj H).symm
  have H := HR15
  rw [← hx_] at H
  exact J24 c7 w8 a i6 (F.sub ⟨rfl, trivial⟩) E B  H
end Go.Proofs.Ytcolmmjcdlmcoaa.G
namespace Go.Proofs.Ytcolmmjcdlmcoaa.G
open Go Go.RowKit
set_option linter.unusedVariables false
set_option linter.unusedSimpArgs false
set_option maxRecDepth 100000 in
set_option maxHeartbeats 4000000 in
theorem table_long.calls (k : Nat) {m : Nat} {c0 : Nat → Nat} {w0 : World} {A3 : Option Addr} {C4 : Nat} {a1 : ByteArray} {a2 : table_cell} (hm0 : 0 < m) (B0 : CB m c0 w0) (h5 : SL false (Kint .u8) 0 0 c0 w0 A3 C4 a2.value) (r : Int) (H : table_long.f k a1 a2 = some r) : Calls Try.prog 59 #[.string a1, .agg #[.slice A3 a2.value.length C4, .int .i64 a2.rev]] w0 (fun e w_ => ∃ (c_ : Nat → Nat), e = .returned (.int .i64 r) ∧ Ev (fun x => False) c0 w0 c_ w_ ∧ CB m c_ w_) := by
 unfold table_long.f at H
 have B := B0.mono (show m ≤ m + 2 by omega)
 have E : Ev (fun x => False ∨ m ≤ x) c0 w0 c0 w0 := Ev.refl
 refine enter (N := 24) (l := [.string a1, .agg #[.slice A3 a2.value.length C4, .int .i64 a2.rev]]) Try.func59 rfl rfl (Nat.le_of_ble_eq_true rfl) fun a F => ?_
 refine wp_seq_k fun K6 hK6 => ?_
 refine reg ?_
 refine q_eff F rfl rfl (by decide) (e_box F (v := .agg #[.slice A3 a2.value.length C4, .int .i64 a2.rev]) rfl c0 (m + 1)) ?_
 rintro v w8 a ⟨c7, qa9, rfl, E10, h11, B12⟩ F
 have B := B12 _ B (by omega)
 have h5 := SL.ev h5 E10 (fun q => q.elim) (fun q => q.elim)
 have E := E.trans E10 (fun x q => q.elim)
 have h11 : AT true (m + 1) c7 w8 qa9 [.slice A3 a2.value.length C4, .int .i64 a2.rev] := h11
 refine q_val F rfl rfl (by decide) (r_assign F rfl) fun a F => ?_
 refine nil ?_
 refine hK6 _ _ ?_
 refine wp_seq_k fun K14 hK14 => ?_
 refine regD (SB No c7 w8) 20 (.q 0 (.q 1 (.q 3 (.q 4 (.q 6 (.q 7 (.q 8 (.q 11 (.q 12 (.q 13 (.q 15 (.q 16 (.e 2 (.q 5 (.e 9 (.q 10 (.q 14 (.e 17 (.q 18 (.q 19 .nil)))))))))))))))))))) Try_hm (by decide +kernel) ?_
 intro w15 w1_ w2_ w3_ w4_
 have E16 : Ev No c7 w8 c7 w15 := Ev.same w1_ w2_ w3_ w4_
 have B := B.same w1_
 have zh5 := h5
 have zh11 := h11
 have ER : Ev No c7 w8 c7 w15 := Ev.same w1_ w2_ w3_ w4_
 have h5 := SL.ev h5 E16 (fun q => q.elim) (fun q => q.elim)
 have h11 := AT.ev h11 E16 (fun q => q.elim)
 have E := E.trans E16 (fun x q => q.elim)
 refine d_q F rfl rfl rfl (by decide) (fun wq hS => r_move F rfl) ER.sb fun a F => ?_
 refine d_q F rfl rfl rfl (by decide) (fun wq hS => r_lenstr F Try.underlying9 rfl) ER.sb fun a F => ?_
 refine d_q F rfl rfl rfl (by decide) (fun wq hS => r_move F rfl) ER.sb fun a F => ?_
 refine d_q F rfl rfl rfl (by decide) (fun wq hS => r_lenstr F Try.underlying9 rfl) ER.sb fun a F => ?_
 refine d_q F rfl rfl rfl (by decide) (fun wq hS => r_fieldAddr F rfl ff_66_0) ER.sb fun a F => ?_
 refine d_q F rfl rfl rfl (by decide) (fun wq hS => r_load F rfl ag_23 (AT.cell (AT.sb zh11 hS (fun q => q.elim)) rfl)) ER.sb fun a F => ?_
 refine d_q F rfl rfl rfl (by decide) (fun wq hS => r_lensl F Try.underlying23 rfl) ER.sb fun a F => ?_
 refine d_q F rfl rfl rfl (by decide) (fun wq hS => r_fieldAddr F rfl ff_66_0) ER.sb fun a F => ?_
 refine d_q F rfl rfl rfl (by decide) (fun wq hS => r_load F rfl ag_23 (AT.cell (AT.sb zh11 hS (fun q => q.elim)) rfl)) ER.sb fun a F => ?_
 refine d_q F rfl rfl rfl (by decide) (fun wq hS => r_lensl F Try.underlying23 rfl) ER.sb fun a F => ?_
 refine d_q F rfl rfl rfl (by decide) (fun wq hS => r_fieldAddr F rfl ff_66_1) ER.sb fun a F => ?_
 refine d_q F rfl rfl rfl (by decide) (fun wq hS => r_load F rfl ag_3 (AT.cell (AT.sb zh11 hS (fun q => q.elim)) rfl)) ER.sb fun a F => ?_
 refine d_e ?_
 obtain ⟨t17, q18, H⟩ := bind_some H
 refine o_call F rfl (wanted_none rfl) rfl (by decide) (r_call F Try.func55 rfl (by kernel_rfl) rfl) (table_num.calls k (m := m + 2) (by omega) B _ q18) ?_
 rintro e w20 ⟨c19, rfl, E21, B22⟩
 refine ⟨_, rfl, fun a F => ?_⟩
 have B := B22
 have ER := ER.trans E21 (fun x q => q.elim)
 have h5 := SL.ev h5 E21 (fun q => q.elim) (fun q => q.elim)
 have h11 := AT.ev h11 E21 (fun q => q.elim)
 have E := E.trans E21 (fun x q => q.elim)
 refine ⟨fun _ => ER.sb, ?_⟩
 refine d_q F rfl rfl rfl (by decide) (fun wq hS => r_add F rfl rfl) ER.sb fun a F => ?_
 refine d_e ?_
 obtain ⟨t24, q25, H⟩ := bind_some H
 refine o_call F rfl (wanted_none rfl) rfl (by decide) (r_call F Try.func55 rfl (by kernel_rfl) rfl) (table_num.calls k (m := m + 2) (by omega) B _ q25) ?_
 rintro e w27 ⟨c26, rfl, E28, B29⟩
 refine ⟨_, rfl, fun a F => ?_⟩
 have B := B29
 have ER := ER.trans E28 (fun x q => q.elim)
 have h5 := SL.ev h5 E28 (fun q => q.elim) (fun q => q.elim)
 have h11 := AT.ev h11 E28 (fun q => q.elim)
 have E := E.trans E28 (fun x q => q.elim)
 refine ⟨fun _ => ER.sb, ?_⟩
 refine d_q F rfl rfl rfl (by decide) (fun wq hS => r_add F rfl rfl) ER.sb fun a F => ?_
 refine d_q F rfl rfl rfl (by decide) (fun wq hS => r_add F rfl rfl) ER.sb fun a F => ?_
 refine d_e ?_
 obtain ⟨t31, q32, H⟩ := bind_some H
 refine o_call F rfl (wanted_none rfl) rfl (by decide) (r_call F Try.func55 rfl (by kernel_rfl) rfl) (table_num.calls k (m := m + 2) (by omega) B _ q32) ?_
 rintro e w34 ⟨c33, rfl, E35, B36⟩
 refine ⟨_, rfl, fun a F => ?_⟩
 have B := B36
 have ER := ER.trans E35 (fun x q => q.elim)
 have h5 := SL.ev h5 E35 (fun q => q.elim) (fun q => q.elim)
 have h11 := AT.ev h11 E35 (fun q => q.elim)
 have E := E.trans E35 (fun x q => q.elim)
 refine ⟨fun _ => ER.sb, ?_⟩
 refine d_q F rfl rfl rfl (by decide) (fun wq hS => r_add F rfl rfl) ER.sb fun a F => ?_
 refine d_q F rfl rfl rfl (by decide) (fun wq hS => r_assign F rfl) ER.sb fun a F => ?_
 refine d_nil ?_
 refine hK14 _ _ ?_
 refine wp_ret ?_
 have H := Option.some.inj H
 subst H
 refine out1 F rfl rfl ?_
 exact ⟨fun b_ => (fun x_ => if x_ < m then x_ else 0) (c33 b_), rfl, E.leave B0 (fun x_ => if x_ < m then x_ else 0) (by intro x_ hx_; show (if x_ < m then x_ else 0) = x_; ((repeat' split) <;> omega)), (fun b_ hb_ => by show (if (c33 b_) < m then (c33 b_) else 0) < m; ((repeat' split) <;> omega))⟩
end Go.Proofs.Ytcolmmjcdlmcoaa.G
namespace Go.Proofs.Ytcolmmjcdlmcoaa.G
open Go Go.RowKit
set_option linter.unusedVariables false
set_option linter.unusedSimpArgs false
set_option maxRecDepth 100000 in
set_option maxHeartbeats 4000000 in
theorem table_writes.calls {m : Nat} {c0 : Nat → Nat} {w0 : World} {A2 : Option Addr} {C3 : Nat} {A5 : Option Addr} {C6 : Nat} {a1 : api_Op} (hm0 : 0 < m) (B0 : CB m c0 w0) (h4 : SL false (Kint .u8) 0 0 c0 w0 A2 C3 a1.Key) (h7 : SL false (Kint .u8) 0 0 c0 w0 A5 C6 a1.Value) (r : Bool) (H : table_writes.f a1 = some r) : Calls Try.prog 41 #[.agg #[.int .i64 a1.Kind, .slice A2 a1.Key.length C3, .slice A5 a1.Value.length C6, .int .i64 a1.Rev]] w0 (fun e w_ => ∃ (c_ : Nat → Nat), e = .returned (.bool r) ∧ Ev (fun x => False) c0 w0 c_ w_ ∧ CB m c_ w_) := by
 unfold table_writes.f at H
 have B := B0.mono (show m ≤ m + 2 by omega)
 have E : Ev (fun x => False ∨ m ≤ x) c0 w0 c0 w0 := Ev.refl
 refine enter (N := 16) (l := [.agg #[.int .i64 a1.Kind, .slice A2 a1.Key.length C3, .slice A5 a1.Value.length C6, .int .i64 a1.Rev]]) Try.func41 rfl rfl (Nat.le_of_ble_eq_true rfl) fun a F => ?_
 refine wp_seq_k fun K8 hK8 => ?_
 refine reg ?_
 refine q_eff F rfl rfl (by decide) (e_box F (v := .agg #[.int .i64 a1.Kind, .slice A2 a1.Key.length C3, .slice A5 a1.Value.length C6, .int .i64 a1.Rev]) rfl c0 (m + 1)) ?_
 rintro v w10 a ⟨c9, qa11, rfl, E12, h13, B14⟩ F
 have B := B14 _ B (by omega)
 have h4 := SL.ev h4 E12 (fun q => q.elim) (fun q => q.elim)
 have h7 := SL.ev h7 E12 (fun q => q.elim) (fun q => q.elim)
 have E := E.trans E12 (fun x q => q.elim)
 have h13 : AT true (m + 1) c9 w10 qa11 [.int .i64 a1.Kind, .slice A2 a1.Key.length C3, .slice A5 a1.Value.length C6, .int .i64 a1.Rev] := h13
 refine q_val F rfl rfl (by decide) (r_assign F rfl) fun a F => ?_
 refine nil ?_
 refine hK8 _ _ ?_
 refine wp_seq_k fun K16 hK16 => ?_
 refine reg ?_
 refine q_val F rfl rfl (by decide) (r_fieldAddr F rfl ff_33_0) fun a F => ?_
 refine q_val F rfl rfl (by decide) (r_load F rfl ag_3 (AT.cell h13 rfl)) fun a F => ?_
 refine q_val F rfl rfl (by decide) (r_eql F rfl rfl) fun a F => ?_
 refine q_val F rfl rfl (by decide) (r_move F rfl) fun a F => ?_
 by_cases hb17 : a1.Kind = 2
 ·have H := (if_pos hb17).symm.trans H
  refine q_no F rfl (by decide) rfl (decide_eq_true hb17) (by decide) fun a F => ?_
  refine q_no F rfl (by decide) rfl (decide_eq_true hb17) (by decide) fun a F => ?_
  refine q_no F rfl (by decide) rfl (decide_eq_true hb17) (by decide) fun a F => ?_
  refine q_val F rfl rfl (by decide) (r_pick_t F rfl (decide_eq_true hb17) rfl) fun a F => ?_
  refine q_val F rfl rfl (by decide) (r_move F rfl) fun a F => ?_
  refine q_no F rfl (by decide) rfl rfl (by decide) fun a F => ?_
  refine q_no F rfl (by decide) rfl rfl (by decide) fun a F => ?_
  refine q_no F rfl (by decide) rfl rfl (by decide) fun a F => ?_
  refine q_val F rfl rfl (by decide) (r_pick_t F rfl rfl rfl) fun a F => ?_
  refine q_val F rfl rfl (by decide) (r_assign F rfl) fun a F => ?_
  refine nil ?_
  refine hK16 _ _ ?_
  refine wp_ret ?_
  have H := Option.some.inj H
  subst H
  refine out1 F rfl rfl ?_
  exact ⟨fun b_ => (fun x_ => if x_ < m then x_ else 0) (c9 b_), rfl, E.leave B0 (fun x_ => if x_ < m then x_ else 0) (by intro x_ hx_; show (if x_ < m then x_ else 0) = x_; ((repeat' split) <;> omega)), (fun b_ hb_ => by show (if (c9 b_) < m then (c9 b_) else 0) < m; ((repeat' split) <;> omega))⟩
 ·have H := (if_neg hb17).symm.trans H
  refine q_yes F rfl (by decide) rfl (decide_eq_false hb17) ?_
  refine q_val F rfl rfl (by decide) (r_fieldAddr F rfl ff_33_0) fun a F => ?_
  refine q_yes F rfl (by decide) rfl (decide_eq_false hb17) ?_
  refine q_val F rfl rfl (by decide) (r_load F rfl ag_3 (AT.cell h13 rfl)) fun a F => ?_
  refine q_yes F rfl (by decide) rfl (decide_eq_false hb17) ?_
  refine q_val F rfl rfl (by decide) (r_eql F rfl rfl) fun a F => ?_
  refine q_val F rfl rfl (by decide) (r_pick_f F rfl (decide_eq_false hb17) rfl) fun a F => ?_
  refine q_val F rfl rfl (by decide) (r_move F rfl) fun a F => ?_
  by_cases hb18 : a1.Kind = 3
  ·have H := (if_pos hb18).symm.trans H
   refine q_no F rfl (by decide) rfl (decide_eq_true hb18) (by decide) fun a F => ?_
   refine q_no F rfl (by decide) rfl (decide_eq_true hb18) (by decide) fun a F => ?_
   refine q_no F rfl (by decide) rfl (decide_eq_true hb18) (by decide) fun a F => ?_
   refine q_val F rfl rfl (by decide) (r_pick_t F rfl (decide_eq_true hb18) rfl) fun a F => ?_
   refine q_val F rfl rfl (by decide) (r_assign F rfl) fun a F => ?_
   refine nil ?_
   refine hK16 _ _ ?_
   refine wp_ret ?_
   have H := Option.some.inj H
   subst H
   refine out1 F rfl rfl ?_
   exact ⟨fun b_ => (fun x_ => if x_ < m then x_ else 0) (c9 b_), rfl, E.leave B0 (fun x_ => if x_ < m then x_ else 0) (by intro x_ hx_; show (if x_ < m then x_ else 0) = x_; ((repeat' split) <;> omega)), (fun b_ hb_ => by show (if (c9 b_) < m then (c9 b_) else 0) < m; ((repeat' split) <;> omega))⟩
  ·have H := (if_neg hb18).symm.trans H
   refine q_yes F rfl (by decide) rfl (decide_eq_false hb18) ?_
   refine q_val F rfl rfl (by decide) (r_fieldAddr F rfl ff_33_0) fun a F => ?_
   refine q_yes F rfl (by decide) rfl (decide_eq_false hb18) ?_
   refine q_val F rfl rfl (by decide) (r_load F rfl ag_3 (AT.cell h13 rfl)) fun a F => ?_
   refine q_yes F rfl (by decide) rfl (decide_eq_false hb18) ?_
   refine q_val F rfl rfl (by decide) (r_eql F rfl rfl) fun a F => ?_
   refine q_val F rfl rfl (by decide) (r_pick_f F rfl (decide_eq_false hb18) rfl) fun a F => ?_
   refine q_val F rfl rfl (by decide) (r_assign F rfl) fun a F => ?_
   refine nil ?_
   refine hK16 _ _ ?_
   refine wp_ret ?_
   have H := Option.some.inj H
   subst H
   refine out1 F rfl rfl ?_
   exact ⟨fun b_ => (fun x_ => if x_ < m then x_ else 0) (c9 b_), rfl, E.leave B0 (fun x_ => if x_ < m then x_ else 0) (by intro x_ hx_; show (if x_ < m then x_ else 0) = x_; ((repeat' split) <;> omega)), (fun b_ hb_ => by show (if (c9 b_) < m then (c9 b_) else 0) < m; ((repeat' split) <;> omega))⟩
end Go.Proofs.Ytcolmmjcdlmcoaa.G
namespace Go.Proofs.Ytcolmmjcdlmcoaa.G
open Go Go.RowKit
set_option linter.unusedVariables false
set_option linter.unusedSimpArgs false
set_option maxRecDepth 100000 in
set_option maxHeartbeats 4000000 in
theorem table_Right.calls {m : Nat} {c0 : Nat → Nat} {w0 : World} {A2 : Option Addr} {C3 : Nat} {A5 : Option Addr} {C6 : Nat} {a1 : api_Op} (hm0 : 0 < m) (B0 : CB m c0 w0) (h4 : SL false (Kint .u8) 0 0 c0 w0 A2 C3 a1.Key) (h7 : SL false (Kint .u8) 0 0 c0 w0 A5 C6 a1.Value) (r : Bool) (H : table_Right.f a1 = some r) : Calls Try.prog 16 #[.agg #[.int .i64 a1.Kind, .slice A2 a1.Key.length C3, .slice A5 a1.Value.length C6, .int .i64 a1.Rev]] w0 (fun e w_ => ∃ (c_ : Nat → Nat), e = .returned (.bool r) ∧ Ev (fun x => False) c0 w0 c_ w_ ∧ CB m c_ w_) := by
 unfold table_Right.f at H
 have B := B0.mono (show m ≤ m + 2 by omega)
 have E : Ev (fun x => False ∨ m ≤ x) c0 w0 c0 w0 := Ev.refl
 refine enter (N := 57) (l := [.agg #[.int .i64 a1.Kind, .slice A2 a1.Key.length C3, .slice A5 a1.Value.length C6, .int .i64 a1.Rev]]) Try.func16 rfl rfl (Nat.le_of_ble_eq_true rfl) fun a F => ?_
 refine wp_seq_k fun K8 hK8 => ?_
 refine reg ?_
 refine q_eff F rfl rfl (by decide) (e_box F (v := .agg #[.int .i64 a1.Kind, .slice A2 a1.Key.length C3, .slice A5 a1.Value.length C6, .int .i64 a1.Rev]) rfl c0 (m + 1)) ?_
 rintro v w10 a ⟨c9, qa11, rfl, E12, h13, B14⟩ F
 have B := B14 _ B (by omega)
 have h4 := SL.ev h4 E12 (fun q => q.elim) (fun q => q.elim)
 have h7 := SL.ev h7 E12 (fun q => q.elim) (fun q => q.elim)
 have E := E.trans E12 (fun x q => q.elim)
 have h13 : AT true (m + 1) c9 w10 qa11 [.int .i64 a1.Kind, .slice A2 a1.Key.length C3, .slice A5 a1.Value.length C6, .int .i64 a1.Rev] := h13
 refine q_val F rfl rfl (by decide) (r_assign F rfl) fun a F => ?_
 refine nil ?_
 refine hK8 _ _ ?_
 refine wp_seq_k fun K16 hK16 => ?_
 have J21 : ∀ (c22 : Nat → Nat) (w23 : World) (a : Act) (b20 : Bool), Fr a 57 [(1, .pointer (some qa11)), (3, .bool b20), (4, .bool (decide ((a1.Value.length : Int) ≤ 256))), (5, .bool (decide (a1.Rev = 0)))] → Ev (fun x => False ∨ m ≤ x) c0 w0 c22 w23 → CB (m + 2) c22 w23 → AT true (m + 1) c22 w23 qa11 [.int .i64 a1.Kind, .slice A2 a1.Key.length C3, .slice A5 a1.Value.length C6, .int .i64 a1.Rev] → SL false (Kint .u8) 0 0 c22 w23 A2 C3 a1.Key → SL false (Kint .u8) 0 0 c22 w23 A5 C6 a1.Value → table_Right.j1 a1 b20 = some r → K16 a w23 := by
  intro c22 w23 a b20 F E B h13 h4 h7 H
  unfold table_Right.j1 at H
  refine hK16 _ _ ?_
  refine wp_seq_k fun K24 hK24 => ?_
  have J61 : ∀ (c62 : Nat → Nat) (w63 : World) (a : Act) (b58 : Bool) (b59 : Bool) (b60 : Bool), Fr a 57 [(3, .bool b58), (4, .bool b59), (5, .bool b60)] → Ev (fun x => False ∨ m ≤ x) c0 w0 c62 w63 → CB (m + 2) c62 w63 → table_Right.j4 b58 b59 b60 = some r → K24 a w63 := by
   intro c62 w63 a b58 b59 b60 F E B  H
   unfold table_Right.j4 at H
   refine hK24 _ _ ?_
   refine wp_seq_k fun K64 hK64 => ?_
   refine reg ?_
   refine q_val F rfl rfl (by decide) (r_move F rfl) fun a F => ?_
   refine q_val F rfl rfl (by decide) (r_move F rfl) fun a F => ?_
   by_cases hb65 : b58 = true
   ·have H := (if_pos hb65).symm.trans H
    refine q_yes F rfl (by decide) rfl hb65 ?_
    refine q_val F rfl rfl (by decide) (r_move F rfl) fun a F => ?_
    refine q_val F rfl rfl (by decide) (r_pick_t F rfl hb65 rfl) fun a F => ?_
    refine q_val F rfl rfl (by decide) (r_move F rfl) fun a F => ?_
    by_cases hb66 : b59 = true
    ·have H := (if_pos hb66).symm.trans H
     refine q_yes F rfl (by decide) rfl hb66 ?_
     refine q_val F rfl rfl (by decide) (r_move F rfl) fun a F => ?_
     refine q_val F rfl rfl (by decide) (r_pick_t F rfl hb66 rfl) fun a F => ?_
     refine q_val F rfl rfl (by decide) (r_assign F rfl) fun a F => ?_
     refine nil ?_
     refine hK64 _ _ ?_
     refine wp_ret ?_
     have H := Option.some.inj H
     subst H
     refine out1 F rfl rfl ?_
     exact ⟨fun b_ => (fun x_ => if x_ < m then x_ else 0) (c62 b_), rfl, E.leave B0 (fun x_ => if x_ < m then x_ else 0) (by intro x_ hx_; show (if x_ < m then x_ else 0) = x_; ((repeat' split) <;> omega)), (fun b_ hb_ => by show (if (c62 b_) < m then (c62 b_) else 0) < m; ((repeat' split) <;> omega))⟩
    ·have H := (if_neg hb66).symm.trans H
     refine q_no F rfl (by decide) rfl (bfalse hb66) (by decide) fun a F => ?_
     refine q_val F rfl rfl (by decide) (r_pick_f F rfl (bfalse hb66) rfl) fun a F => ?_
     refine q_val F rfl rfl (by decide) (r_assign F rfl) fun a F => ?_
     refine nil ?_
     refine hK64 _ _ ?_
     refine wp_ret ?_
     have H := Option.some.inj H
     subst H
     refine out1 F rfl rfl ?_
     exact ⟨fun b_ => (fun x_ => if x_ < m then x_ else 0) (c62 b_), rfl, E.leave B0 (fun x_ => if x_ < m then x_ else 0) (by intro x_ hx_; show (if x_ < m then x_ else 0) = x_; ((repeat' split) <;> omega)), (fun b_ hb_ => by show (if (c62 b_) < m then (c62 b_) else 0) < m; ((repeat' split) <;> omega))⟩
   ·have H := (if_neg hb65).symm.trans H
    refine q_no F rfl (by decide) rfl (bfalse hb65) (by decide) fun a F => ?_
    refine q_val F rfl rfl (by decide) (r_pick_f F rfl (bfalse hb65) rfl) fun a F => ?_
    refine q_val F rfl rfl (by decide) (r_move F rfl) fun a F => ?_
    refine q_no F rfl (by decide) rfl rfl (by decide) fun a F => ?_
    refine q_val F rfl rfl (by decide) (r_pick_f F rfl rfl rfl) fun a F => ?_
    refine q_val F rfl rfl (by decide) (r_assign F rfl) fun a F => ?_
    refine nil ?_
    refine hK64 _ _ ?_
    refine wp_ret ?_
    have H := Option.some.inj H
    subst H
    refine out1 F rfl rfl ?_
    exact ⟨fun b_ => (fun x_ => if x_ < m then x_ else 0) (c62 b_), rfl, E.leave B0 (fun x_ => if x_ < m then x_ else 0) (by intro x_ hx_; show (if x_ < m then x_ else 0) = x_; ((repeat' split) <;> omega)), (fun b_ hb_ => by show (if (c62 b_) < m then (c62 b_) else 0) < m; ((repeat' split) <;> omega))⟩
  refine wp_seq_k fun K25 hK25 => ?_
  refine reg ?_
  refine q_val F rfl rfl (by decide) (r_fieldAddr F rfl ff_33_0) fun a F => ?_
  refine q_val F rfl rfl (by decide) (r_load F rfl ag_3 (AT.cell h13 rfl)) fun a F => ?_
  refine nil ?_
  refine hK25 _ _ ?_
  refine wp_block ?_
  refine wp_seq_k fun K26 hK26 => ?_
  refine wp_block ?_
  refine wp_seq_k fun K27 hK27 => ?_
  have J52 : ∀ (c53 : Nat → Nat) (w54 : World) (a : Act) (b51 : Bool), Fr a 57 [(1, .pointer (some qa11)), (3, .bool b51), (5, .bool (decide (a1.Rev = 0)))] → Ev (fun x => False ∨ m ≤ x) c0 w0 c53 w54 → CB (m + 2) c53 w54 → AT true (m + 1) c53 w54 qa11 [.int .i64 a1.Kind, .slice A2 a1.Key.length C3, .slice A5 a1.Value.length C6, .int .i64 a1.Rev] → SL false (Kint .u8) 0 0 c53 w54 A2 C3 a1.Key → SL false (Kint .u8) 0 0 c53 w54 A5 C6 a1.Value → table_Right.j3 a1 b51 = some r → K27 a w54 := by
   intro c53 w54 a b51 F E B h13 h4 h7 H
   unfold table_Right.j3 at H
   refine hK27 _ _ ?_
   refine wp_seq_k fun K55 hK55 => ?_
   refine reg ?_
   refine q_val F rfl rfl (by decide) (r_fieldAddr F rfl ff_33_2) fun a F => ?_
   refine q_val F rfl rfl (by decide) (r_load F rfl ag_23 (AT.cell h13 rfl)) fun a F => ?_
   refine q_val F rfl rfl (by decide) (r_lensl F Try.underlying23 rfl) fun a F => ?_
   refine q_val F rfl rfl (by decide) (r_eql F rfl rfl) fun a F => ?_
   refine q_val F rfl rfl (by decide) (r_assign F rfl) fun a F => ?_
   refine nil ?_
   refine hK55 _ _ ?_
   refine wp_exit ?_
   refine inbNe (by decide) ?_
   refine thenE ?_
   refine inbE ?_
   exact J61 c53 w54 a b51 (decide ((a1.Value.length : Int) = 0)) (decide (a1.Rev = 0)) (F.sub ⟨rfl, rfl, rfl, trivial⟩) E B  H
  refine wp_block ?_
  refine wp_seq_k fun K28 hK28 => ?_
  refine wp_block ?_
  refine wp_seq_k fun K29 hK29 => ?_
  refine wp_block ?_
  refine wp_seq_k fun K30 hK30 => ?_
  refine wp_block ?_
  refine wp_seq_k fun K31 hK31 => ?_
  refine wp_seq_k fun K32 hK32 => ?_
  refine wp_seq_k fun K33 hK33 => ?_
  refine reg ?_
  refine q_val F rfl rfl (by decide) (r_eql F rfl rfl) fun a F => ?_
  refine q_val F rfl rfl (by decide) (r_assign F rfl) fun a F => ?_
  refine nil ?_
  refine hK33 _ _ ?_
  by_cases hb34 : a1.Kind = 4
  ·have H := (if_pos hb34).symm.trans H
   refine wp_cond_true ((F.ev rfl).trans (congrArg Value.bool (decide_eq_true hb34))) ?_
   refine wp_exit ?_
   refine thenE ?_
   refine thenE ?_
   refine inbE ?_
   refine hK30 _ _ ?_
   refine wp_seq_k fun K49 hK49 => ?_
   refine reg ?_
   refine q_val F rfl rfl (by decide) (r_fieldAddr F rfl ff_33_3) fun a F => ?_
   refine q_val F rfl rfl (by decide) (r_load F rfl ag_3 (AT.cell h13 rfl)) fun a F => ?_
   refine q_val F rfl rfl (by decide) (r_geq F rfl rfl) fun a F => ?_
   refine q_val F rfl rfl (by decide) (r_move F rfl) fun a F => ?_
   by_cases hb50 : 0 ≤ a1.Rev
   ·have H := (if_pos hb50).symm.trans H
    refine q_yes F rfl (by decide) rfl (decide_eq_true hb50) ?_
    refine q_val F rfl rfl (by decide) (r_fieldAddr F rfl ff_33_3) fun a F => ?_
    refine q_yes F rfl (by decide) rfl (decide_eq_true hb50) ?_
    refine q_val F rfl rfl (by decide) (r_load F rfl ag_3 (AT.cell h13 rfl)) fun a F => ?_
    refine q_yes F rfl (by decide) rfl (decide_eq_true hb50) ?_
    refine q_val F rfl rfl (by decide) (r_leq F rfl rfl) fun a F => ?_
    refine q_val F rfl rfl (by decide) (r_pick_t F rfl (decide_eq_true hb50) rfl) fun a F => ?_
    refine q_val F rfl rfl (by decide) (r_assign F rfl) fun a F => ?_
    refine nil ?_
    refine hK49 _ _ ?_
    refine wp_exit ?_
    refine inbNe (by decide) ?_
    refine thenE ?_
    refine inbNe (by decide) ?_
    refine thenE ?_
    refine inbNe (by decide) ?_
    refine thenE ?_
    refine inbNe (by decide) ?_
    refine thenE ?_
    refine inbE ?_
    exact J61 c22 w23 a b20 (decide ((a1.Value.length : Int) ≤ 256)) (decide (a1.Rev ≤ 1099511627776)) (F.sub ⟨rfl, rfl, rfl, trivial⟩) E B  H
   ·have H := (if_neg hb50).symm.trans H
    refine q_no F rfl (by decide) rfl (decide_eq_false hb50) (by decide) fun a F => ?_
    refine q_no F rfl (by decide) rfl (decide_eq_false hb50) (by decide) fun a F => ?_
    refine q_no F rfl (by decide) rfl (decide_eq_false hb50) (by decide) fun a F => ?_
    refine q_val F rfl rfl (by decide) (r_pick_f F rfl (decide_eq_false hb50) rfl) fun a F => ?_
    refine q_val F rfl rfl (by decide) (r_assign F rfl) fun a F => ?_
    refine nil ?_
    refine hK49 _ _ ?_
    refine wp_exit ?_
    refine inbNe (by decide) ?_
    refine thenE ?_
    refine inbNe (by decide) ?_
    refine thenE ?_
    refine inbNe (by decide) ?_
    refine thenE ?_
    refine inbNe (by decide) ?_
    refine thenE ?_
    refine inbE ?_
    exact J61 c22 w23 a b20 (decide ((a1.Value.length : Int) ≤ 256)) false (F.sub ⟨rfl, rfl, rfl, trivial⟩) E B  H
  ·have H := (if_neg hb34).symm.trans H
   refine wp_cond_false ((F.ev rfl).trans (congrArg Value.bool (decide_eq_false hb34))) ?_
   refine wp_skip ?_
   refine hK32 _ _ ?_
   refine wp_seq_k fun K35 hK35 => ?_
   refine wp_seq_k fun K36 hK36 => ?_
   refine reg ?_
   refine q_val F rfl rfl (by decide) (r_eql F rfl rfl) fun a F => ?_
   refine q_val F rfl rfl (by decide) (r_assign F rfl) fun a F => ?_
   refine nil ?_
   refine hK36 _ _ ?_
   by_cases hb37 : a1.Kind = 2
   ·have H := (if_pos hb37).symm.trans H
    refine wp_cond_true ((F.ev rfl).trans (congrArg Value.bool (decide_eq_true hb37))) ?_
    refine wp_exit ?_
    refine thenE ?_
    refine thenE ?_
    refine inbNe (by decide) ?_
    refine thenE ?_
    refine inbE ?_
    refine hK29 _ _ ?_
    refine wp_exit ?_
    refine inbNe (by decide) ?_
    refine thenE ?_
    refine inbNe (by decide) ?_
    refine thenE ?_
    refine inbNe (by decide) ?_
    refine thenE ?_
    refine inbE ?_
    exact J61 c22 w23 a b20 (decide ((a1.Value.length : Int) ≤ 256)) (decide (a1.Rev = 0)) (F.sub ⟨rfl, rfl, rfl, trivial⟩) E B  H
   ·have H := (if_neg hb37).symm.trans H
    refine wp_cond_false ((F.ev rfl).trans (congrArg Value.bool (decide_eq_false hb37))) ?_
    refine wp_skip ?_
    refine hK35 _ _ ?_
    refine wp_seq_k fun K38 hK38 => ?_
    refine wp_seq_k fun K39 hK39 => ?_
    refine reg ?_
    refine q_val F rfl rfl (by decide) (r_eql F rfl rfl) fun a F => ?_
    refine q_val F rfl rfl (by decide) (r_assign F rfl) fun a F => ?_
    refine nil ?_
    refine hK39 _ _ ?_
    by_cases hb40 : a1.Kind = 5
    ·have H := (if_pos hb40).symm.trans H
     refine wp_cond_true ((F.ev rfl).trans (congrArg Value.bool (decide_eq_true hb40))) ?_
     refine wp_exit ?_
     refine thenE ?_
     refine thenE ?_
     refine inbNe (by decide) ?_
     refine thenE ?_
     refine inbNe (by decide) ?_
     refine thenE ?_
     refine inbE ?_
     refine hK28 _ _ ?_
     refine reg ?_
     refine q_val F rfl rfl (by decide) (r_fieldAddr F rfl ff_33_1) fun a F => ?_
     refine q_val F rfl rfl (by decide) (r_load F rfl ag_23 (AT.cell h13 rfl)) fun a F => ?_
     refine q_val F rfl rfl (by decide) (r_lensl F Try.underlying23 rfl) fun a F => ?_
     refine q_val F rfl rfl (by decide) (r_leq F rfl rfl) fun a F => ?_
     refine q_val F rfl rfl (by decide) (r_assign F rfl) fun a F => ?_
     refine nil ?_
     exact J52 c22 w23 a (decide ((a1.Key.length : Int) ≤ 65)) (F.sub ⟨rfl, rfl, rfl, trivial⟩) E B h13 h4 h7 H
    ·have H := (if_neg hb40).symm.trans H
     refine wp_cond_false ((F.ev rfl).trans (congrArg Value.bool (decide_eq_false hb40))) ?_
     refine wp_skip ?_
     refine hK38 _ _ ?_
     refine wp_seq_k fun K41 hK41 => ?_
     have J45 : ∀ (c46 : Nat → Nat) (w47 : World) (a : Act) (b44 : Bool), Fr a 57 [(1, .pointer (some qa11)), (3, .bool b20), (5, .bool (decide (a1.Rev = 0))), (31, .bool b44)] → Ev (fun x => False ∨ m ≤ x) c0 w0 c46 w47 → CB (m + 2) c46 w47 → AT true (m + 1) c46 w47 qa11 [.int .i64 a1.Kind, .slice A2 a1.Key.length C3, .slice A5 a1.Value.length C6, .int .i64 a1.Rev] → SL false (Kint .u8) 0 0 c46 w47 A2 C3 a1.Key → SL false (Kint .u8) 0 0 c46 w47 A5 C6 a1.Value → table_Right.j2 a1 b20 b44 = some r → K41 a w47 := by
      intro c46 w47 a b44 F E B h13 h4 h7 H
      unfold table_Right.j2 at H
      refine hK41 _ _ ?_
      by_cases hb48 : b44 = true
      ·have H := (if_pos hb48).symm.trans H
       refine wp_cond_true ((F.ev rfl).trans (congrArg Value.bool hb48)) ?_
       refine wp_exit ?_
       refine thenE ?_
       refine inbNe (by decide) ?_
       refine thenE ?_
       refine inbNe (by decide) ?_
       refine thenE ?_
       refine inbNe (by decide) ?_
       refine thenE ?_
       refine inbE ?_
       exact J52 c46 w47 a b20 (F.sub ⟨rfl, rfl, rfl, trivial⟩) E B h13 h4 h7 H
      ·have H := (if_neg hb48).symm.trans H
       refine wp_cond_false ((F.ev rfl).trans (congrArg Value.bool (bfalse hb48))) ?_
       refine wp_skip ?_
       refine hK31 _ _ ?_
       refine wp_exit ?_
       refine inbNe (by decide) ?_
       refine thenE ?_
       refine inbNe (by decide) ?_
       refine thenE ?_
       refine inbNe (by decide) ?_
       refine thenE ?_
       refine inbNe (by decide) ?_
       refine thenE ?_
       refine inbE ?_
       refine hK26 _ _ ?_
       refine wp_seq_k fun K56 hK56 => ?_
       refine wp_seq_k fun K57 hK57 => ?_
       refine reg ?_
       refine q_val F rfl rfl (by decide) (r_assign F rfl) fun a F => ?_
       refine nil ?_
       refine hK57 _ _ ?_
       refine wp_ret ?_
       refine thenR ?_
       refine inbR ?_
       refine thenR ?_
       have H := Option.some.inj H
       subst H
       refine out1 F rfl rfl ?_
       exact ⟨fun b_ => (fun x_ => if x_ < m then x_ else 0) (c46 b_), rfl, E.leave B0 (fun x_ => if x_ < m then x_ else 0) (by intro x_ hx_; show (if x_ < m then x_ else 0) = x_; ((repeat' split) <;> omega)), (fun b_ hb_ => by show (if (c46 b_) < m then (c46 b_) else 0) < m; ((repeat' split) <;> omega))⟩
     refine wp_seq_k fun K42 hK42 => ?_
     refine reg ?_
     refine q_val F rfl rfl (by decide) (r_eql F rfl rfl) fun a F => ?_
     refine q_val F rfl rfl (by decide) (r_assign F rfl) fun a F => ?_
     refine nil ?_
     refine hK42 _ _ ?_
     by_cases hb43 : a1.Kind = 1
     ·have H := (if_pos hb43).symm.trans H
      refine wp_cond_true ((F.ev rfl).trans (congrArg Value.bool (decide_eq_true hb43))) ?_
      refine wp_skip ?_
      exact J45 c22 w23 a (decide (a1.Kind = 1)) (F.sub ⟨rfl, rfl, rfl, rfl, trivial⟩) E B h13 h4 h7 H
     ·have H := (if_neg hb43).symm.trans H
      refine wp_cond_false ((F.ev rfl).trans (congrArg Value.bool (decide_eq_false hb43))) ?_
      refine reg ?_
      refine q_val F rfl rfl (by decide) (r_eql F rfl rfl) fun a F => ?_
      refine q_val F rfl rfl (by decide) (r_assign F rfl) fun a F => ?_
      refine nil ?_
      exact J45 c22 w23 a (decide (a1.Kind = 3)) (F.sub ⟨rfl, rfl, rfl, rfl, trivial⟩) E B h13 h4 h7 H
 refine regD (SB No c9 w10) 20 (.q 0 (.q 1 (.q 2 (.q 3 (.q 4 (.q 5 (.q 6 (.q 7 (.q 8 (.q 9 (.q 10 (.q 11 (.q 12 (.q 13 (.q 14 (.q 15 (.q 16 (.q 17 (.q 18 (.q 19 .nil)))))))))))))))))))) Try_hm (by decide +kernel) ?_
 intro w17 w1_ w2_ w3_ w4_
 have E18 : Ev No c9 w10 c9 w17 := Ev.same w1_ w2_ w3_ w4_
 have B := B.same w1_
 have zh4 := h4
 have zh7 := h7
 have zh13 := h13
 have ER : Ev No c9 w10 c9 w17 := Ev.same w1_ w2_ w3_ w4_
 have h4 := SL.ev h4 E18 (fun q => q.elim) (fun q => q.elim)
 have h7 := SL.ev h7 E18 (fun q => q.elim) (fun q => q.elim)
 have h13 := AT.ev h13 E18 (fun q => q.elim)
 have E := E.trans E18 (fun x q => q.elim)
 refine d_q F rfl rfl rfl (by decide) (fun wq hS => r_fieldAddr F rfl ff_33_1) ER.sb fun a F => ?_
 refine d_q F rfl rfl rfl (by decide) (fun wq hS => r_load F rfl ag_23 (AT.cell (AT.sb zh13 hS (fun q => q.elim)) rfl)) ER.sb fun a F => ?_
 refine d_q F rfl rfl rfl (by decide) (fun wq hS => r_lensl F Try.underlying23 rfl) ER.sb fun a F => ?_
 refine d_q F rfl rfl rfl (by decide) (fun wq hS => r_gtr F rfl rfl) ER.sb fun a F => ?_
 refine d_q F rfl rfl rfl (by decide) (fun wq hS => r_move F rfl) ER.sb fun a F => ?_
 by_cases hb19 : 0 < (a1.Key.length : Int)
 ·have H := (if_pos hb19).symm.trans H
  refine d_qy F rfl rfl rfl (by decide) rfl (decide_eq_true hb19) rfl (by decide) (fun wq hS => r_fieldAddr F rfl ff_33_1) ER.sb fun a F => ?_
  refine d_qy F rfl rfl rfl (by decide) rfl (decide_eq_true hb19) rfl (by decide) (fun wq hS => r_load F rfl ag_23 (AT.cell (AT.sb zh13 hS (fun q => q.elim)) rfl)) ER.sb fun a F => ?_
  refine d_qy F rfl rfl rfl (by decide) rfl (decide_eq_true hb19) rfl (by decide) (fun wq hS => r_lensl F Try.underlying23 rfl) ER.sb fun a F => ?_
  refine d_qy F rfl rfl rfl (by decide) rfl (decide_eq_true hb19) rfl (by decide) (fun wq hS => r_leq F rfl rfl) ER.sb fun a F => ?_
  refine d_q F rfl rfl rfl (by decide) (fun wq hS => r_pick_t F rfl (decide_eq_true hb19) rfl) ER.sb fun a F => ?_
  refine d_q F rfl rfl rfl (by decide) (fun wq hS => r_fieldAddr F rfl ff_33_2) ER.sb fun a F => ?_
  refine d_q F rfl rfl rfl (by decide) (fun wq hS => r_load F rfl ag_23 (AT.cell (AT.sb zh13 hS (fun q => q.elim)) rfl)) ER.sb fun a F => ?_
  refine d_q F rfl rfl rfl (by decide) (fun wq hS => r_lensl F Try.underlying23 rfl) ER.sb fun a F => ?_
  refine d_q F rfl rfl rfl (by decide) (fun wq hS => r_leq F rfl rfl) ER.sb fun a F => ?_
  refine d_q F rfl rfl rfl (by decide) (fun wq hS => r_fieldAddr F rfl ff_33_3) ER.sb fun a F => ?_
  refine d_q F rfl rfl rfl (by decide) (fun wq hS => r_load F rfl ag_3 (AT.cell (AT.sb zh13 hS (fun q => q.elim)) rfl)) ER.sb fun a F => ?_
  refine d_q F rfl rfl rfl (by decide) (fun wq hS => r_eql F rfl rfl) ER.sb fun a F => ?_
  refine d_q F rfl rfl rfl (by decide) (fun wq hS => r_assign F rfl) ER.sb fun a F => ?_
  refine d_q F rfl rfl rfl (by decide) (fun wq hS => r_assign F rfl) ER.sb fun a F => ?_
  refine d_q F rfl rfl rfl (by decide) (fun wq hS => r_assign F rfl) ER.sb fun a F => ?_
  refine d_nil ?_
  exact J21 c9 w17 a (decide ((a1.Key.length : Int) ≤ 64)) (F.sub ⟨rfl, rfl, rfl, rfl, trivial⟩) E B h13 h4 h7 H
 ·have H := (if_neg hb19).symm.trans H
  refine d_qn F rfl rfl rfl (by decide) rfl (decide_eq_false hb19) rfl (by decide) ER.sb fun a F => ?_
  refine d_qn F rfl rfl rfl (by decide) rfl (decide_eq_false hb19) rfl (by decide) ER.sb fun a F => ?_
  refine d_qn F rfl rfl rfl (by decide) rfl (decide_eq_false hb19) rfl (by decide) ER.sb fun a F => ?_
  refine d_qn F rfl rfl rfl (by decide) rfl (decide_eq_false hb19) rfl (by decide) ER.sb fun a F => ?_
  refine d_q F rfl rfl rfl (by decide) (fun wq hS => r_pick_f F rfl (decide_eq_false hb19) rfl) ER.sb fun a F => ?_
  refine d_q F rfl rfl rfl (by decide) (fun wq hS => r_fieldAddr F rfl ff_33_2) ER.sb fun a F => ?_
  refine d_q F rfl rfl rfl (by decide) (fun wq hS => r_load F rfl ag_23 (AT.cell (AT.sb zh13 hS (fun q => q.elim)) rfl)) ER.sb fun a F => ?_
  refine d_q F rfl rfl rfl (by decide) (fun wq hS => r_lensl F Try.underlying23 rfl) ER.sb fun a F => ?_
  refine d_q F rfl rfl rfl (by decide) (fun wq hS => r_leq F rfl rfl) ER.sb fun a F => ?_
  refine d_q F rfl rfl rfl (by decide) (fun wq hS => r_fieldAddr F rfl ff_33_3) ER.sb fun a F => ?_
  refine d_q F rfl rfl rfl (by decide) (fun wq hS => r_load F rfl ag_3 (AT.cell (AT.sb zh13 hS (fun q => q.elim)) rfl)) ER.sb fun a F => ?_
  refine d_q F rfl rfl rfl (by decide) (fun wq hS => r_eql F rfl rfl) ER.sb fun a F => ?_
  refine d_q F rfl rfl rfl (by decide) (fun wq hS => r_assign F rfl) ER.sb fun a F => ?_
  refine d_q F rfl rfl rfl (by decide) (fun wq hS => r_assign F rfl) ER.sb fun a F => ?_
  refine d_q F rfl rfl rfl (by decide) (fun wq hS => r_assign F rfl) ER.sb fun a F => ?_
  refine d_nil ?_
  exact J21 c9 w17 a false (F.sub ⟨rfl, rfl, rfl, rfl, trivial⟩) E B h13 h4 h7 H
end Go.Proofs.Ytcolmmjcdlmcoaa.G
namespace Go.Proofs.Ytcolmmjcdlmcoaa.G
open Go Go.RowKit
set_option linter.unusedVariables false
set_option linter.unusedSimpArgs false
set_option maxRecDepth 100000 in
set_option maxHeartbeats 4000000 in
theorem tree_Tree_up.calls {σ X : Type} {m : Nat} {M : Nat → Prop} {cR : Nat → Nat} {wR : World} {l : Nat} (hm0 : 0 < m) (HM : ¬ M 0) {g : σ → ByteArray → table_cell → Option (Ctl σ X)} {J : σ → (Nat → Nat) → World → Prop} {JX : X → (Nat → Nat) → World → Prop} (HE : ∀ s c w, J s c w → Ev M cR wR c w) (HX : ∀ x c w, JX x c w → Ev M cR wR c w) (HY : ∀ s k (v : table_cell) c w (A20 : Option Addr) (C21 : Nat) r, JS m (J s) c w → SL false (Kint .u8) 0 0 c w A20 C21 v.value → g s k v = some r → YieldAt Fence.wide 0 Try.prog l #[.string k, .agg #[.slice A20 v.value.length C21, .int .i64 v.rev]] w (IP (fun s => JS m (J s)) JX r)) (t : Tr) : ∀ (p : Option Addr) (s : σ) (c : Nat → Nat) (w : World), TR 0 cR wR p t → JS m (J s) c w → ∀ (r : Ctl σ X), Tr.up g t s = some r → Calls Try.prog 65 #[.pointer p, yv l] w (IP (fun s => JS m (J s)) JX r) := by
 induction t with
 | nil =>
  intro p s0 c w ht hJ r H
  have ht : p = none := ht
  subst ht
  have H : some (Ctl.next s0) = some r := H
  refine enter (N := 35) (l := [.pointer none, yv l]) Try.func65 rfl rfl (Nat.le_of_ble_eq_true rfl) fun a F => ?_
  have ER := hJ.ev (HE _)
  refine wp_seq_k fun K1 hK1 => ?_
  refine reg ?_
  refine q_val F rfl rfl (by decide) (r_assign F rfl) fun a F => ?_
  refine nil ?_
  refine hK1 _ _ ?_
  refine wp_seq_k fun K2 hK2 => ?_
  refine regD (SB M cR wR) 31 (.q 0 (.q 1 (.q 2 (.q 3 (.q 4 (.q 5 (.q 6 (.q 7 (.e 8 (.q 9 (.q 10 (.q 11 (.q 12 (.q 13 (.q 14 (.q 15 (.q 16 (.q 17 (.q 18 (.e 19 (.q 20 (.q 21 (.q 22 (.q 23 (.q 24 (.q 25 (.q 26 (.e 27 (.q 28 (.q 29 (.q 30 .nil))))))))))))))))))))))))))))))) Try_hm (by decide +kernel) ?_
  intro w3 w1_ w2_ w3_ w4_
  have hJ := hJ.step (Ev.same w1_ w2_ w3_ w4_) (hJ.1.same w1_)
  have ER := hJ.ev (HE _)
  refine d_q F rfl rfl rfl (by decide) (fun wq hS => r_move F rfl) ER.sb fun a F => ?_
  refine d_q F rfl rfl rfl (by decide) (fun wq hS => r_peql F Try.underlying68 rfl rfl) ER.sb fun a F => ?_
  refine d_q F rfl rfl rfl (by decide) (fun wq hS => r_move F rfl) ER.sb fun a F => ?_
  refine d_qn F rfl rfl rfl (by decide) rfl rfl rfl (by decide) ER.sb fun a F => ?_
  refine d_qn F rfl rfl rfl (by decide) rfl rfl rfl (by decide) ER.sb fun a F => ?_
  refine d_qn F rfl rfl rfl (by decide) rfl rfl rfl (by decide) ER.sb fun a F => ?_
  refine d_qn F rfl rfl rfl (by decide) rfl rfl rfl (by decide) ER.sb fun a F => ?_
  refine d_qn F rfl rfl rfl (by decide) rfl rfl rfl (by decide) ER.sb fun a F => ?_
  refine d_e ?_
  refine o_no F rfl rfl rfl (by decide) rfl rfl rfl (by decide) fun a F => ?_
  refine ⟨fun _ => ER.sb, ?_⟩
  refine d_qn F rfl rfl rfl (by decide) rfl rfl rfl (by decide) ER.sb fun a F => ?_
  refine d_qnu F rfl rfl rfl (by decide) rfl rfl (by decide) ER.sb fun a F => ?_
  refine d_qnu F rfl rfl rfl (by decide) rfl rfl (by decide) ER.sb fun a F => ?_
  refine d_qnu F rfl rfl rfl (by decide) rfl rfl (by decide) ER.sb fun a F => ?_
  refine d_qnu F rfl rfl rfl (by decide) rfl rfl (by decide) ER.sb fun a F => ?_
  refine d_qnu F rfl rfl rfl (by decide) rfl rfl (by decide) ER.sb fun a F => ?_
  refine d_qnu F rfl rfl rfl (by decide) rfl rfl (by decide) ER.sb fun a F => ?_
  refine d_qnu F rfl rfl rfl (by decide) rfl rfl (by decide) ER.sb fun a F => ?_
  refine d_qnu F rfl rfl rfl (by decide) rfl rfl (by decide) ER.sb fun a F => ?_
  refine d_qnu F rfl rfl rfl (by decide) rfl rfl (by decide) ER.sb fun a F => ?_
  refine d_e ?_
  refine o_nu F rfl rfl rfl (by decide) rfl rfl (by decide) fun a F => ?_
  refine ⟨fun _ => ER.sb, ?_⟩
  refine d_qn F rfl rfl rfl (by decide) rfl rfl rfl (by decide) ER.sb fun a F => ?_
  refine d_qn F rfl rfl rfl (by decide) rfl rfl rfl (by decide) ER.sb fun a F => ?_
  refine d_qnu F rfl rfl rfl (by decide) rfl rfl (by decide) ER.sb fun a F => ?_
  refine d_qnu F rfl rfl rfl (by decide) rfl rfl (by decide) ER.sb fun a F => ?_
  refine d_qnu F rfl rfl rfl (by decide) rfl rfl (by decide) ER.sb fun a F => ?_
  refine d_qnu F rfl rfl rfl (by decide) rfl rfl (by decide) ER.sb fun a F => ?_
  refine d_qnu F rfl rfl rfl (by decide) rfl rfl (by decide) ER.sb fun a F => ?_
  refine d_e ?_
  refine o_nu F rfl rfl rfl (by decide) rfl rfl (by decide) fun a F => ?_
  refine ⟨fun _ => ER.sb, ?_⟩
  refine d_qn F rfl rfl rfl (by decide) rfl rfl rfl (by decide) ER.sb fun a F => ?_
  refine d_q F rfl rfl rfl (by decide) (fun wq hS => r_pick_t F rfl rfl rfl) ER.sb fun a F => ?_
  refine d_q F rfl rfl rfl (by decide) (fun wq hS => r_assign F rfl) ER.sb fun a F => ?_
  refine d_nil ?_
  refine hK2 _ _ ?_
  refine wp_ret ?_
  have H := Option.some.inj H
  subst H
  refine out1 F rfl rfl ?_
  exact ⟨rfl, _, hJ⟩
 | node tl tr k v s d ihhl ihhr =>
  intro p s0 c w ht hJ r H
  obtain ⟨ad, lp, rp, A1, C2, rfl, hat, h3, hl, hr⟩ := TR.node ht
  have H : (thenC (Tr.up g tl s0) fun s => thenC (g s k v) fun s => Tr.up g tr s) = some r := H
  refine enter (N := 35) (l := [.pointer (some ad), yv l]) Try.func65 rfl rfl (Nat.le_of_ble_eq_true rfl) fun a F => ?_
  have ER := hJ.ev (HE _)
  refine wp_seq_k fun K4 hK4 => ?_
  refine reg ?_
  refine q_val F rfl rfl (by decide) (r_assign F rfl) fun a F => ?_
  refine nil ?_
  refine hK4 _ _ ?_
  refine wp_seq_k fun K5 hK5 => ?_
  refine regD (SB M cR wR) 31 (.q 0 (.q 1 (.q 2 (.q 3 (.q 4 (.q 5 (.q 6 (.q 7 (.e 8 (.q 9 (.q 10 (.q 11 (.q 12 (.q 13 (.q 14 (.q 15 (.q 16 (.q 17 (.q 18 (.e 19 (.q 20 (.q 21 (.q 22 (.q 23 (.q 24 (.q 25 (.q 26 (.e 27 (.q 28 (.q 29 (.q 30 .nil))))))))))))))))))))))))))))))) Try_hm (by decide +kernel) ?_
  intro w6 w1_ w2_ w3_ w4_
  have hJ := hJ.step (Ev.same w1_ w2_ w3_ w4_) (hJ.1.same w1_)
  have ER := hJ.ev (HE _)
  refine d_q F rfl rfl rfl (by decide) (fun wq hS => r_move F rfl) ER.sb fun a F => ?_
  refine d_q F rfl rfl rfl (by decide) (fun wq hS => r_peql F Try.underlying68 rfl rfl) ER.sb fun a F => ?_
  refine d_q F rfl rfl rfl (by decide) (fun wq hS => r_move F rfl) ER.sb fun a F => ?_
  refine d_qy F rfl rfl rfl (by decide) rfl rfl rfl (by decide) (fun wq hS => r_move F rfl) ER.sb fun a F => ?_
  refine d_qy F rfl rfl rfl (by decide) rfl rfl rfl (by decide) (fun wq hS => r_nil F rfl) ER.sb fun a F => ?_
  refine d_qy F rfl rfl rfl (by decide) rfl rfl rfl (by decide) (fun wq hS => r_fieldAddr F rfl ff_98_0) ER.sb fun a F => ?_
  refine d_qy F rfl rfl rfl (by decide) rfl rfl rfl (by decide) (fun wq hS => r_load F rfl ag_68 (AT.cell (AT.sb hat hS HM) rfl)) ER.sb fun a F => ?_
  refine d_qy F rfl rfl rfl (by decide) rfl rfl rfl (by decide) (fun wq hS => r_move F rfl) ER.sb fun a F => ?_
  refine d_e ?_
  obtain ⟨t7, q8, H⟩ := thenC_some H
  refine o_call F rfl (wanted_yes F rfl rfl (by decide) rfl rfl) rfl (by decide) (r_call F Try.func65 rfl (by kernel_rfl) rfl) (ihhl _ _ _ _ hl hJ _ q8) ?_
  rintro e w10 h11
  cases t7 with
  | next s_ =>
   obtain ⟨rfl, c9, hJ⟩ := h11
   refine ⟨_, rfl, fun a F => ?_⟩
   have ER := hJ.ev (HE _)
   have H : _ = some r := H
   refine ⟨fun _ => ER.sb, ?_⟩
   refine d_qy F rfl rfl rfl (by decide) rfl rfl rfl (by decide) (fun wq hS => r_move F rfl) ER.sb fun a F => ?_
   refine d_qy F rfl rfl rfl (by decide) rfl rfl rfl (by decide) (fun wq hS => r_move F rfl) ER.sb fun a F => ?_
   refine d_qy F rfl rfl rfl (by decide) rfl rfl rfl (by decide) (fun wq hS => r_move F rfl) ER.sb fun a F => ?_
   refine d_qy F rfl rfl rfl (by decide) rfl rfl rfl (by decide) (fun wq hS => r_nil F rfl) ER.sb fun a F => ?_
   refine d_qy F rfl rfl rfl (by decide) rfl rfl rfl (by decide) (fun wq hS => r_fieldAddr F rfl ff_98_2) ER.sb fun a F => ?_
   refine d_qy F rfl rfl rfl (by decide) rfl rfl rfl (by decide) (fun wq hS => r_load F rfl ag_9 (AT.cell (AT.sb hat hS HM) rfl)) ER.sb fun a F => ?_
   refine d_qy F rfl rfl rfl (by decide) rfl rfl rfl (by decide) (fun wq hS => r_move F rfl) ER.sb fun a F => ?_
   refine d_qy F rfl rfl rfl (by decide) rfl rfl rfl (by decide) (fun wq hS => r_nil F rfl) ER.sb fun a F => ?_
   refine d_qy F rfl rfl rfl (by decide) rfl rfl rfl (by decide) (fun wq hS => r_fieldAddr F rfl ff_98_3) ER.sb fun a F => ?_
   refine d_qy F rfl rfl rfl (by decide) rfl rfl rfl (by decide) (fun wq hS => r_loads (cs := [.slice A1 v.value.length C2, .int .i64 v.rev]) F rfl ag_66 sz_66 (AT.sub (AT.sb hat hS HM) 3 2 (Nat.le_of_ble_eq_true rfl))) ER.sb fun a F => ?_
   refine d_e ?_
   obtain ⟨t12, q13, H⟩ := thenC_some H
   refine o_yield F rfl (wanted_yes F rfl rfl (by decide) rfl rfl) rfl (by decide) (r_yield F rfl (vs := [.string k, .agg #[.slice A1 v.value.length C2, .int .i64 v.rev]]) rfl) (HY _ _ _ _ _ _ _ _ hJ (SL.ev h3 ER HM HM) q13) ?_
   rintro e w15 h16
   cases t12 with
   | next s_ =>
    obtain ⟨rfl, c14, hJ⟩ := h16
    refine ⟨_, rfl, fun a F => ?_⟩
    have ER := hJ.ev (HE _)
    have H : _ = some r := H
    refine ⟨fun _ => ER.sb, ?_⟩
    refine d_qy F rfl rfl rfl (by decide) rfl rfl rfl (by decide) (fun wq hS => r_pick_t F rfl rfl rfl) ER.sb fun a F => ?_
    refine d_qy F rfl rfl rfl (by decide) rfl rfl rfl (by decide) (fun wq hS => r_move F rfl) ER.sb fun a F => ?_
    refine d_qy F rfl rfl rfl (by decide) rfl rfl rfl (by decide) (fun wq hS => r_move F rfl) ER.sb fun a F => ?_
    refine d_qy F rfl rfl rfl (by decide) rfl rfl rfl (by decide) (fun wq hS => r_nil F rfl) ER.sb fun a F => ?_
    refine d_qy F rfl rfl rfl (by decide) rfl rfl rfl (by decide) (fun wq hS => r_fieldAddr F rfl ff_98_1) ER.sb fun a F => ?_
    refine d_qy F rfl rfl rfl (by decide) rfl rfl rfl (by decide) (fun wq hS => r_load F rfl ag_68 (AT.cell (AT.sb hat hS HM) rfl)) ER.sb fun a F => ?_
    refine d_qy F rfl rfl rfl (by decide) rfl rfl rfl (by decide) (fun wq hS => r_move F rfl) ER.sb fun a F => ?_
    refine d_e ?_
    refine o_call F rfl (wanted_yes F rfl rfl (by decide) rfl rfl) rfl (by decide) (r_call F Try.func65 rfl (by kernel_rfl) rfl) (ihhr _ _ _ _ hr hJ _ H) ?_
    rintro e w18 h19
    cases r with
    | next s_ =>
     obtain ⟨rfl, c17, hJ⟩ := h19
     refine ⟨_, rfl, fun a F => ?_⟩
     have ER := hJ.ev (HE _)
     refine ⟨fun _ => ER.sb, ?_⟩
     refine d_qy F rfl rfl rfl (by decide) rfl rfl rfl (by decide) (fun wq hS => r_pick_t F rfl rfl rfl) ER.sb fun a F => ?_
     refine d_q F rfl rfl rfl (by decide) (fun wq hS => r_pick_f F rfl rfl rfl) ER.sb fun a F => ?_
     refine d_q F rfl rfl rfl (by decide) (fun wq hS => r_assign F rfl) ER.sb fun a F => ?_
     refine d_nil ?_
     refine hK5 _ _ ?_
     refine wp_ret ?_
     refine out1 F rfl rfl ?_
     exact ⟨rfl, _, hJ⟩
    | done x_ =>
     obtain ⟨rfl, c17, hX⟩ := h19
     refine ⟨_, rfl, fun a F => ?_⟩
     have ER := HX _ _ _ hX
     refine ⟨fun _ => ER.sb, ?_⟩
     refine d_qy F rfl rfl rfl (by decide) rfl rfl rfl (by decide) (fun wq hS => r_pick_t F rfl rfl rfl) ER.sb fun a F => ?_
     refine d_q F rfl rfl rfl (by decide) (fun wq hS => r_pick_f F rfl rfl rfl) ER.sb fun a F => ?_
     refine d_q F rfl rfl rfl (by decide) (fun wq hS => r_assign F rfl) ER.sb fun a F => ?_
     refine d_nil ?_
     refine hK5 _ _ ?_
     refine wp_ret ?_
     refine out1 F rfl rfl ?_
     exact ⟨rfl, _, hX⟩
   | done x_ =>
    obtain ⟨rfl, c14, hX⟩ := h16
    refine ⟨_, rfl, fun a F => ?_⟩
    have ER := HX _ _ _ hX
    have H : Ctl.done _ = r := H
    subst H
    refine ⟨fun _ => ER.sb, ?_⟩
    refine d_qy F rfl rfl rfl (by decide) rfl rfl rfl (by decide) (fun wq hS => r_pick_t F rfl rfl rfl) ER.sb fun a F => ?_
    refine d_qy F rfl rfl rfl (by decide) rfl rfl rfl (by decide) (fun wq hS => r_move F rfl) ER.sb fun a F => ?_
    refine d_qn F rfl rfl rfl (by decide) rfl rfl rfl (by decide) ER.sb fun a F => ?_
    refine d_qn F rfl rfl rfl (by decide) rfl rfl rfl (by decide) ER.sb fun a F => ?_
    refine d_qn F rfl rfl rfl (by decide) rfl rfl rfl (by decide) ER.sb fun a F => ?_
    refine d_qn F rfl rfl rfl (by decide) rfl rfl rfl (by decide) ER.sb fun a F => ?_
    refine d_qn F rfl rfl rfl (by decide) rfl rfl rfl (by decide) ER.sb fun a F => ?_
    refine d_e ?_
    refine o_no F rfl rfl rfl (by decide) rfl rfl rfl (by decide) fun a F => ?_
    refine ⟨fun _ => ER.sb, ?_⟩
    refine d_qy F rfl rfl rfl (by decide) rfl rfl rfl (by decide) (fun wq hS => r_pick_f F rfl rfl rfl) ER.sb fun a F => ?_
    refine d_q F rfl rfl rfl (by decide) (fun wq hS => r_pick_f F rfl rfl rfl) ER.sb fun a F => ?_
    refine d_q F rfl rfl rfl (by decide) (fun wq hS => r_assign F rfl) ER.sb fun a F => ?_
    refine d_nil ?_
    refine hK5 _ _ ?_
    refine wp_ret ?_
    refine out1 F rfl rfl ?_
    exact ⟨rfl, _, hX⟩
  | done x_ =>
   obtain ⟨rfl, c9, hX⟩ := h11
   refine ⟨_, rfl, fun a F => ?_⟩
   have ER := HX _ _ _ hX
   have H : Ctl.done _ = r := H
   subst H
   refine ⟨fun _ => ER.sb, ?_⟩
   refine d_qy F rfl rfl rfl (by decide) rfl rfl rfl (by decide) (fun wq hS => r_move F rfl) ER.sb fun a F => ?_
   refine d_qn F rfl rfl rfl (by decide) rfl rfl rfl (by decide) ER.sb fun a F => ?_
   refine d_qn F rfl rfl rfl (by decide) rfl rfl rfl (by decide) ER.sb fun a F => ?_
   refine d_qn F rfl rfl rfl (by decide) rfl rfl rfl (by decide) ER.sb fun a F => ?_
   refine d_qn F rfl rfl rfl (by decide) rfl rfl rfl (by decide) ER.sb fun a F => ?_
   refine d_qn F rfl rfl rfl (by decide) rfl rfl rfl (by decide) ER.sb fun a F => ?_
   refine d_qn F rfl rfl rfl (by decide) rfl rfl rfl (by decide) ER.sb fun a F => ?_
   refine d_qn F rfl rfl rfl (by decide) rfl rfl rfl (by decide) ER.sb fun a F => ?_
   refine d_qn F rfl rfl rfl (by decide) rfl rfl rfl (by decide) ER.sb fun a F => ?_
   refine d_qn F rfl rfl rfl (by decide) rfl rfl rfl (by decide) ER.sb fun a F => ?_
   refine d_e ?_
   refine o_no F rfl rfl rfl (by decide) rfl rfl rfl (by decide) fun a F => ?_
   refine ⟨fun _ => ER.sb, ?_⟩
   refine d_qy F rfl rfl rfl (by decide) rfl rfl rfl (by decide) (fun wq hS => r_pick_f F rfl rfl rfl) ER.sb fun a F => ?_
   refine d_qy F rfl rfl rfl (by decide) rfl rfl rfl (by decide) (fun wq hS => r_move F rfl) ER.sb fun a F => ?_
   refine d_qn F rfl rfl rfl (by decide) rfl rfl rfl (by decide) ER.sb fun a F => ?_
   refine d_qn F rfl rfl rfl (by decide) rfl rfl rfl (by decide) ER.sb fun a F => ?_
   refine d_qn F rfl rfl rfl (by decide) rfl rfl rfl (by decide) ER.sb fun a F => ?_
   refine d_qn F rfl rfl rfl (by decide) rfl rfl rfl (by decide) ER.sb fun a F => ?_
   refine d_qn F rfl rfl rfl (by decide) rfl rfl rfl (by decide) ER.sb fun a F => ?_
   refine d_e ?_
   refine o_no F rfl rfl rfl (by decide) rfl rfl rfl (by decide) fun a F => ?_
   refine ⟨fun _ => ER.sb, ?_⟩
   refine d_qy F rfl rfl rfl (by decide) rfl rfl rfl (by decide) (fun wq hS => r_pick_f F rfl rfl rfl) ER.sb fun a F => ?_
   refine d_q F rfl rfl rfl (by decide) (fun wq hS => r_pick_f F rfl rfl rfl) ER.sb fun a F => ?_
   refine d_q F rfl rfl rfl (by decide) (fun wq hS => r_assign F rfl) ER.sb fun a F => ?_
   refine d_nil ?_
   refine hK5 _ _ ?_
   refine wp_ret ?_
   refine out1 F rfl rfl ?_
   exact ⟨rfl, _, hX⟩
end Go.Proofs.Ytcolmmjcdlmcoaa.G
namespace Go.Proofs.Ytcolmmjcdlmcoaa.G
open Go Go.RowKit
set_option linter.unusedVariables false
set_option linter.unusedSimpArgs false
set_option maxRecDepth 100000 in
set_option maxHeartbeats 4000000 in
theorem tree_Tree_from.calls {σ X : Type} {m : Nat} {M : Nat → Prop} {cR : Nat → Nat} {wR : World} {l : Nat} (hm0 : 0 < m) (HM : ¬ M 0) {g : σ → ByteArray → table_cell → Option (Ctl σ X)} {J : σ → (Nat → Nat) → World → Prop} {JX : X → (Nat → Nat) → World → Prop} (HE : ∀ s c w, J s c w → Ev M cR wR c w) (HX : ∀ x c w, JX x c w → Ev M cR wR c w) (HY : ∀ s k (v : table_cell) c w (A35 : Option Addr) (C36 : Nat) r, JS m (J s) c w → SL false (Kint .u8) 0 0 c w A35 C36 v.value → g s k v = some r → YieldAt Fence.wide 0 Try.prog l #[.string k, .agg #[.slice A35 v.value.length C36, .int .i64 v.rev]] w (IP (fun s => JS m (J s)) JX r)) (key : ByteArray) (t : Tr) : ∀ (p : Option Addr) (s : σ) (c : Nat → Nat) (w : World), TR 0 cR wR p t → JS m (J s) c w → ∀ (r : Ctl σ X), Tr.from key g t s = some r → Calls Try.prog 75 #[.pointer p, .string key, yv l] w (IP (fun s => JS m (J s)) JX r) := by
 induction t with
 | nil =>
  intro p s0 c w ht hJ r H
  have ht : p = none := ht
  subst ht
  have H : some (Ctl.next s0) = some r := H
  refine enter (N := 49) (l := [.pointer none, .string key, yv l]) Try.func75 rfl rfl (Nat.le_of_ble_eq_true rfl) fun a F => ?_
  have ER := hJ.ev (HE _)
  refine wp_seq_k fun K1 hK1 => ?_
  refine reg ?_
  refine q_val F rfl rfl (by decide) (r_assign F rfl) fun a F => ?_
  refine nil ?_
  refine hK1 _ _ ?_
  refine wp_seq_k fun K2 hK2 => ?_
  refine wp_seq_k fun K3 hK3 => ?_
  refine reg ?_
  refine q_val F rfl rfl (by decide) (r_move F rfl) fun a F => ?_
  refine q_val F rfl rfl (by decide) (r_peql F Try.underlying68 rfl rfl) fun a F => ?_
  refine nil ?_
  refine hK3 _ _ ?_
  refine wp_cond_true (F.ev rfl) ?_
  refine wp_seq_k fun K4 hK4 => ?_
  refine reg ?_
  refine q_val F rfl rfl (by decide) (r_assign F rfl) fun a F => ?_
  refine nil ?_
  refine hK4 _ _ ?_
  refine wp_ret ?_
  refine thenR ?_
  have H := Option.some.inj H
  subst H
  refine out1 F rfl rfl ?_
  exact ⟨rfl, _, hJ⟩
 | node tl tr k v s d ihhl ihhr =>
  intro p s0 c w ht hJ r H
  obtain ⟨ad, lp, rp, A1, C2, rfl, hat, h3, hl, hr⟩ := TR.node ht
  have H : ((cmp_Less.f k key).bind fun b => if b = true then Tr.from key g tr s0 else thenC (Tr.from key g tl s0) fun s => thenC (g s k v) fun s => Tr.up g tr s) = some r := H
  refine enter (N := 49) (l := [.pointer (some ad), .string key, yv l]) Try.func75 rfl rfl (Nat.le_of_ble_eq_true rfl) fun a F => ?_
  have ER := hJ.ev (HE _)
  refine wp_seq_k fun K4 hK4 => ?_
  refine reg ?_
  refine q_val F rfl rfl (by decide) (r_assign F rfl) fun a F => ?_
  refine nil ?_
  refine hK4 _ _ ?_
  refine wp_seq_k fun K5 hK5 => ?_
  refine wp_seq_k fun K6 hK6 => ?_
  refine reg ?_
  refine q_val F rfl rfl (by decide) (r_move F rfl) fun a F => ?_
  refine q_val F rfl rfl (by decide) (r_peql F Try.underlying68 rfl rfl) fun a F => ?_
  refine nil ?_
  refine hK6 _ _ ?_
  refine wp_cond_false (F.ev rfl) ?_
  refine wp_skip ?_
  refine hK5 _ _ ?_
  refine wp_seq_k fun K7 hK7 => ?_
  refine wp_seq_k fun K8 hK8 => ?_
  refine reg ?_
  refine q_val F rfl rfl (by decide) (r_move F rfl) fun a F => ?_
  refine q_val F rfl rfl (by decide) (r_nil F rfl) fun a F => ?_
  refine q_val F rfl rfl (by decide) (r_fieldAddr F rfl ff_98_2) fun a F => ?_
  refine q_val F rfl rfl (by decide) (r_load F rfl ag_9 (AT.cell (AT.sb hat ER.sb HM) rfl)) fun a F => ?_
  refine q_val F rfl rfl (by decide) (r_move F rfl) fun a F => ?_
  obtain ⟨t9, q10, H⟩ := bind_some H
  refine q_call F rfl rfl (by decide) (r_call F Try.func84 rfl (by kernel_rfl) rfl) (cmp_Less.calls (m := m) hm0 hJ.1 _ q10) ?_
  rintro e w12 ⟨c11, rfl, E13, B14⟩
  refine ⟨_, rfl, fun a F => ?_⟩
  have hJ := hJ.step E13 B14
  have ER := hJ.ev (HE _)
  refine nil ?_
  refine hK8 _ _ ?_
  by_cases hb15 : t9 = true
  ·have H := (if_pos hb15).symm.trans H
   refine wp_cond_true ((F.ev rfl).trans (congrArg Value.bool hb15)) ?_
   refine wp_seq_k fun K16 hK16 => ?_
   refine reg ?_
   refine q_val F rfl rfl (by decide) (r_move F rfl) fun a F => ?_
   refine q_val F rfl rfl (by decide) (r_nil F rfl) fun a F => ?_
   refine q_val F rfl rfl (by decide) (r_fieldAddr F rfl ff_98_1) fun a F => ?_
   refine q_val F rfl rfl (by decide) (r_load F rfl ag_68 (AT.cell (AT.sb hat ER.sb HM) rfl)) fun a F => ?_
   refine q_val F rfl rfl (by decide) (r_move F rfl) fun a F => ?_
   refine q_val F rfl rfl (by decide) (r_move F rfl) fun a F => ?_
   refine q_call F rfl rfl (by decide) (r_call F Try.func75 rfl (by kernel_rfl) rfl) (ihhr _ _ _ _ hr hJ _ H) ?_
   rintro e w18 h19
   cases r with
   | next s_ =>
    obtain ⟨rfl, c17, hJ⟩ := h19
    refine ⟨_, rfl, fun a F => ?_⟩
    have ER := hJ.ev (HE _)
    refine q_val F rfl rfl (by decide) (r_assign F rfl) fun a F => ?_
    refine nil ?_
    refine hK16 _ _ ?_
    refine wp_ret ?_
    refine thenR ?_
    refine out1 F rfl rfl ?_
    exact ⟨rfl, _, hJ⟩
   | done x_ =>
    obtain ⟨rfl, c17, hX⟩ := h19
    refine ⟨_, rfl, fun a F => ?_⟩
    have ER := HX _ _ _ hX
    refine q_val F rfl rfl (by decide) (r_assign F rfl) fun a F => ?_
    refine nil ?_
    refine hK16 _ _ ?_
    refine wp_ret ?_
    refine thenR ?_
    refine out1 F rfl rfl ?_
    exact ⟨rfl, _, hX⟩
  ·have H := (if_neg hb15).symm.trans H
   refine wp_cond_false ((F.ev rfl).trans (congrArg Value.bool (bfalse hb15))) ?_
   refine wp_skip ?_
   refine hK7 _ _ ?_
   refine wp_seq_k fun K20 hK20 => ?_
   refine regD (SB M cR wR) 28 (.q 0 (.q 1 (.q 2 (.q 3 (.q 4 (.q 5 (.e 6 (.q 7 (.q 8 (.q 9 (.q 10 (.q 11 (.q 12 (.q 13 (.q 14 (.q 15 (.q 16 (.e 17 (.q 18 (.q 19 (.q 20 (.q 21 (.q 22 (.q 23 (.q 24 (.e 25 (.q 26 (.q 27 .nil)))))))))))))))))))))))))))) Try_hm (by decide +kernel) ?_
   intro w21 w1_ w2_ w3_ w4_
   have hJ := hJ.step (Ev.same w1_ w2_ w3_ w4_) (hJ.1.same w1_)
   have ER := hJ.ev (HE _)
   refine d_q F rfl rfl rfl (by decide) (fun wq hS => r_move F rfl) ER.sb fun a F => ?_
   refine d_q F rfl rfl rfl (by decide) (fun wq hS => r_nil F rfl) ER.sb fun a F => ?_
   refine d_q F rfl rfl rfl (by decide) (fun wq hS => r_fieldAddr F rfl ff_98_0) ER.sb fun a F => ?_
   refine d_q F rfl rfl rfl (by decide) (fun wq hS => r_load F rfl ag_68 (AT.cell (AT.sb hat hS HM) rfl)) ER.sb fun a F => ?_
   refine d_q F rfl rfl rfl (by decide) (fun wq hS => r_move F rfl) ER.sb fun a F => ?_
   refine d_q F rfl rfl rfl (by decide) (fun wq hS => r_move F rfl) ER.sb fun a F => ?_
   refine d_e ?_
   obtain ⟨t22, q23, H⟩ := thenC_some H
   refine o_call F rfl (wanted_none rfl) rfl (by decide) (r_call F Try.func75 rfl (by kernel_rfl) rfl) (ihhl _ _ _ _ hl hJ _ q23) ?_
   rintro e w25 h26
   cases t22 with
   | next s_ =>
    obtain ⟨rfl, c24, hJ⟩ := h26
    refine ⟨_, rfl, fun a F => ?_⟩
    have ER := hJ.ev (HE _)
    have H : _ = some r := H
    refine ⟨fun _ => ER.sb, ?_⟩
    refine d_q F rfl rfl rfl (by decide) (fun wq hS => r_move F rfl) ER.sb fun a F => ?_
    refine d_qy F rfl rfl rfl (by decide) rfl rfl rfl (by decide) (fun wq hS => r_move F rfl) ER.sb fun a F => ?_
    refine d_qy F rfl rfl rfl (by decide) rfl rfl rfl (by decide) (fun wq hS => r_move F rfl) ER.sb fun a F => ?_
    refine d_qy F rfl rfl rfl (by decide) rfl rfl rfl (by decide) (fun wq hS => r_nil F rfl) ER.sb fun a F => ?_
    refine d_qy F rfl rfl rfl (by decide) rfl rfl rfl (by decide) (fun wq hS => r_fieldAddr F rfl ff_98_2) ER.sb fun a F => ?_
    refine d_qy F rfl rfl rfl (by decide) rfl rfl rfl (by decide) (fun wq hS => r_load F rfl ag_9 (AT.cell (AT.sb hat hS HM) rfl)) ER.sb fun a F => ?_
    refine d_qy F rfl rfl rfl (by decide) rfl rfl rfl (by decide) (fun wq hS => r_move F rfl) ER.sb fun a F => ?_
    refine d_qy F rfl rfl rfl (by decide) rfl rfl rfl (by decide) (fun wq hS => r_nil F rfl) ER.sb fun a F => ?_
    refine d_qy F rfl rfl rfl (by decide) rfl rfl rfl (by decide) (fun wq hS => r_fieldAddr F rfl ff_98_3) ER.sb fun a F => ?_
    refine d_qy F rfl rfl rfl (by decide) rfl rfl rfl (by decide) (fun wq hS => r_loads (cs := [.slice A1 v.value.length C2, .int .i64 v.rev]) F rfl ag_66 sz_66 (AT.sub (AT.sb hat hS HM) 3 2 (Nat.le_of_ble_eq_true rfl))) ER.sb fun a F => ?_
    refine d_e ?_
    obtain ⟨t27, q28, H⟩ := thenC_some H
    refine o_yield F rfl (wanted_yes F rfl rfl (by decide) rfl rfl) rfl (by decide) (r_yield F rfl (vs := [.string k, .agg #[.slice A1 v.value.length C2, .int .i64 v.rev]]) rfl) (HY _ _ _ _ _ _ _ _ hJ (SL.ev h3 ER HM HM) q28) ?_
    rintro e w30 h31
    cases t27 with
    | next s_ =>
     obtain ⟨rfl, c29, hJ⟩ := h31
     refine ⟨_, rfl, fun a F => ?_⟩
     have ER := hJ.ev (HE _)
     have H : _ = some r := H
     refine ⟨fun _ => ER.sb, ?_⟩
     refine d_q F rfl rfl rfl (by decide) (fun wq hS => r_pick_t F rfl rfl rfl) ER.sb fun a F => ?_
     refine d_q F rfl rfl rfl (by decide) (fun wq hS => r_move F rfl) ER.sb fun a F => ?_
     refine d_qy F rfl rfl rfl (by decide) rfl rfl rfl (by decide) (fun wq hS => r_move F rfl) ER.sb fun a F => ?_
     refine d_qy F rfl rfl rfl (by decide) rfl rfl rfl (by decide) (fun wq hS => r_nil F rfl) ER.sb fun a F => ?_
     refine d_qy F rfl rfl rfl (by decide) rfl rfl rfl (by decide) (fun wq hS => r_fieldAddr F rfl ff_98_1) ER.sb fun a F => ?_
     refine d_qy F rfl rfl rfl (by decide) rfl rfl rfl (by decide) (fun wq hS => r_load F rfl ag_68 (AT.cell (AT.sb hat hS HM) rfl)) ER.sb fun a F => ?_
     refine d_qy F rfl rfl rfl (by decide) rfl rfl rfl (by decide) (fun wq hS => r_move F rfl) ER.sb fun a F => ?_
     refine d_e ?_
     refine o_call F rfl (wanted_yes F rfl rfl (by decide) rfl rfl) rfl (by decide) (r_call F Try.func65 rfl (by kernel_rfl) rfl) (tree_Tree_up.calls hm0 HM HE HX HY _ _ _ _ _ hr hJ _ H) ?_
     rintro e w33 h34
     cases r with
     | next s_ =>
      obtain ⟨rfl, c32, hJ⟩ := h34
      refine ⟨_, rfl, fun a F => ?_⟩
      have ER := hJ.ev (HE _)
      refine ⟨fun _ => ER.sb, ?_⟩
      refine d_q F rfl rfl rfl (by decide) (fun wq hS => r_pick_t F rfl rfl rfl) ER.sb fun a F => ?_
      refine d_q F rfl rfl rfl (by decide) (fun wq hS => r_assign F rfl) ER.sb fun a F => ?_
      refine d_nil ?_
      refine hK20 _ _ ?_
      refine wp_ret ?_
      refine out1 F rfl rfl ?_
      exact ⟨rfl, _, hJ⟩
     | done x_ =>
      obtain ⟨rfl, c32, hX⟩ := h34
      refine ⟨_, rfl, fun a F => ?_⟩
      have ER := HX _ _ _ hX
      refine ⟨fun _ => ER.sb, ?_⟩
      refine d_q F rfl rfl rfl (by decide) (fun wq hS => r_pick_t F rfl rfl rfl) ER.sb fun a F => ?_
      refine d_q F rfl rfl rfl (by decide) (fun wq hS => r_assign F rfl) ER.sb fun a F => ?_
      refine d_nil ?_
      refine hK20 _ _ ?_
      refine wp_ret ?_
      refine out1 F rfl rfl ?_
      exact ⟨rfl, _, hX⟩
    | done x_ =>
     obtain ⟨rfl, c29, hX⟩ := h31
     refine ⟨_, rfl, fun a F => ?_⟩
     have ER := HX _ _ _ hX
     have H : Ctl.done _ = r := H
     subst H
     refine ⟨fun _ => ER.sb, ?_⟩
     refine d_q F rfl rfl rfl (by decide) (fun wq hS => r_pick_t F rfl rfl rfl) ER.sb fun a F => ?_
     refine d_q F rfl rfl rfl (by decide) (fun wq hS => r_move F rfl) ER.sb fun a F => ?_
     refine d_qn F rfl rfl rfl (by decide) rfl rfl rfl (by decide) ER.sb fun a F => ?_
     refine d_qn F rfl rfl rfl (by decide) rfl rfl rfl (by decide) ER.sb fun a F => ?_
     refine d_qn F rfl rfl rfl (by decide) rfl rfl rfl (by decide) ER.sb fun a F => ?_
     refine d_qn F rfl rfl rfl (by decide) rfl rfl rfl (by decide) ER.sb fun a F => ?_
     refine d_qn F rfl rfl rfl (by decide) rfl rfl rfl (by decide) ER.sb fun a F => ?_
     refine d_e ?_
     refine o_no F rfl rfl rfl (by decide) rfl rfl rfl (by decide) fun a F => ?_
     refine ⟨fun _ => ER.sb, ?_⟩
     refine d_q F rfl rfl rfl (by decide) (fun wq hS => r_pick_f F rfl rfl rfl) ER.sb fun a F => ?_
     refine d_q F rfl rfl rfl (by decide) (fun wq hS => r_assign F rfl) ER.sb fun a F => ?_
     refine d_nil ?_
     refine hK20 _ _ ?_
     refine wp_ret ?_
     refine out1 F rfl rfl ?_
     exact ⟨rfl, _, hX⟩
   | done x_ =>
    obtain ⟨rfl, c24, hX⟩ := h26
    refine ⟨_, rfl, fun a F => ?_⟩
    have ER := HX _ _ _ hX
    have H : Ctl.done _ = r := H
    subst H
    refine ⟨fun _ => ER.sb, ?_⟩
    refine d_q F rfl rfl rfl (by decide) (fun wq hS => r_move F rfl) ER.sb fun a F => ?_
    refine d_qn F rfl rfl rfl (by decide) rfl rfl rfl (by decide) ER.sb fun a F => ?_
    refine d_qn F rfl rfl rfl (by decide) rfl rfl rfl (by decide) ER.sb fun a F => ?_
    refine d_qn F rfl rfl rfl (by decide) rfl rfl rfl (by decide) ER.sb fun a F => ?_
    refine d_qn F rfl rfl rfl (by decide) rfl rfl rfl (by decide) ER.sb fun a F => ?_
    refine d_qn F rfl rfl rfl (by decide) rfl rfl rfl (by decide) ER.sb fun a F => ?_
    refine d_qn F rfl rfl rfl (by decide) rfl rfl rfl (by decide) ER.sb fun a F => ?_
    refine d_qn F rfl rfl rfl (by decide) rfl rfl rfl (by decide) ER.sb fun a F => ?_
    refine d_qn F rfl rfl rfl (by decide) rfl rfl rfl (by decide) ER.sb fun a F => ?_
    refine d_qn F rfl rfl rfl (by decide) rfl rfl rfl (by decide) ER.sb fun a F => ?_
    refine d_e ?_
    refine o_no F rfl rfl rfl (by decide) rfl rfl rfl (by decide) fun a F => ?_
    refine ⟨fun _ => ER.sb, ?_⟩
    refine d_q F rfl rfl rfl (by decide) (fun wq hS => r_pick_f F rfl rfl rfl) ER.sb fun a F => ?_
    refine d_q F rfl rfl rfl (by decide) (fun wq hS => r_move F rfl) ER.sb fun a F => ?_
    refine d_qn F rfl rfl rfl (by decide) rfl rfl rfl (by decide) ER.sb fun a F => ?_
    refine d_qn F rfl rfl rfl (by decide) rfl rfl rfl (by decide) ER.sb fun a F => ?_
    refine d_qn F rfl rfl rfl (by decide) rfl rfl rfl (by decide) ER.sb fun a F => ?_
    refine d_qn F rfl rfl rfl (by decide) rfl rfl rfl (by decide) ER.sb fun a F => ?_
    refine d_qn F rfl rfl rfl (by decide) rfl rfl rfl (by decide) ER.sb fun a F => ?_
    refine d_e ?_
    refine o_no F rfl rfl rfl (by decide) rfl rfl rfl (by decide) fun a F => ?_
    refine ⟨fun _ => ER.sb, ?_⟩
    refine d_q F rfl rfl rfl (by decide) (fun wq hS => r_pick_f F rfl rfl rfl) ER.sb fun a F => ?_
    refine d_q F rfl rfl rfl (by decide) (fun wq hS => r_assign F rfl) ER.sb fun a F => ?_
    refine d_nil ?_
    refine hK20 _ _ ?_
    refine wp_ret ?_
    refine out1 F rfl rfl ?_
    exact ⟨rfl, _, hX⟩
end Go.Proofs.Ytcolmmjcdlmcoaa.G
namespace Go.Proofs.Ytcolmmjcdlmcoaa.G
open Go Go.RowKit
set_option linter.unusedVariables false
set_option linter.unusedSimpArgs false
set_option maxRecDepth 100000 in
set_option maxHeartbeats 4000000 in
theorem tree_Tree_All_1.calls {σ X : Type} {m : Nat} {M : Nat → Prop} {cR : Nat → Nat} {wR : World} {l : Nat} (hm0 : 0 < m) (HM : ¬ M 0) {g : σ → ByteArray → table_cell → Option (Ctl σ X)} {J : σ → (Nat → Nat) → World → Prop} {JX : X → (Nat → Nat) → World → Prop} (HE : ∀ s c w, J s c w → Ev M cR wR c w) (HX : ∀ x c w, JX x c w → Ev M cR wR c w) (HY : ∀ s k (v : table_cell) c w (A4 : Option Addr) (C5 : Nat) r, JS m (J s) c w → SL false (Kint .u8) 0 0 c w A4 C5 v.value → g s k v = some r → YieldAt Fence.wide 0 Try.prog l #[.string k, .agg #[.slice A4 v.value.length C5, .int .i64 v.rev]] w (IP (fun s => JS m (J s)) JX r)) (t : Tr) (p : Option Addr) (s : σ) (c : Nat → Nat) (w : World) {own0 : Bool} {jq0 : Nat} {q0 : Addr} (hq0 : AT own0 jq0 c w q0 [.pointer p]) (ht : TR 0 cR wR p t) (hJ : JS m (J s) c w) (r : Ctl σ X) (H : Tr.up g t s = some r) : Calls Try.prog 64 #[yv l, .pointer (some q0)] w (IT (fun s => JS m (J s)) JX r) := by
 refine enter (N := 6) (l := [yv l, .pointer (some q0)]) Try.func64 rfl rfl (Nat.le_of_ble_eq_true rfl) fun a F => ?_
 have ER := hJ.ev (HE _)
 refine reg ?_
 refine q_val F rfl rfl (by decide) (r_load F rfl ag_68 (AT.cell0 hq0 rfl)) fun a F => ?_
 refine q_val F rfl rfl (by decide) (r_move F rfl) fun a F => ?_
 refine q_call F rfl rfl (by decide) (r_call F Try.func65 rfl (by kernel_rfl) rfl) (tree_Tree_up.calls hm0 HM HE HX HY _ _ _ _ _ ht hJ _ H) ?_
 rintro e w2 h3
 cases r with
 | next s_ =>
  obtain ⟨rfl, c1, hJ⟩ := h3
  refine ⟨_, rfl, fun a F => ?_⟩
  have ER := hJ.ev (HE _)
  refine nil ?_
  refine out0n F rfl ?_
  exact ⟨⟨_, rfl⟩, _, hJ⟩
 | done x_ =>
  obtain ⟨rfl, c1, hX⟩ := h3
  refine ⟨_, rfl, fun a F => ?_⟩
  have ER := HX _ _ _ hX
  refine nil ?_
  refine out0n F rfl ?_
  exact ⟨⟨_, rfl⟩, _, hX⟩
end Go.Proofs.Ytcolmmjcdlmcoaa.G
namespace Go.Proofs.Ytcolmmjcdlmcoaa.G
open Go Go.RowKit
set_option linter.unusedVariables false
set_option linter.unusedSimpArgs false
set_option maxRecDepth 100000 in
set_option maxHeartbeats 4000000 in
theorem tree_Tree_From_1.calls {σ X : Type} {m : Nat} {M : Nat → Prop} {cR : Nat → Nat} {wR : World} {l : Nat} (hm0 : 0 < m) (HM : ¬ M 0) {g : σ → ByteArray → table_cell → Option (Ctl σ X)} {J : σ → (Nat → Nat) → World → Prop} {JX : X → (Nat → Nat) → World → Prop} (HE : ∀ s c w, J s c w → Ev M cR wR c w) (HX : ∀ x c w, JX x c w → Ev M cR wR c w) (HY : ∀ s k (v : table_cell) c w (A4 : Option Addr) (C5 : Nat) r, JS m (J s) c w → SL false (Kint .u8) 0 0 c w A4 C5 v.value → g s k v = some r → YieldAt Fence.wide 0 Try.prog l #[.string k, .agg #[.slice A4 v.value.length C5, .int .i64 v.rev]] w (IP (fun s => JS m (J s)) JX r)) (t : Tr) (p : Option Addr) (key : ByteArray) (s : σ) (c : Nat → Nat) (w : World) {own0 : Bool} {jq0 : Nat} {q0 : Addr} (hq0 : AT own0 jq0 c w q0 [.pointer p]) {own1 : Bool} {jq1 : Nat} {q1 : Addr} (hq1 : AT own1 jq1 c w q1 [.string key]) (ht : TR 0 cR wR p t) (hJ : JS m (J s) c w) (r : Ctl σ X) (H : Tr.from key g t s = some r) : Calls Try.prog 74 #[yv l, .pointer (some q0), .pointer (some q1)] w (IT (fun s => JS m (J s)) JX r) := by
 refine enter (N := 8) (l := [yv l, .pointer (some q0), .pointer (some q1)]) Try.func74 rfl rfl (Nat.le_of_ble_eq_true rfl) fun a F => ?_
 have ER := hJ.ev (HE _)
 refine reg ?_
 refine q_val F rfl rfl (by decide) (r_load F rfl ag_68 (AT.cell0 hq0 rfl)) fun a F => ?_
 refine q_val F rfl rfl (by decide) (r_load F rfl ag_9 (AT.cell0 hq1 rfl)) fun a F => ?_
 refine q_val F rfl rfl (by decide) (r_move F rfl) fun a F => ?_
 refine q_call F rfl rfl (by decide) (r_call F Try.func75 rfl (by kernel_rfl) rfl) (tree_Tree_from.calls hm0 HM HE HX HY key _ _ _ _ _ ht hJ _ H) ?_
 rintro e w2 h3
 cases r with
 | next s_ =>
  obtain ⟨rfl, c1, hJ⟩ := h3
  refine ⟨_, rfl, fun a F => ?_⟩
  have ER := hJ.ev (HE _)
  refine nil ?_
  refine out0n F rfl ?_
  exact ⟨⟨_, rfl⟩, _, hJ⟩
 | done x_ =>
  obtain ⟨rfl, c1, hX⟩ := h3
  refine ⟨_, rfl, fun a F => ?_⟩
  have ER := HX _ _ _ hX
  refine nil ?_
  refine out0n F rfl ?_
  exact ⟨⟨_, rfl⟩, _, hX⟩
end Go.Proofs.Ytcolmmjcdlmcoaa.G
namespace Go.Proofs.Ytcolmmjcdlmcoaa.G
open Go Go.RowKit
set_option linter.unusedVariables false
set_option linter.unusedSimpArgs false
theorem ITR.go {j : Nat} {cR : Nat → Nat} {wR : World} {v : Value} {i : It} (hi : ITR j cR wR v i) : ∃ gf lb, v = .func (.func gf) #[] lb ∧ (∀ args w, (callFunc gf args).run Try.prog w = .ok (.enter gf args) w) ∧
  ∀ {σ X : Type} {m : Nat} {M : Nat → Prop}  {l : Nat} (hm0 : 0 < m) (HM : ¬ M 0) {g : σ → ByteArray → table_cell → Option (Ctl σ X)} {J : σ → (Nat → Nat) → World → Prop} {JX : X → (Nat → Nat) → World → Prop} (HE : ∀ s c w, J s c w → Ev M cR wR c w) (HX : ∀ x c w, JX x c w → Ev M cR wR c w) (HY : ∀ s k (v : table_cell) c w (A1 : Option Addr) (C2 : Nat) r, JS m (J s) c w → SL false (Kint .u8) 0 0 c w A1 C2 v.value → g s k v = some r → YieldAt Fence.wide 0 Try.prog l #[.string k, .agg #[.slice A1 v.value.length C2, .int .i64 v.rev]] w (IP (fun s => JS m (J s)) JX r)) (c1 : Nat → Nat) (w1 : World) (E1 : Ev No cR wR c1 w1) (s : σ) (hJ : JS m (J s) c1 w1) (r : Ctl σ X) (H : It.run g i s = some r), Calls Try.prog gf (#[yv l] ++ lb) w1 (IT (fun s => JS m (J s)) JX r) := by
 cases i with
 | all t =>
  obtain ⟨q, p, e, h, ht⟩ := hi
  refine ⟨_, _, e, callFunc_go Try.func64 (by kernel_rfl) rfl, ?_⟩
  intro σ X m M l hm0 HM g J JX HE HX HY c1 w1 E1 s hJ r H
  exact tree_Tree_All_1.calls hm0 HM HE HX HY t p s c1 w1 (h.ev E1 (fun q => q)) ht hJ r H
 | «from» t k =>
  obtain ⟨q, q1, p, e, h, h1, ht⟩ := hi
  refine ⟨_, _, e, callFunc_go Try.func74 (by kernel_rfl) rfl, ?_⟩
  intro σ X m M l hm0 HM g J JX HE HX HY c1 w1 E1 s hJ r H
  exact tree_Tree_From_1.calls hm0 HM HE HX HY t p k s c1 w1 (h.ev E1 (fun q => q)) (h1.ev E1 (fun q => q)) ht hJ r H
set_option maxHeartbeats 1000000 in
theorem ITR.range {j : Nat} {c : Nat → Nat} {w : World} {u : Value} {i : It} (hi : ITR j c w u i) {S X : Type} {m y z N : Nat} {M : Nat → Prop} {L : List (Nat × Value)} {D : List Deferred} {a : Act} {g0 : Operand} {p1 p2 : Tmp} {assign body : Code} {Q : Exit → Act → World → Prop} {g : S → ByteArray → table_cell → Option (Ctl S X)} (J : S → (Nat → Nat) → World → Prop) (JX : X → (Nat → Nat) → World → Prop)
  (F : Fr a N L D) (hg : G.ev L g0 = some u) (h1 : p1 < N) (h2 : p2 < N) (hy : y < m) (hz : z < m) (hyz : z ≠ y) (h0y : 0 < m) (HM : ¬ M 0) (B : CB m c w)
  (JE : ∀ s c1 w1, J s c1 w1 → Ev M c w c1 w1) (JXE : ∀ x c1 w1, JX x c1 w1 → Ev M c w c1 w1)
  (Jst : ∀ s c1 w1 c2 w2, J s c1 w1 → Ev (fun x => x = y) c1 w1 c2 w2 → J s c2 w2) (JXst : ∀ x c1 w1 c2 w2, JX x c1 w1 → Ev (fun x => x = y) c1 w1 c2 w2 → JX x c2 w2)
  (s0 : S) (h0 : J s0 c w) (xv : Ctl S X) (HL : It.run g i s0 = some xv)
  (round : ∀ (bd l : Nat) (rec_ : Loop) (s : S) (k : ByteArray) (v : table_cell) (c1 : Nat → Nat) (w1 : World) (A1 : Option Addr) (C2 : Nat) (r : Ctl S X), J s c1 w1 → CB m c1 w1 → OBJ z c1 w1 bd (.deferred (some [])) → OBJ y c1 w1 l (.loop rec_) → SL false (Kint .u8) 0 0 c1 w1 A1 C2 v.value → g s k v = some r → ∀ a1, Fr a1 N ((p2, .agg #[.slice A1 v.value.length C2, .int .i64 v.rev]) :: (p1, .string k) :: L) →
   assign.wpIn (Fw (some l)) 0 Try.prog (Exit.then (fun a2 w2 => ∃ c2, OBJ y c2 w2 l (.loop rec_) ∧ ∀ w3, Ev (fun x => x = y) c2 w2 c2 w3 → OBJ y c2 w3 l (.loop (lbusy rec_)) → w3.heap.size = w2.heap.size →
    body.wpIn (Fw (some l)) 0 Try.prog (RE y l rec_ (fun c4 w4 => r.el (fun s' => J s' c4 w4 ∧ CB m c4 w4 ∧ OBJ z c4 w4 bd (.deferred (some []))) (fun _ => False)) (fun jc c4 w4 => jc = .ret ∧ r.el (fun _ => False) (fun x => JX x c4 w4 ∧ CB m c4 w4 ∧ OBJ z c4 w4 bd (.deferred (some []))))) a2 w3) (fun _ _ _ => False)) a1 w1)
  (normal : ∀ s', xv = .next s' → ∀ c2 w2 bd, J s' c2 w2 → CB m c2 w2 → OBJ z c2 w2 bd (.deferred (some [])) → ∀ a', Fr a' N L ({ target := .collected bd, args := #[] } :: D) → Q .normal a' w2)
  (exit : ∀ x, xv = .done x → ∀ c2 w2 bd, JX x c2 w2 → CB m c2 w2 → OBJ z c2 w2 bd (.deferred (some [])) → ∀ a', Fr a' N L ({ target := .collected bd, args := #[] } :: D) → Q .ret a' w2) :
  (Code.rangeFunc g0 #[p1, p2] assign body).wp Try.prog Q a w := by
 obtain ⟨gf, lb, rfl, eg, hrun⟩ := ITR.go hi
 refine range_wp F hg eg c y z ?_
 intro fn bd l c1 w1 E1 hb hl hB hne
 have B1 := hB m B hy hz
 have no : ∀ x, No x → x = y := fun _ q => q.elim
 refine (hrun (σ := S) (X := X) (m := m) (M := M) (l := l) h0y HM (g := g) (J := fun s c1 w1 => J s c1 w1 ∧ OBJ z c1 w1 bd (.deferred (some [])) ∧ OBJ y c1 w1 l (.loop (lrec fn a.tmps #[p1, p2] assign body bd)))
  (JX := fun x c1 w1 => JX x c1 w1 ∧ CB m c1 w1 ∧ OBJ z c1 w1 bd (.deferred (some [])) ∧ OBJ y c1 w1 l (.loop (ldone (lrec fn a.tmps #[p1, p2] assign body bd) .ret))) (fun s c1 w1 h => JE _ _ _ h.1) (fun x c1 w1 h => JXE _ _ _ h.1) ?_ c1 w1 E1 s0 (JS.mk B1 ⟨Jst _ _ _ _ _ h0 (E1.mono no), hb, hl⟩) xv HL).mono ?_
 ·intro s k v c2 w2 A1 C2 r hjs h3 Hg
  obtain ⟨B2, c3, w3, ⟨hJ, hb3, hl3⟩, E3⟩ := hjs
  have hJ := Jst _ _ _ _ _ hJ (E3.mono no)
  have hb2 := hb3.ev E3 (fun q => q)
  have hl2 := hl3.ev E3 (fun q => q)
  refine YieldAt.mono (round2 F h1 h2 hl2 (G := fun c4 w4 => r.el (fun s' => J s' c4 w4 ∧ CB m c4 w4 ∧ OBJ z c4 w4 bd (.deferred (some []))) (fun _ => False)) (X := fun jc c4 w4 => jc = .ret ∧ r.el (fun _ => False) (fun x => JX x c4 w4 ∧ CB m c4 w4 ∧ OBJ z c4 w4 bd (.deferred (some [])))) (fun a1 F1 => round bd l _ s k v c2 w2 A1 C2 r hJ B2 hb2 hl2 h3 Hg a1 F1)) ?_
  rintro e W (⟨rfl, c4, V, hG, E4, hl4, hz4⟩ | ⟨rfl, jc, c4, V, hX, E4, hl4, hz4⟩)
  ·cases r with
   | next s' =>
    obtain ⟨hJ', B', hb'⟩ := hG
    exact ⟨rfl, c4, JS.mk (B'.size hz4) ⟨Jst _ _ _ _ _ hJ' E4, hb'.ev E4 (fun q => hyz q), hl4⟩⟩
   | done x => exact hG.elim
  ·cases r with
   | next s' => exact hX.2.elim
   | done x =>
    obtain ⟨rfl, hX, B', hb'⟩ := hX
    exact ⟨rfl, c4, JXst _ _ _ _ _ hX E4, B'.size hz4, hb'.ev E4 (fun q => hyz q), hl4⟩
 ·rintro e W ⟨hv, hr⟩
  cases xv with
  | next s' =>
   obtain ⟨c4, B4, c5, w5, ⟨hJ, hb5, hl5⟩, E5⟩ := hr
   refine ⟨hv, c4, none, hl5.ev E5 (fun q => q), fun W' E' Z' _ a' F' => ?_⟩
   exact normal s' rfl c4 W' bd (Jst _ _ _ _ _ (Jst _ _ _ _ _ hJ (E5.mono no)) E') (B4.size Z') ((hb5.ev E5 (fun q => q)).ev E' (fun q => hyz q)) a' F'
  | done x =>
   obtain ⟨c4, hX, B4, hb4, hl4⟩ := hr
   refine ⟨hv, c4, some .ret, hl4, fun W' E' Z' _ a' F' => ?_⟩
   refine wp_ret ?_
   exact exit x rfl c4 W' bd (JXst _ _ _ _ _ hX E') (B4.size Z') (hb4.ev E' (fun q => hyz q)) a' F'
end Go.Proofs.Ytcolmmjcdlmcoaa.G
namespace Go.Proofs.Ytcolmmjcdlmcoaa.G
open Go Go.RowKit
set_option linter.unusedVariables false
set_option linter.unusedSimpArgs false
set_option maxRecDepth 100000 in
set_option maxHeartbeats 4000000 in
theorem tree_Tree_All.calls {m : Nat} {c0 : Nat → Nat} {w0 : World} {p2 : Option Addr} {a1 : Tr} (hm0 : 0 < m) (B0 : CB m c0 w0) (h3 : TR 0 c0 w0 p2 a1) (jr14 : Nat) (bjr14 : jr14 < m) (r : It) (H : tree_Tree_All.f a1 = some r) : Calls Try.prog 47 #[.pointer p2] w0 (fun e w_ => ∃ (c_ : Nat → Nat) (V0_ : Value), e = .returned (V0_) ∧ Ev (fun x => False) c0 w0 c_ w_ ∧ CB m c_ w_ ∧ ITR jr14 c_ w_ V0_ r) := by
 unfold tree_Tree_All.f at H
 have B := B0.mono (show m ≤ m + 2 by omega)
 have E : Ev (fun x => False ∨ m ≤ x) c0 w0 c0 w0 := Ev.refl
 refine enter (N := 4) (l := [.pointer p2]) Try.func47 rfl rfl (Nat.le_of_ble_eq_true rfl) fun a F => ?_
 refine wp_seq_k fun K4 hK4 => ?_
 refine reg ?_
 refine q_eff F rfl rfl (by decide) (e_box F (v := .pointer p2) rfl c0 (m + 1)) ?_
 rintro v w6 a ⟨c5, qa7, rfl, E8, h9, B10⟩ F
 have B := B10 _ B (by omega)
 have h3 := TR.ev h3 E8 (fun q => q.elim) (fun q => q.elim)
 have E := E.trans E8 (fun x q => q.elim)
 have h9 : AT true (m + 1) c5 w6 qa7 [.pointer p2] := h9
 refine q_val F rfl rfl (by decide) (r_assign F rfl) fun a F => ?_
 refine nil ?_
 refine hK4 _ _ ?_
 refine wp_seq_k fun K12 hK12 => ?_
 refine reg ?_
 refine q_val F rfl rfl (by decide) (r_makeFunc (vs := [.pointer (some qa7)]) F rfl) fun a F => ?_
 refine q_val F rfl rfl (by decide) (r_assign F rfl) fun a F => ?_
 refine nil ?_
 refine hK12 _ _ ?_
 refine wp_ret ?_
 have h13 : ITR (m + 1) c5 w6 (.func (.func 64) #[] #[.pointer (some qa7)]) (.all a1) := ⟨qa7, p2, rfl, h9, h3⟩
 have H := Option.some.inj H
 subst H
 refine out1 F rfl rfl ?_
 exact ⟨fun b_ => (fun x_ => if x_ = m + 1 then jr14 else if x_ < m then x_ else 0) (c5 b_), (.func (.func 64) #[] #[.pointer (some qa7)]), rfl, E.leave B0 (fun x_ => if x_ = m + 1 then jr14 else if x_ < m then x_ else 0) (by intro x_ hx_; show (if x_ = m + 1 then jr14 else if x_ < m then x_ else 0) = x_; ((repeat' split) <;> omega)), (fun b_ hb_ => by show (if (c5 b_) = m + 1 then jr14 else if (c5 b_) < m then (c5 b_) else 0) < m; ((repeat' split) <;> omega)), ITR.rc h13 (fun k_ hk_ => by show (if (c5 k_) = m + 1 then jr14 else if (c5 k_) < m then (c5 k_) else 0) = _; rw [hk_]; ((repeat' split) <;> omega)) (fun k_ hk_ => by show (if (c5 k_) = m + 1 then jr14 else if (c5 k_) < m then (c5 k_) else 0) = _; rw [hk_]; ((repeat' split) <;> omega))⟩
end Go.Proofs.Ytcolmmjcdlmcoaa.G
namespace Go.Proofs.Ytcolmmjcdlmcoaa.G
open Go Go.RowKit
set_option linter.unusedVariables false
set_option linter.unusedSimpArgs false
set_option maxRecDepth 100000 in
set_option maxHeartbeats 4000000 in
theorem tree_Tree_From.calls {m : Nat} {c0 : Nat → Nat} {w0 : World} {p2 : Option Addr} {a1 : Tr} {a4 : ByteArray} (hm0 : 0 < m) (B0 : CB m c0 w0) (h3 : TR 0 c0 w0 p2 a1) (jr22 : Nat) (bjr22 : jr22 < m) (r : It) (H : tree_Tree_From.f a1 a4 = some r) : Calls Try.prog 57 #[.pointer p2, .string a4] w0 (fun e w_ => ∃ (c_ : Nat → Nat) (V0_ : Value), e = .returned (V0_) ∧ Ev (fun x => False) c0 w0 c_ w_ ∧ CB m c_ w_ ∧ ITR jr22 c_ w_ V0_ r) := by
 unfold tree_Tree_From.f at H
 have B := B0.mono (show m ≤ m + 2 by omega)
 have E : Ev (fun x => False ∨ m ≤ x) c0 w0 c0 w0 := Ev.refl
 refine enter (N := 6) (l := [.pointer p2, .string a4]) Try.func57 rfl rfl (Nat.le_of_ble_eq_true rfl) fun a F => ?_
 refine wp_seq_k fun K5 hK5 => ?_
 refine reg ?_
 refine q_eff F rfl rfl (by decide) (e_box F (v := .pointer p2) rfl c0 (m + 1)) ?_
 rintro v w7 a ⟨c6, qa8, rfl, E9, h10, B11⟩ F
 have B := B11 _ B (by omega)
 have h3 := TR.ev h3 E9 (fun q => q.elim) (fun q => q.elim)
 have E := E.trans E9 (fun x q => q.elim)
 have h10 : AT true (m + 1) c6 w7 qa8 [.pointer p2] := h10
 refine q_eff F rfl rfl (by decide) (e_box F (v := .string a4) rfl c6 (m + 1)) ?_
 rintro v w14 a ⟨c13, qa15, rfl, E16, h17, B18⟩ F
 have B := B18 _ B (by omega)
 have h3 := TR.ev h3 E16 (fun q => q.elim) (fun q => q.elim)
 have h10 := AT.ev h10 E16 (fun q => q.elim)
 have E := E.trans E16 (fun x q => q.elim)
 have h17 : AT true (m + 1) c13 w14 qa15 [.string a4] := h17
 refine q_val F rfl rfl (by decide) (r_assign F rfl) fun a F => ?_
 refine nil ?_
 refine hK5 _ _ ?_
 refine wp_seq_k fun K20 hK20 => ?_
 refine reg ?_
 refine q_val F rfl rfl (by decide) (r_makeFunc (vs := [.pointer (some qa8), .pointer (some qa15)]) F rfl) fun a F => ?_
 refine q_val F rfl rfl (by decide) (r_assign F rfl) fun a F => ?_
 refine nil ?_
 refine hK20 _ _ ?_
 refine wp_ret ?_
 have h21 : ITR (m + 1) c13 w14 (.func (.func 74) #[] #[.pointer (some qa8), .pointer (some qa15)]) (.from a1 a4) := ⟨qa8, qa15, p2, rfl, h10, h17, h3⟩
 have H := Option.some.inj H
 subst H
 refine out1 F rfl rfl ?_
 exact ⟨fun b_ => (fun x_ => if x_ = m + 1 then jr22 else if x_ < m then x_ else 0) (c13 b_), (.func (.func 74) #[] #[.pointer (some qa8), .pointer (some qa15)]), rfl, E.leave B0 (fun x_ => if x_ = m + 1 then jr22 else if x_ < m then x_ else 0) (by intro x_ hx_; show (if x_ = m + 1 then jr22 else if x_ < m then x_ else 0) = x_; ((repeat' split) <;> omega)), (fun b_ hb_ => by show (if (c13 b_) = m + 1 then jr22 else if (c13 b_) < m then (c13 b_) else 0) < m; ((repeat' split) <;> omega)), ITR.rc h21 (fun k_ hk_ => by show (if (c13 k_) = m + 1 then jr22 else if (c13 k_) < m then (c13 k_) else 0) = _; rw [hk_]; ((repeat' split) <;> omega)) (fun k_ hk_ => by show (if (c13 k_) = m + 1 then jr22 else if (c13 k_) < m then (c13 k_) else 0) = _; rw [hk_]; ((repeat' split) <;> omega))⟩
end Go.Proofs.Ytcolmmjcdlmcoaa.G
namespace Go.Proofs.Ytcolmmjcdlmcoaa.G
open Go Go.RowKit
set_option linter.unusedVariables false
set_option linter.unusedSimpArgs false
set_option maxRecDepth 100000 in
set_option maxHeartbeats 4000000 in
theorem tree_Tree_Seek.calls {m : Nat} {c0 : Nat → Nat} {w0 : World} {p2 : Option Addr} {a1 : Tr} {a4 : ByteArray} (hm0 : 0 < m) (B0 : CB m c0 w0) (h3 : TR 0 c0 w0 p2 a1) (r : ByteArray × table_cell × Bool) (H : tree_Tree_Seek.f a1 a4 = some r) : Calls Try.prog 38 #[.pointer p2, .string a4] w0 (fun e w_ => ∃ (c_ : Nat → Nat) (A0_ : Option Addr) (C0_ : Nat), e = .returned (.tuple #[.string r.1, .agg #[.slice A0_ r.2.1.value.length C0_, .int .i64 r.2.1.rev], .bool r.2.2]) ∧ Ev (fun x => False) c0 w0 c_ w_ ∧ CB m c_ w_ ∧ SL false (Kint .u8) 0 0 c_ w_ A0_ C0_ r.2.1.value) := by
 unfold tree_Tree_Seek.f at H
 have B := B0.mono (show m ≤ m + 8 by omega)
 have E : Ev (fun x => False ∨ m ≤ x) c0 w0 c0 w0 := Ev.refl
 refine enterM (N := 18) (l := [.pointer p2, .string a4]) Try.func38 rfl rfl (Nat.le_of_ble_eq_true rfl) fun a F => ?_
 refine wp_seq_k fun K5 hK5 => ?_
 refine reg ?_
 refine q_eff F rfl rfl (by decide) (e_alloc F zv_9 c0 (m + 1)) ?_
 rintro v w7 a ⟨c6, qa8, rfl, E9, h10, B11⟩ F
 have B := B11 _ B (by omega)
 have h3 := TR.ev h3 E9 (fun q => q.elim) (fun q => q.elim)
 have E := E.trans E9 (fun x q => q.elim)
 have h10 : AT true (m + 1) c6 w7 qa8 [.string .empty] := h10
 refine q_eff F rfl rfl (by decide) (e_alloc F zv_66 c6 (m + 2)) ?_
 rintro v w14 a ⟨c13, qa15, rfl, E16, h17, B18⟩ F
 have B := B18 _ B (by omega)
 have h3 := TR.ev h3 E16 (fun q => q.elim) (fun q => q.elim)
 have h10 := AT.ev h10 E16 (fun q => q.elim)
 have E := E.trans E16 (fun x q => q.elim)
 have h17 : AT true (m + 2) c13 w14 qa15 [.slice none 0 0, .int .i64 0] := h17
 refine q_eff F rfl rfl (by decide) (e_alloc F zv_4 c13 (m + 3)) ?_
 rintro v w21 a ⟨c20, qa22, rfl, E23, h24, B25⟩ F
 have B := B25 _ B (by omega)
 have h3 := TR.ev h3 E23 (fun q => q.elim) (fun q => q.elim)
 have h10 := AT.ev h10 E23 (fun q => q.elim)
 have h17 := AT.ev h17 E23 (fun q => q.elim)
 have E := E.trans E23 (fun x q => q.elim)
 have h24 : AT true (m + 3) c20 w21 qa22 [.bool false] := h24
 refine nil ?_
 refine hK5 _ _ ?_
 refine wp_seq_k fun K27 hK27 => ?_
 refine wp_seq_k fun K28 hK28 => ?_
 refine reg ?_
 refine q_val F rfl rfl (by decide) (r_move F rfl) fun a F => ?_
 refine q_val F rfl rfl (by decide) (r_move F rfl) fun a F => ?_
 obtain ⟨t29, q30, H⟩ := bind_some H
 refine q_call F rfl rfl (by decide) (r_call F Try.func57 rfl (by kernel_rfl) rfl) (tree_Tree_From.calls (m := m + 8) (by omega) B h3 (m + 4) (by omega) _ q30) ?_
 rintro e w32 ⟨c31, vi35, rfl, E33, B34, h36⟩
 refine ⟨_, rfl, fun a F => ?_⟩
 have B := B34
 have h3 := TR.ev h3 E33 (fun q => q.elim) (fun q => q.elim)
 have h10 := AT.ev h10 E33 (fun q => q.elim)
 have h17 := AT.ev h17 E33 (fun q => q.elim)
 have h24 := AT.ev h24 E33 (fun q => q.elim)
 have E := E.trans E33 (fun x q => q.elim)
 refine nil ?_
 refine hK28 _ _ ?_
 refine wp_block ?_
 obtain ⟨x45, HL, HR46⟩ := bind_some H
 refine ITR.range h36 (m := m + 8) (y := m + 5) (z := m + 6) (M := fun x => False ∨ m ≤ x) (g := (fun (s_ : Unit) (k_ : ByteArray) (v_ : table_cell) => tree_Tree_Seek.b1 k_ v_)) (fun (s_ : Unit) (c_ : Nat → Nat) (w_ : World) => Ev (fun x => False ∨ m ≤ x) c31 w32 c_ w_ ∧ () = s_ ∧ AT true (m + 1) c_ w_ qa8 [.string .empty] ∧ AT true (m + 2) c_ w_ qa15 [.slice none 0 0, .int .i64 0] ∧ AT true (m + 3) c_ w_ qa22 [.bool false]) (fun (s_ : ByteArray × (List Int) × Int) (c_ : Nat → Nat) (w_ : World) => Ev (fun x => False ∨ m ≤ x) c31 w32 c_ w_ ∧ ∃ (s79 : ByteArray), ∃ (l81 : List Int), ∃ (A82 : Option Addr), ∃ (C83 : Nat), ∃ (i84 : Int), (s79, l81, i84) = s_ ∧ AT true (m + 1) c_ w_ qa8 [.string s79] ∧ AT true (m + 2) c_ w_ qa15 [.slice A82 l81.length C83, .int .i64 i84] ∧ AT true (m + 3) c_ w_ qa22 [.bool true] ∧ SL false (Kint .u8) 0 0 c_ w_ A82 C83 l81) F rfl (by decide) (by decide) (by omega) (by omega) (by omega) (by omega) (by intro q; rcases q with q | q <;> first | exact q.elim | (replace q : False := q; omega) | (replace q : m ≤ 0 := q; omega)) B (fun _ _ _ h_ => h_.1) (fun _ _ _ h_ => h_.1) (fun s_ c1_ w1_ c2_ w2_ ⟨E_, e_, h10, h17, h24⟩ E2_ => ⟨E_.trans E2_ (fun x q => by show False ∨ m ≤ x; replace q : x = m + 5 := q; omega), e_, AT.ev h10 E2_ (by show ¬ (m + 1 = m + 5); omega), AT.ev h17 E2_ (by show ¬ (m + 2 = m + 5); omega), AT.ev h24 E2_ (by show ¬ (m + 3 = m + 5); omega)⟩) (fun s_ c1_ w1_ c2_ w2_ ⟨E_, s79, l81, A82, C83, i84, e_, h10, h17, h24, h80⟩ E2_ => ⟨E_.trans E2_ (fun x q => by show False ∨ m ≤ x; replace q : x = m + 5 := q; omega), s79, l81, A82, C83, i84, e_, AT.ev h10 E2_ (by show ¬ (m + 1 = m + 5); omega), AT.ev h17 E2_ (by show ¬ (m + 2 = m + 5); omega), AT.ev h24 E2_ (by show ¬ (m + 3 = m + 5); omega), SL.ev h80 E2_ (by show ¬ (0 = m + 5); omega) (by show ¬ (0 = m + 5); omega)⟩) () ⟨Ev.refl, rfl, h10, h17, h24⟩ x45 HL ?_ ?_ ?_
 ·intro bd40 lo41 rec42 s_ s48 v49 c38 w39 A50 C51 rr47 ⟨E, e_, h10, h17, h24⟩ B hb43 hl44 h52 Hg a F
  clear HL H
  subst e_
  have H : tree_Tree_Seek.b1 s48 v49 = some rr47 := Hg
  clear Hg
  unfold tree_Tree_Seek.b1 at H
  refine wpIn_seq_k fun K53 hK53 => ?_
  refine regR ?_
  refine q_val F rfl rfl (by decide) (r_assign F rfl) fun a F => ?_
  refine nil ?_
  refine hK53 _ _ ?_
  refine regR ?_
  refine q_eff F rfl rfl (by decide) (e_alloc F zv_66 c38 (m + 7)) ?_
  rintro v w55 a ⟨c54, qa56, rfl, E57, h58, B59⟩ F
  have B := B59 _ B (by omega)
  have h10 := AT.ev h10 E57 (fun q => q.elim)
  have h17 := AT.ev h17 E57 (fun q => q.elim)
  have h24 := AT.ev h24 E57 (fun q => q.elim)
  have h52 := SL.ev h52 E57 (fun q => q.elim) (fun q => q.elim)
  have hb43 := OBJ.ev hb43 E57 (fun q => q.elim)
  have hl44 := OBJ.ev hl44 E57 (fun q => q.elim)
  have E := E.trans E57 (fun x q => q.elim)
  have h58 : AT true (m + 7) c54 w55 qa56 [.slice none 0 0, .int .i64 0] := h58
  refine q_eff0 F rfl rfl (e_storeN0 (us := [.slice A50 v49.value.length C51, .int .i64 v49.rev]) F rfl rfl sz_66 h58 (Nat.le_of_ble_eq_true rfl) (one_all rfl)) ?_
  rintro w61 a ⟨E62, h58, Z63⟩ F
  have B := B.size Z63
  have h10 := AT.ev h10 E62 (by show ¬ (m + 1 = m + 7); omega)
  have h17 := AT.ev h17 E62 (by show ¬ (m + 2 = m + 7); omega)
  have h24 := AT.ev h24 E62 (by show ¬ (m + 3 = m + 7); omega)
  have h52 := SL.ev h52 E62 (by show ¬ (0 = m + 7); omega) (by show ¬ (0 = m + 7); omega)
  have hb43 := OBJ.ev hb43 E62 (by show ¬ (m + 6 = m + 7); omega)
  have hl44 := OBJ.ev hl44 E62 (by show ¬ (m + 5 = m + 7); omega)
  have E := E.trans E62 (fun x q => by replace q : x = m + 7 := q; show False ∨ m ≤ x; omega)
  have h58 : AT true (m + 7) c54 w61 qa56 [.slice A50 v49.value.length C51, .int .i64 v49.rev] := h58
  refine nil ?_
  refine thenN ?_
  refine ⟨c54, hl44, fun w64 E65 hl44 Z66 => ?_⟩
  have B := B.size Z66
  have h10 := AT.ev h10 E65 (by show ¬ (m + 1 = m + 5); omega)
  have h17 := AT.ev h17 E65 (by show ¬ (m + 2 = m + 5); omega)
  have h24 := AT.ev h24 E65 (by show ¬ (m + 3 = m + 5); omega)
  have h52 := SL.ev h52 E65 (by show ¬ (0 = m + 5); omega) (by show ¬ (0 = m + 5); omega)
  have hb43 := OBJ.ev hb43 E65 (by show ¬ (m + 6 = m + 5); omega)
  have h58 := AT.ev h58 E65 (by show ¬ (m + 7 = m + 5); omega)
  have E := E.trans E65 (fun x q => by replace q : x = m + 5 := q; show False ∨ m ≤ x; omega)
  refine wpIn_block ?_
  refine wpIn_seq_k fun K67 hK67 => ?_
  refine regDR (SB (fun x => x = m + 1 ∨ x = m + 2) c54 w64) 4 (.q 0 (.q 1 (.e 2 (.e 3 (.e 4 .nil))))) Try_hm (by decide +kernel) ?_
  intro w68 w1_ w2_ w3_ w4_
  have E69 : Ev No c54 w64 c54 w68 := Ev.same w1_ w2_ w3_ w4_
  have B := B.same w1_
  have zh10 := h10
  have zh17 := h17
  have zh24 := h24
  have zh52 := h52
  have zhb43 := hb43
  have zhl44 := hl44
  have zh58 := h58
  have ER : Ev (fun x => x = m + 1 ∨ x = m + 2) c54 w64 c54 w68 := Ev.same w1_ w2_ w3_ w4_
  have h10 := AT.ev h10 E69 (fun q => q.elim)
  have h17 := AT.ev h17 E69 (fun q => q.elim)
  have h24 := AT.ev h24 E69 (fun q => q.elim)
  have h52 := SL.ev h52 E69 (fun q => q.elim) (fun q => q.elim)
  have hb43 := OBJ.ev hb43 E69 (fun q => q.elim)
  have hl44 := OBJ.ev hl44 E69 (fun q => q.elim)
  have h58 := AT.ev h58 E69 (fun q => q.elim)
  have E := E.trans E69 (fun x q => q.elim)
  refine d_q F rfl rfl rfl (by decide) (fun wq hS => r_move F rfl) ER.sb fun a F => ?_
  refine d_q F rfl rfl rfl (by decide) (fun wq hS => r_loads (cs := [.slice A50 v49.value.length C51, .int .i64 v49.rev]) F rfl ag_66 sz_66 (AT.sb zh58 hS (by show ¬ (m + 7 = m + 1 ∨ m + 7 = m + 2); omega))) ER.sb fun a F => ?_
  refine d_e ?_
  refine o_eff0 F rfl rfl rfl (e_store0 F rfl rfl sz_9 h10 (Nat.le_of_ble_eq_true rfl) rfl) ?_
  rintro w70 a ⟨E71, h10, Z72⟩ F
  have B := B.size Z72
  have ER := ER.trans E71 (fun x q => by replace q : x = m + 1 := q; show x = m + 1 ∨ x = m + 2; omega)
  have h17 := AT.ev h17 E71 (by show ¬ (m + 2 = m + 1); omega)
  have h24 := AT.ev h24 E71 (by show ¬ (m + 3 = m + 1); omega)
  have h52 := SL.ev h52 E71 (by show ¬ (0 = m + 1); omega) (by show ¬ (0 = m + 1); omega)
  have hb43 := OBJ.ev hb43 E71 (by show ¬ (m + 6 = m + 1); omega)
  have hl44 := OBJ.ev hl44 E71 (by show ¬ (m + 5 = m + 1); omega)
  have h58 := AT.ev h58 E71 (by show ¬ (m + 7 = m + 1); omega)
  have E := E.trans E71 (fun x q => by replace q : x = m + 1 := q; show False ∨ m ≤ x; omega)
  have h10 : AT true (m + 1) c54 w70 qa8 [.string s48] := h10
  refine ⟨fun _ => ER.sb, ?_⟩
  refine d_e ?_
  refine o_eff0 F rfl rfl rfl (e_storeN0 (us := [.slice A50 v49.value.length C51, .int .i64 v49.rev]) F rfl rfl sz_66 h17 (Nat.le_of_ble_eq_true rfl) (one_all rfl)) ?_
  rintro w73 a ⟨E74, h17, Z75⟩ F
  have B := B.size Z75
  have ER := ER.trans E74 (fun x q => by replace q : x = m + 2 := q; show x = m + 1 ∨ x = m + 2; omega)
  have h10 := AT.ev h10 E74 (by show ¬ (m + 1 = m + 2); omega)
  have h24 := AT.ev h24 E74 (by show ¬ (m + 3 = m + 2); omega)
  have h52 := SL.ev h52 E74 (by show ¬ (0 = m + 2); omega) (by show ¬ (0 = m + 2); omega)
  have hb43 := OBJ.ev hb43 E74 (by show ¬ (m + 6 = m + 2); omega)
  have hl44 := OBJ.ev hl44 E74 (by show ¬ (m + 5 = m + 2); omega)
  have h58 := AT.ev h58 E74 (by show ¬ (m + 7 = m + 2); omega)
  have E := E.trans E74 (fun x q => by replace q : x = m + 2 := q; show False ∨ m ≤ x; omega)
  have h17 : AT true (m + 2) c54 w73 qa15 [.slice A50 v49.value.length C51, .int .i64 v49.rev] := h17
  refine ⟨fun _ => ER.sb, ?_⟩
  refine d_e ?_
  refine o_eff0 F rfl rfl rfl (e_store0 F rfl rfl sz_4 h24 (Nat.le_of_ble_eq_true rfl) rfl) ?_
  rintro w76 a ⟨E77, h24, Z78⟩ F
  have B := B.size Z78
  have h10 := AT.ev h10 E77 (by show ¬ (m + 1 = m + 3); omega)
  have h17 := AT.ev h17 E77 (by show ¬ (m + 2 = m + 3); omega)
  have h52 := SL.ev h52 E77 (by show ¬ (0 = m + 3); omega) (by show ¬ (0 = m + 3); omega)
  have hb43 := OBJ.ev hb43 E77 (by show ¬ (m + 6 = m + 3); omega)
  have hl44 := OBJ.ev hl44 E77 (by show ¬ (m + 5 = m + 3); omega)
  have h58 := AT.ev h58 E77 (by show ¬ (m + 7 = m + 3); omega)
  have E := E.trans E77 (fun x q => by replace q : x = m + 3 := q; show False ∨ m ≤ x; omega)
  have h24 : AT true (m + 3) c54 w76 qa22 [.bool true] := h24
  refine ⟨fun q => absurd rfl q, ?_⟩
  refine d_nil ?_
  refine hK67 _ _ ?_
  refine wpIn_ret ?_
  refine inbR ?_
  have hr_ := Option.some.inj H
  subst hr_
  refine REr c54 hl44 ?_
  exact ⟨rfl, ⟨E, s48, v49.value, A50, C51, v49.rev, rfl, h10, h17, h24, h52⟩, B, hb43⟩
 ·intro s_ hx89 c85 w86 bd87 ⟨E90, e_, h10, h17, h24⟩ B hb88 a F
  subst e_
  rw [hx89] at HR46
  have H : tree_Tree_Seek.j2 = some r := HR46
  unfold tree_Tree_Seek.j2 at H
  have E := E.trans E90 (fun _ q => q)
  refine hK27 _ _ ?_
  refine wp_seq_k fun K100 hK100 => ?_
  refine regD (SB (fun x => x = m + 1 ∨ x = m + 2) c85 w86) 4 (.f 0 (.f 1 (.e 2 (.e 3 (.e 4 .nil))) 2 (.e 1 (.e 3 (.e 4 .nil)))) 1 (.e 0 (.e 2 (.e 3 (.e 4 .nil))))) Try_hm (by decide +kernel) ?_
  intro w105 w1_ w2_ w3_ w4_
  have E106 : Ev No c85 w86 c85 w105 := Ev.same w1_ w2_ w3_ w4_
  have B := B.same w1_
  have zh10 := h10
  have zh17 := h17
  have zh24 := h24
  have zhb88 := hb88
  have ER : Ev (fun x => x = m + 1 ∨ x = m + 2) c85 w86 c85 w105 := Ev.same w1_ w2_ w3_ w4_
  have h10 := AT.ev h10 E106 (fun q => q.elim)
  have h17 := AT.ev h17 E106 (fun q => q.elim)
  have h24 := AT.ev h24 E106 (fun q => q.elim)
  have hb88 := OBJ.ev hb88 E106 (fun q => q.elim)
  have E := E.trans E106 (fun x q => q.elim)
  refine d_f ?_ ?_
  ·refine o_val F rfl rfl rfl (by decide) (r_load F rfl ag_9 (AT.cell0 h10 rfl)) fun a F => ?_
   refine ⟨fun _ => ER.sb, ?_⟩
   refine d_f ?_ ?_
   ·refine o_val F rfl rfl rfl (by decide) (r_loads (cs := [.slice none 0 0, .int .i64 0]) F rfl ag_66 sz_66 h17) fun a F => ?_
    refine ⟨fun _ => ER.sb, ?_⟩
    refine d_e ?_
    refine o_eff0 F rfl rfl rfl (e_store0 F rfl rfl sz_9 h10 (Nat.le_of_ble_eq_true rfl) rfl) ?_
    rintro w107 a ⟨E108, h10, Z109⟩ F
    have B := B.size Z109
    have ER := ER.trans E108 (fun x q => by replace q : x = m + 1 := q; show x = m + 1 ∨ x = m + 2; omega)
    have h17 := AT.ev h17 E108 (by show ¬ (m + 2 = m + 1); omega)
    have h24 := AT.ev h24 E108 (by show ¬ (m + 3 = m + 1); omega)
    have hb88 := OBJ.ev hb88 E108 (by show ¬ (m + 6 = m + 1); omega)
    have E := E.trans E108 (fun x q => by replace q : x = m + 1 := q; show False ∨ m ≤ x; omega)
    have h10 : AT true (m + 1) c85 w107 qa8 [.string .empty] := h10
    refine ⟨fun _ => ER.sb, ?_⟩
    refine d_e ?_
    refine o_eff0 F rfl rfl rfl (e_storeN0 (us := [.slice none 0 0, .int .i64 0]) F rfl rfl sz_66 h17 (Nat.le_of_ble_eq_true rfl) (one_all rfl)) ?_
    rintro w110 a ⟨E111, h17, Z112⟩ F
    have B := B.size Z112
    have ER := ER.trans E111 (fun x q => by replace q : x = m + 2 := q; show x = m + 1 ∨ x = m + 2; omega)
    have h10 := AT.ev h10 E111 (by show ¬ (m + 1 = m + 2); omega)
    have h24 := AT.ev h24 E111 (by show ¬ (m + 3 = m + 2); omega)
    have hb88 := OBJ.ev hb88 E111 (by show ¬ (m + 6 = m + 2); omega)
    have E := E.trans E111 (fun x q => by replace q : x = m + 2 := q; show False ∨ m ≤ x; omega)
    have h17 : AT true (m + 2) c85 w110 qa15 [.slice none 0 0, .int .i64 0] := h17
    refine ⟨fun _ => ER.sb, ?_⟩
    refine d_e ?_
    refine o_eff0 F rfl rfl rfl (e_store0 F rfl rfl sz_4 h24 (Nat.le_of_ble_eq_true rfl) rfl) ?_
    rintro w113 a ⟨E114, h24, Z115⟩ F
    have B := B.size Z115
    have h10 := AT.ev h10 E114 (by show ¬ (m + 1 = m + 3); omega)
    have h17 := AT.ev h17 E114 (by show ¬ (m + 2 = m + 3); omega)
    have hb88 := OBJ.ev hb88 E114 (by show ¬ (m + 6 = m + 3); omega)
    have E := E.trans E114 (fun x q => by replace q : x = m + 3 := q; show False ∨ m ≤ x; omega)
    have h24 : AT true (m + 3) c85 w113 qa22 [.bool false] := h24
    refine ⟨fun q => absurd rfl q, ?_⟩
    refine d_nil ?_
    refine hK100 _ _ ?_
    refine wp_ret ?_
    refine outM ?_
    refine endM F hb88 fun w134 E135 Z136 a F => ?_
    have B := B.size Z136
    have h10 := AT.ev h10 E135 (by show ¬ (m + 1 = m + 6); omega)
    have h17 := AT.ev h17 E135 (by show ¬ (m + 2 = m + 6); omega)
    have h24 := AT.ev h24 E135 (by show ¬ (m + 3 = m + 6); omega)
    have E := E.trans E135 (fun x q => by replace q : x = m + 6 := q; show False ∨ m ≤ x; omega)
    refine endM0 F ?_
    have H := Option.some.inj H
    subst H
    refine outR3 F rfl ⟨_, rfl, lv_one ag_9 (AT.cell0 h10 rfl)⟩ ⟨_, rfl, lv_agg (cs := [.slice none 0 0, .int .i64 0]) ag_66 sz_66 h17⟩ ⟨_, rfl, lv_one ag_4 (AT.cell0 h24 rfl)⟩ ?_
    exact ⟨fun b_ => (fun x_ => if x_ < m then x_ else 0) (c85 b_), none, 0, rfl, E.leave B0 (fun x_ => if x_ < m then x_ else 0) (by intro x_ hx_; show (if x_ < m then x_ else 0) = x_; ((repeat' split) <;> omega)), (fun b_ hb_ => by show (if (c85 b_) < m then (c85 b_) else 0) < m; ((repeat' split) <;> omega)), SL.nil⟩
   ·refine o_eff0 F rfl rfl rfl (e_store0 F rfl rfl sz_9 h10 (Nat.le_of_ble_eq_true rfl) rfl) ?_
    rintro w116 a ⟨E117, h10, Z118⟩ F
    have B := B.size Z118
    have ER := ER.trans E117 (fun x q => by replace q : x = m + 1 := q; show x = m + 1 ∨ x = m + 2; omega)
    have h17 := AT.ev h17 E117 (by show ¬ (m + 2 = m + 1); omega)
    have h24 := AT.ev h24 E117 (by show ¬ (m + 3 = m + 1); omega)
    have hb88 := OBJ.ev hb88 E117 (by show ¬ (m + 6 = m + 1); omega)
    have E := E.trans E117 (fun x q => by replace q : x = m + 1 := q; show False ∨ m ≤ x; omega)
    have h10 : AT true (m + 1) c85 w116 qa8 [.string .empty] := h10
    refine ⟨fun _ => ER.sb, ?_⟩
    refine d_e ?_
    refine o_val F rfl rfl rfl (by decide) (r_loads (cs := [.slice none 0 0, .int .i64 0]) F rfl ag_66 sz_66 h17) fun a F => ?_
    refine ⟨fun _ => ER.sb, ?_⟩
    refine d_e ?_
    refine o_eff0 F rfl rfl rfl (e_storeN0 (us := [.slice none 0 0, .int .i64 0]) F rfl rfl sz_66 h17 (Nat.le_of_ble_eq_true rfl) (one_all rfl)) ?_
    rintro w119 a ⟨E120, h17, Z121⟩ F
    have B := B.size Z121
    have ER := ER.trans E120 (fun x q => by replace q : x = m + 2 := q; show x = m + 1 ∨ x = m + 2; omega)
    have h10 := AT.ev h10 E120 (by show ¬ (m + 1 = m + 2); omega)
    have h24 := AT.ev h24 E120 (by show ¬ (m + 3 = m + 2); omega)
    have hb88 := OBJ.ev hb88 E120 (by show ¬ (m + 6 = m + 2); omega)
    have E := E.trans E120 (fun x q => by replace q : x = m + 2 := q; show False ∨ m ≤ x; omega)
    have h17 : AT true (m + 2) c85 w119 qa15 [.slice none 0 0, .int .i64 0] := h17
    refine ⟨fun _ => ER.sb, ?_⟩
    refine d_e ?_
    refine o_eff0 F rfl rfl rfl (e_store0 F rfl rfl sz_4 h24 (Nat.le_of_ble_eq_true rfl) rfl) ?_
    rintro w122 a ⟨E123, h24, Z124⟩ F
    have B := B.size Z124
    have h10 := AT.ev h10 E123 (by show ¬ (m + 1 = m + 3); omega)
    have h17 := AT.ev h17 E123 (by show ¬ (m + 2 = m + 3); omega)
    have hb88 := OBJ.ev hb88 E123 (by show ¬ (m + 6 = m + 3); omega)
    have E := E.trans E123 (fun x q => by replace q : x = m + 3 := q; show False ∨ m ≤ x; omega)
    have h24 : AT true (m + 3) c85 w122 qa22 [.bool false] := h24
    refine ⟨fun q => absurd rfl q, ?_⟩
    refine d_nil ?_
    refine hK100 _ _ ?_
    refine wp_ret ?_
    refine outM ?_
    refine endM F hb88 fun w137 E138 Z139 a F => ?_
    have B := B.size Z139
    have h10 := AT.ev h10 E138 (by show ¬ (m + 1 = m + 6); omega)
    have h17 := AT.ev h17 E138 (by show ¬ (m + 2 = m + 6); omega)
    have h24 := AT.ev h24 E138 (by show ¬ (m + 3 = m + 6); omega)
    have E := E.trans E138 (fun x q => by replace q : x = m + 6 := q; show False ∨ m ≤ x; omega)
    refine endM0 F ?_
    have H := Option.some.inj H
    subst H
    refine outR3 F rfl ⟨_, rfl, lv_one ag_9 (AT.cell0 h10 rfl)⟩ ⟨_, rfl, lv_agg (cs := [.slice none 0 0, .int .i64 0]) ag_66 sz_66 h17⟩ ⟨_, rfl, lv_one ag_4 (AT.cell0 h24 rfl)⟩ ?_
    exact ⟨fun b_ => (fun x_ => if x_ < m then x_ else 0) (c85 b_), none, 0, rfl, E.leave B0 (fun x_ => if x_ < m then x_ else 0) (by intro x_ hx_; show (if x_ < m then x_ else 0) = x_; ((repeat' split) <;> omega)), (fun b_ hb_ => by show (if (c85 b_) < m then (c85 b_) else 0) < m; ((repeat' split) <;> omega)), SL.nil⟩
  ·refine o_val F rfl rfl rfl (by decide) (r_loads (cs := [.slice none 0 0, .int .i64 0]) F rfl ag_66 sz_66 h17) fun a F => ?_
   refine ⟨fun _ => ER.sb, ?_⟩
   refine d_e ?_
   refine o_val F rfl rfl rfl (by decide) (r_load F rfl ag_9 (AT.cell0 h10 rfl)) fun a F => ?_
   refine ⟨fun _ => ER.sb, ?_⟩
   refine d_e ?_
   refine o_eff0 F rfl rfl rfl (e_store0 F rfl rfl sz_9 h10 (Nat.le_of_ble_eq_true rfl) rfl) ?_
   rintro w125 a ⟨E126, h10, Z127⟩ F
   have B := B.size Z127
   have ER := ER.trans E126 (fun x q => by replace q : x = m + 1 := q; show x = m + 1 ∨ x = m + 2; omega)
   have h17 := AT.ev h17 E126 (by show ¬ (m + 2 = m + 1); omega)
   have h24 := AT.ev h24 E126 (by show ¬ (m + 3 = m + 1); omega)
   have hb88 := OBJ.ev hb88 E126 (by show ¬ (m + 6 = m + 1); omega)
   have E := E.trans E126 (fun x q => by replace q : x = m + 1 := q; show False ∨ m ≤ x; omega)
   have h10 : AT true (m + 1) c85 w125 qa8 [.string .empty] := h10
   refine ⟨fun _ => ER.sb, ?_⟩
   refine d_e ?_
   refine o_eff0 F rfl rfl rfl (e_storeN0 (us := [.slice none 0 0, .int .i64 0]) F rfl rfl sz_66 h17 (Nat.le_of_ble_eq_true rfl) (one_all rfl)) ?_
   rintro w128 a ⟨E129, h17, Z130⟩ F
   have B := B.size Z130
   have ER := ER.trans E129 (fun x q => by replace q : x = m + 2 := q; show x = m + 1 ∨ x = m + 2; omega)
   have h10 := AT.ev h10 E129 (by show ¬ (m + 1 = m + 2); omega)
   have h24 := AT.ev h24 E129 (by show ¬ (m + 3 = m + 2); omega)
   have hb88 := OBJ.ev hb88 E129 (by show ¬ (m + 6 = m + 2); omega)
   have E := E.trans E129 (fun x q => by replace q : x = m + 2 := q; show False ∨ m ≤ x; omega)
   have h17 : AT true (m + 2) c85 w128 qa15 [.slice none 0 0, .int .i64 0] := h17
   refine ⟨fun _ => ER.sb, ?_⟩
   refine d_e ?_
   refine o_eff0 F rfl rfl rfl (e_store0 F rfl rfl sz_4 h24 (Nat.le_of_ble_eq_true rfl) rfl) ?_
   rintro w131 a ⟨E132, h24, Z133⟩ F
   have B := B.size Z133
   have h10 := AT.ev h10 E132 (by show ¬ (m + 1 = m + 3); omega)
   have h17 := AT.ev h17 E132 (by show ¬ (m + 2 = m + 3); omega)
   have hb88 := OBJ.ev hb88 E132 (by show ¬ (m + 6 = m + 3); omega)
   have E := E.trans E132 (fun x q => by replace q : x = m + 3 := q; show False ∨ m ≤ x; omega)
   have h24 : AT true (m + 3) c85 w131 qa22 [.bool false] := h24
   refine ⟨fun q => absurd rfl q, ?_⟩
   refine d_nil ?_
   refine hK100 _ _ ?_
   refine wp_ret ?_
   refine outM ?_
   refine endM F hb88 fun w140 E141 Z142 a F => ?_
   have B := B.size Z142
   have h10 := AT.ev h10 E141 (by show ¬ (m + 1 = m + 6); omega)
   have h17 := AT.ev h17 E141 (by show ¬ (m + 2 = m + 6); omega)
   have h24 := AT.ev h24 E141 (by show ¬ (m + 3 = m + 6); omega)
   have E := E.trans E141 (fun x q => by replace q : x = m + 6 := q; show False ∨ m ≤ x; omega)
   refine endM0 F ?_
   have H := Option.some.inj H
   subst H
   refine outR3 F rfl ⟨_, rfl, lv_one ag_9 (AT.cell0 h10 rfl)⟩ ⟨_, rfl, lv_agg (cs := [.slice none 0 0, .int .i64 0]) ag_66 sz_66 h17⟩ ⟨_, rfl, lv_one ag_4 (AT.cell0 h24 rfl)⟩ ?_
   exact ⟨fun b_ => (fun x_ => if x_ < m then x_ else 0) (c85 b_), none, 0, rfl, E.leave B0 (fun x_ => if x_ < m then x_ else 0) (by intro x_ hx_; show (if x_ < m then x_ else 0) = x_; ((repeat' split) <;> omega)), (fun b_ hb_ => by show (if (c85 b_) < m then (c85 b_) else 0) < m; ((repeat' split) <;> omega)), SL.nil⟩
 ·intro s_ hx95 c91 w92 bd93 ⟨E96, s79, l81, A82, C83, i84, e_, h10, h17, h24, h80⟩ B hb94 a F
  subst e_
  rw [hx95] at HR46
  have H : tree_Tree_Seek.j3 s79 l81 i84 = some r := HR46
  unfold tree_Tree_Seek.j3 at H
  have E := E.trans E96 (fun _ q => q)
  refine inbR ?_
  refine thenR ?_
  refine outM ?_
  refine endM F hb94 fun w97 E98 Z99 a F => ?_
  have B := B.size Z99
  have h10 := AT.ev h10 E98 (by show ¬ (m + 1 = m + 6); omega)
  have h17 := AT.ev h17 E98 (by show ¬ (m + 2 = m + 6); omega)
  have h24 := AT.ev h24 E98 (by show ¬ (m + 3 = m + 6); omega)
  have h80 := SL.ev h80 E98 (by show ¬ (0 = m + 6); omega) (by show ¬ (0 = m + 6); omega)
  have E := E.trans E98 (fun x q => by replace q : x = m + 6 := q; show False ∨ m ≤ x; omega)
  refine endM0 F ?_
  have H := Option.some.inj H
  subst H
  refine outR3 F rfl ⟨_, rfl, lv_one ag_9 (AT.cell0 h10 rfl)⟩ ⟨_, rfl, lv_agg (cs := [.slice A82 l81.length C83, .int .i64 i84]) ag_66 sz_66 h17⟩ ⟨_, rfl, lv_one ag_4 (AT.cell0 h24 rfl)⟩ ?_
  exact ⟨fun b_ => (fun x_ => if x_ < m then x_ else 0) (c91 b_), A82, C83, rfl, E.leave B0 (fun x_ => if x_ < m then x_ else 0) (by intro x_ hx_; show (if x_ < m then x_ else 0) = x_; ((repeat' split) <;> omega)), (fun b_ hb_ => by show (if (c91 b_) < m then (c91 b_) else 0) < m; ((repeat' split) <;> omega)), SL.rc h80 (fun k_ hk_ => by show (if (c91 k_) < m then (c91 k_) else 0) = _; rw [hk_]; ((repeat' split) <;> omega)) (fun k_ hk_ => by show (if (c91 k_) < m then (c91 k_) else 0) = _; rw [hk_]; ((repeat' split) <;> omega))⟩
end Go.Proofs.Ytcolmmjcdlmcoaa.G
namespace Go.Proofs.Ytcolmmjcdlmcoaa.G
open Go Go.RowKit
set_option linter.unusedVariables false
set_option linter.unusedSimpArgs false
set_option maxRecDepth 100000 in
set_option maxHeartbeats 4000000 in
theorem table_New.calls {m : Nat} {c0 : Nat → Nat} {w0 : World} (hm0 : 0 < m) (B0 : CB m c0 w0) (jr20 : Nat) (bjr20 : jr20 < m) (r : (Option Tab)) (H : table_New.f = some r) : Calls Try.prog 21 #[] w0 (fun e w_ => ∃ (c_ : Nat → Nat) (P0_ : Option Addr), e = .returned (.pointer P0_) ∧ Ev (fun x => False) c0 w0 c_ w_ ∧ CB m c_ w_ ∧ TB jr20 c_ w_ P0_ r) := by
 unfold table_New.f at H
 have B := B0.mono (show m ≤ m + 2 by omega)
 have E : Ev (fun x => False ∨ m ≤ x) c0 w0 c0 w0 := Ev.refl
 refine enter (N := 4) (l := []) Try.func21 rfl rfl (Nat.le_of_ble_eq_true rfl) fun a F => ?_
 refine wp_seq_k fun K1 hK1 => ?_
 refine reg ?_
 refine q_val F rfl rfl (by decide) (r_assign F rfl) fun a F => ?_
 refine nil ?_
 refine hK1 _ _ ?_
 refine wp_seq_k fun K2 hK2 => ?_
 refine reg ?_
 obtain ⟨t3, q4, H⟩ := bind_some H
 refine q_call F rfl rfl (by decide) (r_call F Try.func50 rfl (by kernel_rfl) rfl) (tree_New.calls (m := m + 2) (by omega) B _ q4) ?_
 rintro e w6 ⟨c5, p9, rfl, E7, B8, h10⟩
 refine ⟨_, rfl, fun a F => ?_⟩
 have B := B8
 have E := E.trans E7 (fun x q => q.elim)
 refine q_val F rfl rfl (by decide) (r_build (v := .agg #[.pointer p9, .int .i64 0, .int .i64 0]) F [(0, .pointer p9)] (by exact ⟨rfl, rfl, trivial⟩) (fun w => by kernel_rfl)) fun a F => ?_
 refine q_eff F rfl rfl (by decide) (e_box F (v := .agg #[.pointer p9, .int .i64 0, .int .i64 0]) rfl c5 (m + 1)) ?_
 rintro v w13 a ⟨c12, qa14, rfl, E15, h16, B17⟩ F
 have B := B17 _ B (by omega)
 have h10 := TR.ev h10 E15 (fun q => q.elim) (fun q => q.elim)
 have E := E.trans E15 (fun x q => q.elim)
 have h16 : AT true (m + 1) c12 w13 qa14 [.pointer p9, .int .i64 0, .int .i64 0] := h16
 refine q_val F rfl rfl (by decide) (r_assign F rfl) fun a F => ?_
 refine nil ?_
 refine hK2 _ _ ?_
 refine wp_ret ?_
 have h19 : TB (m + 1) c12 w13 (some qa14) (some (Tab.mk t3 0 0)) := TB.mk h16 h10
 have H := Option.some.inj H
 subst H
 refine out1 F rfl rfl ?_
 exact ⟨fun b_ => (fun x_ => if x_ = m + 1 then jr20 else if x_ < m then x_ else 0) (c12 b_), (some qa14), rfl, E.leave B0 (fun x_ => if x_ = m + 1 then jr20 else if x_ < m then x_ else 0) (by intro x_ hx_; show (if x_ = m + 1 then jr20 else if x_ < m then x_ else 0) = x_; ((repeat' split) <;> omega)), (fun b_ hb_ => by show (if (c12 b_) = m + 1 then jr20 else if (c12 b_) < m then (c12 b_) else 0) < m; ((repeat' split) <;> omega)), TB.rc h19 (fun k_ hk_ => by show (if (c12 k_) = m + 1 then jr20 else if (c12 k_) < m then (c12 k_) else 0) = _; rw [hk_]; ((repeat' split) <;> omega)) (fun k_ hk_ => by show (if (c12 k_) = m + 1 then jr20 else if (c12 k_) < m then (c12 k_) else 0) = _; rw [hk_]; ((repeat' split) <;> omega))⟩
end Go.Proofs.Ytcolmmjcdlmcoaa.G
