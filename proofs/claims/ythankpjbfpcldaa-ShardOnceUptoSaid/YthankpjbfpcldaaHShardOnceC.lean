/- Words, contracts and plain laws on which the row of 'ShardOnce' hangs (its '..UptoSaid': inputs of bulk at most 1048576). -/
import Derived.Test.YthankpjbfpcldaaHShardOnceB
namespace Go.Proofs.Ythankpjbfpcldaa.G
open Go Go.RowKit
set_option linter.unusedVariables false
set_option linter.unusedSimpArgs false
set_option maxRecDepth 100000
set_option maxHeartbeats 40000000
theorem tree_join.calls (k : Nat) : ∀ {m : Nat} {c0 : Nat → Nat} {w0 : World} {p2 : Option Addr} {A6 : Option Addr} {C7 : Nat} {p10 : Option Addr} {a1 : Tr} {a4 : ByteArray} {a5 : table_cell} {a9 : Tr} (hm0 : 0 < m) (B0 : CB m c0 w0) (h3 : TR 0 c0 w0 p2 a1) (h8 : SL false (Kint .u8) 0 0 c0 w0 A6 C7 a5.value) (h11 : TR 0 c0 w0 p10 a9) (r : Tr) (H : tree_join.f k a1 a4 a5 a9 = some r), Calls Try.prog 87 #[.pointer p2, .string a4, .agg #[.slice A6 a5.value.length C7, .int .i64 a5.rev], .pointer p10] w0 (fun e w_ => ∃ (c_ : Nat → Nat) (P0_ : Option Addr), e = .returned (.pointer P0_) ∧ Ev (fun x => False) c0 w0 c_ w_ ∧ CB m c_ w_ ∧ TR 0 c_ w_ P0_ r) := by
 induction k with
 | zero => intro m c0 w0 p2 A6 C7 p10 a1 a4 a5 a9 hm0 B0 h3 h8 h11 r H; exact absurd H (by simp [tree_join.f])
 | succ k ih =>
  intro m c0 w0 p2 A6 C7 p10 a1 a4 a5 a9 hm0 B0 h3 h8 h11 r H
  unfold tree_join.f at H
  have B := B0.mono (show m ≤ m + 2 by omega)
  have E : Ev (fun x => False ∨ m ≤ x) c0 w0 c0 w0 := Ev.refl
  refine enter (N := 152) (l := [.pointer p2, .string a4, .agg #[.slice A6 a5.value.length C7, .int .i64 a5.rev], .pointer p10]) Try.func87 rfl rfl (nb rfl) fun a F => ?_
  refine wp_seq_k fun K12 hK12 => reg ?_
  refine q_eff F rfl rfl (by decide) (e_box F (v := .agg #[.slice A6 a5.value.length C7, .int .i64 a5.rev]) rfl c0 (m + 1)) ?_
  rintro v w14 a ⟨c13, qa15, rfl, E16, h17, B18⟩ F
  replace B := B18 _ B lm
  replace h3 := h3.ev E16 nq nq
  replace h8 := h8.ev E16 nq nq
  replace h11 := h11.ev E16 nq nq
  replace E := E.trans E16 nx
  replace h17 : AT true (m + 1) c13 w14 qa15 [.slice A6 a5.value.length C7, .int .i64 a5.rev] := h17
  refine qa F fun a F => ?_
  refine nil (hK12 _ _ ?_)
  refine wp_seq_k fun K20 hK20 => ?_
  refine wp_block ?_
  as_aux_lemma =>
  refine wp_seq_k fun K21 hK21 => reg ?_
  refine qm F fun a F => ?_
  obtain ⟨t22, q23, H⟩ := bind_some H
  refine qc F Try.func96 (tree_Tree_Depth.calls (m := m + 2) (pl hm0) B h3 _ q23) ?_
  rintro e w25 ⟨c24, rfl, E26, B27⟩
  refine ⟨_, rfl, fun a F => ?_⟩
  have B := B27
  replace h3 := h3.ev E26 nq nq
  replace h8 := h8.ev E26 nq nq
  replace h11 := h11.ev E26 nq nq
  replace h17 := h17.ev E26 nq
  replace E := E.trans E26 nx
  refine qm F fun a F => ?_
  obtain ⟨t29, q30, H⟩ := bind_some H
  refine qc F Try.func96 (tree_Tree_Depth.calls (m := m + 2) (pl hm0) B h11 _ q30) ?_
  rintro e w32 ⟨c31, rfl, E33, B34⟩
  refine ⟨_, rfl, fun a F => ?_⟩
  have B := B34
  replace h3 := h3.ev E33 nq nq
  replace h8 := h8.ev E33 nq nq
  replace h11 := h11.ev E33 nq nq
  replace h17 := h17.ev E33 nq
  as_aux_lemma =>
  replace E := E.trans E33 nx
  refine qv F (r_add F rfl rfl) fun a F => ?_
  refine qv F (r_gtr F rfl rfl) fun a F => ?_
  refine qa F fun a F => ?_
  refine nil (hK21 _ _ ?_)
  replace F : Fr a 152 [(0, .pointer p2), (1, .string a4), (3, .pointer p10), (6, .pointer (some qa15)), (11, .bool (decide ((IntKind.i64.wrap (t29 + 1)) < t22)))] := F.sub ⟨rfl, rfl, rfl, rfl, rfl, trivial⟩
  by_cases hb36 : (IntKind.i64.wrap (t29 + 1)) < t22
  ·replace H := ip hb36 H
   refine wp_cond_true (fb F (dt hb36)) ?_
   refine wp_seq_k fun K37 hK37 => ?_
   refine regD (SB No c31 w32) 9 (.q 0 (.q 1 (.q 2 (.q 3 (.q 4 (.q 5 (.q 6 (.e 7 (.q 8 .nil))))))))) Try_hm (by decide +kernel) ?_
   intro w38 w1_ w2_ w3_ w4_
   have E39 : Ev No c31 w32 c31 w38 := Ev.same w1_ w2_ w3_ w4_
   replace B := B.same w1_
   have zh3 := h3
   have zh17 := h17
   have ER : Ev No c31 w32 c31 w38 := Ev.same w1_ w2_ w3_ w4_
   replace h8 := h8.ev E39 nq nq
   replace h11 := h11.ev E39 nq nq
   replace E := E.trans E39 nx
   refine dm F ER.sb fun a F => ?_
   replace H := cs_some H
   obtain ⟨tl40, tr41, tk42, tv43, ts44, td45, e46, H⟩ := H
   have z47 := zh3
   rw [e46] at z47
   obtain ⟨ad51, lp52, rp53, A48, C49, rfl, hat54, h50, hl55, hr56⟩ := TR.node z47
   as_aux_lemma =>
   replace h50 := h50.ev ER nq nq
   replace hl55 := hl55.ev ER nq nq
   replace hr56 := hr56.ev ER nq nq
   have zhat54 := hat54
   replace hat54 := hat54.ev ER nq
   refine dq F (fun wq hS => r_nil F rfl) ER.sb fun a F => ?_
   refine df F ff_112_1 ER.sb fun a F => ?_
   refine dq F (fun wq hS => r_load F rfl ag_77 (AT.cell (AT.sb zhat54 hS nq) rfl)) ER.sb fun a F => ?_
   refine dm F ER.sb fun a F => ?_
   refine dq F (fun wq hS => r_loads (cs := [.slice A6 a5.value.length C7, .int .i64 a5.rev]) F rfl ag_80 sz_80 (AT.sb zh17 hS nq)) ER.sb fun a F => ?_
   refine dm F ER.sb fun a F => ?_
   refine d_e ?_
   obtain ⟨t58, q59, H⟩ := bind_some H
   refine oc F Try.func87 (ih (m := m + 2) (pl hm0) B hr56 h8 h11 _ q59) ?_
   rintro e w61 ⟨c60, p64, rfl, E62, B63, h65⟩
   refine ⟨_, rfl, fun a F => ?_⟩
   have B := B63
   replace ER := ER.trans E62 nx
   replace h50 := h50.ev E62 nq nq
   replace hl55 := hl55.ev E62 nq nq
   replace hat54 := hat54.ev E62 nq
   replace E := E.trans E62 nx
   as_aux_lemma =>
   refine ⟨fun _ => ER.sb, ?_⟩
   refine da F ER.sb fun a F => ?_
   refine d_nil ?_
   refine hK37 _ _ ?_
   replace F : Fr a 152 [(0, .pointer (some ad51)), (9, .pointer p64)] := F.sub ⟨rfl, rfl, trivial⟩
   refine wp_seq_k fun K67 hK67 => ?_
   refine wp_seq_k fun K68 hK68 => ?_
   refine regD (SB No c60 w61) 11 (.q 0 (.q 1 (.q 2 (.q 3 (.q 4 (.q 5 (.q 6 (.q 7 (.e 8 (.q 9 (.q 10 .nil))))))))))) Try_hm (by decide +kernel) ?_
   intro w69 w1_ w2_ w3_ w4_
   have E70 : Ev No c60 w61 c60 w69 := Ev.same w1_ w2_ w3_ w4_
   replace B := B.same w1_
   have zhat54 := hat54
   have zh65 := h65
   have ER : Ev No c60 w61 c60 w69 := Ev.same w1_ w2_ w3_ w4_
   replace h50 := h50.ev E70 nq nq
   replace hl55 := hl55.ev E70 nq nq
   replace hat54 := hat54.ev E70 nq
   replace h65 := h65.ev E70 nq nq
   replace E := E.trans E70 nx
   refine dm F ER.sb fun a F => ?_
   replace H := cs_some H
   obtain ⟨tl71, tr72, tk73, tv74, ts75, td76, e77, H⟩ := H
   have z78 := zh65
   rw [e77] at z78
   obtain ⟨ad82, lp83, rp84, A79, C80, rfl, hat85, h81, hl86, hr87⟩ := TR.node z78
   as_aux_lemma =>
   replace hl86 := hl86.ev ER nq nq
   replace hr87 := hr87.ev ER nq nq
   have zhat85 := hat85
   replace hat85 := hat85.ev ER nq
   refine dq F (fun wq hS => r_nil F rfl) ER.sb fun a F => ?_
   refine df F ff_112_5 ER.sb fun a F => ?_
   refine dq F (fun wq hS => r_load F rfl ag_3 (AT.cell (AT.sb zhat85 hS nq) rfl)) ER.sb fun a F => ?_
   refine dm F ER.sb fun a F => ?_
   refine dq F (fun wq hS => r_nil F rfl) ER.sb fun a F => ?_
   refine df F ff_112_0 ER.sb fun a F => ?_
   refine dq F (fun wq hS => r_load F rfl ag_77 (AT.cell (AT.sb zhat54 hS nq) rfl)) ER.sb fun a F => ?_
   refine d_e ?_
   obtain ⟨t89, q90, H⟩ := bind_some H
   refine oc F Try.func96 (tree_Tree_Depth.calls (m := m + 2) (pl hm0) B hl55 _ q90) ?_
   rintro e w92 ⟨c91, rfl, E93, B94⟩
   refine ⟨_, rfl, fun a F => ?_⟩
   have B := B94
   replace ER := ER.trans E93 nx
   replace h50 := h50.ev E93 nq nq
   replace hl55 := hl55.ev E93 nq nq
   replace hat54 := hat54.ev E93 nq
   replace h65 := h65.ev E93 nq nq
   as_aux_lemma =>
   replace hl86 := hl86.ev E93 nq nq
   replace hr87 := hr87.ev E93 nq nq
   replace hat85 := hat85.ev E93 nq
   replace E := E.trans E93 nx
   refine ⟨fun _ => ER.sb, ?_⟩
   refine dq F (fun wq hS => r_add F rfl rfl) ER.sb fun a F => ?_
   refine dq F (fun wq hS => r_gtr F rfl rfl) ER.sb fun a F => ?_
   refine d_nil ?_
   refine hK68 _ _ ?_
   replace F : Fr a 152 [(0, .pointer (some ad51)), (9, .pointer (some ad82)), (36, .bool (decide ((IntKind.i64.wrap (t89 + 1)) < td76)))] := F.sub ⟨rfl, rfl, rfl, trivial⟩
   by_cases hb96 : (IntKind.i64.wrap (t89 + 1)) < td76
   ·replace H := ip hb96 H
    refine wp_cond_true (fb F (dt hb96)) ?_
    refine wp_seq_k fun K97 hK97 => ?_
    refine wp_seq_k fun K98 hK98 => ?_
    refine regD (SB No c91 w92) 11 (.q 0 (.q 1 (.q 2 (.q 3 (.q 5 (.q 6 (.q 7 (.q 8 (.e 4 (.e 9 (.q 10 .nil))))))))))) Try_hm (by decide +kernel) ?_
    intro w99 w1_ w2_ w3_ w4_
    have E100 : Ev No c91 w92 c91 w99 := Ev.same w1_ w2_ w3_ w4_
    replace B := B.same w1_
    have zhat54 := hat54
    have zhat85 := hat85
    have ER : Ev No c91 w92 c91 w99 := Ev.same w1_ w2_ w3_ w4_
    replace h50 := h50.ev E100 nq nq
    as_aux_lemma =>
    replace hl55 := hl55.ev E100 nq nq
    replace hat54 := hat54.ev E100 nq
    replace h65 := h65.ev E100 nq nq
    replace hl86 := hl86.ev E100 nq nq
    replace hr87 := hr87.ev E100 nq nq
    replace E := E.trans E100 nx
    refine dm F ER.sb fun a F => ?_
    refine dq F (fun wq hS => r_nil F rfl) ER.sb fun a F => ?_
    refine df F ff_112_0 ER.sb fun a F => ?_
    refine dq F (fun wq hS => r_load F rfl ag_77 (AT.cell (AT.sb zhat85 hS nq) rfl)) ER.sb fun a F => ?_
    refine dm F ER.sb fun a F => ?_
    refine dq F (fun wq hS => r_nil F rfl) ER.sb fun a F => ?_
    refine df F ff_112_1 ER.sb fun a F => ?_
    refine dq F (fun wq hS => r_load F rfl ag_77 (AT.cell (AT.sb zhat85 hS nq) rfl)) ER.sb fun a F => ?_
    refine d_e ?_
    obtain ⟨t101, q102, H⟩ := bind_some H
    refine oc F Try.func96 (tree_Tree_Depth.calls (m := m + 2) (pl hm0) B hl86 _ q102) ?_
    rintro e w104 ⟨c103, rfl, E105, B106⟩
    refine ⟨_, rfl, fun a F => ?_⟩
    have B := B106
    replace ER := ER.trans E105 nx
    replace h50 := h50.ev E105 nq nq
    as_aux_lemma =>
    replace hl55 := hl55.ev E105 nq nq
    replace hat54 := hat54.ev E105 nq
    replace h65 := h65.ev E105 nq nq
    replace hr87 := hr87.ev E105 nq nq
    replace E := E.trans E105 nx
    refine ⟨fun _ => ER.sb, ?_⟩
    refine d_e ?_
    obtain ⟨t108, q109, H⟩ := bind_some H
    refine oc F Try.func96 (tree_Tree_Depth.calls (m := m + 2) (pl hm0) B hr87 _ q109) ?_
    rintro e w111 ⟨c110, rfl, E112, B113⟩
    refine ⟨_, rfl, fun a F => ?_⟩
    have B := B113
    replace ER := ER.trans E112 nx
    replace h50 := h50.ev E112 nq nq
    replace hl55 := hl55.ev E112 nq nq
    replace hat54 := hat54.ev E112 nq
    replace h65 := h65.ev E112 nq nq
    replace E := E.trans E112 nx
    refine ⟨fun _ => ER.sb, ?_⟩
    refine dq F (fun wq hS => r_gtr F rfl rfl) ER.sb fun a F => ?_
    refine d_nil ?_
    refine hK98 _ _ ?_
    replace F : Fr a 152 [(0, .pointer (some ad51)), (9, .pointer (some ad82)), (47, .bool (decide (t108 < t101)))] := F.sub ⟨rfl, rfl, rfl, trivial⟩
    by_cases hb115 : t108 < t101
    ·replace H := ip hb115 H
     as_aux_lemma =>
     refine wp_cond_true (fb F (dt hb115)) ?_
     refine reg ?_
     refine qm F fun a F => ?_
     obtain ⟨t116, q117, H⟩ := bind_some H
     refine qc F Try.func97 (tree_turnRight.calls (m := m + 2) (pl hm0) B h65 _ q117) ?_
     rintro e w119 ⟨c118, p122, rfl, E120, B121, h123⟩
     refine ⟨_, rfl, fun a F => ?_⟩
     have B := B121
     replace h50 := h50.ev E120 nq nq
     replace hl55 := hl55.ev E120 nq nq
     replace hat54 := hat54.ev E120 nq
     replace E := E.trans E120 nx
     refine qa F fun a F => ?_
     refine nil (hK97 _ _ ?_)
     refine wp_seq_k fun K125 hK125 => ?_
     refine regD (SB No c118 w119) 16 (.q 0 (.q 1 (.q 2 (.q 3 (.q 4 (.q 5 (.q 6 (.q 7 (.q 8 (.q 9 (.q 10 (.q 11 (.q 12 (.e 13 (.e 14 (.q 15 .nil)))))))))))))))) Try_hm (by decide +kernel) ?_
     intro w126 w1_ w2_ w3_ w4_
     have E127 : Ev No c118 w119 c118 w126 := Ev.same w1_ w2_ w3_ w4_
     replace B := B.same w1_
     have zhat54 := hat54
     have ER : Ev No c118 w119 c118 w126 := Ev.same w1_ w2_ w3_ w4_
     replace h50 := h50.ev E127 nq nq
     as_aux_lemma =>
     replace hl55 := hl55.ev E127 nq nq
     replace h123 := h123.ev E127 nq nq
     replace E := E.trans E127 nx
     refine dm F ER.sb fun a F => ?_
     refine dq F (fun wq hS => r_nil F rfl) ER.sb fun a F => ?_
     refine df F ff_112_0 ER.sb fun a F => ?_
     refine dq F (fun wq hS => r_load F rfl ag_77 (AT.cell (AT.sb zhat54 hS nq) rfl)) ER.sb fun a F => ?_
     refine dm F ER.sb fun a F => ?_
     refine dq F (fun wq hS => r_nil F rfl) ER.sb fun a F => ?_
     refine df F ff_112_2 ER.sb fun a F => ?_
     refine dq F (fun wq hS => r_load F rfl ag_9 (AT.cell (AT.sb zhat54 hS nq) rfl)) ER.sb fun a F => ?_
     refine dm F ER.sb fun a F => ?_
     refine dq F (fun wq hS => r_nil F rfl) ER.sb fun a F => ?_
     refine df F ff_112_3 ER.sb fun a F => ?_
     refine dq F (fun wq hS => r_loads (cs := [.slice A48 tv43.value.length C49, .int .i64 tv43.rev]) F rfl ag_80 sz_80 (AT.sub (AT.sb zhat54 hS nq) 3 2 (nb rfl))) ER.sb fun a F => ?_
     refine dm F ER.sb fun a F => ?_
     refine d_e ?_
     obtain ⟨t128, q129, H⟩ := bind_some H
     refine oc F Try.func89 (tree_node.calls (m := m + 2) (pl hm0) B hl55 h50 h123 _ q129) ?_
     rintro e w131 ⟨c130, p134, rfl, E132, B133, h135⟩
     refine ⟨_, rfl, fun a F => ?_⟩
     have B := B133
     as_aux_lemma =>
     replace ER := ER.trans E132 nx
     replace E := E.trans E132 nx
     refine ⟨fun _ => ER.sb, ?_⟩
     refine d_e ?_
     obtain ⟨t137, q138, H⟩ := bind_some H
     refine oc F Try.func98 (tree_turnLeft.calls (m := m + 2) (pl hm0) B h135 _ q138) ?_
     rintro e w140 ⟨c139, p143, rfl, E141, B142, h144⟩
     refine ⟨_, rfl, fun a F => ?_⟩
     have B := B142
     replace ER := ER.trans E141 nx
     replace E := E.trans E141 nx
     refine ⟨fun _ => ER.sb, ?_⟩
     refine da F ER.sb fun a F => ?_
     refine d_nil ?_
     refine hK125 _ _ ?_
     replace F : Fr a 152 [(8, .pointer p143)] := F.sub ⟨rfl, trivial⟩
     refine wp_ret ?_
     refine thenR ?_
     refine inbR ?_
     refine thenR ?_
     replace H := si H
     subst H
     as_aux_lemma =>
     refine out1 F rfl rfl ?_
     exact ⟨cf (fun x_ => if x_ < m then x_ else 0) c139, p143, rfl, E.lv B0, cfb, TR.rc h144 cfk cfk⟩
    replace H := im hb115 H
    refine wp_cond_false (fb F (dz hb115)) (wp_skip (hK97 _ _ ?_))
    refine wp_seq_k fun K146 hK146 => ?_
    refine regD (SB No c110 w111) 16 (.q 0 (.q 1 (.q 2 (.q 3 (.q 4 (.q 5 (.q 6 (.q 7 (.q 8 (.q 9 (.q 10 (.q 11 (.q 12 (.e 13 (.e 14 (.q 15 .nil)))))))))))))))) Try_hm (by decide +kernel) ?_
    intro w147 w1_ w2_ w3_ w4_
    have E148 : Ev No c110 w111 c110 w147 := Ev.same w1_ w2_ w3_ w4_
    replace B := B.same w1_
    have zhat54 := hat54
    have ER : Ev No c110 w111 c110 w147 := Ev.same w1_ w2_ w3_ w4_
    replace h50 := h50.ev E148 nq nq
    replace hl55 := hl55.ev E148 nq nq
    replace h65 := h65.ev E148 nq nq
    replace E := E.trans E148 nx
    refine dm F ER.sb fun a F => ?_
    refine dq F (fun wq hS => r_nil F rfl) ER.sb fun a F => ?_
    refine df F ff_112_0 ER.sb fun a F => ?_
    refine dq F (fun wq hS => r_load F rfl ag_77 (AT.cell (AT.sb zhat54 hS nq) rfl)) ER.sb fun a F => ?_
    refine dm F ER.sb fun a F => ?_
    refine dq F (fun wq hS => r_nil F rfl) ER.sb fun a F => ?_
    refine df F ff_112_2 ER.sb fun a F => ?_
    as_aux_lemma =>
    refine dq F (fun wq hS => r_load F rfl ag_9 (AT.cell (AT.sb zhat54 hS nq) rfl)) ER.sb fun a F => ?_
    refine dm F ER.sb fun a F => ?_
    refine dq F (fun wq hS => r_nil F rfl) ER.sb fun a F => ?_
    refine df F ff_112_3 ER.sb fun a F => ?_
    refine dq F (fun wq hS => r_loads (cs := [.slice A48 tv43.value.length C49, .int .i64 tv43.rev]) F rfl ag_80 sz_80 (AT.sub (AT.sb zhat54 hS nq) 3 2 (nb rfl))) ER.sb fun a F => ?_
    refine dm F ER.sb fun a F => ?_
    refine d_e ?_
    obtain ⟨t128, q129, H⟩ := bind_some H
    refine oc F Try.func89 (tree_node.calls (m := m + 2) (pl hm0) B hl55 h50 h65 _ q129) ?_
    rintro e w150 ⟨c149, p153, rfl, E151, B152, h154⟩
    refine ⟨_, rfl, fun a F => ?_⟩
    have B := B152
    replace ER := ER.trans E151 nx
    replace E := E.trans E151 nx
    refine ⟨fun _ => ER.sb, ?_⟩
    refine d_e ?_
    obtain ⟨t137, q138, H⟩ := bind_some H
    refine oc F Try.func98 (tree_turnLeft.calls (m := m + 2) (pl hm0) B h154 _ q138) ?_
    rintro e w157 ⟨c156, p160, rfl, E158, B159, h161⟩
    refine ⟨_, rfl, fun a F => ?_⟩
    have B := B159
    replace ER := ER.trans E158 nx
    as_aux_lemma =>
    replace E := E.trans E158 nx
    refine ⟨fun _ => ER.sb, ?_⟩
    refine da F ER.sb fun a F => ?_
    refine d_nil ?_
    refine hK146 _ _ ?_
    replace F : Fr a 152 [(8, .pointer p160)] := F.sub ⟨rfl, trivial⟩
    refine wp_ret ?_
    refine thenR ?_
    refine inbR ?_
    refine thenR ?_
    replace H := si H
    subst H
    refine out1 F rfl rfl ?_
    exact ⟨cf (fun x_ => if x_ < m then x_ else 0) c156, p160, rfl, E.lv B0, cfb, TR.rc h161 cfk cfk⟩
   replace H := im hb96 H
   refine wp_cond_false (fb F (dz hb96)) (wp_skip (hK67 _ _ ?_))
   refine wp_seq_k fun K163 hK163 => ?_
   refine regD (SB No c91 w92) 15 (.q 0 (.q 1 (.q 2 (.q 3 (.q 4 (.q 5 (.q 6 (.q 7 (.q 8 (.q 9 (.q 10 (.q 11 (.q 12 (.e 13 (.q 14 .nil))))))))))))))) Try_hm (by decide +kernel) ?_
   intro w164 w1_ w2_ w3_ w4_
   have E165 : Ev No c91 w92 c91 w164 := Ev.same w1_ w2_ w3_ w4_
   replace B := B.same w1_
   have zhat54 := hat54
   have ER : Ev No c91 w92 c91 w164 := Ev.same w1_ w2_ w3_ w4_
   as_aux_lemma =>
   replace h50 := h50.ev E165 nq nq
   replace hl55 := hl55.ev E165 nq nq
   replace h65 := h65.ev E165 nq nq
   replace E := E.trans E165 nx
   refine dm F ER.sb fun a F => ?_
   refine dq F (fun wq hS => r_nil F rfl) ER.sb fun a F => ?_
   refine df F ff_112_0 ER.sb fun a F => ?_
   refine dq F (fun wq hS => r_load F rfl ag_77 (AT.cell (AT.sb zhat54 hS nq) rfl)) ER.sb fun a F => ?_
   refine dm F ER.sb fun a F => ?_
   refine dq F (fun wq hS => r_nil F rfl) ER.sb fun a F => ?_
   refine df F ff_112_2 ER.sb fun a F => ?_
   refine dq F (fun wq hS => r_load F rfl ag_9 (AT.cell (AT.sb zhat54 hS nq) rfl)) ER.sb fun a F => ?_
   refine dm F ER.sb fun a F => ?_
   refine dq F (fun wq hS => r_nil F rfl) ER.sb fun a F => ?_
   refine df F ff_112_3 ER.sb fun a F => ?_
   refine dq F (fun wq hS => r_loads (cs := [.slice A48 tv43.value.length C49, .int .i64 tv43.rev]) F rfl ag_80 sz_80 (AT.sub (AT.sb zhat54 hS nq) 3 2 (nb rfl))) ER.sb fun a F => ?_
   refine dm F ER.sb fun a F => ?_
   refine d_e ?_
   obtain ⟨t166, q167, H⟩ := bind_some H
   refine oc F Try.func89 (tree_node.calls (m := m + 2) (pl hm0) B hl55 h50 h65 _ q167) ?_
   rintro e w169 ⟨c168, p172, rfl, E170, B171, h173⟩
   refine ⟨_, rfl, fun a F => ?_⟩
   have B := B171
   as_aux_lemma =>
   replace ER := ER.trans E170 nx
   replace E := E.trans E170 nx
   refine ⟨fun _ => ER.sb, ?_⟩
   refine da F ER.sb fun a F => ?_
   refine d_nil ?_
   refine hK163 _ _ ?_
   replace F : Fr a 152 [(8, .pointer p172)] := F.sub ⟨rfl, trivial⟩
   refine wp_ret ?_
   refine inbR ?_
   refine thenR ?_
   replace H := si H
   subst H
   refine out1 F rfl rfl ?_
   exact ⟨cf (fun x_ => if x_ < m then x_ else 0) c168, p172, rfl, E.lv B0, cfb, TR.rc h173 cfk cfk⟩
  replace H := im hb36 H
  refine wp_cond_false (fb F (dz hb36)) ?_
  refine wp_seq_k fun K175 hK175 => reg ?_
  refine qm F fun a F => ?_
  obtain ⟨t176, q177, H⟩ := bind_some H
  refine qc F Try.func96 (tree_Tree_Depth.calls (m := m + 2) (pl hm0) B h11 _ q177) ?_
  rintro e w179 ⟨c178, rfl, E180, B181⟩
  refine ⟨_, rfl, fun a F => ?_⟩
  have B := B181
  as_aux_lemma =>
  replace h3 := h3.ev E180 nq nq
  replace h8 := h8.ev E180 nq nq
  replace h11 := h11.ev E180 nq nq
  replace h17 := h17.ev E180 nq
  replace E := E.trans E180 nx
  refine qm F fun a F => ?_
  obtain ⟨t183, q184, H⟩ := bind_some H
  refine qc F Try.func96 (tree_Tree_Depth.calls (m := m + 2) (pl hm0) B h3 _ q184) ?_
  rintro e w186 ⟨c185, rfl, E187, B188⟩
  refine ⟨_, rfl, fun a F => ?_⟩
  have B := B188
  replace h3 := h3.ev E187 nq nq
  replace h8 := h8.ev E187 nq nq
  replace h11 := h11.ev E187 nq nq
  replace h17 := h17.ev E187 nq
  replace E := E.trans E187 nx
  refine qv F (r_add F rfl rfl) fun a F => ?_
  refine qv F (r_gtr F rfl rfl) fun a F => ?_
  refine qa F fun a F => ?_
  refine nil (hK175 _ _ ?_)
  by_cases hb190 : (IntKind.i64.wrap (t183 + 1)) < t176
  ·replace H := ip hb190 H
   refine wp_cond_true (fb F (dt hb190)) ?_
   as_aux_lemma =>
   refine wp_seq_k fun K191 hK191 => ?_
   refine regD (SB No c185 w186) 9 (.q 0 (.q 1 (.q 2 (.q 3 (.q 4 (.q 5 (.q 6 (.e 7 (.q 8 .nil))))))))) Try_hm (by decide +kernel) ?_
   intro w192 w1_ w2_ w3_ w4_
   have E193 : Ev No c185 w186 c185 w192 := Ev.same w1_ w2_ w3_ w4_
   replace B := B.same w1_
   have zh11 := h11
   have zh17 := h17
   have ER : Ev No c185 w186 c185 w192 := Ev.same w1_ w2_ w3_ w4_
   replace h3 := h3.ev E193 nq nq
   replace h8 := h8.ev E193 nq nq
   replace E := E.trans E193 nx
   refine dm F ER.sb fun a F => ?_
   refine dm F ER.sb fun a F => ?_
   refine dq F (fun wq hS => r_loads (cs := [.slice A6 a5.value.length C7, .int .i64 a5.rev]) F rfl ag_80 sz_80 (AT.sb zh17 hS nq)) ER.sb fun a F => ?_
   refine dm F ER.sb fun a F => ?_
   replace H := cs_some H
   obtain ⟨tl194, tr195, tk196, tv197, ts198, td199, e200, H⟩ := H
   have z201 := zh11
   rw [e200] at z201
   obtain ⟨ad205, lp206, rp207, A202, C203, rfl, hat208, h204, hl209, hr210⟩ := TR.node z201
   replace h204 := h204.ev ER nq nq
   replace hl209 := hl209.ev ER nq nq
   as_aux_lemma =>
   replace hr210 := hr210.ev ER nq nq
   have zhat208 := hat208
   replace hat208 := hat208.ev ER nq
   refine dq F (fun wq hS => r_nil F rfl) ER.sb fun a F => ?_
   refine df F ff_112_0 ER.sb fun a F => ?_
   refine dq F (fun wq hS => r_load F rfl ag_77 (AT.cell (AT.sb zhat208 hS nq) rfl)) ER.sb fun a F => ?_
   refine d_e ?_
   obtain ⟨t212, q213, H⟩ := bind_some H
   refine oc F Try.func87 (ih (m := m + 2) (pl hm0) B h3 h8 hl209 _ q213) ?_
   rintro e w215 ⟨c214, p218, rfl, E216, B217, h219⟩
   refine ⟨_, rfl, fun a F => ?_⟩
   have B := B217
   replace ER := ER.trans E216 nx
   replace h204 := h204.ev E216 nq nq
   replace hr210 := hr210.ev E216 nq nq
   replace hat208 := hat208.ev E216 nq
   replace E := E.trans E216 nx
   refine ⟨fun _ => ER.sb, ?_⟩
   refine da F ER.sb fun a F => ?_
   refine d_nil ?_
   refine hK191 _ _ ?_
   replace F : Fr a 152 [(3, .pointer (some ad205)), (10, .pointer p218)] := F.sub ⟨rfl, rfl, trivial⟩
   as_aux_lemma =>
   refine wp_seq_k fun K221 hK221 => ?_
   refine wp_seq_k fun K222 hK222 => ?_
   refine regD (SB No c214 w215) 11 (.q 0 (.q 1 (.q 2 (.q 3 (.q 4 (.q 5 (.q 6 (.q 7 (.e 8 (.q 9 (.q 10 .nil))))))))))) Try_hm (by decide +kernel) ?_
   intro w223 w1_ w2_ w3_ w4_
   have E224 : Ev No c214 w215 c214 w223 := Ev.same w1_ w2_ w3_ w4_
   replace B := B.same w1_
   have zhat208 := hat208
   have zh219 := h219
   have ER : Ev No c214 w215 c214 w223 := Ev.same w1_ w2_ w3_ w4_
   replace h204 := h204.ev E224 nq nq
   replace hr210 := hr210.ev E224 nq nq
   replace hat208 := hat208.ev E224 nq
   replace h219 := h219.ev E224 nq nq
   replace E := E.trans E224 nx
   refine dm F ER.sb fun a F => ?_
   replace H := cs_some H
   obtain ⟨tl225, tr226, tk227, tv228, ts229, td230, e231, H⟩ := H
   have z232 := zh219
   rw [e231] at z232
   obtain ⟨ad236, lp237, rp238, A233, C234, rfl, hat239, h235, hl240, hr241⟩ := TR.node z232
   replace hl240 := hl240.ev ER nq nq
   replace hr241 := hr241.ev ER nq nq
   have zhat239 := hat239
   as_aux_lemma =>
   replace hat239 := hat239.ev ER nq
   refine dq F (fun wq hS => r_nil F rfl) ER.sb fun a F => ?_
   refine df F ff_112_5 ER.sb fun a F => ?_
   refine dq F (fun wq hS => r_load F rfl ag_3 (AT.cell (AT.sb zhat239 hS nq) rfl)) ER.sb fun a F => ?_
   refine dm F ER.sb fun a F => ?_
   refine dq F (fun wq hS => r_nil F rfl) ER.sb fun a F => ?_
   refine df F ff_112_1 ER.sb fun a F => ?_
   refine dq F (fun wq hS => r_load F rfl ag_77 (AT.cell (AT.sb zhat208 hS nq) rfl)) ER.sb fun a F => ?_
   refine d_e ?_
   obtain ⟨t243, q244, H⟩ := bind_some H
   refine oc F Try.func96 (tree_Tree_Depth.calls (m := m + 2) (pl hm0) B hr210 _ q244) ?_
   rintro e w246 ⟨c245, rfl, E247, B248⟩
   refine ⟨_, rfl, fun a F => ?_⟩
   have B := B248
   replace ER := ER.trans E247 nx
   replace h204 := h204.ev E247 nq nq
   replace hr210 := hr210.ev E247 nq nq
   replace hat208 := hat208.ev E247 nq
   replace h219 := h219.ev E247 nq nq
   replace hl240 := hl240.ev E247 nq nq
   replace hr241 := hr241.ev E247 nq nq
   replace hat239 := hat239.ev E247 nq
   as_aux_lemma =>
   replace E := E.trans E247 nx
   refine ⟨fun _ => ER.sb, ?_⟩
   refine dq F (fun wq hS => r_add F rfl rfl) ER.sb fun a F => ?_
   refine dq F (fun wq hS => r_gtr F rfl rfl) ER.sb fun a F => ?_
   refine d_nil ?_
   refine hK222 _ _ ?_
   replace F : Fr a 152 [(3, .pointer (some ad205)), (10, .pointer (some ad236)), (104, .bool (decide ((IntKind.i64.wrap (t243 + 1)) < td230)))] := F.sub ⟨rfl, rfl, rfl, trivial⟩
   by_cases hb250 : (IntKind.i64.wrap (t243 + 1)) < td230
   ·replace H := ip hb250 H
    refine wp_cond_true (fb F (dt hb250)) ?_
    refine wp_seq_k fun K251 hK251 => ?_
    refine wp_seq_k fun K252 hK252 => ?_
    refine regD (SB No c245 w246) 11 (.q 0 (.q 1 (.q 2 (.q 3 (.q 5 (.q 6 (.q 7 (.q 8 (.e 4 (.e 9 (.q 10 .nil))))))))))) Try_hm (by decide +kernel) ?_
    intro w253 w1_ w2_ w3_ w4_
    have E254 : Ev No c245 w246 c245 w253 := Ev.same w1_ w2_ w3_ w4_
    replace B := B.same w1_
    have zhat208 := hat208
    have zhat239 := hat239
    have ER : Ev No c245 w246 c245 w253 := Ev.same w1_ w2_ w3_ w4_
    replace h204 := h204.ev E254 nq nq
    replace hr210 := hr210.ev E254 nq nq
    replace hat208 := hat208.ev E254 nq
    replace h219 := h219.ev E254 nq nq
    as_aux_lemma =>
    replace hl240 := hl240.ev E254 nq nq
    replace hr241 := hr241.ev E254 nq nq
    replace E := E.trans E254 nx
    refine dm F ER.sb fun a F => ?_
    refine dq F (fun wq hS => r_nil F rfl) ER.sb fun a F => ?_
    refine df F ff_112_1 ER.sb fun a F => ?_
    refine dq F (fun wq hS => r_load F rfl ag_77 (AT.cell (AT.sb zhat239 hS nq) rfl)) ER.sb fun a F => ?_
    refine dm F ER.sb fun a F => ?_
    refine dq F (fun wq hS => r_nil F rfl) ER.sb fun a F => ?_
    refine df F ff_112_0 ER.sb fun a F => ?_
    refine dq F (fun wq hS => r_load F rfl ag_77 (AT.cell (AT.sb zhat239 hS nq) rfl)) ER.sb fun a F => ?_
    refine d_e ?_
    obtain ⟨t255, q256, H⟩ := bind_some H
    refine oc F Try.func96 (tree_Tree_Depth.calls (m := m + 2) (pl hm0) B hr241 _ q256) ?_
    rintro e w258 ⟨c257, rfl, E259, B260⟩
    refine ⟨_, rfl, fun a F => ?_⟩
    have B := B260
    replace ER := ER.trans E259 nx
    replace h204 := h204.ev E259 nq nq
    replace hr210 := hr210.ev E259 nq nq
    replace hat208 := hat208.ev E259 nq
    replace h219 := h219.ev E259 nq nq
    as_aux_lemma =>
    replace hl240 := hl240.ev E259 nq nq
    replace E := E.trans E259 nx
    refine ⟨fun _ => ER.sb, ?_⟩
    refine d_e ?_
    obtain ⟨t262, q263, H⟩ := bind_some H
    refine oc F Try.func96 (tree_Tree_Depth.calls (m := m + 2) (pl hm0) B hl240 _ q263) ?_
    rintro e w265 ⟨c264, rfl, E266, B267⟩
    refine ⟨_, rfl, fun a F => ?_⟩
    have B := B267
    replace ER := ER.trans E266 nx
    replace h204 := h204.ev E266 nq nq
    replace hr210 := hr210.ev E266 nq nq
    replace hat208 := hat208.ev E266 nq
    replace h219 := h219.ev E266 nq nq
    replace E := E.trans E266 nx
    refine ⟨fun _ => ER.sb, ?_⟩
    refine dq F (fun wq hS => r_gtr F rfl rfl) ER.sb fun a F => ?_
    refine d_nil ?_
    refine hK252 _ _ ?_
    replace F : Fr a 152 [(3, .pointer (some ad205)), (10, .pointer (some ad236)), (115, .bool (decide (t262 < t255)))] := F.sub ⟨rfl, rfl, rfl, trivial⟩
    by_cases hb269 : t262 < t255
    ·replace H := ip hb269 H
     refine wp_cond_true (fb F (dt hb269)) ?_
     as_aux_lemma =>
     refine reg ?_
     refine qm F fun a F => ?_
     obtain ⟨t270, q271, H⟩ := bind_some H
     refine qc F Try.func98 (tree_turnLeft.calls (m := m + 2) (pl hm0) B h219 _ q271) ?_
     rintro e w273 ⟨c272, p276, rfl, E274, B275, h277⟩
     refine ⟨_, rfl, fun a F => ?_⟩
     have B := B275
     replace h204 := h204.ev E274 nq nq
     replace hr210 := hr210.ev E274 nq nq
     replace hat208 := hat208.ev E274 nq
     replace E := E.trans E274 nx
     refine qa F fun a F => ?_
     refine nil (hK251 _ _ ?_)
     refine wp_seq_k fun K279 hK279 => ?_
     refine regD (SB No c272 w273) 16 (.q 0 (.q 1 (.q 2 (.q 3 (.q 4 (.q 5 (.q 6 (.q 7 (.q 8 (.q 9 (.q 10 (.q 11 (.q 12 (.e 13 (.e 14 (.q 15 .nil)))))))))))))))) Try_hm (by decide +kernel) ?_
     intro w280 w1_ w2_ w3_ w4_
     have E281 : Ev No c272 w273 c272 w280 := Ev.same w1_ w2_ w3_ w4_
     replace B := B.same w1_
     have zhat208 := hat208
     have ER : Ev No c272 w273 c272 w280 := Ev.same w1_ w2_ w3_ w4_
     replace h204 := h204.ev E281 nq nq
     replace hr210 := hr210.ev E281 nq nq
     as_aux_lemma =>
     replace h277 := h277.ev E281 nq nq
     replace E := E.trans E281 nx
     refine dm F ER.sb fun a F => ?_
     refine dm F ER.sb fun a F => ?_
     refine dq F (fun wq hS => r_nil F rfl) ER.sb fun a F => ?_
     refine df F ff_112_2 ER.sb fun a F => ?_
     refine dq F (fun wq hS => r_load F rfl ag_9 (AT.cell (AT.sb zhat208 hS nq) rfl)) ER.sb fun a F => ?_
     refine dm F ER.sb fun a F => ?_
     refine dq F (fun wq hS => r_nil F rfl) ER.sb fun a F => ?_
     refine df F ff_112_3 ER.sb fun a F => ?_
     refine dq F (fun wq hS => r_loads (cs := [.slice A202 tv197.value.length C203, .int .i64 tv197.rev]) F rfl ag_80 sz_80 (AT.sub (AT.sb zhat208 hS nq) 3 2 (nb rfl))) ER.sb fun a F => ?_
     refine dm F ER.sb fun a F => ?_
     refine dq F (fun wq hS => r_nil F rfl) ER.sb fun a F => ?_
     refine df F ff_112_1 ER.sb fun a F => ?_
     refine dq F (fun wq hS => r_load F rfl ag_77 (AT.cell (AT.sb zhat208 hS nq) rfl)) ER.sb fun a F => ?_
     refine d_e ?_
     obtain ⟨t282, q283, H⟩ := bind_some H
     refine oc F Try.func89 (tree_node.calls (m := m + 2) (pl hm0) B h277 h204 hr210 _ q283) ?_
     rintro e w285 ⟨c284, p288, rfl, E286, B287, h289⟩
     refine ⟨_, rfl, fun a F => ?_⟩
     have B := B287
     replace ER := ER.trans E286 nx
     as_aux_lemma =>
     replace E := E.trans E286 nx
     refine ⟨fun _ => ER.sb, ?_⟩
     refine d_e ?_
     obtain ⟨t291, q292, H⟩ := bind_some H
     refine oc F Try.func97 (tree_turnRight.calls (m := m + 2) (pl hm0) B h289 _ q292) ?_
     rintro e w294 ⟨c293, p297, rfl, E295, B296, h298⟩
     refine ⟨_, rfl, fun a F => ?_⟩
     have B := B296
     replace ER := ER.trans E295 nx
     replace E := E.trans E295 nx
     refine ⟨fun _ => ER.sb, ?_⟩
     refine da F ER.sb fun a F => ?_
     refine d_nil ?_
     refine hK279 _ _ ?_
     replace F : Fr a 152 [(8, .pointer p297)] := F.sub ⟨rfl, trivial⟩
     refine wp_ret ?_
     refine thenR ?_
     refine inbR ?_
     refine thenR ?_
     replace H := si H
     subst H
     refine out1 F rfl rfl ?_
     exact ⟨cf (fun x_ => if x_ < m then x_ else 0) c293, p297, rfl, E.lv B0, cfb, TR.rc h298 cfk cfk⟩
    as_aux_lemma =>
    replace H := im hb269 H
    refine wp_cond_false (fb F (dz hb269)) (wp_skip (hK251 _ _ ?_))
    refine wp_seq_k fun K300 hK300 => ?_
    refine regD (SB No c264 w265) 16 (.q 0 (.q 1 (.q 2 (.q 3 (.q 4 (.q 5 (.q 6 (.q 7 (.q 8 (.q 9 (.q 10 (.q 11 (.q 12 (.e 13 (.e 14 (.q 15 .nil)))))))))))))))) Try_hm (by decide +kernel) ?_
    intro w301 w1_ w2_ w3_ w4_
    have E302 : Ev No c264 w265 c264 w301 := Ev.same w1_ w2_ w3_ w4_
    replace B := B.same w1_
    have zhat208 := hat208
    have ER : Ev No c264 w265 c264 w301 := Ev.same w1_ w2_ w3_ w4_
    replace h204 := h204.ev E302 nq nq
    replace hr210 := hr210.ev E302 nq nq
    replace h219 := h219.ev E302 nq nq
    replace E := E.trans E302 nx
    refine dm F ER.sb fun a F => ?_
    refine dm F ER.sb fun a F => ?_
    refine dq F (fun wq hS => r_nil F rfl) ER.sb fun a F => ?_
    refine df F ff_112_2 ER.sb fun a F => ?_
    refine dq F (fun wq hS => r_load F rfl ag_9 (AT.cell (AT.sb zhat208 hS nq) rfl)) ER.sb fun a F => ?_
    refine dm F ER.sb fun a F => ?_
    refine dq F (fun wq hS => r_nil F rfl) ER.sb fun a F => ?_
    refine df F ff_112_3 ER.sb fun a F => ?_
    refine dq F (fun wq hS => r_loads (cs := [.slice A202 tv197.value.length C203, .int .i64 tv197.rev]) F rfl ag_80 sz_80 (AT.sub (AT.sb zhat208 hS nq) 3 2 (nb rfl))) ER.sb fun a F => ?_
    as_aux_lemma =>
    refine dm F ER.sb fun a F => ?_
    refine dq F (fun wq hS => r_nil F rfl) ER.sb fun a F => ?_
    refine df F ff_112_1 ER.sb fun a F => ?_
    refine dq F (fun wq hS => r_load F rfl ag_77 (AT.cell (AT.sb zhat208 hS nq) rfl)) ER.sb fun a F => ?_
    refine d_e ?_
    obtain ⟨t282, q283, H⟩ := bind_some H
    refine oc F Try.func89 (tree_node.calls (m := m + 2) (pl hm0) B h219 h204 hr210 _ q283) ?_
    rintro e w304 ⟨c303, p307, rfl, E305, B306, h308⟩
    refine ⟨_, rfl, fun a F => ?_⟩
    have B := B306
    replace ER := ER.trans E305 nx
    replace E := E.trans E305 nx
    refine ⟨fun _ => ER.sb, ?_⟩
    refine d_e ?_
    obtain ⟨t291, q292, H⟩ := bind_some H
    refine oc F Try.func97 (tree_turnRight.calls (m := m + 2) (pl hm0) B h308 _ q292) ?_
    rintro e w311 ⟨c310, p314, rfl, E312, B313, h315⟩
    refine ⟨_, rfl, fun a F => ?_⟩
    have B := B313
    replace ER := ER.trans E312 nx
    replace E := E.trans E312 nx
    refine ⟨fun _ => ER.sb, ?_⟩
    as_aux_lemma =>
    refine da F ER.sb fun a F => ?_
    refine d_nil ?_
    refine hK300 _ _ ?_
    replace F : Fr a 152 [(8, .pointer p314)] := F.sub ⟨rfl, trivial⟩
    refine wp_ret ?_
    refine thenR ?_
    refine inbR ?_
    refine thenR ?_
    replace H := si H
    subst H
    refine out1 F rfl rfl ?_
    exact ⟨cf (fun x_ => if x_ < m then x_ else 0) c310, p314, rfl, E.lv B0, cfb, TR.rc h315 cfk cfk⟩
   replace H := im hb250 H
   refine wp_cond_false (fb F (dz hb250)) (wp_skip (hK221 _ _ ?_))
   refine wp_seq_k fun K317 hK317 => ?_
   refine regD (SB No c245 w246) 15 (.q 0 (.q 1 (.q 2 (.q 3 (.q 4 (.q 5 (.q 6 (.q 7 (.q 8 (.q 9 (.q 10 (.q 11 (.q 12 (.e 13 (.q 14 .nil))))))))))))))) Try_hm (by decide +kernel) ?_
   intro w318 w1_ w2_ w3_ w4_
   have E319 : Ev No c245 w246 c245 w318 := Ev.same w1_ w2_ w3_ w4_
   replace B := B.same w1_
   have zhat208 := hat208
   have ER : Ev No c245 w246 c245 w318 := Ev.same w1_ w2_ w3_ w4_
   replace h204 := h204.ev E319 nq nq
   as_aux_lemma =>
   replace hr210 := hr210.ev E319 nq nq
   replace h219 := h219.ev E319 nq nq
   replace E := E.trans E319 nx
   refine dm F ER.sb fun a F => ?_
   refine dm F ER.sb fun a F => ?_
   refine dq F (fun wq hS => r_nil F rfl) ER.sb fun a F => ?_
   refine df F ff_112_2 ER.sb fun a F => ?_
   refine dq F (fun wq hS => r_load F rfl ag_9 (AT.cell (AT.sb zhat208 hS nq) rfl)) ER.sb fun a F => ?_
   refine dm F ER.sb fun a F => ?_
   refine dq F (fun wq hS => r_nil F rfl) ER.sb fun a F => ?_
   refine df F ff_112_3 ER.sb fun a F => ?_
   refine dq F (fun wq hS => r_loads (cs := [.slice A202 tv197.value.length C203, .int .i64 tv197.rev]) F rfl ag_80 sz_80 (AT.sub (AT.sb zhat208 hS nq) 3 2 (nb rfl))) ER.sb fun a F => ?_
   refine dm F ER.sb fun a F => ?_
   refine dq F (fun wq hS => r_nil F rfl) ER.sb fun a F => ?_
   refine df F ff_112_1 ER.sb fun a F => ?_
   refine dq F (fun wq hS => r_load F rfl ag_77 (AT.cell (AT.sb zhat208 hS nq) rfl)) ER.sb fun a F => ?_
   refine d_e ?_
   obtain ⟨t320, q321, H⟩ := bind_some H
   refine oc F Try.func89 (tree_node.calls (m := m + 2) (pl hm0) B h219 h204 hr210 _ q321) ?_
   rintro e w323 ⟨c322, p326, rfl, E324, B325, h327⟩
   refine ⟨_, rfl, fun a F => ?_⟩
   have B := B325
   as_aux_lemma =>
   replace ER := ER.trans E324 nx
   replace E := E.trans E324 nx
   refine ⟨fun _ => ER.sb, ?_⟩
   refine da F ER.sb fun a F => ?_
   refine d_nil ?_
   refine hK317 _ _ ?_
   replace F : Fr a 152 [(8, .pointer p326)] := F.sub ⟨rfl, trivial⟩
   refine wp_ret ?_
   refine inbR ?_
   refine thenR ?_
   replace H := si H
   subst H
   refine out1 F rfl rfl ?_
   exact ⟨cf (fun x_ => if x_ < m then x_ else 0) c322, p326, rfl, E.lv B0, cfb, TR.rc h327 cfk cfk⟩
  replace H := im hb190 H
  refine wp_cond_false (fb F (dz hb190)) (wp_skip (hK20 _ _ ?_))
  replace F : Fr a 152 [(0, .pointer p2), (1, .string a4), (3, .pointer p10), (6, .pointer (some qa15))] := F.sub ⟨rfl, rfl, rfl, rfl, trivial⟩
  refine wp_seq_k fun K329 hK329 => reg ?_
  refine qm F fun a F => ?_
  refine qm F fun a F => ?_
  refine qv F (r_loads (cs := [.slice A6 a5.value.length C7, .int .i64 a5.rev]) F rfl ag_80 sz_80 h17) fun a F => ?_
  refine qm F fun a F => ?_
  obtain ⟨t330, q331, H⟩ := bind_some H
  as_aux_lemma =>
  refine qc F Try.func89 (tree_node.calls (m := m + 2) (pl hm0) B h3 h8 h11 _ q331) ?_
  rintro e w333 ⟨c332, p336, rfl, E334, B335, h337⟩
  refine ⟨_, rfl, fun a F => ?_⟩
  have B := B335
  replace E := E.trans E334 nx
  refine qa F fun a F => ?_
  refine nil (hK329 _ _ ?_)
  replace F : Fr a 152 [(8, .pointer p336)] := F.sub ⟨rfl, trivial⟩
  refine wp_ret ?_
  replace H := si H
  subst H
  refine out1 F rfl rfl ?_
  exact ⟨cf (fun x_ => if x_ < m then x_ else 0) c332, p336, rfl, E.lv B0, cfb, TR.rc h337 cfk cfk⟩
theorem tree_last.calls (k : Nat) : ∀ {m : Nat} {c0 : Nat → Nat} {w0 : World} {p2 : Option Addr} {a1 : Tr} (hm0 : 0 < m) (B0 : CB m c0 w0) (h3 : TR 0 c0 w0 p2 a1) (r : Tr × ByteArray × table_cell) (H : tree_last.f k a1 = some r), Calls Try.prog 99 #[.pointer p2] w0 (fun e w_ => ∃ (c_ : Nat → Nat) (P0_ : Option Addr) (A1_ : Option Addr) (C1_ : Nat), e = .returned (.tuple #[.pointer P0_, .string r.2.1, .agg #[.slice A1_ r.2.2.value.length C1_, .int .i64 r.2.2.rev]]) ∧ Ev (fun x => False) c0 w0 c_ w_ ∧ CB m c_ w_ ∧ TR 0 c_ w_ P0_ r.1 ∧ SL false (Kint .u8) 0 0 c_ w_ A1_ C1_ r.2.2.value) := by
 induction k with
 | zero => intro m c0 w0 p2 a1 hm0 B0 h3 r H; exact absurd H (by simp [tree_last.f])
 | succ k ih =>
  intro m c0 w0 p2 a1 hm0 B0 h3 r H
  unfold tree_last.f at H
  have B := B0.mono (show m ≤ m + 3 by omega)
  have E : Ev (fun x => False ∨ m ≤ x) c0 w0 c0 w0 := Ev.refl
  refine enter (N := 50) (l := [.pointer p2]) Try.func99 rfl rfl (nb rfl) fun a F => ?_
  refine wp_seq_k fun K4 hK4 => reg ?_
  refine qa F fun a F => ?_
  refine qa F fun a F => ?_
  refine q_eff F rfl rfl (by decide) (e_alloc F zv_80 c0 (m + 1)) ?_
  rintro v w6 a ⟨c5, qa7, rfl, E8, h9, B10⟩ F
  replace B := B10 _ B lm
  replace h3 := h3.ev E8 nq nq
  replace E := E.trans E8 nx
  replace h9 : AT true (m + 1) c5 w6 qa7 [.slice none 0 0, .int .i64 0] := h9
  refine nil (hK4 _ _ ?_)
  refine wp_seq_k fun K12 hK12 => ?_
  refine wp_seq_k fun K13 hK13 => reg ?_
  refine qm F fun a F => ?_
  replace H := cs_some H
  obtain ⟨tl14, tr15, tk16, tv17, ts18, td19, e20, H⟩ := H
  have z21 := h3
  rw [e20] at z21
  obtain ⟨ad25, lp26, rp27, A22, C23, rfl, hat28, h24, hl29, hr30⟩ := TR.node z21
  refine qv F (r_nil F rfl) fun a F => ?_
  refine qf F ff_112_1 fun a F => ?_
  refine qv F (r_load F rfl ag_77 (AT.cell hat28 rfl)) fun a F => ?_
  refine qv F (r_peqlA F Try.underlying77 rfl rfl (TR.isNil hr30)) fun a F => ?_
  refine nil (hK13 _ _ ?_)
  by_cases hb32 : (Tr.isNil tr15) = true
  ·replace H := ip hb32 H
   refine wp_cond_true (fb F hb32) ?_
   refine wp_seq_k fun K33 hK33 => ?_
   refine regD (SB No c5 w6) 14 (.q 0 (.q 1 (.q 2 (.q 3 (.q 4 (.q 5 (.q 6 (.q 7 (.q 8 (.q 9 (.q 10 (.q 11 (.q 12 (.q 13 (.e 14 .nil))))))))))))))) Try_hm (by decide +kernel) ?_
   intro w34 w1_ w2_ w3_ w4_
   have E35 : Ev No c5 w6 c5 w34 := Ev.same w1_ w2_ w3_ w4_
   replace B := B.same w1_
   have zhat28 := hat28
   have ER : Ev No c5 w6 c5 w34 := Ev.same w1_ w2_ w3_ w4_
   replace h9 := h9.ev E35 nq
   replace h24 := h24.ev E35 nq nq
   replace hl29 := hl29.ev E35 nq nq
   replace E := E.trans E35 nx
   refine dm F ER.sb fun a F => ?_
   refine dq F (fun wq hS => r_nil F rfl) ER.sb fun a F => ?_
   refine df F ff_112_0 ER.sb fun a F => ?_
   refine dq F (fun wq hS => r_load F rfl ag_77 (AT.cell (AT.sb zhat28 hS nq) rfl)) ER.sb fun a F => ?_
   refine dm F ER.sb fun a F => ?_
   refine dq F (fun wq hS => r_nil F rfl) ER.sb fun a F => ?_
   refine df F ff_112_2 ER.sb fun a F => ?_
   refine dq F (fun wq hS => r_load F rfl ag_9 (AT.cell (AT.sb zhat28 hS nq) rfl)) ER.sb fun a F => ?_
   refine dm F ER.sb fun a F => ?_
   refine dq F (fun wq hS => r_nil F rfl) ER.sb fun a F => ?_
   refine df F ff_112_3 ER.sb fun a F => ?_
   refine dq F (fun wq hS => r_loads (cs := [.slice A22 tv17.value.length C23, .int .i64 tv17.rev]) F rfl ag_80 sz_80 (AT.sub (AT.sb zhat28 hS nq) 3 2 (nb rfl))) ER.sb fun a F => ?_
   refine da F ER.sb fun a F => ?_
   refine da F ER.sb fun a F => ?_
   refine d_e ?_
   refine o_eff0 F rfl rfl rfl (e_storeN0 (us := [.slice A22 tv17.value.length C23, .int .i64 tv17.rev]) F rfl rfl sz_80 h9 (nb rfl) (one_all rfl)) ?_
   rintro w36 a ⟨E37, h9, Z38⟩ F
   replace B := B.size Z38
   replace h24 := h24.ev E37 ne_zm ne_zm
   replace hl29 := hl29.ev E37 ne_zm ne_zm
   replace E := E.trans E37 lc1
   replace h9 : AT true (m + 1) c5 w36 qa7 [.slice A22 tv17.value.length C23, .int .i64 tv17.rev] := h9
   refine ⟨fun q => absurd rfl q, ?_⟩
   refine d_nil ?_
   refine hK33 _ _ ?_
   replace F : Fr a 50 [(2, .pointer lp26), (3, .string tk16), (4, .pointer (some qa7))] := F.sub ⟨rfl, rfl, rfl, trivial⟩
   refine wp_ret ?_
   refine thenR ?_
   replace H := si H
   subst H
   refine outR3 F rfl rfl rfl ⟨_, rfl, lv_agg (cs := [.slice A22 tv17.value.length C23, .int .i64 tv17.rev]) ag_80 sz_80 h9⟩ ?_
   exact ⟨cf (fun x_ => if x_ < m then x_ else 0) c5, lp26, A22, C23, rfl, E.lv B0, cfb, TR.rc hl29 cfk cfk, SL.rc h24 cfk cfk⟩
  replace H := im hb32 H
  refine wp_cond_false (fb F (bfalse hb32)) (wp_skip (hK12 _ _ ?_))
  refine wp_seq_k fun K39 hK39 => reg ?_
  refine qm F fun a F => ?_
  refine qv F (r_nil F rfl) fun a F => ?_
  refine qf F ff_112_1 fun a F => ?_
  refine qv F (r_load F rfl ag_77 (AT.cell hat28 rfl)) fun a F => ?_
  obtain ⟨t40, q41, H⟩ := bind_some H
  refine qc F Try.func99 (ih (m := m + 3) (pl hm0) B hr30 _ q41) ?_
  rintro e w43 ⟨c42, p46, A48, C49, rfl, E44, B45, h47, h50⟩
  refine ⟨_, rfl, fun a F => ?_⟩
  have B := B45
  replace h9 := h9.ev E44 nq
  replace h24 := h24.ev E44 nq nq
  replace hl29 := hl29.ev E44 nq nq
  replace hat28 := hat28.ev E44 nq
  replace E := E.trans E44 nx
  refine qm F fun a F => ?_
  refine qv F (r_extract F rfl rfl) fun a F => ?_
  refine qv F (r_extract F rfl rfl) fun a F => ?_
  refine qv F (r_extract F rfl rfl) fun a F => ?_
  refine q_eff F rfl rfl (by decide) (e_alloc F zv_80 c42 (m + 2)) ?_
  rintro v w53 a ⟨c52, qa54, rfl, E55, h56, B57⟩ F
  replace B := B57 _ B lm
  replace h9 := h9.ev E55 nq
  replace h24 := h24.ev E55 nq nq
  replace hl29 := hl29.ev E55 nq nq
  replace hat28 := hat28.ev E55 nq
  replace h47 := h47.ev E55 nq nq
  replace h50 := h50.ev E55 nq nq
  replace E := E.trans E55 nx
  replace h56 : AT true (m + 2) c52 w53 qa54 [.slice none 0 0, .int .i64 0] := h56
  refine qa F fun a F => ?_
  refine qa F fun a F => ?_
  refine q_eff0 F rfl rfl (e_storeN0 (us := [.slice A48 t40.2.2.value.length C49, .int .i64 t40.2.2.rev]) F rfl rfl sz_80 h56 (nb rfl) (one_all rfl)) ?_
  rintro w59 a ⟨E60, h56, Z61⟩ F
  replace B := B.size Z61
  replace h9 := h9.ev E60 mm
  replace h24 := h24.ev E60 ne_zm ne_zm
  replace hl29 := hl29.ev E60 ne_zm ne_zm
  replace hat28 := hat28.ev E60 ne_zm
  replace h47 := h47.ev E60 ne_zm ne_zm
  replace h50 := h50.ev E60 ne_zm ne_zm
  replace E := E.trans E60 lc1
  replace h56 : AT true (m + 2) c52 w59 qa54 [.slice A48 t40.2.2.value.length C49, .int .i64 t40.2.2.rev] := h56
  refine nil (hK39 _ _ ?_)
  replace F : Fr a 50 [(0, .pointer (some ad25)), (4, .pointer (some qa7)), (5, .pointer p46), (6, .string t40.2.1), (7, .pointer (some qa54))] := F.sub ⟨rfl, rfl, rfl, rfl, rfl, trivial⟩
  refine wp_seq_k fun K62 hK62 => ?_
  refine regD (SB No c52 w59) 18 (.q 0 (.q 1 (.q 2 (.q 3 (.q 4 (.q 5 (.q 6 (.q 7 (.q 8 (.q 9 (.q 10 (.q 11 (.q 12 (.q 14 (.q 15 (.e 13 (.q 16 (.q 17 (.e 18 .nil))))))))))))))))))) Try_hm (by decide +kernel) ?_
  intro w63 w1_ w2_ w3_ w4_
  have E64 : Ev No c52 w59 c52 w63 := Ev.same w1_ w2_ w3_ w4_
  replace B := B.same w1_
  have zhat28 := hat28
  have zh56 := h56
  have ER : Ev No c52 w59 c52 w63 := Ev.same w1_ w2_ w3_ w4_
  replace h9 := h9.ev E64 nq
  replace h24 := h24.ev E64 nq nq
  replace hl29 := hl29.ev E64 nq nq
  replace h47 := h47.ev E64 nq nq
  replace h50 := h50.ev E64 nq nq
  replace E := E.trans E64 nx
  refine dm F ER.sb fun a F => ?_
  refine dq F (fun wq hS => r_nil F rfl) ER.sb fun a F => ?_
  refine df F ff_112_0 ER.sb fun a F => ?_
  refine dq F (fun wq hS => r_load F rfl ag_77 (AT.cell (AT.sb zhat28 hS nq) rfl)) ER.sb fun a F => ?_
  refine dm F ER.sb fun a F => ?_
  refine dq F (fun wq hS => r_nil F rfl) ER.sb fun a F => ?_
  refine df F ff_112_2 ER.sb fun a F => ?_
  refine dq F (fun wq hS => r_load F rfl ag_9 (AT.cell (AT.sb zhat28 hS nq) rfl)) ER.sb fun a F => ?_
  refine dm F ER.sb fun a F => ?_
  refine dq F (fun wq hS => r_nil F rfl) ER.sb fun a F => ?_
  refine df F ff_112_3 ER.sb fun a F => ?_
  refine dq F (fun wq hS => r_loads (cs := [.slice A22 tv17.value.length C23, .int .i64 tv17.rev]) F rfl ag_80 sz_80 (AT.sub (AT.sb zhat28 hS nq) 3 2 (nb rfl))) ER.sb fun a F => ?_
  refine dm F ER.sb fun a F => ?_
  refine dm F ER.sb fun a F => ?_
  refine dq F (fun wq hS => r_loads (cs := [.slice A48 t40.2.2.value.length C49, .int .i64 t40.2.2.rev]) F rfl ag_80 sz_80 (AT.sb zh56 hS nq)) ER.sb fun a F => ?_
  refine d_e ?_
  obtain ⟨t65, q66, H⟩ := bind_some H
  refine oc F Try.func87 (tree_join.calls k (m := m + 3) (pl hm0) B hl29 h24 h47 _ q66) ?_
  rintro e w68 ⟨c67, p71, rfl, E69, B70, h72⟩
  refine ⟨_, rfl, fun a F => ?_⟩
  have B := B70
  replace ER := ER.trans E69 nx
  replace h9 := h9.ev E69 nq
  replace h50 := h50.ev E69 nq nq
  replace E := E.trans E69 nx
  refine ⟨fun _ => ER.sb, ?_⟩
  refine da F ER.sb fun a F => ?_
  refine da F ER.sb fun a F => ?_
  refine d_e ?_
  refine o_eff0 F rfl rfl rfl (e_storeN0 (us := [.slice A48 t40.2.2.value.length C49, .int .i64 t40.2.2.rev]) F rfl rfl sz_80 h9 (nb rfl) (one_all rfl)) ?_
  rintro w74 a ⟨E75, h9, Z76⟩ F
  replace B := B.size Z76
  replace h50 := h50.ev E75 ne_zm ne_zm
  replace h72 := h72.ev E75 ne_zm ne_zm
  replace E := E.trans E75 lc1
  replace h9 : AT true (m + 1) c67 w74 qa7 [.slice A48 t40.2.2.value.length C49, .int .i64 t40.2.2.rev] := h9
  refine ⟨fun q => absurd rfl q, ?_⟩
  refine d_nil ?_
  refine hK62 _ _ ?_
  replace F : Fr a 50 [(2, .pointer p71), (3, .string t40.2.1), (4, .pointer (some qa7))] := F.sub ⟨rfl, rfl, rfl, trivial⟩
  refine wp_ret ?_
  replace H := si H
  subst H
  refine outR3 F rfl rfl rfl ⟨_, rfl, lv_agg (cs := [.slice A48 t40.2.2.value.length C49, .int .i64 t40.2.2.rev]) ag_80 sz_80 h9⟩ ?_
  exact ⟨cf (fun x_ => if x_ < m then x_ else 0) c67, p71, A48, C49, rfl, E.lv B0, cfb, TR.rc h72 cfk cfk, SL.rc h50 cfk cfk⟩
theorem tree_both.calls (k : Nat) {m : Nat} {c0 : Nat → Nat} {w0 : World} {p2 : Option Addr} {p5 : Option Addr} {a1 : Tr} {a4 : Tr} (hm0 : 0 < m) (B0 : CB m c0 w0) (h3 : TR 0 c0 w0 p2 a1) (h6 : TR 0 c0 w0 p5 a4) (r : Tr) (H : tree_both.f k a1 a4 = some r) : Calls Try.prog 88 #[.pointer p2, .pointer p5] w0 (fun e w_ => ∃ (c_ : Nat → Nat) (P0_ : Option Addr), e = .returned (.pointer P0_) ∧ Ev (fun x => False) c0 w0 c_ w_ ∧ CB m c_ w_ ∧ TR 0 c_ w_ P0_ r) := by
 unfold tree_both.f at H
 have B := B0.mono (show m ≤ m + 2 by omega)
 have E : Ev (fun x => False ∨ m ≤ x) c0 w0 c0 w0 := Ev.refl
 refine enter (N := 21) (l := [.pointer p2, .pointer p5]) Try.func88 rfl rfl (nb rfl) fun a F => ?_
 refine wp_seq_k fun K7 hK7 => reg ?_
 refine qa F fun a F => ?_
 refine nil (hK7 _ _ ?_)
 refine wp_seq_k fun K8 hK8 => ?_
 refine wp_seq_k fun K9 hK9 => reg ?_
 refine qm F fun a F => ?_
 refine qv F (r_peqlA F Try.underlying77 rfl rfl (TR.isNil h3)) fun a F => ?_
 refine nil (hK9 _ _ ?_)
 by_cases hb10 : (Tr.isNil a1) = true
 ·replace H := ip hb10 H
  refine wp_cond_true (fb F hb10) ?_
  refine wp_seq_k fun K11 hK11 => reg ?_
  refine qm F fun a F => ?_
  refine qa F fun a F => ?_
  refine nil (hK11 _ _ ?_)
  refine wp_ret ?_
  refine thenR ?_
  replace H := si H
  subst H
  refine out1 F rfl rfl ?_
  exact ⟨cf (fun x_ => if x_ < m then x_ else 0) c0, p5, rfl, E.lv B0, cfb, TR.rc h6 cfk cfk⟩
 replace H := im hb10 H
 refine wp_cond_false (fb F (bfalse hb10)) (wp_skip (hK8 _ _ ?_))
 refine wp_seq_k fun K12 hK12 => reg ?_
 refine qm F fun a F => ?_
 obtain ⟨t13, q14, H⟩ := bind_some H
 refine qc F Try.func99 (tree_last.calls k (m := m + 2) (pl hm0) B h3 _ q14) ?_
 rintro e w16 ⟨c15, p19, A21, C22, rfl, E17, B18, h20, h23⟩
 refine ⟨_, rfl, fun a F => ?_⟩
 have B := B18
 replace h6 := h6.ev E17 nq nq
 replace E := E.trans E17 nx
 refine qm F fun a F => ?_
 refine qv F (r_extract F rfl rfl) fun a F => ?_
 refine qv F (r_extract F rfl rfl) fun a F => ?_
 refine qv F (r_extract F rfl rfl) fun a F => ?_
 refine q_eff F rfl rfl (by decide) (e_alloc F zv_80 c15 (m + 1)) ?_
 rintro v w26 a ⟨c25, qa27, rfl, E28, h29, B30⟩ F
 replace B := B30 _ B lm
 replace h6 := h6.ev E28 nq nq
 replace h20 := h20.ev E28 nq nq
 replace h23 := h23.ev E28 nq nq
 replace E := E.trans E28 nx
 replace h29 : AT true (m + 1) c25 w26 qa27 [.slice none 0 0, .int .i64 0] := h29
 refine qa F fun a F => ?_
 refine qa F fun a F => ?_
 refine q_eff0 F rfl rfl (e_storeN0 (us := [.slice A21 t13.2.2.value.length C22, .int .i64 t13.2.2.rev]) F rfl rfl sz_80 h29 (nb rfl) (one_all rfl)) ?_
 rintro w32 a ⟨E33, h29, Z34⟩ F
 replace B := B.size Z34
 replace h6 := h6.ev E33 ne_zm ne_zm
 replace h20 := h20.ev E33 ne_zm ne_zm
 replace h23 := h23.ev E33 ne_zm ne_zm
 replace E := E.trans E33 lc1
 replace h29 : AT true (m + 1) c25 w32 qa27 [.slice A21 t13.2.2.value.length C22, .int .i64 t13.2.2.rev] := h29
 refine nil (hK12 _ _ ?_)
 replace F : Fr a 21 [(0, .pointer p19), (1, .pointer p5), (5, .string t13.2.1), (6, .pointer (some qa27))] := F.sub ⟨rfl, rfl, rfl, rfl, trivial⟩
 refine wp_seq_k fun K35 hK35 => reg ?_
 refine qm F fun a F => ?_
 refine qm F fun a F => ?_
 refine qv F (r_loads (cs := [.slice A21 t13.2.2.value.length C22, .int .i64 t13.2.2.rev]) F rfl ag_80 sz_80 h29) fun a F => ?_
 refine qm F fun a F => ?_
 obtain ⟨t36, q37, H⟩ := bind_some H
 refine qc F Try.func87 (tree_join.calls k (m := m + 2) (pl hm0) B h20 h23 h6 _ q37) ?_
 rintro e w39 ⟨c38, p42, rfl, E40, B41, h43⟩
 refine ⟨_, rfl, fun a F => ?_⟩
 have B := B41
 replace E := E.trans E40 nx
 refine qa F fun a F => ?_
 refine nil (hK35 _ _ ?_)
 replace F : Fr a 21 [(4, .pointer p42)] := F.sub ⟨rfl, trivial⟩
 refine wp_ret ?_
 replace H := si H
 subst H
 refine out1 F rfl rfl ?_
 exact ⟨cf (fun x_ => if x_ < m then x_ else 0) c38, p42, rfl, E.lv B0, cfb, TR.rc h43 cfk cfk⟩
theorem tree_Tree_Delete.calls (k : Nat) : ∀ {m : Nat} {c0 : Nat → Nat} {w0 : World} {p2 : Option Addr} {a1 : Tr} {a4 : ByteArray} (hm0 : 0 < m) (B0 : CB m c0 w0) (h3 : TR 0 c0 w0 p2 a1) (r : Tr × Bool) (H : tree_Tree_Delete.f k a1 a4 = some r), Calls Try.prog 64 #[.pointer p2, .string a4] w0 (fun e w_ => ∃ (c_ : Nat → Nat) (P0_ : Option Addr), e = .returned (.tuple #[.pointer P0_, .bool r.2]) ∧ Ev (fun x => False) c0 w0 c_ w_ ∧ CB m c_ w_ ∧ TR 0 c_ w_ P0_ r.1) := by
 induction k with
 | zero => intro m c0 w0 p2 a1 a4 hm0 B0 h3 r H; exact absurd H (by simp [tree_Tree_Delete.f])
 | succ k ih =>
  intro m c0 w0 p2 a1 a4 hm0 B0 h3 r H
  unfold tree_Tree_Delete.f at H
  have B := B0.mono (show m ≤ m + 1 by omega)
  have E : Ev (fun x => False ∨ m ≤ x) c0 w0 c0 w0 := Ev.refl
  refine enter (N := 86) (l := [.pointer p2, .string a4]) Try.func64 rfl rfl (nb rfl) fun a F => ?_
  refine wp_seq_k fun K5 hK5 => reg ?_
  refine qa F fun a F => ?_
  refine qa F fun a F => ?_
  refine nil (hK5 _ _ ?_)
  refine wp_seq_k fun K6 hK6 => ?_
  refine wp_seq_k fun K7 hK7 => reg ?_
  refine qm F fun a F => ?_
  refine qv F (r_peqlA F Try.underlying77 rfl rfl (TR.isNil h3)) fun a F => ?_
  refine nil (hK7 _ _ ?_)
  by_cases hb8 : (Tr.isNil a1) = true
  ·replace H := ip hb8 H
   refine wp_cond_true (fb F hb8) ?_
   refine wp_seq_k fun K9 hK9 => reg ?_
   refine qa F fun a F => ?_
   refine qa F fun a F => ?_
   refine nil (hK9 _ _ ?_)
   refine wp_ret ?_
   refine thenR ?_
   replace H := si H
   subst H
   refine out2 F rfl rfl rfl ?_
   exact ⟨cf (fun x_ => if x_ < m then x_ else 0) c0, none, rfl, E.lv B0, cfb, TR.nil⟩
  replace H := im hb8 H
  refine wp_cond_false (fb F (bfalse hb8)) (wp_skip (hK6 _ _ ?_))
  refine wp_seq_k fun K10 hK10 => ?_
  refine wp_seq_k fun K11 hK11 => reg ?_
  refine qm F fun a F => ?_
  refine qm F fun a F => ?_
  replace H := cs_some H
  obtain ⟨tl12, tr13, tk14, tv15, ts16, td17, e18, H⟩ := H
  have z19 := h3
  rw [e18] at z19
  obtain ⟨ad23, lp24, rp25, A20, C21, rfl, hat26, h22, hl27, hr28⟩ := TR.node z19
  refine qv F (r_nil F rfl) fun a F => ?_
  refine qf F ff_112_2 fun a F => ?_
  refine qv F (r_load F rfl ag_9 (AT.cell hat26 rfl)) fun a F => ?_
  obtain ⟨t30, q31, H⟩ := bind_some H
  refine qc F Try.func62 (cmp_Compare.calls (m := m + 1) (pl hm0) B _ q31) ?_
  rintro e w33 ⟨c32, rfl, E34, B35⟩
  refine ⟨_, rfl, fun a F => ?_⟩
  have B := B35
  replace h3 := h3.ev E34 nq nq
  replace h22 := h22.ev E34 nq nq
  replace hl27 := hl27.ev E34 nq nq
  replace hr28 := hr28.ev E34 nq nq
  replace hat26 := hat26.ev E34 nq
  replace E := E.trans E34 nx
  refine qa F fun a F => ?_
  refine nil (hK11 _ _ ?_)
  replace F : Fr a 86 [(0, .pointer (some ad23)), (1, .string a4), (6, .int .i64 t30)] := F.sub ⟨rfl, rfl, rfl, trivial⟩
  refine wp_block ?_
  refine wp_seq_k fun K37 hK37 => reg ?_
  refine qm F fun a F => ?_
  refine qv F (r_lss F rfl rfl) fun a F => ?_
  refine qa F fun a F => ?_
  refine nil (hK37 _ _ ?_)
  by_cases hb38 : t30 < 0
  ·replace H := ip hb38 H
   refine wp_cond_true (fb F (dt hb38)) ?_
   refine wp_seq_k fun K39 hK39 => reg ?_
   refine qm F fun a F => ?_
   refine qv F (r_nil F rfl) fun a F => ?_
   refine qf F ff_112_0 fun a F => ?_
   refine qv F (r_load F rfl ag_77 (AT.cell hat26 rfl)) fun a F => ?_
   refine qm F fun a F => ?_
   obtain ⟨t40, q41, H⟩ := bind_some H
   refine qc F Try.func64 (ih (m := m + 1) (pl hm0) B hl27 _ q41) ?_
   rintro e w43 ⟨c42, p46, rfl, E44, B45, h47⟩
   refine ⟨_, rfl, fun a F => ?_⟩
   have B := B45
   replace h3 := h3.ev E44 nq nq
   replace h22 := h22.ev E44 nq nq
   replace hr28 := hr28.ev E44 nq nq
   replace hat26 := hat26.ev E44 nq
   replace E := E.trans E44 nx
   refine qm F fun a F => ?_
   refine qv F (r_extract F rfl rfl) fun a F => ?_
   refine qv F (r_extract F rfl rfl) fun a F => ?_
   refine qa F fun a F => ?_
   refine qa F fun a F => ?_
   refine nil (hK39 _ _ ?_)
   replace F : Fr a 86 [(0, .pointer (some ad23)), (7, .pointer p46), (8, .bool t40.2)] := F.sub ⟨rfl, rfl, rfl, trivial⟩
   refine wp_seq_k fun K49 hK49 => ?_
   refine wp_seq_k fun K50 hK50 => reg ?_
   refine qm F fun a F => ?_
   refine qv F (r_not F rfl) fun a F => ?_
   refine nil (hK50 _ _ ?_)
   by_cases hb51 : t40.2 = true
   ·replace H := ip hb51 H
    refine wp_cond_false (fb F (congrArg not hb51)) (wp_skip (hK49 _ _ ?_))
    refine wp_seq_k fun K53 hK53 => ?_
    refine regD (SB No c42 w43) 16 (.q 0 (.q 1 (.q 2 (.q 3 (.q 4 (.q 5 (.q 6 (.q 7 (.q 8 (.q 9 (.q 10 (.q 11 (.q 12 (.e 13 (.q 14 (.q 15 .nil)))))))))))))))) Try_hm (by decide +kernel) ?_
    intro w54 w1_ w2_ w3_ w4_
    have E55 : Ev No c42 w43 c42 w54 := Ev.same w1_ w2_ w3_ w4_
    replace B := B.same w1_
    have zhat26 := hat26
    have ER : Ev No c42 w43 c42 w54 := Ev.same w1_ w2_ w3_ w4_
    replace h22 := h22.ev E55 nq nq
    replace hr28 := hr28.ev E55 nq nq
    replace h47 := h47.ev E55 nq nq
    replace E := E.trans E55 nx
    refine dm F ER.sb fun a F => ?_
    refine dm F ER.sb fun a F => ?_
    refine dq F (fun wq hS => r_nil F rfl) ER.sb fun a F => ?_
    refine df F ff_112_2 ER.sb fun a F => ?_
    refine dq F (fun wq hS => r_load F rfl ag_9 (AT.cell (AT.sb zhat26 hS nq) rfl)) ER.sb fun a F => ?_
    refine dm F ER.sb fun a F => ?_
    refine dq F (fun wq hS => r_nil F rfl) ER.sb fun a F => ?_
    refine df F ff_112_3 ER.sb fun a F => ?_
    refine dq F (fun wq hS => r_loads (cs := [.slice A20 tv15.value.length C21, .int .i64 tv15.rev]) F rfl ag_80 sz_80 (AT.sub (AT.sb zhat26 hS nq) 3 2 (nb rfl))) ER.sb fun a F => ?_
    refine dm F ER.sb fun a F => ?_
    refine dq F (fun wq hS => r_nil F rfl) ER.sb fun a F => ?_
    refine df F ff_112_1 ER.sb fun a F => ?_
    refine dq F (fun wq hS => r_load F rfl ag_77 (AT.cell (AT.sb zhat26 hS nq) rfl)) ER.sb fun a F => ?_
    refine d_e ?_
    obtain ⟨t56, q57, H⟩ := bind_some H
    refine oc F Try.func87 (tree_join.calls k (m := m + 1) (pl hm0) B h47 h22 hr28 _ q57) ?_
    rintro e w59 ⟨c58, p62, rfl, E60, B61, h63⟩
    refine ⟨_, rfl, fun a F => ?_⟩
    have B := B61
    replace ER := ER.trans E60 nx
    replace E := E.trans E60 nx
    refine ⟨fun _ => ER.sb, ?_⟩
    refine da F ER.sb fun a F => ?_
    refine da F ER.sb fun a F => ?_
    refine d_nil ?_
    refine hK53 _ _ ?_
    replace F : Fr a 86 [(4, .pointer p62), (5, .bool true)] := F.sub ⟨rfl, rfl, trivial⟩
    refine wp_ret ?_
    refine inbR ?_
    refine thenR ?_
    replace H := si H
    subst H
    refine out2 F rfl rfl rfl ?_
    exact ⟨cf (fun x_ => if x_ < m then x_ else 0) c58, p62, rfl, E.lv B0, cfb, TR.rc h63 cfk cfk⟩
   replace H := im hb51 H
   refine wp_cond_true (fb F (congrArg not (bfalse hb51))) ?_
   refine wp_seq_k fun K52 hK52 => reg ?_
   refine qm F fun a F => ?_
   refine qa F fun a F => ?_
   refine qa F fun a F => ?_
   refine nil (hK52 _ _ ?_)
   refine wp_ret ?_
   refine thenR ?_
   refine inbR ?_
   refine thenR ?_
   replace H := si H
   subst H
   refine out2 F rfl rfl rfl ?_
   exact ⟨cf (fun x_ => if x_ < m then x_ else 0) c42, (some ad23), rfl, E.lv B0, cfb, TR.rc h3 cfk cfk⟩
  replace H := im hb38 H
  refine wp_cond_false (fb F (dz hb38)) ?_
  refine wp_seq_k fun K65 hK65 => reg ?_
  refine qm F fun a F => ?_
  refine qv F (r_gtr F rfl rfl) fun a F => ?_
  refine qa F fun a F => ?_
  refine nil (hK65 _ _ ?_)
  by_cases hb66 : 0 < t30
  ·replace H := ip hb66 H
   refine wp_cond_true (fb F (dt hb66)) ?_
   refine wp_seq_k fun K67 hK67 => reg ?_
   refine qm F fun a F => ?_
   refine qv F (r_nil F rfl) fun a F => ?_
   refine qf F ff_112_1 fun a F => ?_
   refine qv F (r_load F rfl ag_77 (AT.cell hat26 rfl)) fun a F => ?_
   refine qm F fun a F => ?_
   obtain ⟨t68, q69, H⟩ := bind_some H
   refine qc F Try.func64 (ih (m := m + 1) (pl hm0) B hr28 _ q69) ?_
   rintro e w71 ⟨c70, p74, rfl, E72, B73, h75⟩
   refine ⟨_, rfl, fun a F => ?_⟩
   have B := B73
   replace h3 := h3.ev E72 nq nq
   replace h22 := h22.ev E72 nq nq
   replace hl27 := hl27.ev E72 nq nq
   replace hat26 := hat26.ev E72 nq
   replace E := E.trans E72 nx
   refine qm F fun a F => ?_
   refine qv F (r_extract F rfl rfl) fun a F => ?_
   refine qv F (r_extract F rfl rfl) fun a F => ?_
   refine qa F fun a F => ?_
   refine qa F fun a F => ?_
   refine nil (hK67 _ _ ?_)
   replace F : Fr a 86 [(0, .pointer (some ad23)), (9, .pointer p74), (10, .bool t68.2)] := F.sub ⟨rfl, rfl, rfl, trivial⟩
   refine wp_seq_k fun K77 hK77 => ?_
   refine wp_seq_k fun K78 hK78 => reg ?_
   refine qm F fun a F => ?_
   refine qv F (r_not F rfl) fun a F => ?_
   refine nil (hK78 _ _ ?_)
   by_cases hb79 : t68.2 = true
   ·replace H := ip hb79 H
    refine wp_cond_false (fb F (congrArg not hb79)) (wp_skip (hK77 _ _ ?_))
    refine wp_seq_k fun K81 hK81 => ?_
    refine regD (SB No c70 w71) 16 (.q 0 (.q 1 (.q 2 (.q 3 (.q 4 (.q 5 (.q 6 (.q 7 (.q 8 (.q 9 (.q 10 (.q 11 (.q 12 (.e 13 (.q 14 (.q 15 .nil)))))))))))))))) Try_hm (by decide +kernel) ?_
    intro w82 w1_ w2_ w3_ w4_
    have E83 : Ev No c70 w71 c70 w82 := Ev.same w1_ w2_ w3_ w4_
    replace B := B.same w1_
    have zhat26 := hat26
    have ER : Ev No c70 w71 c70 w82 := Ev.same w1_ w2_ w3_ w4_
    replace h22 := h22.ev E83 nq nq
    replace hl27 := hl27.ev E83 nq nq
    replace h75 := h75.ev E83 nq nq
    replace E := E.trans E83 nx
    refine dm F ER.sb fun a F => ?_
    refine dq F (fun wq hS => r_nil F rfl) ER.sb fun a F => ?_
    refine df F ff_112_0 ER.sb fun a F => ?_
    refine dq F (fun wq hS => r_load F rfl ag_77 (AT.cell (AT.sb zhat26 hS nq) rfl)) ER.sb fun a F => ?_
    refine dm F ER.sb fun a F => ?_
    refine dq F (fun wq hS => r_nil F rfl) ER.sb fun a F => ?_
    refine df F ff_112_2 ER.sb fun a F => ?_
    refine dq F (fun wq hS => r_load F rfl ag_9 (AT.cell (AT.sb zhat26 hS nq) rfl)) ER.sb fun a F => ?_
    refine dm F ER.sb fun a F => ?_
    refine dq F (fun wq hS => r_nil F rfl) ER.sb fun a F => ?_
    refine df F ff_112_3 ER.sb fun a F => ?_
    refine dq F (fun wq hS => r_loads (cs := [.slice A20 tv15.value.length C21, .int .i64 tv15.rev]) F rfl ag_80 sz_80 (AT.sub (AT.sb zhat26 hS nq) 3 2 (nb rfl))) ER.sb fun a F => ?_
    refine dm F ER.sb fun a F => ?_
    refine d_e ?_
    obtain ⟨t84, q85, H⟩ := bind_some H
    refine oc F Try.func87 (tree_join.calls k (m := m + 1) (pl hm0) B hl27 h22 h75 _ q85) ?_
    rintro e w87 ⟨c86, p90, rfl, E88, B89, h91⟩
    refine ⟨_, rfl, fun a F => ?_⟩
    have B := B89
    replace ER := ER.trans E88 nx
    replace E := E.trans E88 nx
    refine ⟨fun _ => ER.sb, ?_⟩
    refine da F ER.sb fun a F => ?_
    refine da F ER.sb fun a F => ?_
    refine d_nil ?_
    refine hK81 _ _ ?_
    replace F : Fr a 86 [(4, .pointer p90), (5, .bool true)] := F.sub ⟨rfl, rfl, trivial⟩
    refine wp_ret ?_
    refine inbR ?_
    refine thenR ?_
    replace H := si H
    subst H
    refine out2 F rfl rfl rfl ?_
    exact ⟨cf (fun x_ => if x_ < m then x_ else 0) c86, p90, rfl, E.lv B0, cfb, TR.rc h91 cfk cfk⟩
   replace H := im hb79 H
   refine wp_cond_true (fb F (congrArg not (bfalse hb79))) ?_
   refine wp_seq_k fun K80 hK80 => reg ?_
   refine qm F fun a F => ?_
   refine qa F fun a F => ?_
   refine qa F fun a F => ?_
   refine nil (hK80 _ _ ?_)
   refine wp_ret ?_
   refine thenR ?_
   refine inbR ?_
   refine thenR ?_
   replace H := si H
   subst H
   refine out2 F rfl rfl rfl ?_
   exact ⟨cf (fun x_ => if x_ < m then x_ else 0) c70, (some ad23), rfl, E.lv B0, cfb, TR.rc h3 cfk cfk⟩
  replace H := im hb66 H
  refine wp_cond_false (fb F (dz hb66)) (wp_skip (hK10 _ _ ?_))
  replace F : Fr a 86 [(0, .pointer (some ad23))] := F.sub ⟨rfl, trivial⟩
  refine wp_seq_k fun K93 hK93 => ?_
  refine regD (SB No c32 w33) 11 (.q 0 (.q 1 (.q 2 (.q 3 (.q 4 (.q 5 (.q 6 (.q 7 (.e 8 (.q 9 (.q 10 .nil))))))))))) Try_hm (by decide +kernel) ?_
  intro w94 w1_ w2_ w3_ w4_
  have E95 : Ev No c32 w33 c32 w94 := Ev.same w1_ w2_ w3_ w4_
  replace B := B.same w1_
  have zhat26 := hat26
  have ER : Ev No c32 w33 c32 w94 := Ev.same w1_ w2_ w3_ w4_
  replace hl27 := hl27.ev E95 nq nq
  replace hr28 := hr28.ev E95 nq nq
  replace E := E.trans E95 nx
  refine dm F ER.sb fun a F => ?_
  refine dq F (fun wq hS => r_nil F rfl) ER.sb fun a F => ?_
  refine df F ff_112_0 ER.sb fun a F => ?_
  refine dq F (fun wq hS => r_load F rfl ag_77 (AT.cell (AT.sb zhat26 hS nq) rfl)) ER.sb fun a F => ?_
  refine dm F ER.sb fun a F => ?_
  refine dq F (fun wq hS => r_nil F rfl) ER.sb fun a F => ?_
  refine df F ff_112_1 ER.sb fun a F => ?_
  refine dq F (fun wq hS => r_load F rfl ag_77 (AT.cell (AT.sb zhat26 hS nq) rfl)) ER.sb fun a F => ?_
  refine d_e ?_
  obtain ⟨t96, q97, H⟩ := bind_some H
  refine oc F Try.func88 (tree_both.calls k (m := m + 1) (pl hm0) B hl27 hr28 _ q97) ?_
  rintro e w99 ⟨c98, p102, rfl, E100, B101, h103⟩
  refine ⟨_, rfl, fun a F => ?_⟩
  have B := B101
  replace ER := ER.trans E100 nx
  replace E := E.trans E100 nx
  refine ⟨fun _ => ER.sb, ?_⟩
  refine da F ER.sb fun a F => ?_
  refine da F ER.sb fun a F => ?_
  refine d_nil ?_
  refine hK93 _ _ ?_
  replace F : Fr a 86 [(4, .pointer p102), (5, .bool true)] := F.sub ⟨rfl, rfl, trivial⟩
  refine wp_ret ?_
  replace H := si H
  subst H
  refine out2 F rfl rfl rfl ?_
  exact ⟨cf (fun x_ => if x_ < m then x_ else 0) c98, p102, rfl, E.lv B0, cfb, TR.rc h103 cfk cfk⟩
theorem tree_Tree_Get.calls (k : Nat) {m : Nat} {c0 : Nat → Nat} {w0 : World} {p2 : Option Addr} {a1 : Tr} {a4 : ByteArray} (hm0 : 0 < m) (B0 : CB m c0 w0) (h3 : TR 0 c0 w0 p2 a1) (r : table_cell × Bool) (H : tree_Tree_Get.f k a1 a4 = some r) : Calls Try.prog 40 #[.pointer p2, .string a4] w0 (fun e w_ => ∃ (c_ : Nat → Nat) (A0_ : Option Addr) (C0_ : Nat), e = .returned (.tuple #[.agg #[.slice A0_ r.1.value.length C0_, .int .i64 r.1.rev], .bool r.2]) ∧ Ev (fun x => False) c0 w0 c_ w_ ∧ CB m c_ w_ ∧ SL false (Kint .u8) 0 0 c_ w_ A0_ C0_ r.1.value) := by
 unfold tree_Tree_Get.f at H
 have B := B0.mono (show m ≤ m + 2 by omega)
 have E : Ev (fun x => False ∨ m ≤ x) c0 w0 c0 w0 := Ev.refl
 refine enter (N := 34) (l := [.pointer p2, .string a4]) Try.func40 rfl rfl (nb rfl) fun a F => ?_
 refine wp_seq_k fun K5 hK5 => reg ?_
 refine q_eff F rfl rfl (by decide) (e_alloc F zv_80 c0 (m + 1)) ?_
 rintro v w7 a ⟨c6, qa8, rfl, E9, h10, B11⟩ F
 replace B := B11 _ B lm
 replace h3 := h3.ev E9 nq nq
 replace E := E.trans E9 nx
 replace h10 : AT true (m + 1) c6 w7 qa8 [.slice none 0 0, .int .i64 0] := h10
 refine qa F fun a F => ?_
 refine nil (hK5 _ _ ?_)
 refine wp_seq_k fun K13 hK13 => ?_
 refine wp_block ?_
 obtain ⟨x26, HL, HR25⟩ := bind_some H
 have J67 : ∀ (c68 : Nat → Nat) (w69 : World) (a : Act), Fr a 34 [(4, .pointer (some qa8))] → Ev (fun x => False ∨ m ≤ x) c0 w0 c68 w69 → CB (m + 2) c68 w69 → AT true (m + 1) c68 w69 qa8 [.slice none 0 0, .int .i64 0] → tree_Tree_Get.j2 = some r → K13 a w69 := by
  intro c68 w69 a  F E B h10 H
  unfold tree_Tree_Get.j2 at H
  refine hK13 _ _ ?_
  refine wp_seq_k fun K70 hK70 => reg ?_
  refine qv F (r_loads (cs := [.slice none 0 0, .int .i64 0]) F rfl ag_80 sz_80 h10) fun a F => ?_
  refine q_eff0 F rfl rfl (e_storeN0 (us := [.slice none 0 0, .int .i64 0]) F rfl rfl sz_80 h10 (nb rfl) (one_all rfl)) ?_
  rintro w71 a ⟨E72, h10, Z73⟩ F
  replace B := B.size Z73
  replace E := E.trans E72 lc1
  replace h10 : AT true (m + 1) c68 w71 qa8 [.slice none 0 0, .int .i64 0] := h10
  refine qa F fun a F => ?_
  refine nil (hK70 _ _ ?_)
  refine wp_ret ?_
  replace H := si H
  subst H
  refine outR2 F rfl ⟨_, rfl, lv_agg (cs := [.slice none 0 0, .int .i64 0]) ag_80 sz_80 h10⟩ rfl ?_
  exact ⟨cf (fun x_ => if x_ < m then x_ else 0) c68, none, 0, rfl, E.lv B0, cfb, SL.nil⟩
 refine loop_fuel (I := fun n a w => ∃ (o14 : Tr) (p15 : Option Addr) (c : Nat → Nat), Fr a 34 [(0, .pointer p15), (1, .string a4), (4, .pointer (some qa8))] ∧ Ev (fun x => False ∨ m ≤ x) c0 w0 c w ∧ CB (m + 2) c w ∧ AT true (m + 1) c w qa8 [.slice none 0 0, .int .i64 0] ∧ TR 0 c w p15 o14 ∧ loop (fun (s_ : Tr) => tree_Tree_Get.b1 a4 s_) n o14 = some x26) (k := k) ⟨a1, p2, c6, F.sub ⟨rfl, rfl, rfl, trivial⟩, E, B, h10, h3, HL⟩ ?_
 clear HL H E F B
 intro n23 X19 hX19 a w18 ⟨o14, p15, c17, F, E, B, h10, h16, HL⟩
 obtain ⟨n24, ctl22, rfl, HB, HN20, HD21⟩ := loop_some HL
 have H : tree_Tree_Get.b1 a4 o14 = some ctl22 := HB
 clear HB HL
 unfold tree_Tree_Get.b1 at H
 refine wp_seq_k fun K27 hK27 => ?_
 refine wp_seq_k fun K28 hK28 => reg ?_
 refine qm F fun a F => ?_
 refine qv F (r_pneqA F Try.underlying77 rfl rfl (TR.isNil h16)) fun a F => ?_
 refine nil (hK28 _ _ ?_)
 by_cases hb29 : (Tr.isNil o14) = true
 ·replace H := ip hb29 H
  refine wp_cond_false (fb F (congrArg not hb29)) ?_
  refine wp_exit ?_
  refine thenE ?_
  refine thenE ?_
  refine inbE ?_
  have hx_ := HD21 _ (si H).symm
  have H := HR25
  rw [← hx_] at H
  exact J67 c17 w18 a  (F.sub ⟨rfl, trivial⟩) E B h10 H
 replace H := im hb29 H
 refine wp_cond_true (fb F (congrArg not (bfalse hb29))) (wp_skip (hK27 _ _ ?_))
 refine wp_block ?_
 refine wp_seq_k fun K30 hK30 => reg ?_
 refine qm F fun a F => ?_
 refine qm F fun a F => ?_
 replace H := cs_some H
 obtain ⟨tl31, tr32, tk33, tv34, ts35, td36, e37, H⟩ := H
 have z38 := h16
 rw [e37] at z38
 obtain ⟨ad42, lp43, rp44, A39, C40, rfl, hat45, h41, hl46, hr47⟩ := TR.node z38
 refine qv F (r_nil F rfl) fun a F => ?_
 refine qf F ff_112_2 fun a F => ?_
 refine qv F (r_load F rfl ag_9 (AT.cell hat45 rfl)) fun a F => ?_
 obtain ⟨t49, q50, H⟩ := bind_some H
 refine qc F Try.func62 (cmp_Compare.calls (m := m + 2) (pl hm0) B _ q50) ?_
 rintro e w52 ⟨c51, rfl, E53, B54⟩
 refine ⟨_, rfl, fun a F => ?_⟩
 have B := B54
 replace h10 := h10.ev E53 nq
 replace h41 := h41.ev E53 nq nq
 replace hl46 := hl46.ev E53 nq nq
 replace hr47 := hr47.ev E53 nq nq
 replace hat45 := hat45.ev E53 nq
 replace E := E.trans E53 nx
 refine qa F fun a F => ?_
 refine nil (hK30 _ _ ?_)
 replace F : Fr a 34 [(0, .pointer (some ad42)), (1, .string a4), (4, .pointer (some qa8)), (6, .int .i64 t49)] := F.sub ⟨rfl, rfl, rfl, rfl, trivial⟩
 refine wp_block ?_
 refine wp_seq_k fun K56 hK56 => reg ?_
 refine qm F fun a F => ?_
 refine qv F (r_eql F rfl rfl) fun a F => ?_
 refine qa F fun a F => ?_
 refine nil (hK56 _ _ ?_)
 by_cases hb57 : t49 = 0
 ·replace H := ip hb57 H
  refine wp_cond_true (fb F (dt hb57)) ?_
  refine wp_seq_k fun K58 hK58 => reg ?_
  refine qm F fun a F => ?_
  refine qv F (r_nil F rfl) fun a F => ?_
  refine qf F ff_112_3 fun a F => ?_
  refine qv F (r_loads (cs := [.slice A39 tv34.value.length C40, .int .i64 tv34.rev]) F rfl ag_80 sz_80 (AT.sub hat45 3 2 (nb rfl))) fun a F => ?_
  refine q_eff0 F rfl rfl (e_storeN0 (us := [.slice A39 tv34.value.length C40, .int .i64 tv34.rev]) F rfl rfl sz_80 h10 (nb rfl) (one_all rfl)) ?_
  rintro w59 a ⟨E60, h10, Z61⟩ F
  replace B := B.size Z61
  replace h41 := h41.ev E60 ne_zm ne_zm
  replace E := E.trans E60 lc1
  replace h10 : AT true (m + 1) c51 w59 qa8 [.slice A39 tv34.value.length C40, .int .i64 tv34.rev] := h10
  refine qa F fun a F => ?_
  refine nil (hK58 _ _ ?_)
  replace F : Fr a 34 [(4, .pointer (some qa8)), (5, .bool true)] := F.sub ⟨rfl, rfl, trivial⟩
  refine wp_ret ?_
  refine inbR ?_
  refine inbR ?_
  refine thenR ?_
  refine inbR ?_
  refine thenR ?_
  have hx_ := HD21 _ (si H).symm
  have H := HR25
  rw [← hx_] at H
  replace H : some (tv34, true) = some r := H
  replace H := si H
  subst H
  refine outR2 F rfl ⟨_, rfl, lv_agg (cs := [.slice A39 tv34.value.length C40, .int .i64 tv34.rev]) ag_80 sz_80 h10⟩ rfl ?_
  exact ⟨cf (fun x_ => if x_ < m then x_ else 0) c51, A39, C40, rfl, E.lv B0, cfb, SL.rc h41 cfk cfk⟩
 replace H := im hb57 H
 refine wp_cond_false (fb F (dz hb57)) ?_
 refine wp_seq_k fun K62 hK62 => reg ?_
 refine qm F fun a F => ?_
 refine qv F (r_lss F rfl rfl) fun a F => ?_
 refine qa F fun a F => ?_
 refine nil (hK62 _ _ ?_)
 by_cases hb63 : t49 < 0
 ·replace H := ip hb63 H
  refine wp_cond_true (fb F (dt hb63)) ?_
  refine reg ?_
  refine qm F fun a F => ?_
  refine qv F (r_nil F rfl) fun a F => ?_
  refine qf F ff_112_0 fun a F => ?_
  refine qv F (r_load F rfl ag_77 (AT.cell hat45 rfl)) fun a F => ?_
  refine qa F fun a F => ?_
  refine nil ?_
  replace H := HN20 _ (si H).symm
  exact hX19 _ _ _ (Nat.lt_succ_self _) ⟨tl31, lp43, c51, F.sub ⟨rfl, rfl, rfl, trivial⟩, E, B, h10, hl46, H⟩
 replace H := im hb63 H
 refine wp_cond_false (fb F (dz hb63)) ?_
 refine reg ?_
 refine qm F fun a F => ?_
 refine qv F (r_nil F rfl) fun a F => ?_
 refine qf F ff_112_1 fun a F => ?_
 refine qv F (r_load F rfl ag_77 (AT.cell hat45 rfl)) fun a F => ?_
 refine qa F fun a F => ?_
 refine nil ?_
 replace H := HN20 _ (si H).symm
 exact hX19 _ _ _ (Nat.lt_succ_self _) ⟨tr32, rp44, c51, F.sub ⟨rfl, rfl, rfl, trivial⟩, E, B, h10, hr47, H⟩
theorem tree_Tree_Put.calls (k : Nat) : ∀ {m : Nat} {c0 : Nat → Nat} {w0 : World} {p2 : Option Addr} {A6 : Option Addr} {C7 : Nat} {a1 : Tr} {a4 : ByteArray} {a5 : table_cell} (hm0 : 0 < m) (B0 : CB m c0 w0) (h3 : TR 0 c0 w0 p2 a1) (h8 : SL false (Kint .u8) 0 0 c0 w0 A6 C7 a5.value) (r : Tr) (H : tree_Tree_Put.f k a1 a4 a5 = some r), Calls Try.prog 65 #[.pointer p2, .string a4, .agg #[.slice A6 a5.value.length C7, .int .i64 a5.rev]] w0 (fun e w_ => ∃ (c_ : Nat → Nat) (P0_ : Option Addr), e = .returned (.pointer P0_) ∧ Ev (fun x => False) c0 w0 c_ w_ ∧ CB m c_ w_ ∧ TR 0 c_ w_ P0_ r) := by
 induction k with
 | zero => intro m c0 w0 p2 A6 C7 a1 a4 a5 hm0 B0 h3 h8 r H; exact absurd H (by simp [tree_Tree_Put.f])
 | succ k ih =>
  intro m c0 w0 p2 A6 C7 a1 a4 a5 hm0 B0 h3 h8 r H
  unfold tree_Tree_Put.f at H
  have B := B0.mono (show m ≤ m + 2 by omega)
  have E : Ev (fun x => False ∨ m ≤ x) c0 w0 c0 w0 := Ev.refl
  refine enter (N := 76) (l := [.pointer p2, .string a4, .agg #[.slice A6 a5.value.length C7, .int .i64 a5.rev]]) Try.func65 rfl rfl (nb rfl) fun a F => ?_
  refine wp_seq_k fun K9 hK9 => reg ?_
  refine q_eff F rfl rfl (by decide) (e_box F (v := .agg #[.slice A6 a5.value.length C7, .int .i64 a5.rev]) rfl c0 (m + 1)) ?_
  rintro v w11 a ⟨c10, qa12, rfl, E13, h14, B15⟩ F
  replace B := B15 _ B lm
  replace h3 := h3.ev E13 nq nq
  replace h8 := h8.ev E13 nq nq
  replace E := E.trans E13 nx
  replace h14 : AT true (m + 1) c10 w11 qa12 [.slice A6 a5.value.length C7, .int .i64 a5.rev] := h14
  refine qa F fun a F => ?_
  refine nil (hK9 _ _ ?_)
  refine wp_seq_k fun K17 hK17 => ?_
  refine wp_seq_k fun K18 hK18 => reg ?_
  refine qm F fun a F => ?_
  refine qv F (r_peqlA F Try.underlying77 rfl rfl (TR.isNil h3)) fun a F => ?_
  refine nil (hK18 _ _ ?_)
  by_cases hb19 : (Tr.isNil a1) = true
  ·replace H := ip hb19 H
   refine wp_cond_true (fb F hb19) ?_
   refine wp_seq_k fun K20 hK20 => reg ?_
   refine qm F fun a F => ?_
   refine qv F (r_loads (cs := [.slice A6 a5.value.length C7, .int .i64 a5.rev]) F rfl ag_80 sz_80 h14) fun a F => ?_
   obtain ⟨t21, q22, H⟩ := bind_some H
   refine qc F Try.func89 (tree_node.calls (m := m + 2) (pl hm0) B TR.nil h8 TR.nil _ q22) ?_
   rintro e w24 ⟨c23, p27, rfl, E25, B26, h28⟩
   refine ⟨_, rfl, fun a F => ?_⟩
   have B := B26
   replace E := E.trans E25 nx
   refine qa F fun a F => ?_
   refine nil (hK20 _ _ ?_)
   replace F : Fr a 76 [(6, .pointer p27)] := F.sub ⟨rfl, trivial⟩
   refine wp_ret ?_
   refine thenR ?_
   replace H := si H
   subst H
   refine out1 F rfl rfl ?_
   exact ⟨cf (fun x_ => if x_ < m then x_ else 0) c23, p27, rfl, E.lv B0, cfb, TR.rc h28 cfk cfk⟩
  replace H := im hb19 H
  refine wp_cond_false (fb F (bfalse hb19)) (wp_skip (hK17 _ _ ?_))
  refine wp_seq_k fun K30 hK30 => ?_
  refine wp_seq_k fun K31 hK31 => reg ?_
  refine qm F fun a F => ?_
  refine qm F fun a F => ?_
  replace H := cs_some H
  obtain ⟨tl32, tr33, tk34, tv35, ts36, td37, e38, H⟩ := H
  have z39 := h3
  rw [e38] at z39
  obtain ⟨ad43, lp44, rp45, A40, C41, rfl, hat46, h42, hl47, hr48⟩ := TR.node z39
  refine qv F (r_nil F rfl) fun a F => ?_
  refine qf F ff_112_2 fun a F => ?_
  refine qv F (r_load F rfl ag_9 (AT.cell hat46 rfl)) fun a F => ?_
  obtain ⟨t50, q51, H⟩ := bind_some H
  refine qc F Try.func62 (cmp_Compare.calls (m := m + 2) (pl hm0) B _ q51) ?_
  rintro e w53 ⟨c52, rfl, E54, B55⟩
  refine ⟨_, rfl, fun a F => ?_⟩
  have B := B55
  replace h8 := h8.ev E54 nq nq
  replace h14 := h14.ev E54 nq
  replace h42 := h42.ev E54 nq nq
  replace hl47 := hl47.ev E54 nq nq
  replace hr48 := hr48.ev E54 nq nq
  replace hat46 := hat46.ev E54 nq
  replace E := E.trans E54 nx
  refine qa F fun a F => ?_
  refine nil (hK31 _ _ ?_)
  replace F : Fr a 76 [(0, .pointer (some ad43)), (1, .string a4), (5, .pointer (some qa12)), (7, .int .i64 t50)] := F.sub ⟨rfl, rfl, rfl, rfl, trivial⟩
  refine wp_block ?_
  refine wp_seq_k fun K57 hK57 => reg ?_
  refine qm F fun a F => ?_
  refine qv F (r_lss F rfl rfl) fun a F => ?_
  refine qa F fun a F => ?_
  refine nil (hK57 _ _ ?_)
  by_cases hb58 : t50 < 0
  ·replace H := ip hb58 H
   refine wp_cond_true (fb F (dt hb58)) ?_
   refine wp_seq_k fun K59 hK59 => ?_
   refine regD (SB No c52 w53) 21 (.q 0 (.q 1 (.q 2 (.q 3 (.q 4 (.q 5 (.q 7 (.q 8 (.q 9 (.q 10 (.q 11 (.q 12 (.q 13 (.q 14 (.q 15 (.q 16 (.q 17 (.q 18 (.e 6 (.e 19 (.q 20 .nil))))))))))))))))))))) Try_hm (by decide +kernel) ?_
   intro w60 w1_ w2_ w3_ w4_
   have E61 : Ev No c52 w53 c52 w60 := Ev.same w1_ w2_ w3_ w4_
   replace B := B.same w1_
   have zh14 := h14
   have zhat46 := hat46
   have ER : Ev No c52 w53 c52 w60 := Ev.same w1_ w2_ w3_ w4_
   replace h8 := h8.ev E61 nq nq
   replace h42 := h42.ev E61 nq nq
   replace hl47 := hl47.ev E61 nq nq
   replace hr48 := hr48.ev E61 nq nq
   replace E := E.trans E61 nx
   refine dm F ER.sb fun a F => ?_
   refine dq F (fun wq hS => r_nil F rfl) ER.sb fun a F => ?_
   refine df F ff_112_0 ER.sb fun a F => ?_
   refine dq F (fun wq hS => r_load F rfl ag_77 (AT.cell (AT.sb zhat46 hS nq) rfl)) ER.sb fun a F => ?_
   refine dm F ER.sb fun a F => ?_
   refine dq F (fun wq hS => r_loads (cs := [.slice A6 a5.value.length C7, .int .i64 a5.rev]) F rfl ag_80 sz_80 (AT.sb zh14 hS nq)) ER.sb fun a F => ?_
   refine dm F ER.sb fun a F => ?_
   refine dq F (fun wq hS => r_nil F rfl) ER.sb fun a F => ?_
   refine df F ff_112_2 ER.sb fun a F => ?_
   refine dq F (fun wq hS => r_load F rfl ag_9 (AT.cell (AT.sb zhat46 hS nq) rfl)) ER.sb fun a F => ?_
   refine dm F ER.sb fun a F => ?_
   refine dq F (fun wq hS => r_nil F rfl) ER.sb fun a F => ?_
   refine df F ff_112_3 ER.sb fun a F => ?_
   refine dq F (fun wq hS => r_loads (cs := [.slice A40 tv35.value.length C41, .int .i64 tv35.rev]) F rfl ag_80 sz_80 (AT.sub (AT.sb zhat46 hS nq) 3 2 (nb rfl))) ER.sb fun a F => ?_
   refine dm F ER.sb fun a F => ?_
   refine dq F (fun wq hS => r_nil F rfl) ER.sb fun a F => ?_
   refine df F ff_112_1 ER.sb fun a F => ?_
   refine dq F (fun wq hS => r_load F rfl ag_77 (AT.cell (AT.sb zhat46 hS nq) rfl)) ER.sb fun a F => ?_
   refine d_e ?_
   obtain ⟨t62, q63, H⟩ := bind_some H
   refine oc F Try.func65 (ih (m := m + 2) (pl hm0) B hl47 h8 _ q63) ?_
   rintro e w65 ⟨c64, p68, rfl, E66, B67, h69⟩
   refine ⟨_, rfl, fun a F => ?_⟩
   have B := B67
   replace ER := ER.trans E66 nx
   replace h42 := h42.ev E66 nq nq
   replace hr48 := hr48.ev E66 nq nq
   replace E := E.trans E66 nx
   refine ⟨fun _ => ER.sb, ?_⟩
   refine d_e ?_
   obtain ⟨t71, q72, H⟩ := bind_some H
   refine oc F Try.func87 (tree_join.calls k (m := m + 2) (pl hm0) B h69 h42 hr48 _ q72) ?_
   rintro e w74 ⟨c73, p77, rfl, E75, B76, h78⟩
   refine ⟨_, rfl, fun a F => ?_⟩
   have B := B76
   replace ER := ER.trans E75 nx
   replace E := E.trans E75 nx
   refine ⟨fun _ => ER.sb, ?_⟩
   refine da F ER.sb fun a F => ?_
   refine d_nil ?_
   refine hK59 _ _ ?_
   replace F : Fr a 76 [(6, .pointer p77)] := F.sub ⟨rfl, trivial⟩
   refine wp_ret ?_
   refine inbR ?_
   refine thenR ?_
   replace H := si H
   subst H
   refine out1 F rfl rfl ?_
   exact ⟨cf (fun x_ => if x_ < m then x_ else 0) c73, p77, rfl, E.lv B0, cfb, TR.rc h78 cfk cfk⟩
  replace H := im hb58 H
  refine wp_cond_false (fb F (dz hb58)) ?_
  refine wp_seq_k fun K80 hK80 => reg ?_
  refine qm F fun a F => ?_
  refine qv F (r_gtr F rfl rfl) fun a F => ?_
  refine qa F fun a F => ?_
  refine nil (hK80 _ _ ?_)
  by_cases hb81 : 0 < t50
  ·replace H := ip hb81 H
   refine wp_cond_true (fb F (dt hb81)) ?_
   refine wp_seq_k fun K82 hK82 => ?_
   refine regD (SB No c52 w53) 21 (.q 0 (.q 1 (.q 2 (.q 3 (.q 4 (.q 5 (.q 6 (.q 7 (.q 8 (.q 9 (.q 10 (.q 11 (.q 12 (.q 13 (.q 14 (.q 15 (.q 16 (.q 17 (.e 18 (.e 19 (.q 20 .nil))))))))))))))))))))) Try_hm (by decide +kernel) ?_
   intro w83 w1_ w2_ w3_ w4_
   have E84 : Ev No c52 w53 c52 w83 := Ev.same w1_ w2_ w3_ w4_
   replace B := B.same w1_
   have zh14 := h14
   have zhat46 := hat46
   have ER : Ev No c52 w53 c52 w83 := Ev.same w1_ w2_ w3_ w4_
   replace h8 := h8.ev E84 nq nq
   replace h42 := h42.ev E84 nq nq
   replace hl47 := hl47.ev E84 nq nq
   replace hr48 := hr48.ev E84 nq nq
   replace E := E.trans E84 nx
   refine dm F ER.sb fun a F => ?_
   refine dq F (fun wq hS => r_nil F rfl) ER.sb fun a F => ?_
   refine df F ff_112_0 ER.sb fun a F => ?_
   refine dq F (fun wq hS => r_load F rfl ag_77 (AT.cell (AT.sb zhat46 hS nq) rfl)) ER.sb fun a F => ?_
   refine dm F ER.sb fun a F => ?_
   refine dq F (fun wq hS => r_nil F rfl) ER.sb fun a F => ?_
   refine df F ff_112_2 ER.sb fun a F => ?_
   refine dq F (fun wq hS => r_load F rfl ag_9 (AT.cell (AT.sb zhat46 hS nq) rfl)) ER.sb fun a F => ?_
   refine dm F ER.sb fun a F => ?_
   refine dq F (fun wq hS => r_nil F rfl) ER.sb fun a F => ?_
   refine df F ff_112_3 ER.sb fun a F => ?_
   refine dq F (fun wq hS => r_loads (cs := [.slice A40 tv35.value.length C41, .int .i64 tv35.rev]) F rfl ag_80 sz_80 (AT.sub (AT.sb zhat46 hS nq) 3 2 (nb rfl))) ER.sb fun a F => ?_
   refine dm F ER.sb fun a F => ?_
   refine dq F (fun wq hS => r_nil F rfl) ER.sb fun a F => ?_
   refine df F ff_112_1 ER.sb fun a F => ?_
   refine dq F (fun wq hS => r_load F rfl ag_77 (AT.cell (AT.sb zhat46 hS nq) rfl)) ER.sb fun a F => ?_
   refine dm F ER.sb fun a F => ?_
   refine dq F (fun wq hS => r_loads (cs := [.slice A6 a5.value.length C7, .int .i64 a5.rev]) F rfl ag_80 sz_80 (AT.sb zh14 hS nq)) ER.sb fun a F => ?_
   refine d_e ?_
   obtain ⟨t85, q86, H⟩ := bind_some H
   refine oc F Try.func65 (ih (m := m + 2) (pl hm0) B hr48 h8 _ q86) ?_
   rintro e w88 ⟨c87, p91, rfl, E89, B90, h92⟩
   refine ⟨_, rfl, fun a F => ?_⟩
   have B := B90
   replace ER := ER.trans E89 nx
   replace h42 := h42.ev E89 nq nq
   replace hl47 := hl47.ev E89 nq nq
   replace E := E.trans E89 nx
   refine ⟨fun _ => ER.sb, ?_⟩
   refine d_e ?_
   obtain ⟨t94, q95, H⟩ := bind_some H
   refine oc F Try.func87 (tree_join.calls k (m := m + 2) (pl hm0) B hl47 h42 h92 _ q95) ?_
   rintro e w97 ⟨c96, p100, rfl, E98, B99, h101⟩
   refine ⟨_, rfl, fun a F => ?_⟩
   have B := B99
   replace ER := ER.trans E98 nx
   replace E := E.trans E98 nx
   refine ⟨fun _ => ER.sb, ?_⟩
   refine da F ER.sb fun a F => ?_
   refine d_nil ?_
   refine hK82 _ _ ?_
   replace F : Fr a 76 [(6, .pointer p100)] := F.sub ⟨rfl, trivial⟩
   refine wp_ret ?_
   refine inbR ?_
   refine thenR ?_
   replace H := si H
   subst H
   refine out1 F rfl rfl ?_
   exact ⟨cf (fun x_ => if x_ < m then x_ else 0) c96, p100, rfl, E.lv B0, cfb, TR.rc h101 cfk cfk⟩
  replace H := im hb81 H
  refine wp_cond_false (fb F (dz hb81)) (wp_skip (hK30 _ _ ?_))
  refine wp_seq_k fun K103 hK103 => ?_
  refine regD (SB No c52 w53) 12 (.q 0 (.q 1 (.q 2 (.q 3 (.q 4 (.q 5 (.q 6 (.q 7 (.q 8 (.q 9 (.e 10 (.q 11 .nil)))))))))))) Try_hm (by decide +kernel) ?_
  intro w104 w1_ w2_ w3_ w4_
  have E105 : Ev No c52 w53 c52 w104 := Ev.same w1_ w2_ w3_ w4_
  replace B := B.same w1_
  have zh14 := h14
  have zhat46 := hat46
  have ER : Ev No c52 w53 c52 w104 := Ev.same w1_ w2_ w3_ w4_
  replace h8 := h8.ev E105 nq nq
  replace hl47 := hl47.ev E105 nq nq
  replace hr48 := hr48.ev E105 nq nq
  replace E := E.trans E105 nx
  refine dm F ER.sb fun a F => ?_
  refine dq F (fun wq hS => r_nil F rfl) ER.sb fun a F => ?_
  refine df F ff_112_0 ER.sb fun a F => ?_
  refine dq F (fun wq hS => r_load F rfl ag_77 (AT.cell (AT.sb zhat46 hS nq) rfl)) ER.sb fun a F => ?_
  refine dm F ER.sb fun a F => ?_
  refine dq F (fun wq hS => r_loads (cs := [.slice A6 a5.value.length C7, .int .i64 a5.rev]) F rfl ag_80 sz_80 (AT.sb zh14 hS nq)) ER.sb fun a F => ?_
  refine dm F ER.sb fun a F => ?_
  refine dq F (fun wq hS => r_nil F rfl) ER.sb fun a F => ?_
  refine df F ff_112_1 ER.sb fun a F => ?_
  refine dq F (fun wq hS => r_load F rfl ag_77 (AT.cell (AT.sb zhat46 hS nq) rfl)) ER.sb fun a F => ?_
  refine d_e ?_
  obtain ⟨t106, q107, H⟩ := bind_some H
  refine oc F Try.func89 (tree_node.calls (m := m + 2) (pl hm0) B hl47 h8 hr48 _ q107) ?_
  rintro e w109 ⟨c108, p112, rfl, E110, B111, h113⟩
  refine ⟨_, rfl, fun a F => ?_⟩
  have B := B111
  replace ER := ER.trans E110 nx
  replace E := E.trans E110 nx
  refine ⟨fun _ => ER.sb, ?_⟩
  refine da F ER.sb fun a F => ?_
  refine d_nil ?_
  refine hK103 _ _ ?_
  replace F : Fr a 76 [(6, .pointer p112)] := F.sub ⟨rfl, trivial⟩
  refine wp_ret ?_
  replace H := si H
  subst H
  refine out1 F rfl rfl ?_
  exact ⟨cf (fun x_ => if x_ < m then x_ else 0) c108, p112, rfl, E.lv B0, cfb, TR.rc h113 cfk cfk⟩
theorem table_Table_set.calls (k : Nat) {m : Nat} {c0 : Nat → Nat} {w0 : World} {j4 : Nat} {p2 : Option Addr} {A7 : Option Addr} {C8 : Nat} {a1 : Option Tab} {a5 : ByteArray} {a6 : table_cell} {a10 : Bool} (hm0 : 0 < m) (B0 : CB m c0 w0) (h3 : TB j4 c0 w0 p2 a1) (h9 : SL false (Kint .u8) 0 0 c0 w0 A7 C8 a6.value) (bj4 : 0 < j4 ∧ j4 < m) (r : (Option Tab)) (H : table_Table_set.f k a1 a5 a6 a10 = some r) : Calls Try.prog 43 #[.pointer p2, .string a5, .agg #[.slice A7 a6.value.length C8, .int .i64 a6.rev], .bool a10] w0 (fun e w_ => ∃ (c_ : Nat → Nat), e = .returned (.tuple #[]) ∧ Ev (fun x => (x = j4)) c0 w0 c_ w_ ∧ CB m c_ w_ ∧ TB j4 c_ w_ p2 r) := by
 unfold table_Table_set.f at H
 have B := B0.mono (show m ≤ m + 3 by omega)
 have E : Ev (fun x => (x = j4) ∨ m ≤ x) c0 w0 c0 w0 := Ev.refl
 refine enter (N := 64) (l := [.pointer p2, .string a5, .agg #[.slice A7 a6.value.length C8, .int .i64 a6.rev], .bool a10]) Try.func43 rfl rfl (nb rfl) fun a F => ?_
 refine wp_seq_k fun K11 hK11 => reg ?_
 refine q_eff F rfl rfl (by decide) (e_box F (v := .agg #[.slice A7 a6.value.length C8, .int .i64 a6.rev]) rfl c0 (m + 1)) ?_
 rintro v w13 a ⟨c12, qa14, rfl, E15, h16, B17⟩ F
 replace B := B17 _ B lm
 replace h3 := h3.ev E15 nq nq
 replace h9 := h9.ev E15 nq nq
 replace E := E.trans E15 nx
 replace h16 : AT true (m + 1) c12 w13 qa14 [.slice A7 a6.value.length C8, .int .i64 a6.rev] := h16
 refine nil (hK11 _ _ ?_)
 refine wp_seq_k fun K19 hK19 => ?_
 have J64 : ∀ (c65 : Nat → Nat) (w66 : World) (a : Act) (ad24 : Addr) (p26 : Option Addr) (ob21 : Tab) (i63 : Int), p2 = some ad24 → Fr a 64 [(0, .pointer (some ad24)), (1, .string a5), (3, .bool a10), (6, .pointer (some qa14))] → Ev (fun x => (x = j4) ∨ m ≤ x) c0 w0 c65 w66 → CB (m + 3) c65 w66 → AT true j4 c65 w66 ad24 [.pointer p26, .int .i64 ob21.rev, .int .i64 i63] → AT true (m + 1) c65 w66 qa14 [.slice A7 a6.value.length C8, .int .i64 a6.rev] → TR 0 c65 w66 p26 ob21.rows → SL false (Kint .u8) 0 0 c65 w66 A7 C8 a6.value → table_Table_set.j1 k a5 a6 a10 ob21 i63 = some r → K19 a w66 := by
  intro c65 w66 a ad24 p26 ob21 i63 qe67 F E B hat25 h16 h27 h9 H
  unfold table_Table_set.j1 at H
  refine hK19 _ _ ?_
  refine wp_seq_k fun K68 hK68 => ?_
  refine wp_seq_k fun K69 hK69 => reg ?_
  refine qm F fun a F => ?_
  refine qv F (r_not F rfl) fun a F => ?_
  refine nil (hK69 _ _ ?_)
  by_cases hb70 : a10 = true
  ·replace H := ip hb70 H
   refine wp_cond_false (fb F (congrArg not hb70)) (wp_skip (hK68 _ _ ?_))
   refine wp_seq_k fun K85 hK85 => ?_
   refine regD (SB No c65 w66) 10 (.q 0 (.q 1 (.q 2 (.q 3 (.q 4 (.q 5 (.q 6 (.e 7 (.e 8 (.q 9 (.e 10 .nil))))))))))) Try_hm (by decide +kernel) ?_
   intro w86 w1_ w2_ w3_ w4_
   have E87 : Ev No c65 w66 c65 w86 := Ev.same w1_ w2_ w3_ w4_
   replace B := B.same w1_
   have zhat25 := hat25
   have zh16 := h16
   have ER : Ev No c65 w66 c65 w86 := Ev.same w1_ w2_ w3_ w4_
   replace hat25 := hat25.ev E87 nq
   replace h16 := h16.ev E87 nq
   replace h27 := h27.ev E87 nq nq
   replace h9 := h9.ev E87 nq nq
   replace E := E.trans E87 nx
   refine dm F ER.sb fun a F => ?_
   refine dm F ER.sb fun a F => ?_
   refine dq F (fun wq hS => r_nil F rfl) ER.sb fun a F => ?_
   refine df F ff_82_0 ER.sb fun a F => ?_
   refine dq F (fun wq hS => r_load F rfl ag_77 (AT.cell (AT.sb zhat25 hS nq) rfl)) ER.sb fun a F => ?_
   refine dm F ER.sb fun a F => ?_
   refine dq F (fun wq hS => r_loads (cs := [.slice A7 a6.value.length C8, .int .i64 a6.rev]) F rfl ag_80 sz_80 (AT.sb zh16 hS nq)) ER.sb fun a F => ?_
   refine d_e ?_
   obtain ⟨t88, q89, H⟩ := bind_some H
   refine oc F Try.func65 (tree_Tree_Put.calls k (m := m + 3) (pl hm0) B h27 h9 _ q89) ?_
   rintro e w91 ⟨c90, p94, rfl, E92, B93, h95⟩
   refine ⟨_, rfl, fun a F => ?_⟩
   have B := B93
   replace ER := ER.trans E92 nx
   replace hat25 := hat25.ev E92 nq
   replace h16 := h16.ev E92 nq
   replace h9 := h9.ev E92 nq nq
   replace E := E.trans E92 nx
   refine ⟨fun _ => ER.sb, ?_⟩
   refine d_e ?_
   refine o_val F rfl rfl rfl (by decide) (r_nil F rfl) fun a F => ?_
   refine ⟨fun _ => ER.sb, ?_⟩
   refine df F ff_82_0 ER.sb fun a F => ?_
   refine d_e ?_
   refine o_eff0 F rfl rfl rfl (e_store F rfl rfl sz_77 hat25 (nb rfl) rfl) ?_
   rintro w97 a ⟨E98, hat25, Z99⟩ F
   replace B := B.size Z99
   replace h16 := h16.ev E98 (ne_mp bj4.2)
   replace h9 := h9.ev E98 (ne_z bj4.1) (ne_z bj4.1)
   replace h95 := h95.ev E98 (ne_z bj4.1) (ne_z bj4.1)
   replace E := E.trans E98 (fun x (q : x = j4) => Or.inl (q))
   replace hat25 : AT true j4 c90 w97 ad24 [.pointer p94, .int .i64 ob21.rev, .int .i64 i63] := hat25
   refine ⟨fun q => absurd rfl q, ?_⟩
   refine d_nil ?_
   refine hK85 _ _ ?_
   replace F : Fr a 64 [(0, .pointer (some ad24)), (1, .string a5), (6, .pointer (some qa14))] := F.sub ⟨rfl, rfl, rfl, trivial⟩
   refine regD (SB No c90 w97) 10 (.q 0 (.q 1 (.q 2 (.q 3 (.q 4 (.q 5 (.e 6 (.q 7 (.e 8 (.q 9 (.e 10 .nil))))))))))) Try_hm (by decide +kernel) ?_
   intro w100 w1_ w2_ w3_ w4_
   have E101 : Ev No c90 w97 c90 w100 := Ev.same w1_ w2_ w3_ w4_
   replace B := B.same w1_
   have zhat25 := hat25
   have zh16 := h16
   have ER : Ev No c90 w97 c90 w100 := Ev.same w1_ w2_ w3_ w4_
   replace hat25 := hat25.ev E101 nq
   replace h9 := h9.ev E101 nq nq
   replace h95 := h95.ev E101 nq nq
   replace E := E.trans E101 nx
   refine dm F ER.sb fun a F => ?_
   refine dq F (fun wq hS => r_nil F rfl) ER.sb fun a F => ?_
   refine df F ff_82_2 ER.sb fun a F => ?_
   refine dq F (fun wq hS => r_load F rfl ag_3 (AT.cell (AT.sb zhat25 hS nq) rfl)) ER.sb fun a F => ?_
   refine dm F ER.sb fun a F => ?_
   refine dq F (fun wq hS => r_loads (cs := [.slice A7 a6.value.length C8, .int .i64 a6.rev]) F rfl ag_80 sz_80 (AT.sb zh16 hS nq)) ER.sb fun a F => ?_
   refine d_e ?_
   obtain ⟨t102, q103, H⟩ := bind_some H
   refine oc F Try.func63 (table_long.calls k (m := m + 3) (pl hm0) B h9 _ q103) ?_
   rintro e w105 ⟨c104, rfl, E106, B107⟩
   refine ⟨_, rfl, fun a F => ?_⟩
   have B := B107
   replace ER := ER.trans E106 nx
   replace hat25 := hat25.ev E106 nq
   replace h95 := h95.ev E106 nq nq
   replace E := E.trans E106 nx
   refine ⟨fun _ => ER.sb, ?_⟩
   refine dq F (fun wq hS => r_add F rfl rfl) ER.sb fun a F => ?_
   refine d_e ?_
   refine o_val F rfl rfl rfl (by decide) (r_nil F rfl) fun a F => ?_
   refine ⟨fun _ => ER.sb, ?_⟩
   refine df F ff_82_2 ER.sb fun a F => ?_
   refine d_e ?_
   refine o_eff0 F rfl rfl rfl (e_store F rfl rfl sz_3 hat25 (nb rfl) rfl) ?_
   rintro w109 a ⟨E110, hat25, Z111⟩ F
   replace B := B.size Z111
   replace h95 := h95.ev E110 (ne_z bj4.1) (ne_z bj4.1)
   replace E := E.trans E110 (fun x (q : x = j4) => Or.inl (q))
   replace hat25 : AT true j4 c104 w109 ad24 [.pointer p94, .int .i64 ob21.rev, .int .i64 (IntKind.i64.wrap (i63 + t102))] := hat25
   refine ⟨fun q => absurd rfl q, ?_⟩
   refine d_nil ?_
   have h112 : TB j4 c104 w109 (some ad24) (some (Tab.mk t88 ob21.rev (IntKind.i64.wrap (i63 + t102)))) := TB.mk hat25 h95
   replace H := si H
   subst H
   first | refine out0n F rfl ?_ | refine inbN (out0n F rfl ?_) | refine inbN (inbN (out0n F rfl ?_)) | refine inbN (inbN (inbN (out0n F rfl ?_)))
   exact ⟨cf (fun x_ => if x_ < m then x_ else 0) c104, rfl, E.lv B0, cfb, (by rw [qe67]; exact TB.rc h112 cfk cfk)⟩
  replace H := im hb70 H
  refine wp_cond_true (fb F (congrArg not (bfalse hb70))) ?_
  refine wp_seq_k fun K71 hK71 => reg ?_
  refine qm F fun a F => ?_
  refine qm F fun a F => ?_
  refine qv F (r_nil F rfl) fun a F => ?_
  refine qf F ff_82_0 fun a F => ?_
  refine qv F (r_load F rfl ag_77 (AT.cell hat25 rfl)) fun a F => ?_
  refine qm F fun a F => ?_
  obtain ⟨t72, q73, H⟩ := bind_some H
  refine qc F Try.func64 (tree_Tree_Delete.calls k (m := m + 3) (pl hm0) B h27 _ q73) ?_
  rintro e w75 ⟨c74, p78, rfl, E76, B77, h79⟩
  refine ⟨_, rfl, fun a F => ?_⟩
  have B := B77
  replace hat25 := hat25.ev E76 nq
  replace E := E.trans E76 nx
  refine qm F fun a F => ?_
  refine qv F (r_extract F rfl rfl) fun a F => ?_
  refine qv F (r_extract F rfl rfl) fun a F => ?_
  refine qv F (r_nil F rfl) fun a F => ?_
  refine qf F ff_82_0 fun a F => ?_
  refine q_eff0 F rfl rfl (e_store F rfl rfl sz_77 hat25 (nb rfl) rfl) ?_
  rintro w81 a ⟨E82, hat25, Z83⟩ F
  replace B := B.size Z83
  replace h79 := h79.ev E82 (ne_z bj4.1) (ne_z bj4.1)
  replace E := E.trans E82 (fun x (q : x = j4) => Or.inl (q))
  replace hat25 : AT true j4 c74 w81 ad24 [.pointer p78, .int .i64 ob21.rev, .int .i64 i63] := hat25
  refine nil (hK71 _ _ ?_)
  replace F : Fr a 64 [] := F.sub trivial
  refine wp_ret ?_
  refine thenR ?_
  have h84 : TB j4 c74 w81 (some ad24) (some (Tab.mk t72.1 ob21.rev i63)) := TB.mk hat25 h79
  replace H := si H
  subst H
  refine out0 F rfl ?_
  exact ⟨cf (fun x_ => if x_ < m then x_ else 0) c74, rfl, E.lv B0, cfb, (by rw [qe67]; exact TB.rc h84 cfk cfk)⟩
 refine wp_seq_k fun K20 hK20 => reg ?_
 refine qm F fun a F => ?_
 obtain ⟨ob21, e22, H⟩ := bind_some H
 have z23 := h3
 rw [e22] at z23
 obtain ⟨ad24, p26, rfl, hat25, h27⟩ := TB.some z23
 refine qv F (r_nil F rfl) fun a F => ?_
 refine qf F ff_82_0 fun a F => ?_
 refine qv F (r_load F rfl ag_77 (AT.cell hat25 rfl)) fun a F => ?_
 refine qm F fun a F => ?_
 obtain ⟨t29, q30, H⟩ := bind_some H
 refine qc F Try.func40 (tree_Tree_Get.calls k (m := m + 3) (pl hm0) B h27 _ q30) ?_
 rintro e w32 ⟨c31, A35, C36, rfl, E33, B34, h37⟩
 refine ⟨_, rfl, fun a F => ?_⟩
 have B := B34
 replace h9 := h9.ev E33 nq nq
 replace h16 := h16.ev E33 nq
 replace h27 := h27.ev E33 nq nq
 replace hat25 := hat25.ev E33 nq
 replace E := E.trans E33 nx
 refine qm F fun a F => ?_
 refine qv F (r_extract F rfl rfl) fun a F => ?_
 refine qv F (r_extract F rfl rfl) fun a F => ?_
 refine q_eff F rfl rfl (by decide) (e_alloc F zv_80 c31 (m + 2)) ?_
 rintro v w40 a ⟨c39, qa41, rfl, E42, h43, B44⟩ F
 replace B := B44 _ B lm
 replace h9 := h9.ev E42 nq nq
 replace h16 := h16.ev E42 nq
 replace h27 := h27.ev E42 nq nq
 replace hat25 := hat25.ev E42 nq
 replace h37 := h37.ev E42 nq nq
 replace E := E.trans E42 nx
 replace h43 : AT true (m + 2) c39 w40 qa41 [.slice none 0 0, .int .i64 0] := h43
 refine q_eff0 F rfl rfl (e_storeN0 (us := [.slice A35 t29.1.value.length C36, .int .i64 t29.1.rev]) F rfl rfl sz_80 h43 (nb rfl) (one_all rfl)) ?_
 rintro w46 a ⟨E47, h43, Z48⟩ F
 replace B := B.size Z48
 replace h9 := h9.ev E47 ne_zm ne_zm
 replace h16 := h16.ev E47 mm
 replace h27 := h27.ev E47 ne_zm ne_zm
 replace hat25 := hat25.ev E47 (ne_pm bj4.2)
 replace h37 := h37.ev E47 ne_zm ne_zm
 replace E := E.trans E47 lc1
 replace h43 : AT true (m + 2) c39 w46 qa41 [.slice A35 t29.1.value.length C36, .int .i64 t29.1.rev] := h43
 refine qa F fun a F => ?_
 refine nil (hK20 _ _ ?_)
 replace F : Fr a 64 [(0, .pointer (some ad24)), (1, .string a5), (3, .bool a10), (6, .pointer (some qa14)), (8, .pointer (some qa41)), (9, .bool t29.2)] := F.sub ⟨rfl, rfl, rfl, rfl, rfl, rfl, trivial⟩
 refine wp_seq_k fun K49 hK49 => reg ?_
 refine qm F fun a F => ?_
 refine nil (hK49 _ _ ?_)
 by_cases hb50 : t29.2 = true
 ·replace H := ip hb50 H
  refine wp_cond_true (fb F hb50) ?_
  refine regD (SB No c39 w46) 10 (.q 0 (.q 1 (.q 2 (.q 3 (.q 4 (.q 5 (.e 6 (.q 7 (.e 8 (.q 9 (.e 10 .nil))))))))))) Try_hm (by decide +kernel) ?_
  intro w51 w1_ w2_ w3_ w4_
  have E52 : Ev No c39 w46 c39 w51 := Ev.same w1_ w2_ w3_ w4_
  replace B := B.same w1_
  have zhat25 := hat25
  have zh43 := h43
  have ER : Ev No c39 w46 c39 w51 := Ev.same w1_ w2_ w3_ w4_
  replace h9 := h9.ev E52 nq nq
  replace h16 := h16.ev E52 nq
  replace h27 := h27.ev E52 nq nq
  replace hat25 := hat25.ev E52 nq
  replace h37 := h37.ev E52 nq nq
  replace E := E.trans E52 nx
  refine dm F ER.sb fun a F => ?_
  refine dq F (fun wq hS => r_nil F rfl) ER.sb fun a F => ?_
  refine df F ff_82_2 ER.sb fun a F => ?_
  refine dq F (fun wq hS => r_load F rfl ag_3 (AT.cell (AT.sb zhat25 hS nq) rfl)) ER.sb fun a F => ?_
  refine dm F ER.sb fun a F => ?_
  refine dq F (fun wq hS => r_loads (cs := [.slice A35 t29.1.value.length C36, .int .i64 t29.1.rev]) F rfl ag_80 sz_80 (AT.sb zh43 hS nq)) ER.sb fun a F => ?_
  refine d_e ?_
  obtain ⟨t53, q54, H⟩ := bind_some H
  refine oc F Try.func63 (table_long.calls k (m := m + 3) (pl hm0) B h37 _ q54) ?_
  rintro e w56 ⟨c55, rfl, E57, B58⟩
  refine ⟨_, rfl, fun a F => ?_⟩
  have B := B58
  replace ER := ER.trans E57 nx
  replace h9 := h9.ev E57 nq nq
  replace h16 := h16.ev E57 nq
  replace h27 := h27.ev E57 nq nq
  replace hat25 := hat25.ev E57 nq
  replace E := E.trans E57 nx
  refine ⟨fun _ => ER.sb, ?_⟩
  refine dq F (fun wq hS => r_sub F rfl rfl) ER.sb fun a F => ?_
  refine d_e ?_
  refine o_val F rfl rfl rfl (by decide) (r_nil F rfl) fun a F => ?_
  refine ⟨fun _ => ER.sb, ?_⟩
  refine df F ff_82_2 ER.sb fun a F => ?_
  refine d_e ?_
  refine o_eff0 F rfl rfl rfl (e_store F rfl rfl sz_3 hat25 (nb rfl) rfl) ?_
  rintro w60 a ⟨E61, hat25, Z62⟩ F
  replace B := B.size Z62
  replace h9 := h9.ev E61 (ne_z bj4.1) (ne_z bj4.1)
  replace h16 := h16.ev E61 (ne_mp bj4.2)
  replace h27 := h27.ev E61 (ne_z bj4.1) (ne_z bj4.1)
  replace E := E.trans E61 (fun x (q : x = j4) => Or.inl (q))
  replace hat25 : AT true j4 c55 w60 ad24 [.pointer p26, .int .i64 ob21.rev, .int .i64 (IntKind.i64.wrap (ob21.size - t53))] := hat25
  refine ⟨fun q => absurd rfl q, ?_⟩
  refine d_nil ?_
  exact J64 c55 w60 a ad24 p26 ob21 (IntKind.i64.wrap (ob21.size - t53)) rfl (F.sub ⟨rfl, rfl, rfl, rfl, trivial⟩) E B hat25 h16 h27 h9 H
 replace H := im hb50 H
 refine wp_cond_false (fb F (bfalse hb50)) ?_
 refine wp_skip ?_
 exact J64 c39 w46 a ad24 p26 ob21 ob21.size rfl (F.sub ⟨rfl, rfl, rfl, rfl, trivial⟩) E B hat25 h16 h27 h9 H
theorem table_Table_told.calls {m : Nat} {c0 : Nat → Nat} {w0 : World} {j4 : Nat} {p2 : Option Addr} {A7 : Option Addr} {C8 : Nat} {a1 : Option Tab} {a5 : ByteArray} {a6 : table_cell} {a10 : Bool} (hm0 : 0 < m) (B0 : CB m c0 w0) (h3 : TB j4 c0 w0 p2 a1) (h9 : SL false (Kint .u8) 0 0 c0 w0 A7 C8 a6.value) (bj4 : j4 < m) (r : api_Answer) (H : table_Table_told.f a1 a5 a6 a10 = some r) : Calls Try.prog 39 #[.pointer p2, .string a5, .agg #[.slice A7 a6.value.length C8, .int .i64 a6.rev], .bool a10] w0 (fun e w_ => ∃ (c_ : Nat → Nat) (A0_ : Option Addr) (C0_ : Nat) (A2_ : Option Addr) (C2_ : Nat), e = .returned (.agg #[.bool r.Done, .slice A0_ r.Key.length C0_, .slice A2_ r.Value.length C2_, .int .i64 r.Rev, .int .i64 r.At]) ∧ Ev (fun x => False) c0 w0 c_ w_ ∧ CB m c_ w_ ∧ SL false (Kint .u8) 0 0 c_ w_ A0_ C0_ r.Key ∧ SL false (Kint .u8) 0 0 c_ w_ A2_ C2_ r.Value) := by
 unfold table_Table_told.f at H
 have B := B0.mono (show m ≤ m + 4 by omega)
 have E : Ev (fun x => False ∨ m ≤ x) c0 w0 c0 w0 := Ev.refl
 refine enter (N := 28) (l := [.pointer p2, .string a5, .agg #[.slice A7 a6.value.length C8, .int .i64 a6.rev], .bool a10]) Try.func39 rfl rfl (nb rfl) fun a F => ?_
 refine wp_seq_k fun K11 hK11 => reg ?_
 refine q_eff F rfl rfl (by decide) (e_box F (v := .agg #[.slice A7 a6.value.length C8, .int .i64 a6.rev]) rfl c0 (m + 1)) ?_
 rintro v w13 a ⟨c12, qa14, rfl, E15, h16, B17⟩ F
 replace B := B17 _ B lm
 replace h3 := h3.ev E15 nq nq
 replace h9 := h9.ev E15 nq nq
 replace E := E.trans E15 nx
 replace h16 : AT true (m + 1) c12 w13 qa14 [.slice A7 a6.value.length C8, .int .i64 a6.rev] := h16
 refine q_eff F rfl rfl (by decide) (e_alloc F zv_34 c12 (m + 2)) ?_
 rintro v w20 a ⟨c19, qa21, rfl, E22, h23, B24⟩ F
 replace B := B24 _ B lm
 replace h3 := h3.ev E22 nq nq
 replace h9 := h9.ev E22 nq nq
 replace h16 := h16.ev E22 nq
 replace E := E.trans E22 nx
 replace h23 : AT true (m + 2) c19 w20 qa21 [.bool false, .slice none 0 0, .slice none 0 0, .int .i64 0, .int .i64 0] := h23
 refine nil (hK11 _ _ ?_)
 refine wp_seq_k fun K26 hK26 => reg ?_
 refine qm F fun a F => ?_
 refine qm F fun a F => ?_
 obtain ⟨ob27, e28, H⟩ := bind_some H
 have z29 := h3
 rw [e28] at z29
 obtain ⟨ad30, p32, rfl, hat31, h33⟩ := TB.some z29
 refine qv F (r_nil F rfl) fun a F => ?_
 refine qf F ff_82_1 fun a F => ?_
 refine qv F (r_load F rfl ag_3 (AT.cell hat31 rfl)) fun a F => ?_
 refine qv F (r_build (v := .agg #[.bool a10, .slice none 0 0, .slice none 0 0, .int .i64 0, .int .i64 ob27.rev]) F [(0, .bool a10), (4, .int .i64 ob27.rev)] (by exact ⟨rfl, rfl, rfl, rfl, trivial⟩) (fun w => by kernel_rfl)) fun a F => ?_
 refine q_eff F rfl rfl (by decide) (e_alloc F zv_34 c19 (m + 3)) ?_
 rintro v w36 a ⟨c35, qa37, rfl, E38, h39, B40⟩ F
 replace B := B40 _ B lm
 replace h9 := h9.ev E38 nq nq
 replace h16 := h16.ev E38 nq
 replace h23 := h23.ev E38 nq
 replace E := E.trans E38 nx
 replace h39 : AT true (m + 3) c35 w36 qa37 [.bool false, .slice none 0 0, .slice none 0 0, .int .i64 0, .int .i64 0] := h39
 refine q_eff0 F rfl rfl (e_storeN0 (us := [.bool a10, .slice none 0 0, .slice none 0 0, .int .i64 0, .int .i64 ob27.rev]) F rfl rfl sz_34 h39 (nb rfl) (one_all rfl)) ?_
 rintro w42 a ⟨E43, h39, Z44⟩ F
 replace B := B.size Z44
 replace h9 := h9.ev E43 ne_zm ne_zm
 replace h16 := h16.ev E43 mm
 replace h23 := h23.ev E43 mm
 replace E := E.trans E43 lc1
 replace h39 : AT true (m + 3) c35 w42 qa37 [.bool a10, .slice none 0 0, .slice none 0 0, .int .i64 0, .int .i64 ob27.rev] := h39
 refine nil (hK26 _ _ ?_)
 replace F : Fr a 28 [(1, .string a5), (3, .bool a10), (6, .pointer (some qa14)), (8, .pointer (some qa21)), (9, .pointer (some qa37))] := F.sub ⟨rfl, rfl, rfl, rfl, rfl, trivial⟩
 refine wp_seq_k fun K45 hK45 => ?_
 refine wp_seq_k fun K46 hK46 => reg ?_
 refine qm F fun a F => ?_
 refine nil (hK46 _ _ ?_)
 by_cases hb47 : a10 = true
 ·replace H := ip hb47 H
  refine wp_cond_true (fb F hb47) ?_
  refine regD (SB (fun x => x = m + 3) c35 w42) 12 (.q 0 (.q 2 (.q 3 (.q 5 (.q 6 (.f 1 (.q 7 (.e 4 (.e 8 (.q 9 (.e 10 (.q 11 (.e 12 .nil))))))) 4 (.e 1 (.q 7 (.e 8 (.q 9 (.e 10 (.q 11 (.e 12 .nil))))))))))))) Try_hm (by decide +kernel) ?_
  intro w48 w1_ w2_ w3_ w4_
  have E49 : Ev No c35 w42 c35 w48 := Ev.same w1_ w2_ w3_ w4_
  replace B := B.same w1_
  have zh16 := h16
  have ER : Ev (fun x => x = m + 3) c35 w42 c35 w48 := Ev.same w1_ w2_ w3_ w4_
  replace h9 := h9.ev E49 nq nq
  replace h23 := h23.ev E49 nq
  replace h39 := h39.ev E49 nq
  replace E := E.trans E49 nx
  refine dm F ER.sb fun a F => ?_
  refine df F ff_80_0 ER.sb fun a F => ?_
  refine dq F (fun wq hS => r_load F rfl ag_28 (AT.cell (AT.sb zh16 hS mm) rfl)) ER.sb fun a F => ?_
  refine df F ff_80_1 ER.sb fun a F => ?_
  refine dq F (fun wq hS => r_load F rfl ag_3 (AT.cell (AT.sb zh16 hS mm) rfl)) ER.sb fun a F => ?_
  refine d_f ?_ ?_
  ·replace H := ifN H
   obtain ⟨g50, H⟩ := H
   refine o_eff F rfl rfl rfl (by decide) (e_strBytes F Try.underlying9 Try.underlying28 Try.underlying5 rfl (by unfold maxLen; omega) c35 0 0) ?_
   rintro v w52 a ⟨c51, A53, C54, rfl, E55, h56, B57⟩ F
   replace B := B57 _ B (pl hm0)
   replace ER := ER.trans E55 nx
   replace h9 := h9.ev E55 nq nq
   replace h23 := h23.ev E55 nq
   replace h39 := h39.ev E55 nq
   replace E := E.trans E55 nx
   refine ⟨fun _ => ER.sb, ?_⟩
   refine df F ff_34_1 ER.sb fun a F => ?_
   refine d_e ?_
   obtain ⟨t58, q59, H⟩ := bind_some H
   refine oc F Try.func42 (bytes_Clone.calls (m := m + 4) (pl hm0) B h9 (by omega) 0 (pl hm0) _ q59) ?_
   rintro e w61 ⟨c60, A64, C65, rfl, E62, B63, h66⟩
   refine ⟨_, rfl, fun a F => ?_⟩
   have B := B63
   replace ER := ER.trans E62 nx
   replace h23 := h23.ev E62 nq
   replace h39 := h39.ev E62 nq
   replace h56 := h56.ev E62 nq nq
   replace E := E.trans E62 nx
   refine ⟨fun _ => ER.sb, ?_⟩
   refine d_e ?_
   refine o_eff0 F rfl rfl rfl (e_store F rfl rfl sz_28 h39 (nb rfl) rfl) ?_
   rintro w68 a ⟨E69, h39, Z70⟩ F
   replace B := B.size Z70
   replace ER := ER.trans E69 (fun x q => by replace q : x = m + 3 := q; show x = m + 3; omega)
   replace h23 := h23.ev E69 mm
   replace h56 := h56.ev E69 ne_zm ne_zm
   replace h66 := h66.ev E69 ne_zm ne_zm
   replace E := E.trans E69 lc1
   replace h39 : AT true (m + 3) c60 w68 qa37 [.bool a10, .slice A53 (sb a5).length C54, .slice none 0 0, .int .i64 0, .int .i64 ob27.rev] := h39
   refine ⟨fun _ => ER.sb, ?_⟩
   refine df F ff_34_2 ER.sb fun a F => ?_
   refine d_e ?_
   refine o_eff0 F rfl rfl rfl (e_store F rfl rfl sz_28 h39 (nb rfl) rfl) ?_
   rintro w71 a ⟨E72, h39, Z73⟩ F
   replace B := B.size Z73
   replace ER := ER.trans E72 (fun x q => by replace q : x = m + 3 := q; show x = m + 3; omega)
   replace h23 := h23.ev E72 mm
   replace h56 := h56.ev E72 ne_zm ne_zm
   replace h66 := h66.ev E72 ne_zm ne_zm
   replace E := E.trans E72 lc1
   replace h39 : AT true (m + 3) c60 w71 qa37 [.bool a10, .slice A53 (sb a5).length C54, .slice A64 t58.length C65, .int .i64 0, .int .i64 ob27.rev] := h39
   refine ⟨fun _ => ER.sb, ?_⟩
   refine df F ff_34_3 ER.sb fun a F => ?_
   refine d_e ?_
   refine o_eff0 F rfl rfl rfl (e_store F rfl rfl sz_3 h39 (nb rfl) rfl) ?_
   rintro w74 a ⟨E75, h39, Z76⟩ F
   replace B := B.size Z76
   replace ER := ER.trans E75 (fun x q => by replace q : x = m + 3 := q; show x = m + 3; omega)
   replace h23 := h23.ev E75 mm
   replace h56 := h56.ev E75 ne_zm ne_zm
   replace h66 := h66.ev E75 ne_zm ne_zm
   replace E := E.trans E75 lc1
   replace h39 : AT true (m + 3) c60 w74 qa37 [.bool a10, .slice A53 (sb a5).length C54, .slice A64 t58.length C65, .int .i64 a6.rev, .int .i64 ob27.rev] := h39
   refine ⟨fun q => absurd rfl q, ?_⟩
   refine d_nil ?_
   refine hK45 _ _ ?_
   replace F : Fr a 28 [(8, .pointer (some qa21)), (9, .pointer (some qa37))] := F.sub ⟨rfl, rfl, trivial⟩
   refine wp_seq_k fun K101 hK101 => reg ?_
   refine qv F (r_loads (cs := [.bool a10, .slice A53 (sb a5).length C54, .slice A64 t58.length C65, .int .i64 a6.rev, .int .i64 ob27.rev]) F rfl ag_34 sz_34 h39) fun a F => ?_
   refine q_eff0 F rfl rfl (e_storeN0 (us := [.bool a10, .slice A53 (sb a5).length C54, .slice A64 t58.length C65, .int .i64 a6.rev, .int .i64 ob27.rev]) F rfl rfl sz_34 h23 (nb rfl) (one_all rfl)) ?_
   rintro w102 a ⟨E103, h23, Z104⟩ F
   replace B := B.size Z104
   replace h56 := h56.ev E103 ne_zm ne_zm
   replace h66 := h66.ev E103 ne_zm ne_zm
   replace E := E.trans E103 lc1
   replace h23 : AT true (m + 2) c60 w102 qa21 [.bool a10, .slice A53 (sb a5).length C54, .slice A64 t58.length C65, .int .i64 a6.rev, .int .i64 ob27.rev] := h23
   refine nil (hK101 _ _ ?_)
   refine wp_ret ?_
   replace H := si H
   subst H
   refine outR1 F rfl ⟨_, rfl, lv_agg (cs := [.bool a10, .slice A53 (sb a5).length C54, .slice A64 t58.length C65, .int .i64 a6.rev, .int .i64 ob27.rev]) ag_34 sz_34 h23⟩ ?_
   exact ⟨cf (fun x_ => if x_ < m then x_ else 0) c60, A53, C54, A64, C65, rfl, E.lv B0, cfb, SL.rc h56.r cfk cfk, SL.rc h66.r cfk cfk⟩
  replace H := ifN H
  obtain ⟨g50, H⟩ := H
  obtain ⟨t58, q59, H⟩ := bind_some H
  refine oc F Try.func42 (bytes_Clone.calls (m := m + 4) (pl hm0) B h9 (by omega) 0 (pl hm0) _ q59) ?_
  rintro e w78 ⟨c77, A81, C82, rfl, E79, B80, h83⟩
  refine ⟨_, rfl, fun a F => ?_⟩
  have B := B80
  replace ER := ER.trans E79 nx
  replace h23 := h23.ev E79 nq
  replace h39 := h39.ev E79 nq
  replace E := E.trans E79 nx
  refine ⟨fun _ => ER.sb, ?_⟩
  refine d_e ?_
  refine o_eff F rfl rfl rfl (by decide) (e_strBytes F Try.underlying9 Try.underlying28 Try.underlying5 rfl (by unfold maxLen; omega) c77 0 0) ?_
  rintro v w86 a ⟨c85, A87, C88, rfl, E89, h90, B91⟩ F
  replace B := B91 _ B (pl hm0)
  replace ER := ER.trans E89 nx
  replace h23 := h23.ev E89 nq
  replace h39 := h39.ev E89 nq
  replace h83 := h83.ev E89 nq nq
  replace E := E.trans E89 nx
  refine ⟨fun _ => ER.sb, ?_⟩
  refine df F ff_34_1 ER.sb fun a F => ?_
  refine d_e ?_
  refine o_eff0 F rfl rfl rfl (e_store F rfl rfl sz_28 h39 (nb rfl) rfl) ?_
  rintro w92 a ⟨E93, h39, Z94⟩ F
  replace B := B.size Z94
  replace ER := ER.trans E93 (fun x q => by replace q : x = m + 3 := q; show x = m + 3; omega)
  replace h23 := h23.ev E93 mm
  replace h83 := h83.ev E93 ne_zm ne_zm
  replace h90 := h90.ev E93 ne_zm ne_zm
  replace E := E.trans E93 lc1
  replace h39 : AT true (m + 3) c85 w92 qa37 [.bool a10, .slice A87 (sb a5).length C88, .slice none 0 0, .int .i64 0, .int .i64 ob27.rev] := h39
  refine ⟨fun _ => ER.sb, ?_⟩
  refine df F ff_34_2 ER.sb fun a F => ?_
  refine d_e ?_
  refine o_eff0 F rfl rfl rfl (e_store F rfl rfl sz_28 h39 (nb rfl) rfl) ?_
  rintro w95 a ⟨E96, h39, Z97⟩ F
  replace B := B.size Z97
  replace ER := ER.trans E96 (fun x q => by replace q : x = m + 3 := q; show x = m + 3; omega)
  replace h23 := h23.ev E96 mm
  replace h83 := h83.ev E96 ne_zm ne_zm
  replace h90 := h90.ev E96 ne_zm ne_zm
  replace E := E.trans E96 lc1
  replace h39 : AT true (m + 3) c85 w95 qa37 [.bool a10, .slice A87 (sb a5).length C88, .slice A81 t58.length C82, .int .i64 0, .int .i64 ob27.rev] := h39
  refine ⟨fun _ => ER.sb, ?_⟩
  refine df F ff_34_3 ER.sb fun a F => ?_
  refine d_e ?_
  refine o_eff0 F rfl rfl rfl (e_store F rfl rfl sz_3 h39 (nb rfl) rfl) ?_
  rintro w98 a ⟨E99, h39, Z100⟩ F
  replace B := B.size Z100
  replace ER := ER.trans E99 (fun x q => by replace q : x = m + 3 := q; show x = m + 3; omega)
  replace h23 := h23.ev E99 mm
  replace h83 := h83.ev E99 ne_zm ne_zm
  replace h90 := h90.ev E99 ne_zm ne_zm
  replace E := E.trans E99 lc1
  replace h39 : AT true (m + 3) c85 w98 qa37 [.bool a10, .slice A87 (sb a5).length C88, .slice A81 t58.length C82, .int .i64 a6.rev, .int .i64 ob27.rev] := h39
  refine ⟨fun q => absurd rfl q, ?_⟩
  refine d_nil ?_
  refine hK45 _ _ ?_
  replace F : Fr a 28 [(8, .pointer (some qa21)), (9, .pointer (some qa37))] := F.sub ⟨rfl, rfl, trivial⟩
  refine wp_seq_k fun K105 hK105 => reg ?_
  refine qv F (r_loads (cs := [.bool a10, .slice A87 (sb a5).length C88, .slice A81 t58.length C82, .int .i64 a6.rev, .int .i64 ob27.rev]) F rfl ag_34 sz_34 h39) fun a F => ?_
  refine q_eff0 F rfl rfl (e_storeN0 (us := [.bool a10, .slice A87 (sb a5).length C88, .slice A81 t58.length C82, .int .i64 a6.rev, .int .i64 ob27.rev]) F rfl rfl sz_34 h23 (nb rfl) (one_all rfl)) ?_
  rintro w106 a ⟨E107, h23, Z108⟩ F
  replace B := B.size Z108
  replace h83 := h83.ev E107 ne_zm ne_zm
  replace h90 := h90.ev E107 ne_zm ne_zm
  replace E := E.trans E107 lc1
  replace h23 : AT true (m + 2) c85 w106 qa21 [.bool a10, .slice A87 (sb a5).length C88, .slice A81 t58.length C82, .int .i64 a6.rev, .int .i64 ob27.rev] := h23
  refine nil (hK105 _ _ ?_)
  refine wp_ret ?_
  replace H := si H
  subst H
  refine outR1 F rfl ⟨_, rfl, lv_agg (cs := [.bool a10, .slice A87 (sb a5).length C88, .slice A81 t58.length C82, .int .i64 a6.rev, .int .i64 ob27.rev]) ag_34 sz_34 h23⟩ ?_
  exact ⟨cf (fun x_ => if x_ < m then x_ else 0) c85, A87, C88, A81, C82, rfl, E.lv B0, cfb, SL.rc h90.r cfk cfk, SL.rc h83.r cfk cfk⟩
 replace H := im hb47 H
 refine wp_cond_false (fb F (bfalse hb47)) (wp_skip (hK45 _ _ ?_))
 refine wp_seq_k fun K109 hK109 => reg ?_
 refine qv F (r_loads (cs := [.bool a10, .slice none 0 0, .slice none 0 0, .int .i64 0, .int .i64 ob27.rev]) F rfl ag_34 sz_34 h39) fun a F => ?_
 refine q_eff0 F rfl rfl (e_storeN0 (us := [.bool a10, .slice none 0 0, .slice none 0 0, .int .i64 0, .int .i64 ob27.rev]) F rfl rfl sz_34 h23 (nb rfl) (one_all rfl)) ?_
 rintro w110 a ⟨E111, h23, Z112⟩ F
 replace B := B.size Z112
 replace E := E.trans E111 lc1
 replace h23 : AT true (m + 2) c35 w110 qa21 [.bool a10, .slice none 0 0, .slice none 0 0, .int .i64 0, .int .i64 ob27.rev] := h23
 refine nil (hK109 _ _ ?_)
 refine wp_ret ?_
 replace H := si H
 subst H
 refine outR1 F rfl ⟨_, rfl, lv_agg (cs := [.bool a10, .slice none 0 0, .slice none 0 0, .int .i64 0, .int .i64 ob27.rev]) ag_34 sz_34 h23⟩ ?_
 exact ⟨cf (fun x_ => if x_ < m then x_ else 0) c35, none, 0, none, 0, rfl, E.lv B0, cfb, SL.nil, SL.nil⟩
theorem table_writes.calls {m : Nat} {c0 : Nat → Nat} {w0 : World} {A2 : Option Addr} {C3 : Nat} {A5 : Option Addr} {C6 : Nat} {a1 : api_Op} (hm0 : 0 < m) (B0 : CB m c0 w0) (h4 : SL false (Kint .u8) 0 0 c0 w0 A2 C3 a1.Key) (h7 : SL false (Kint .u8) 0 0 c0 w0 A5 C6 a1.Value) (r : Bool) (H : table_writes.f a1 = some r) : Calls Try.prog 41 #[.agg #[.int .i64 a1.Kind, .slice A2 a1.Key.length C3, .slice A5 a1.Value.length C6, .int .i64 a1.Rev]] w0 (fun e w_ => ∃ (c_ : Nat → Nat), e = .returned (.bool r) ∧ Ev (fun x => False) c0 w0 c_ w_ ∧ CB m c_ w_) := by
 unfold table_writes.f at H
 have B := B0.mono (show m ≤ m + 2 by omega)
 have E : Ev (fun x => False ∨ m ≤ x) c0 w0 c0 w0 := Ev.refl
 refine enter (N := 16) (l := [.agg #[.int .i64 a1.Kind, .slice A2 a1.Key.length C3, .slice A5 a1.Value.length C6, .int .i64 a1.Rev]]) Try.func41 rfl rfl (nb rfl) fun a F => ?_
 refine wp_seq_k fun K8 hK8 => reg ?_
 refine q_eff F rfl rfl (by decide) (e_box F (v := .agg #[.int .i64 a1.Kind, .slice A2 a1.Key.length C3, .slice A5 a1.Value.length C6, .int .i64 a1.Rev]) rfl c0 (m + 1)) ?_
 rintro v w10 a ⟨c9, qa11, rfl, E12, h13, B14⟩ F
 replace B := B14 _ B lm
 replace E := E.trans E12 nx
 replace h13 : AT true (m + 1) c9 w10 qa11 [.int .i64 a1.Kind, .slice A2 a1.Key.length C3, .slice A5 a1.Value.length C6, .int .i64 a1.Rev] := h13
 refine qa F fun a F => ?_
 refine nil (hK8 _ _ ?_)
 refine wp_seq_k fun K16 hK16 => reg ?_
 refine qf F ff_30_0 fun a F => ?_
 refine qv F (r_load F rfl ag_3 (AT.cell h13 rfl)) fun a F => ?_
 refine qv F (r_eql F rfl rfl) fun a F => ?_
 refine qm F fun a F => ?_
 by_cases hb17 : a1.Kind = 2
 ·replace H := ip hb17 H
  refine qn F (dt hb17) fun a F => ?_
  refine qn F (dt hb17) fun a F => ?_
  refine qn F (dt hb17) fun a F => ?_
  refine qv F (r_pick_t F rfl (dt hb17) rfl) fun a F => ?_
  refine qm F fun a F => ?_
  refine qn F rfl fun a F => ?_
  refine qn F rfl fun a F => ?_
  refine qn F rfl fun a F => ?_
  refine qv F (r_pick_t F rfl rfl rfl) fun a F => ?_
  refine qa F fun a F => ?_
  refine nil (hK16 _ _ ?_)
  replace F : Fr a 16 [(2, .bool true)] := F.sub ⟨rfl, trivial⟩
  refine wp_ret ?_
  replace H := si H
  subst H
  refine out1 F rfl rfl ?_
  exact ⟨cf (fun x_ => if x_ < m then x_ else 0) c9, rfl, E.lv B0, cfb⟩
 replace H := im hb17 H
 refine qy F (dz hb17) ?_
 refine qf F ff_30_0 fun a F => ?_
 refine qy F (dz hb17) ?_
 refine qv F (r_load F rfl ag_3 (AT.cell h13 rfl)) fun a F => ?_
 refine qy F (dz hb17) ?_
 refine qv F (r_eql F rfl rfl) fun a F => ?_
 refine qv F (r_pick_f F rfl (dz hb17) rfl) fun a F => ?_
 refine qm F fun a F => ?_
 by_cases hb18 : a1.Kind = 3
 ·replace H := ip hb18 H
  refine qn F (dt hb18) fun a F => ?_
  refine qn F (dt hb18) fun a F => ?_
  refine qn F (dt hb18) fun a F => ?_
  refine qv F (r_pick_t F rfl (dt hb18) rfl) fun a F => ?_
  refine qa F fun a F => ?_
  refine nil (hK16 _ _ ?_)
  replace F : Fr a 16 [(2, .bool true)] := F.sub ⟨rfl, trivial⟩
  refine wp_ret ?_
  replace H := si H
  subst H
  refine out1 F rfl rfl ?_
  exact ⟨cf (fun x_ => if x_ < m then x_ else 0) c9, rfl, E.lv B0, cfb⟩
 replace H := im hb18 H
 refine qy F (dz hb18) ?_
 refine qf F ff_30_0 fun a F => ?_
 refine qy F (dz hb18) ?_
 refine qv F (r_load F rfl ag_3 (AT.cell h13 rfl)) fun a F => ?_
 refine qy F (dz hb18) ?_
 refine qv F (r_eql F rfl rfl) fun a F => ?_
 refine qv F (r_pick_f F rfl (dz hb18) rfl) fun a F => ?_
 refine qa F fun a F => ?_
 refine nil (hK16 _ _ ?_)
 replace F : Fr a 16 [(2, .bool (decide (a1.Kind = 4)))] := F.sub ⟨rfl, trivial⟩
 refine wp_ret ?_
 replace H := si H
 subst H
 refine out1 F rfl rfl ?_
 exact ⟨cf (fun x_ => if x_ < m then x_ else 0) c9, rfl, E.lv B0, cfb⟩
theorem tree_Tree_up.calls {σ X : Type} {m : Nat} {M : Nat → Prop} {cR : Nat → Nat} {wR : World} {l : Nat} (hm0 : 0 < m) (HM : ¬ M 0) {g : σ → ByteArray → table_cell → Option (Ctl σ X)} {J : σ → (Nat → Nat) → World → Prop} {JX : X → (Nat → Nat) → World → Prop} (HE : ∀ s c w, J s c w → Ev M cR wR c w) (HX : ∀ x c w, JX x c w → Ev M cR wR c w) (HY : ∀ s k (v : table_cell) c w (A20 : Option Addr) (C21 : Nat) r, JS m (J s) c w → SL false (Kint .u8) 0 0 c w A20 C21 v.value → g s k v = some r → YieldAt Fence.wide 0 Try.prog l #[.string k, .agg #[.slice A20 v.value.length C21, .int .i64 v.rev]] w (IP (fun s => JS m (J s)) JX r)) (t : Tr) : ∀ (p : Option Addr) (s : σ) (c : Nat → Nat) (w : World), TR 0 cR wR p t → JS m (J s) c w → ∀ (r : Ctl σ X), Tr.up g t s = some r → Calls Try.prog 67 #[.pointer p, yv l] w (IP (fun s => JS m (J s)) JX r) := by
 induction t with
 | nil =>
  intro p s0 c w ht hJ r H
  have ht : p = none := ht
  subst ht
  have H : some (Ctl.next s0) = some r := H
  refine enter (N := 35) (l := [.pointer none, yv l]) Try.func67 rfl rfl (nb rfl) fun a F => ?_
  have ER := hJ.ev (HE _)
  refine wp_seq_k fun K1 hK1 => reg ?_
  refine qa F fun a F => ?_
  refine nil (hK1 _ _ ?_)
  refine wp_seq_k fun K2 hK2 => ?_
  refine regD (SB M cR wR) 31 (.q 0 (.q 1 (.q 2 (.q 3 (.q 4 (.q 5 (.q 6 (.q 7 (.e 8 (.q 9 (.q 10 (.q 11 (.q 12 (.q 13 (.q 14 (.q 15 (.q 16 (.q 17 (.q 18 (.e 19 (.q 20 (.q 21 (.q 22 (.q 23 (.q 24 (.q 25 (.q 26 (.e 27 (.q 28 (.q 29 (.q 30 .nil))))))))))))))))))))))))))))))) Try_hm (by decide +kernel) ?_
  intro w3 w1_ w2_ w3_ w4_
  have hJ := hJ.step (Ev.same w1_ w2_ w3_ w4_) (hJ.1.same w1_)
  have ER := hJ.ev (HE _)
  refine dm F ER.sb fun a F => ?_
  refine dq F (fun wq hS => r_peql F Try.underlying77 rfl rfl) ER.sb fun a F => ?_
  refine dm F ER.sb fun a F => ?_
  refine dn F rfl ER.sb fun a F => ?_
  refine dn F rfl ER.sb fun a F => ?_
  refine dn F rfl ER.sb fun a F => ?_
  refine dn F rfl ER.sb fun a F => ?_
  refine dn F rfl ER.sb fun a F => ?_
  refine d_e ?_
  refine o_no F rfl rfl rfl (by decide) rfl rfl rfl (by decide) fun a F => ?_
  refine ⟨fun _ => ER.sb, ?_⟩
  refine dn F rfl ER.sb fun a F => ?_
  refine du F ER.sb fun a F => ?_
  refine du F ER.sb fun a F => ?_
  refine du F ER.sb fun a F => ?_
  refine du F ER.sb fun a F => ?_
  refine du F ER.sb fun a F => ?_
  refine du F ER.sb fun a F => ?_
  refine du F ER.sb fun a F => ?_
  refine du F ER.sb fun a F => ?_
  refine du F ER.sb fun a F => ?_
  refine d_e ?_
  refine o_nu F rfl rfl rfl (by decide) rfl rfl (by decide) fun a F => ?_
  refine ⟨fun _ => ER.sb, ?_⟩
  refine dn F rfl ER.sb fun a F => ?_
  refine dn F rfl ER.sb fun a F => ?_
  refine du F ER.sb fun a F => ?_
  refine du F ER.sb fun a F => ?_
  refine du F ER.sb fun a F => ?_
  refine du F ER.sb fun a F => ?_
  refine du F ER.sb fun a F => ?_
  refine d_e ?_
  refine o_nu F rfl rfl rfl (by decide) rfl rfl (by decide) fun a F => ?_
  refine ⟨fun _ => ER.sb, ?_⟩
  refine dn F rfl ER.sb fun a F => ?_
  refine dq F (fun wq hS => r_pick_t F rfl rfl rfl) ER.sb fun a F => ?_
  refine da F ER.sb fun a F => ?_
  refine d_nil ?_
  refine hK2 _ _ ?_
  have F : Fr a 35 [(4, .bool true)] := F.sub ⟨rfl, trivial⟩
  refine wp_ret ?_
  have H := si H
  subst H
  refine out1 F rfl rfl ?_
  exact ⟨rfl, _, hJ⟩
 | node tl tr k v s d ihhl ihhr =>
  intro p s0 c w ht hJ r H
  obtain ⟨ad, lp, rp, A1, C2, rfl, hat, h3, hl, hr⟩ := TR.node ht
  have H : (thenC (Tr.up g tl s0) fun s => thenC (g s k v) fun s => Tr.up g tr s) = some r := H
  refine enter (N := 35) (l := [.pointer (some ad), yv l]) Try.func67 rfl rfl (nb rfl) fun a F => ?_
  have ER := hJ.ev (HE _)
  refine wp_seq_k fun K4 hK4 => reg ?_
  refine qa F fun a F => ?_
  refine nil (hK4 _ _ ?_)
  refine wp_seq_k fun K5 hK5 => ?_
  refine regD (SB M cR wR) 31 (.q 0 (.q 1 (.q 2 (.q 3 (.q 4 (.q 5 (.q 6 (.q 7 (.e 8 (.q 9 (.q 10 (.q 11 (.q 12 (.q 13 (.q 14 (.q 15 (.q 16 (.q 17 (.q 18 (.e 19 (.q 20 (.q 21 (.q 22 (.q 23 (.q 24 (.q 25 (.q 26 (.e 27 (.q 28 (.q 29 (.q 30 .nil))))))))))))))))))))))))))))))) Try_hm (by decide +kernel) ?_
  intro w6 w1_ w2_ w3_ w4_
  have hJ := hJ.step (Ev.same w1_ w2_ w3_ w4_) (hJ.1.same w1_)
  have ER := hJ.ev (HE _)
  refine dm F ER.sb fun a F => ?_
  refine dq F (fun wq hS => r_peql F Try.underlying77 rfl rfl) ER.sb fun a F => ?_
  refine dm F ER.sb fun a F => ?_
  refine dy F rfl (fun wq hS => r_move F rfl) ER.sb fun a F => ?_
  refine dy F rfl (fun wq hS => r_nil F rfl) ER.sb fun a F => ?_
  refine dy F rfl (fun wq hS => r_fieldAddr F rfl ff_112_0) ER.sb fun a F => ?_
  refine dy F rfl (fun wq hS => r_load F rfl ag_77 (AT.cell (AT.sb hat hS HM) rfl)) ER.sb fun a F => ?_
  refine dy F rfl (fun wq hS => r_move F rfl) ER.sb fun a F => ?_
  refine d_e ?_
  obtain ⟨t7, q8, H⟩ := thenC_some H
  refine o_call F rfl (wanted_yes F rfl rfl (by decide) rfl rfl) rfl (by decide) (r_call F Try.func67 rfl (by kernel_rfl) rfl) (ihhl _ _ _ _ hl hJ _ q8) ?_
  rintro e w10 h11
  cases t7 with
  | next s_ =>
   obtain ⟨rfl, c9, hJ⟩ := h11
   refine ⟨_, rfl, fun a F => ?_⟩
   have ER := hJ.ev (HE _)
   have H : _ = some r := H
   refine ⟨fun _ => ER.sb, ?_⟩
   refine dy F rfl (fun wq hS => r_move F rfl) ER.sb fun a F => ?_
   refine dy F rfl (fun wq hS => r_move F rfl) ER.sb fun a F => ?_
   refine dy F rfl (fun wq hS => r_move F rfl) ER.sb fun a F => ?_
   refine dy F rfl (fun wq hS => r_nil F rfl) ER.sb fun a F => ?_
   refine dy F rfl (fun wq hS => r_fieldAddr F rfl ff_112_2) ER.sb fun a F => ?_
   refine dy F rfl (fun wq hS => r_load F rfl ag_9 (AT.cell (AT.sb hat hS HM) rfl)) ER.sb fun a F => ?_
   refine dy F rfl (fun wq hS => r_move F rfl) ER.sb fun a F => ?_
   refine dy F rfl (fun wq hS => r_nil F rfl) ER.sb fun a F => ?_
   refine dy F rfl (fun wq hS => r_fieldAddr F rfl ff_112_3) ER.sb fun a F => ?_
   refine dy F rfl (fun wq hS => r_loads (cs := [.slice A1 v.value.length C2, .int .i64 v.rev]) F rfl ag_80 sz_80 (AT.sub (AT.sb hat hS HM) 3 2 (nb rfl))) ER.sb fun a F => ?_
   refine d_e ?_
   obtain ⟨t12, q13, H⟩ := thenC_some H
   refine o_yield F rfl (wanted_yes F rfl rfl (by decide) rfl rfl) rfl (by decide) (r_yield F rfl (vs := [.string k, .agg #[.slice A1 v.value.length C2, .int .i64 v.rev]]) rfl) (HY _ _ _ _ _ _ _ _ hJ (SL.ev h3 ER HM HM) q13) ?_
   rintro e w15 h16
   cases t12 with
   | next s_ =>
    obtain ⟨rfl, c14, hJ⟩ := h16
    refine ⟨_, rfl, fun a F => ?_⟩
    have ER := hJ.ev (HE _)
    have H : _ = some r := H
    refine ⟨fun _ => ER.sb, ?_⟩
    refine dy F rfl (fun wq hS => r_pick_t F rfl rfl rfl) ER.sb fun a F => ?_
    refine dy F rfl (fun wq hS => r_move F rfl) ER.sb fun a F => ?_
    refine dy F rfl (fun wq hS => r_move F rfl) ER.sb fun a F => ?_
    refine dy F rfl (fun wq hS => r_nil F rfl) ER.sb fun a F => ?_
    refine dy F rfl (fun wq hS => r_fieldAddr F rfl ff_112_1) ER.sb fun a F => ?_
    refine dy F rfl (fun wq hS => r_load F rfl ag_77 (AT.cell (AT.sb hat hS HM) rfl)) ER.sb fun a F => ?_
    refine dy F rfl (fun wq hS => r_move F rfl) ER.sb fun a F => ?_
    refine d_e ?_
    refine o_call F rfl (wanted_yes F rfl rfl (by decide) rfl rfl) rfl (by decide) (r_call F Try.func67 rfl (by kernel_rfl) rfl) (ihhr _ _ _ _ hr hJ _ H) ?_
    rintro e w18 h19
    cases r with
    | next s_ =>
     obtain ⟨rfl, c17, hJ⟩ := h19
     refine ⟨_, rfl, fun a F => ?_⟩
     have ER := hJ.ev (HE _)
     refine ⟨fun _ => ER.sb, ?_⟩
     refine dy F rfl (fun wq hS => r_pick_t F rfl rfl rfl) ER.sb fun a F => ?_
     refine dq F (fun wq hS => r_pick_f F rfl rfl rfl) ER.sb fun a F => ?_
     refine da F ER.sb fun a F => ?_
     refine d_nil ?_
     refine hK5 _ _ ?_
     have F : Fr a 35 [(4, .bool true)] := F.sub ⟨rfl, trivial⟩
     refine wp_ret ?_
     refine out1 F rfl rfl ?_
     exact ⟨rfl, _, hJ⟩
    | done x_ =>
     obtain ⟨rfl, c17, hX⟩ := h19
     refine ⟨_, rfl, fun a F => ?_⟩
     have ER := HX _ _ _ hX
     refine ⟨fun _ => ER.sb, ?_⟩
     refine dy F rfl (fun wq hS => r_pick_t F rfl rfl rfl) ER.sb fun a F => ?_
     refine dq F (fun wq hS => r_pick_f F rfl rfl rfl) ER.sb fun a F => ?_
     refine da F ER.sb fun a F => ?_
     refine d_nil ?_
     refine hK5 _ _ ?_
     have F : Fr a 35 [(4, .bool false)] := F.sub ⟨rfl, trivial⟩
     refine wp_ret ?_
     refine out1 F rfl rfl ?_
     exact ⟨rfl, _, hX⟩
   | done x_ =>
    obtain ⟨rfl, c14, hX⟩ := h16
    refine ⟨_, rfl, fun a F => ?_⟩
    have ER := HX _ _ _ hX
    have H : Ctl.done _ = r := H
    subst H
    refine ⟨fun _ => ER.sb, ?_⟩
    refine dy F rfl (fun wq hS => r_pick_t F rfl rfl rfl) ER.sb fun a F => ?_
    refine dy F rfl (fun wq hS => r_move F rfl) ER.sb fun a F => ?_
    refine dn F rfl ER.sb fun a F => ?_
    refine dn F rfl ER.sb fun a F => ?_
    refine dn F rfl ER.sb fun a F => ?_
    refine dn F rfl ER.sb fun a F => ?_
    refine dn F rfl ER.sb fun a F => ?_
    refine d_e ?_
    refine o_no F rfl rfl rfl (by decide) rfl rfl rfl (by decide) fun a F => ?_
    refine ⟨fun _ => ER.sb, ?_⟩
    refine dy F rfl (fun wq hS => r_pick_f F rfl rfl rfl) ER.sb fun a F => ?_
    refine dq F (fun wq hS => r_pick_f F rfl rfl rfl) ER.sb fun a F => ?_
    refine da F ER.sb fun a F => ?_
    refine d_nil ?_
    refine hK5 _ _ ?_
    have F : Fr a 35 [(4, .bool false)] := F.sub ⟨rfl, trivial⟩
    refine wp_ret ?_
    refine out1 F rfl rfl ?_
    exact ⟨rfl, _, hX⟩
  | done x_ =>
   obtain ⟨rfl, c9, hX⟩ := h11
   refine ⟨_, rfl, fun a F => ?_⟩
   have ER := HX _ _ _ hX
   have H : Ctl.done _ = r := H
   subst H
   refine ⟨fun _ => ER.sb, ?_⟩
   refine dy F rfl (fun wq hS => r_move F rfl) ER.sb fun a F => ?_
   refine dn F rfl ER.sb fun a F => ?_
   refine dn F rfl ER.sb fun a F => ?_
   refine dn F rfl ER.sb fun a F => ?_
   refine dn F rfl ER.sb fun a F => ?_
   refine dn F rfl ER.sb fun a F => ?_
   refine dn F rfl ER.sb fun a F => ?_
   refine dn F rfl ER.sb fun a F => ?_
   refine dn F rfl ER.sb fun a F => ?_
   refine dn F rfl ER.sb fun a F => ?_
   refine d_e ?_
   refine o_no F rfl rfl rfl (by decide) rfl rfl rfl (by decide) fun a F => ?_
   refine ⟨fun _ => ER.sb, ?_⟩
   refine dy F rfl (fun wq hS => r_pick_f F rfl rfl rfl) ER.sb fun a F => ?_
   refine dy F rfl (fun wq hS => r_move F rfl) ER.sb fun a F => ?_
   refine dn F rfl ER.sb fun a F => ?_
   refine dn F rfl ER.sb fun a F => ?_
   refine dn F rfl ER.sb fun a F => ?_
   refine dn F rfl ER.sb fun a F => ?_
   refine dn F rfl ER.sb fun a F => ?_
   refine d_e ?_
   refine o_no F rfl rfl rfl (by decide) rfl rfl rfl (by decide) fun a F => ?_
   refine ⟨fun _ => ER.sb, ?_⟩
   refine dy F rfl (fun wq hS => r_pick_f F rfl rfl rfl) ER.sb fun a F => ?_
   refine dq F (fun wq hS => r_pick_f F rfl rfl rfl) ER.sb fun a F => ?_
   refine da F ER.sb fun a F => ?_
   refine d_nil ?_
   refine hK5 _ _ ?_
   have F : Fr a 35 [(4, .bool false)] := F.sub ⟨rfl, trivial⟩
   refine wp_ret ?_
   refine out1 F rfl rfl ?_
   exact ⟨rfl, _, hX⟩
theorem tree_Tree_All_1.calls {σ X : Type} {m : Nat} {M : Nat → Prop} {cR : Nat → Nat} {wR : World} {l : Nat} (hm0 : 0 < m) (HM : ¬ M 0) {g : σ → ByteArray → table_cell → Option (Ctl σ X)} {J : σ → (Nat → Nat) → World → Prop} {JX : X → (Nat → Nat) → World → Prop} (HE : ∀ s c w, J s c w → Ev M cR wR c w) (HX : ∀ x c w, JX x c w → Ev M cR wR c w) (HY : ∀ s k (v : table_cell) c w (A4 : Option Addr) (C5 : Nat) r, JS m (J s) c w → SL false (Kint .u8) 0 0 c w A4 C5 v.value → g s k v = some r → YieldAt Fence.wide 0 Try.prog l #[.string k, .agg #[.slice A4 v.value.length C5, .int .i64 v.rev]] w (IP (fun s => JS m (J s)) JX r)) (t : Tr) (p : Option Addr) (s : σ) (c : Nat → Nat) (w : World) {own0 : Bool} {jq0 : Nat} {q0 : Addr} (hq0 : AT own0 jq0 c w q0 [.pointer p]) (ht : TR 0 cR wR p t) (hJ : JS m (J s) c w) (r : Ctl σ X) (H : Tr.up g t s = some r) : Calls Try.prog 66 #[yv l, .pointer (some q0)] w (IT (fun s => JS m (J s)) JX r) := by
 refine enter (N := 6) (l := [yv l, .pointer (some q0)]) Try.func66 rfl rfl (nb rfl) fun a F => ?_
 have ER := hJ.ev (HE _)
 refine reg ?_
 refine qv F (r_load F rfl ag_77 (AT.cell0 hq0 rfl)) fun a F => ?_
 refine qm F fun a F => ?_
 refine qc F Try.func67 (tree_Tree_up.calls hm0 HM HE HX HY _ _ _ _ _ ht hJ _ H) ?_
 rintro e w2 h3
 cases r with
 | next s_ =>
  obtain ⟨rfl, c1, hJ⟩ := h3
  refine ⟨_, rfl, fun a F => ?_⟩
  have ER := hJ.ev (HE _)
  refine nil ?_
  refine out0n F rfl ?_
  exact ⟨⟨_, rfl⟩, _, hJ⟩
 | done x_ =>
  obtain ⟨rfl, c1, hX⟩ := h3
  refine ⟨_, rfl, fun a F => ?_⟩
  have ER := HX _ _ _ hX
  refine nil ?_
  refine out0n F rfl ?_
  exact ⟨⟨_, rfl⟩, _, hX⟩
theorem cmp_Less.calls {m : Nat} {c0 : Nat → Nat} {w0 : World} {a1 : ByteArray} {a2 : ByteArray} (hm0 : 0 < m) (B0 : CB m c0 w0) (r : Bool) (H : cmp_Less.f a1 a2 = some r) : Calls Try.prog 95 #[.string a1, .string a2] w0 (fun e w_ => ∃ (c_ : Nat → Nat), e = .returned (.bool r) ∧ Ev (fun x => False) c0 w0 c_ w_ ∧ CB m c_ w_) := by
 unfold cmp_Less.f at H
 have B := B0.mono (show m ≤ m + 1 by omega)
 have E : Ev (fun x => False ∨ m ≤ x) c0 w0 c0 w0 := Ev.refl
 refine enter (N := 17) (l := [.string a1, .string a2]) Try.func95 rfl rfl (nb rfl) fun a F => ?_
 refine wp_seq_k fun K3 hK3 => reg ?_
 refine qa F fun a F => ?_
 refine nil (hK3 _ _ ?_)
 refine wp_seq_k fun K4 hK4 => reg ?_
 refine qm F fun a F => ?_
 obtain ⟨t5, q6, H⟩ := bind_some H
 refine qc F Try.func86 (cmp_isNaN.calls (m := m + 1) (pl hm0) B _ q6) ?_
 rintro e w8 ⟨c7, rfl, E9, B10⟩
 refine ⟨_, rfl, fun a F => ?_⟩
 have B := B10
 replace E := E.trans E9 nx
 refine qm F fun a F => ?_
 by_cases hb12 : t5 = true
 ·replace H := ip hb12 H
  refine qy F hb12 ?_
  refine qm F fun a F => ?_
  obtain ⟨t13, q14, H⟩ := bind_some H
  refine qy F hb12 ?_
  refine qc F Try.func86 (cmp_isNaN.calls (m := m + 1) (pl hm0) B _ q14) ?_
  rintro e w16 ⟨c15, rfl, E17, B18⟩
  refine ⟨_, rfl, fun a F => ?_⟩
  have B := B18
  replace E := E.trans E17 nx
  refine qy F hb12 ?_
  refine qv F (r_not F rfl) fun a F => ?_
  refine qv F (r_pick_t F rfl hb12 rfl) fun a F => ?_
  refine qm F fun a F => ?_
  by_cases hb20 : t13 = true
  ·replace H := ip hb20 H
   refine qy F (congrArg not hb20) ?_
   refine qm F fun a F => ?_
   refine qy F (congrArg not hb20) ?_
   refine qm F fun a F => ?_
   refine qy F (congrArg not hb20) ?_
   refine qv F (r_slss F rfl rfl) fun a F => ?_
   refine qv F (r_pick_f F rfl (congrArg not hb20) rfl) fun a F => ?_
   refine qa F fun a F => ?_
   refine nil (hK4 _ _ ?_)
   replace F : Fr a 17 [(4, .bool (Op.bytesLess a1.toList a2.toList))] := F.sub ⟨rfl, trivial⟩
   refine wp_ret ?_
   replace H := si H
   subst H
   refine out1 F rfl rfl ?_
   exact ⟨cf (fun x_ => if x_ < m then x_ else 0) c15, rfl, E.lv B0, cfb⟩
  replace H := im hb20 H
  refine qn F (congrArg not (bfalse hb20)) fun a F => ?_
  refine qn F (congrArg not (bfalse hb20)) fun a F => ?_
  refine qn F (congrArg not (bfalse hb20)) fun a F => ?_
  refine qv F (r_pick_t F rfl (congrArg not (bfalse hb20)) rfl) fun a F => ?_
  refine qa F fun a F => ?_
  refine nil (hK4 _ _ ?_)
  replace F : Fr a 17 [(4, .bool true)] := F.sub ⟨rfl, trivial⟩
  refine wp_ret ?_
  replace H := si H
  subst H
  refine out1 F rfl rfl ?_
  exact ⟨cf (fun x_ => if x_ < m then x_ else 0) c15, rfl, E.lv B0, cfb⟩
 replace H := im hb12 H
 refine qn F (bfalse hb12) fun a F => ?_
 refine qn F (bfalse hb12) fun a F => ?_
 refine qn F (bfalse hb12) fun a F => ?_
 refine qv F (r_pick_f F rfl (bfalse hb12) rfl) fun a F => ?_
 refine qm F fun a F => ?_
 refine qy F rfl ?_
 refine qm F fun a F => ?_
 refine qy F rfl ?_
 refine qm F fun a F => ?_
 refine qy F rfl ?_
 refine qv F (r_slss F rfl rfl) fun a F => ?_
 refine qv F (r_pick_f F rfl rfl rfl) fun a F => ?_
 refine qa F fun a F => ?_
 refine nil (hK4 _ _ ?_)
 replace F : Fr a 17 [(4, .bool (Op.bytesLess a1.toList a2.toList))] := F.sub ⟨rfl, trivial⟩
 refine wp_ret ?_
 replace H := si H
 subst H
 refine out1 F rfl rfl ?_
 exact ⟨cf (fun x_ => if x_ < m then x_ else 0) c7, rfl, E.lv B0, cfb⟩
theorem tree_Tree_from.calls {σ X : Type} {m : Nat} {M : Nat → Prop} {cR : Nat → Nat} {wR : World} {l : Nat} (hm0 : 0 < m) (HM : ¬ M 0) {g : σ → ByteArray → table_cell → Option (Ctl σ X)} {J : σ → (Nat → Nat) → World → Prop} {JX : X → (Nat → Nat) → World → Prop} (HE : ∀ s c w, J s c w → Ev M cR wR c w) (HX : ∀ x c w, JX x c w → Ev M cR wR c w) (HY : ∀ s k (v : table_cell) c w (A35 : Option Addr) (C36 : Nat) r, JS m (J s) c w → SL false (Kint .u8) 0 0 c w A35 C36 v.value → g s k v = some r → YieldAt Fence.wide 0 Try.prog l #[.string k, .agg #[.slice A35 v.value.length C36, .int .i64 v.rev]] w (IP (fun s => JS m (J s)) JX r)) (key : ByteArray) (t : Tr) : ∀ (p : Option Addr) (s : σ) (c : Nat → Nat) (w : World), TR 0 cR wR p t → JS m (J s) c w → ∀ (r : Ctl σ X), Tr.from key g t s = some r → Calls Try.prog 85 #[.pointer p, .string key, yv l] w (IP (fun s => JS m (J s)) JX r) := by
 induction t with
 | nil =>
  intro p s0 c w ht hJ r H
  have ht : p = none := ht
  subst ht
  have H : some (Ctl.next s0) = some r := H
  refine enter (N := 49) (l := [.pointer none, .string key, yv l]) Try.func85 rfl rfl (nb rfl) fun a F => ?_
  have ER := hJ.ev (HE _)
  refine wp_seq_k fun K1 hK1 => reg ?_
  refine qa F fun a F => ?_
  refine nil (hK1 _ _ ?_)
  refine wp_seq_k fun K2 hK2 => ?_
  refine wp_seq_k fun K3 hK3 => reg ?_
  refine qm F fun a F => ?_
  refine qv F (r_peql F Try.underlying77 rfl rfl) fun a F => ?_
  refine nil (hK3 _ _ ?_)
  refine wp_cond_true (F.ev rfl) ?_
  refine wp_seq_k fun K4 hK4 => reg ?_
  refine qa F fun a F => ?_
  refine nil (hK4 _ _ ?_)
  refine wp_ret ?_
  refine thenR ?_
  have H := si H
  subst H
  refine out1 F rfl rfl ?_
  exact ⟨rfl, _, hJ⟩
 | node tl tr k v s d ihhl ihhr =>
  intro p s0 c w ht hJ r H
  obtain ⟨ad, lp, rp, A1, C2, rfl, hat, h3, hl, hr⟩ := TR.node ht
  have H : ((cmp_Less.f k key).bind fun b => if b = true then Tr.from key g tr s0 else thenC (Tr.from key g tl s0) fun s => thenC (g s k v) fun s => Tr.up g tr s) = some r := H
  refine enter (N := 49) (l := [.pointer (some ad), .string key, yv l]) Try.func85 rfl rfl (nb rfl) fun a F => ?_
  have ER := hJ.ev (HE _)
  refine wp_seq_k fun K4 hK4 => reg ?_
  refine qa F fun a F => ?_
  refine nil (hK4 _ _ ?_)
  refine wp_seq_k fun K5 hK5 => ?_
  refine wp_seq_k fun K6 hK6 => reg ?_
  refine qm F fun a F => ?_
  refine qv F (r_peql F Try.underlying77 rfl rfl) fun a F => ?_
  refine nil (hK6 _ _ ?_)
  refine wp_cond_false (F.ev rfl) (wp_skip (hK5 _ _ ?_))
  refine wp_seq_k fun K7 hK7 => ?_
  refine wp_seq_k fun K8 hK8 => reg ?_
  refine qm F fun a F => ?_
  refine qv F (r_nil F rfl) fun a F => ?_
  refine qf F ff_112_2 fun a F => ?_
  refine qv F (r_load F rfl ag_9 (AT.cell (AT.sb hat ER.sb HM) rfl)) fun a F => ?_
  refine qm F fun a F => ?_
  obtain ⟨t9, q10, H⟩ := bind_some H
  refine qc F Try.func95 (cmp_Less.calls (m := m) hm0 hJ.1 _ q10) ?_
  rintro e w12 ⟨c11, rfl, E13, B14⟩
  refine ⟨_, rfl, fun a F => ?_⟩
  have hJ := hJ.step E13 B14
  have ER := hJ.ev (HE _)
  refine nil (hK8 _ _ ?_)
  by_cases hb15 : t9 = true
  ·have H := (if_pos hb15).symm.trans H
   refine wp_cond_true (fb F hb15) ?_
   refine wp_seq_k fun K16 hK16 => reg ?_
   refine qm F fun a F => ?_
   refine qv F (r_nil F rfl) fun a F => ?_
   refine qf F ff_112_1 fun a F => ?_
   refine qv F (r_load F rfl ag_77 (AT.cell (AT.sb hat ER.sb HM) rfl)) fun a F => ?_
   refine qm F fun a F => ?_
   refine qm F fun a F => ?_
   refine qc F Try.func85 (ihhr _ _ _ _ hr hJ _ H) ?_
   rintro e w18 h19
   cases r with
   | next s_ =>
    obtain ⟨rfl, c17, hJ⟩ := h19
    refine ⟨_, rfl, fun a F => ?_⟩
    have ER := hJ.ev (HE _)
    refine qa F fun a F => ?_
    refine nil (hK16 _ _ ?_)
    have F : Fr a 49 [(6, .bool true)] := F.sub ⟨rfl, trivial⟩
    refine wp_ret ?_
    refine thenR ?_
    refine out1 F rfl rfl ?_
    exact ⟨rfl, _, hJ⟩
   | done x_ =>
    obtain ⟨rfl, c17, hX⟩ := h19
    refine ⟨_, rfl, fun a F => ?_⟩
    have ER := HX _ _ _ hX
    refine qa F fun a F => ?_
    refine nil (hK16 _ _ ?_)
    have F : Fr a 49 [(6, .bool false)] := F.sub ⟨rfl, trivial⟩
    refine wp_ret ?_
    refine thenR ?_
    refine out1 F rfl rfl ?_
    exact ⟨rfl, _, hX⟩
  have H := (if_neg hb15).symm.trans H
  refine wp_cond_false (fb F (bfalse hb15)) (wp_skip (hK7 _ _ ?_))
  refine wp_seq_k fun K20 hK20 => ?_
  refine regD (SB M cR wR) 28 (.q 0 (.q 1 (.q 2 (.q 3 (.q 4 (.q 5 (.e 6 (.q 7 (.q 8 (.q 9 (.q 10 (.q 11 (.q 12 (.q 13 (.q 14 (.q 15 (.q 16 (.e 17 (.q 18 (.q 19 (.q 20 (.q 21 (.q 22 (.q 23 (.q 24 (.e 25 (.q 26 (.q 27 .nil)))))))))))))))))))))))))))) Try_hm (by decide +kernel) ?_
  intro w21 w1_ w2_ w3_ w4_
  have hJ := hJ.step (Ev.same w1_ w2_ w3_ w4_) (hJ.1.same w1_)
  have ER := hJ.ev (HE _)
  refine dm F ER.sb fun a F => ?_
  refine dq F (fun wq hS => r_nil F rfl) ER.sb fun a F => ?_
  refine df F ff_112_0 ER.sb fun a F => ?_
  refine dq F (fun wq hS => r_load F rfl ag_77 (AT.cell (AT.sb hat hS HM) rfl)) ER.sb fun a F => ?_
  refine dm F ER.sb fun a F => ?_
  refine dm F ER.sb fun a F => ?_
  refine d_e ?_
  obtain ⟨t22, q23, H⟩ := thenC_some H
  refine oc F Try.func85 (ihhl _ _ _ _ hl hJ _ q23) ?_
  rintro e w25 h26
  cases t22 with
  | next s_ =>
   obtain ⟨rfl, c24, hJ⟩ := h26
   refine ⟨_, rfl, fun a F => ?_⟩
   have ER := hJ.ev (HE _)
   have H : _ = some r := H
   refine ⟨fun _ => ER.sb, ?_⟩
   refine dm F ER.sb fun a F => ?_
   refine dy F rfl (fun wq hS => r_move F rfl) ER.sb fun a F => ?_
   refine dy F rfl (fun wq hS => r_move F rfl) ER.sb fun a F => ?_
   refine dy F rfl (fun wq hS => r_nil F rfl) ER.sb fun a F => ?_
   refine dy F rfl (fun wq hS => r_fieldAddr F rfl ff_112_2) ER.sb fun a F => ?_
   refine dy F rfl (fun wq hS => r_load F rfl ag_9 (AT.cell (AT.sb hat hS HM) rfl)) ER.sb fun a F => ?_
   refine dy F rfl (fun wq hS => r_move F rfl) ER.sb fun a F => ?_
   refine dy F rfl (fun wq hS => r_nil F rfl) ER.sb fun a F => ?_
   refine dy F rfl (fun wq hS => r_fieldAddr F rfl ff_112_3) ER.sb fun a F => ?_
   refine dy F rfl (fun wq hS => r_loads (cs := [.slice A1 v.value.length C2, .int .i64 v.rev]) F rfl ag_80 sz_80 (AT.sub (AT.sb hat hS HM) 3 2 (nb rfl))) ER.sb fun a F => ?_
   refine d_e ?_
   obtain ⟨t27, q28, H⟩ := thenC_some H
   refine o_yield F rfl (wanted_yes F rfl rfl (by decide) rfl rfl) rfl (by decide) (r_yield F rfl (vs := [.string k, .agg #[.slice A1 v.value.length C2, .int .i64 v.rev]]) rfl) (HY _ _ _ _ _ _ _ _ hJ (SL.ev h3 ER HM HM) q28) ?_
   rintro e w30 h31
   cases t27 with
   | next s_ =>
    obtain ⟨rfl, c29, hJ⟩ := h31
    refine ⟨_, rfl, fun a F => ?_⟩
    have ER := hJ.ev (HE _)
    have H : _ = some r := H
    refine ⟨fun _ => ER.sb, ?_⟩
    refine dq F (fun wq hS => r_pick_t F rfl rfl rfl) ER.sb fun a F => ?_
    refine dm F ER.sb fun a F => ?_
    refine dy F rfl (fun wq hS => r_move F rfl) ER.sb fun a F => ?_
    refine dy F rfl (fun wq hS => r_nil F rfl) ER.sb fun a F => ?_
    refine dy F rfl (fun wq hS => r_fieldAddr F rfl ff_112_1) ER.sb fun a F => ?_
    refine dy F rfl (fun wq hS => r_load F rfl ag_77 (AT.cell (AT.sb hat hS HM) rfl)) ER.sb fun a F => ?_
    refine dy F rfl (fun wq hS => r_move F rfl) ER.sb fun a F => ?_
    refine d_e ?_
    refine o_call F rfl (wanted_yes F rfl rfl (by decide) rfl rfl) rfl (by decide) (r_call F Try.func67 rfl (by kernel_rfl) rfl) (tree_Tree_up.calls hm0 HM HE HX HY _ _ _ _ _ hr hJ _ H) ?_
    rintro e w33 h34
    cases r with
    | next s_ =>
     obtain ⟨rfl, c32, hJ⟩ := h34
     refine ⟨_, rfl, fun a F => ?_⟩
     have ER := hJ.ev (HE _)
     refine ⟨fun _ => ER.sb, ?_⟩
     refine dq F (fun wq hS => r_pick_t F rfl rfl rfl) ER.sb fun a F => ?_
     refine da F ER.sb fun a F => ?_
     refine d_nil ?_
     refine hK20 _ _ ?_
     have F : Fr a 49 [(6, .bool true)] := F.sub ⟨rfl, trivial⟩
     refine wp_ret ?_
     refine out1 F rfl rfl ?_
     exact ⟨rfl, _, hJ⟩
    | done x_ =>
     obtain ⟨rfl, c32, hX⟩ := h34
     refine ⟨_, rfl, fun a F => ?_⟩
     have ER := HX _ _ _ hX
     refine ⟨fun _ => ER.sb, ?_⟩
     refine dq F (fun wq hS => r_pick_t F rfl rfl rfl) ER.sb fun a F => ?_
     refine da F ER.sb fun a F => ?_
     refine d_nil ?_
     refine hK20 _ _ ?_
     have F : Fr a 49 [(6, .bool false)] := F.sub ⟨rfl, trivial⟩
     refine wp_ret ?_
     refine out1 F rfl rfl ?_
     exact ⟨rfl, _, hX⟩
   | done x_ =>
    obtain ⟨rfl, c29, hX⟩ := h31
    refine ⟨_, rfl, fun a F => ?_⟩
    have ER := HX _ _ _ hX
    have H : Ctl.done _ = r := H
    subst H
    refine ⟨fun _ => ER.sb, ?_⟩
    refine dq F (fun wq hS => r_pick_t F rfl rfl rfl) ER.sb fun a F => ?_
    refine dm F ER.sb fun a F => ?_
    refine dn F rfl ER.sb fun a F => ?_
    refine dn F rfl ER.sb fun a F => ?_
    refine dn F rfl ER.sb fun a F => ?_
    refine dn F rfl ER.sb fun a F => ?_
    refine dn F rfl ER.sb fun a F => ?_
    refine d_e ?_
    refine o_no F rfl rfl rfl (by decide) rfl rfl rfl (by decide) fun a F => ?_
    refine ⟨fun _ => ER.sb, ?_⟩
    refine dq F (fun wq hS => r_pick_f F rfl rfl rfl) ER.sb fun a F => ?_
    refine da F ER.sb fun a F => ?_
    refine d_nil ?_
    refine hK20 _ _ ?_
    have F : Fr a 49 [(6, .bool false)] := F.sub ⟨rfl, trivial⟩
    refine wp_ret ?_
    refine out1 F rfl rfl ?_
    exact ⟨rfl, _, hX⟩
  | done x_ =>
   obtain ⟨rfl, c24, hX⟩ := h26
   refine ⟨_, rfl, fun a F => ?_⟩
   have ER := HX _ _ _ hX
   have H : Ctl.done _ = r := H
   subst H
   refine ⟨fun _ => ER.sb, ?_⟩
   refine dm F ER.sb fun a F => ?_
   refine dn F rfl ER.sb fun a F => ?_
   refine dn F rfl ER.sb fun a F => ?_
   refine dn F rfl ER.sb fun a F => ?_
   refine dn F rfl ER.sb fun a F => ?_
   refine dn F rfl ER.sb fun a F => ?_
   refine dn F rfl ER.sb fun a F => ?_
   refine dn F rfl ER.sb fun a F => ?_
   refine dn F rfl ER.sb fun a F => ?_
   refine dn F rfl ER.sb fun a F => ?_
   refine d_e ?_
   refine o_no F rfl rfl rfl (by decide) rfl rfl rfl (by decide) fun a F => ?_
   refine ⟨fun _ => ER.sb, ?_⟩
   refine dq F (fun wq hS => r_pick_f F rfl rfl rfl) ER.sb fun a F => ?_
   refine dm F ER.sb fun a F => ?_
   refine dn F rfl ER.sb fun a F => ?_
   refine dn F rfl ER.sb fun a F => ?_
   refine dn F rfl ER.sb fun a F => ?_
   refine dn F rfl ER.sb fun a F => ?_
   refine dn F rfl ER.sb fun a F => ?_
   refine d_e ?_
   refine o_no F rfl rfl rfl (by decide) rfl rfl rfl (by decide) fun a F => ?_
   refine ⟨fun _ => ER.sb, ?_⟩
   refine dq F (fun wq hS => r_pick_f F rfl rfl rfl) ER.sb fun a F => ?_
   refine da F ER.sb fun a F => ?_
   refine d_nil ?_
   refine hK20 _ _ ?_
   have F : Fr a 49 [(6, .bool false)] := F.sub ⟨rfl, trivial⟩
   refine wp_ret ?_
   refine out1 F rfl rfl ?_
   exact ⟨rfl, _, hX⟩
theorem tree_Tree_From_1.calls {σ X : Type} {m : Nat} {M : Nat → Prop} {cR : Nat → Nat} {wR : World} {l : Nat} (hm0 : 0 < m) (HM : ¬ M 0) {g : σ → ByteArray → table_cell → Option (Ctl σ X)} {J : σ → (Nat → Nat) → World → Prop} {JX : X → (Nat → Nat) → World → Prop} (HE : ∀ s c w, J s c w → Ev M cR wR c w) (HX : ∀ x c w, JX x c w → Ev M cR wR c w) (HY : ∀ s k (v : table_cell) c w (A4 : Option Addr) (C5 : Nat) r, JS m (J s) c w → SL false (Kint .u8) 0 0 c w A4 C5 v.value → g s k v = some r → YieldAt Fence.wide 0 Try.prog l #[.string k, .agg #[.slice A4 v.value.length C5, .int .i64 v.rev]] w (IP (fun s => JS m (J s)) JX r)) (t : Tr) (p : Option Addr) (key : ByteArray) (s : σ) (c : Nat → Nat) (w : World) {own0 : Bool} {jq0 : Nat} {q0 : Addr} (hq0 : AT own0 jq0 c w q0 [.pointer p]) {own1 : Bool} {jq1 : Nat} {q1 : Addr} (hq1 : AT own1 jq1 c w q1 [.string key]) (ht : TR 0 cR wR p t) (hJ : JS m (J s) c w) (r : Ctl σ X) (H : Tr.from key g t s = some r) : Calls Try.prog 84 #[yv l, .pointer (some q0), .pointer (some q1)] w (IT (fun s => JS m (J s)) JX r) := by
 refine enter (N := 8) (l := [yv l, .pointer (some q0), .pointer (some q1)]) Try.func84 rfl rfl (nb rfl) fun a F => ?_
 have ER := hJ.ev (HE _)
 refine reg ?_
 refine qv F (r_load F rfl ag_77 (AT.cell0 hq0 rfl)) fun a F => ?_
 refine qv F (r_load F rfl ag_9 (AT.cell0 hq1 rfl)) fun a F => ?_
 refine qm F fun a F => ?_
 refine qc F Try.func85 (tree_Tree_from.calls hm0 HM HE HX HY key _ _ _ _ _ ht hJ _ H) ?_
 rintro e w2 h3
 cases r with
 | next s_ =>
  obtain ⟨rfl, c1, hJ⟩ := h3
  refine ⟨_, rfl, fun a F => ?_⟩
  have ER := hJ.ev (HE _)
  refine nil ?_
  refine out0n F rfl ?_
  exact ⟨⟨_, rfl⟩, _, hJ⟩
 | done x_ =>
  obtain ⟨rfl, c1, hX⟩ := h3
  refine ⟨_, rfl, fun a F => ?_⟩
  have ER := HX _ _ _ hX
  refine nil ?_
  refine out0n F rfl ?_
  exact ⟨⟨_, rfl⟩, _, hX⟩
theorem ITR.go {j : Nat} {cR : Nat → Nat} {wR : World} {v : Value} {i : It} (hi : ITR j cR wR v i) : ∃ gf lb, v = .func (.func gf) #[] lb ∧ (∀ args w, (callFunc gf args).run Try.prog w = .ok (.enter gf args) w) ∧
  ∀ {σ X : Type} {m : Nat} {M : Nat → Prop}  {l : Nat} (hm0 : 0 < m) (HM : ¬ M 0) {g : σ → ByteArray → table_cell → Option (Ctl σ X)} {J : σ → (Nat → Nat) → World → Prop} {JX : X → (Nat → Nat) → World → Prop} (HE : ∀ s c w, J s c w → Ev M cR wR c w) (HX : ∀ x c w, JX x c w → Ev M cR wR c w) (HY : ∀ s k (v : table_cell) c w (A1 : Option Addr) (C2 : Nat) r, JS m (J s) c w → SL false (Kint .u8) 0 0 c w A1 C2 v.value → g s k v = some r → YieldAt Fence.wide 0 Try.prog l #[.string k, .agg #[.slice A1 v.value.length C2, .int .i64 v.rev]] w (IP (fun s => JS m (J s)) JX r)) (c1 : Nat → Nat) (w1 : World) (E1 : Ev No cR wR c1 w1) (s : σ) (hJ : JS m (J s) c1 w1) (r : Ctl σ X) (H : It.run g i s = some r), Calls Try.prog gf (#[yv l] ++ lb) w1 (IT (fun s => JS m (J s)) JX r) := by
 cases i with
 | all t =>
  obtain ⟨q, p, e, h, ht⟩ := hi
  refine ⟨_, _, e, callFunc_go Try.func66 (by kernel_rfl) rfl, ?_⟩
  intro σ X m M l hm0 HM g J JX HE HX HY c1 w1 E1 s hJ r H
  exact tree_Tree_All_1.calls hm0 HM HE HX HY t p s c1 w1 (h.ev E1 (fun q => q)) ht hJ r H
 | «from» t k =>
  obtain ⟨q, q1, p, e, h, h1, ht⟩ := hi
  refine ⟨_, _, e, callFunc_go Try.func84 (by kernel_rfl) rfl, ?_⟩
  intro σ X m M l hm0 HM g J JX HE HX HY c1 w1 E1 s hJ r H
  exact tree_Tree_From_1.calls hm0 HM HE HX HY t p k s c1 w1 (h.ev E1 (fun q => q)) (h1.ev E1 (fun q => q)) ht hJ r H
set_option maxHeartbeats 1000000 in
theorem ITR.range {j : Nat} {c : Nat → Nat} {w : World} {u : Value} {i : It} (hi : ITR j c w u i) {S X : Type} {m y z N : Nat} {M : Nat → Prop} {L : List (Nat × Value)} {D : List Deferred} {a : Act} {g0 : Operand} {p1 p2 : Tmp} {assign body : Code} {Q : Exit → Act → World → Prop} {g : S → ByteArray → table_cell → Option (Ctl S X)} (J : S → (Nat → Nat) → World → Prop) (JX : X → (Nat → Nat) → World → Prop)
  (F : Fr a N L D) (hg : G.ev L g0 = some u) (h1 : p1 < N) (h2 : p2 < N) (hy : y < m) (hz : z < m) (hyz : z ≠ y) (h0y : 0 < m) (HM : ¬ M 0) (B : CB m c w)
  (JE : ∀ s c1 w1, J s c1 w1 → Ev M c w c1 w1) (JXE : ∀ x c1 w1, JX x c1 w1 → Ev M c w c1 w1)
  (Jst : ∀ s c1 w1 c2 w2, J s c1 w1 → Ev (fun x => x = y) c1 w1 c2 w2 → J s c2 w2) (JXst : ∀ x c1 w1 c2 w2, JX x c1 w1 → Ev (fun x => x = y) c1 w1 c2 w2 → JX x c2 w2)
  (s0 : S) (h0 : J s0 c w) (xv : Ctl S X) (HL : It.run g i s0 = some xv)
  (round : ∀ (bd l : Nat) (rec_ : Loop) (s : S) (k : ByteArray) (v : table_cell) (c1 : Nat → Nat) (w1 : World) (A1 : Option Addr) (C2 : Nat) (r : Ctl S X), J s c1 w1 → CB m c1 w1 → OBJ z c1 w1 bd (.deferred (some [])) → OBJ y c1 w1 l (.loop rec_) → SL false (Kint .u8) 0 0 c1 w1 A1 C2 v.value → g s k v = some r → ∀ a1, Fr a1 N ((p2, .agg #[.slice A1 v.value.length C2, .int .i64 v.rev]) :: (p1, .string k) :: L) →
   assign.wpIn (Fw (some l)) 0 Try.prog (Exit.then (fun a2 w2 => ∃ c2, OBJ y c2 w2 l (.loop rec_) ∧ ∀ w3, Ev (fun x => x = y) c2 w2 c2 w3 → OBJ y c2 w3 l (.loop (lbusy rec_)) → w3.heap.size = w2.heap.size →
    body.wpIn (Fw (some l)) 0 Try.prog (RE y l rec_ (fun c4 w4 => r.el (fun s' => J s' c4 w4 ∧ CB m c4 w4 ∧ OBJ z c4 w4 bd (.deferred (some []))) (fun _ => False)) (fun jc c4 w4 => jc = .ret ∧ r.el (fun _ => False) (fun x => JX x c4 w4 ∧ CB m c4 w4 ∧ OBJ z c4 w4 bd (.deferred (some []))))) a2 w3) (fun _ _ _ => False)) a1 w1)
  (normal : ∀ s', xv = .next s' → ∀ c2 w2 bd, J s' c2 w2 → CB m c2 w2 → OBJ z c2 w2 bd (.deferred (some [])) → ∀ a', Fr a' N L ({ target := .collected bd, args := #[] } :: D) → Q .normal a' w2)
  (exit : ∀ x, xv = .done x → ∀ c2 w2 bd, JX x c2 w2 → CB m c2 w2 → OBJ z c2 w2 bd (.deferred (some [])) → ∀ a', Fr a' N L ({ target := .collected bd, args := #[] } :: D) → Q .ret a' w2) :
  (Code.rangeFunc g0 #[p1, p2] assign body).wp Try.prog Q a w := by
 obtain ⟨gf, lb, rfl, eg, hrun⟩ := ITR.go hi
 refine range_wp F hg eg c y z ?_
 intro fn bd l c1 w1 E1 hb hl hB hne
 have B1 := hB m B hy hz
 have no : ∀ x, No x → x = y := fun _ q => q.elim
 refine (hrun (σ := S) (X := X) (m := m) (M := M) (l := l) h0y HM (g := g) (J := fun s c1 w1 => J s c1 w1 ∧ OBJ z c1 w1 bd (.deferred (some [])) ∧ OBJ y c1 w1 l (.loop (lrec fn a.tmps #[p1, p2] assign body bd)))
  (JX := fun x c1 w1 => JX x c1 w1 ∧ CB m c1 w1 ∧ OBJ z c1 w1 bd (.deferred (some [])) ∧ OBJ y c1 w1 l (.loop (ldone (lrec fn a.tmps #[p1, p2] assign body bd) .ret))) (fun s c1 w1 h => JE _ _ _ h.1) (fun x c1 w1 h => JXE _ _ _ h.1) ?_ c1 w1 E1 s0 (JS.mk B1 ⟨Jst _ _ _ _ _ h0 (E1.mono no), hb, hl⟩) xv HL).mono ?_
 ·intro s k v c2 w2 A1 C2 r hjs h3 Hg
  obtain ⟨B2, c3, w3, ⟨hJ, hb3, hl3⟩, E3⟩ := hjs
  have hJ := Jst _ _ _ _ _ hJ (E3.mono no)
  have hb2 := hb3.ev E3 (fun q => q)
  have hl2 := hl3.ev E3 (fun q => q)
  refine YieldAt.mono (round2 F h1 h2 hl2 (G := fun c4 w4 => r.el (fun s' => J s' c4 w4 ∧ CB m c4 w4 ∧ OBJ z c4 w4 bd (.deferred (some []))) (fun _ => False)) (X := fun jc c4 w4 => jc = .ret ∧ r.el (fun _ => False) (fun x => JX x c4 w4 ∧ CB m c4 w4 ∧ OBJ z c4 w4 bd (.deferred (some [])))) (fun a1 F1 => round bd l _ s k v c2 w2 A1 C2 r hJ B2 hb2 hl2 h3 Hg a1 F1)) ?_
  rintro e W (⟨rfl, c4, V, hG, E4, hl4, hz4⟩ | ⟨rfl, jc, c4, V, hX, E4, hl4, hz4⟩)
  ·cases r with
   | next s' =>
    obtain ⟨hJ', B', hb'⟩ := hG
    exact ⟨rfl, c4, JS.mk (B'.size hz4) ⟨Jst _ _ _ _ _ hJ' E4, hb'.ev E4 (fun q => hyz q), hl4⟩⟩
   | done x => exact hG.elim
  cases r with
  | next s' => exact hX.2.elim
  | done x =>
   obtain ⟨rfl, hX, B', hb'⟩ := hX
   exact ⟨rfl, c4, JXst _ _ _ _ _ hX E4, B'.size hz4, hb'.ev E4 (fun q => hyz q), hl4⟩
 rintro e W ⟨hv, hr⟩
 cases xv with
 | next s' =>
  obtain ⟨c4, B4, c5, w5, ⟨hJ, hb5, hl5⟩, E5⟩ := hr
  refine ⟨hv, c4, none, hl5.ev E5 (fun q => q), fun W' E' Z' _ a' F' => ?_⟩
  exact normal s' rfl c4 W' bd (Jst _ _ _ _ _ (Jst _ _ _ _ _ hJ (E5.mono no)) E') (B4.size Z') ((hb5.ev E5 (fun q => q)).ev E' (fun q => hyz q)) a' F'
 | done x =>
  obtain ⟨c4, hX, B4, hb4, hl4⟩ := hr
  refine ⟨hv, c4, some .ret, hl4, fun W' E' Z' _ a' F' => ?_⟩
  refine wp_ret ?_
  exact exit x rfl c4 W' bd (JXst _ _ _ _ _ hX E') (B4.size Z') (hb4.ev E' (fun q => hyz q)) a' F'
theorem tree_Tree_From.calls {m : Nat} {c0 : Nat → Nat} {w0 : World} {p2 : Option Addr} {a1 : Tr} {a4 : ByteArray} (hm0 : 0 < m) (B0 : CB m c0 w0) (h3 : TR 0 c0 w0 p2 a1) (jr22 : Nat) (bjr22 : jr22 < m) (r : It) (H : tree_Tree_From.f a1 a4 = some r) : Calls Try.prog 61 #[.pointer p2, .string a4] w0 (fun e w_ => ∃ (c_ : Nat → Nat) (V0_ : Value), e = .returned (V0_) ∧ Ev (fun x => False) c0 w0 c_ w_ ∧ CB m c_ w_ ∧ ITR jr22 c_ w_ V0_ r) := by
 unfold tree_Tree_From.f at H
 have B := B0.mono (show m ≤ m + 2 by omega)
 have E : Ev (fun x => False ∨ m ≤ x) c0 w0 c0 w0 := Ev.refl
 refine enter (N := 6) (l := [.pointer p2, .string a4]) Try.func61 rfl rfl (nb rfl) fun a F => ?_
 refine wp_seq_k fun K5 hK5 => reg ?_
 refine q_eff F rfl rfl (by decide) (e_box F (v := .pointer p2) rfl c0 (m + 1)) ?_
 rintro v w7 a ⟨c6, qa8, rfl, E9, h10, B11⟩ F
 replace B := B11 _ B lm
 replace h3 := h3.ev E9 nq nq
 replace E := E.trans E9 nx
 replace h10 : AT true (m + 1) c6 w7 qa8 [.pointer p2] := h10
 refine q_eff F rfl rfl (by decide) (e_box F (v := .string a4) rfl c6 (m + 1)) ?_
 rintro v w14 a ⟨c13, qa15, rfl, E16, h17, B18⟩ F
 replace B := B18 _ B lm
 replace h3 := h3.ev E16 nq nq
 replace h10 := h10.ev E16 nq
 replace E := E.trans E16 nx
 replace h17 : AT true (m + 1) c13 w14 qa15 [.string a4] := h17
 refine qa F fun a F => ?_
 refine nil (hK5 _ _ ?_)
 refine wp_seq_k fun K20 hK20 => reg ?_
 refine qv F (r_makeFunc (vs := [.pointer (some qa8), .pointer (some qa15)]) F rfl) fun a F => ?_
 refine qa F fun a F => ?_
 refine nil (hK20 _ _ ?_)
 refine wp_ret ?_
 have h21 : ITR (m + 1) c13 w14 (.func (.func 84) #[] #[.pointer (some qa8), .pointer (some qa15)]) (.from a1 a4) := ⟨qa8, qa15, p2, rfl, h10, h17, h3⟩
 replace H := si H
 subst H
 refine out1 F rfl rfl ?_
 exact ⟨cf (fun x_ => if x_ = m + 1 then jr22 else if x_ < m then x_ else 0) c13, (.func (.func 84) #[] #[.pointer (some qa8), .pointer (some qa15)]), rfl, E.lv B0, cfb, ITR.rc h21 cfk cfk⟩
theorem tree_Tree_Seek.calls {m : Nat} {c0 : Nat → Nat} {w0 : World} {p2 : Option Addr} {a1 : Tr} {a4 : ByteArray} (hm0 : 0 < m) (B0 : CB m c0 w0) (h3 : TR 0 c0 w0 p2 a1) (r : ByteArray × table_cell × Bool) (H : tree_Tree_Seek.f a1 a4 = some r) : Calls Try.prog 38 #[.pointer p2, .string a4] w0 (fun e w_ => ∃ (c_ : Nat → Nat) (A0_ : Option Addr) (C0_ : Nat), e = .returned (.tuple #[.string r.1, .agg #[.slice A0_ r.2.1.value.length C0_, .int .i64 r.2.1.rev], .bool r.2.2]) ∧ Ev (fun x => False) c0 w0 c_ w_ ∧ CB m c_ w_ ∧ SL false (Kint .u8) 0 0 c_ w_ A0_ C0_ r.2.1.value) := by
 unfold tree_Tree_Seek.f at H
 have B := B0.mono (show m ≤ m + 8 by omega)
 have E : Ev (fun x => False ∨ m ≤ x) c0 w0 c0 w0 := Ev.refl
 refine enterM (N := 18) (l := [.pointer p2, .string a4]) Try.func38 rfl rfl (nb rfl) fun a F => ?_
 refine wp_seq_k fun K5 hK5 => reg ?_
 refine q_eff F rfl rfl (by decide) (e_alloc F zv_9 c0 (m + 1)) ?_
 rintro v w7 a ⟨c6, qa8, rfl, E9, h10, B11⟩ F
 replace B := B11 _ B lm
 replace h3 := h3.ev E9 nq nq
 replace E := E.trans E9 nx
 replace h10 : AT true (m + 1) c6 w7 qa8 [.string .empty] := h10
 refine q_eff F rfl rfl (by decide) (e_alloc F zv_80 c6 (m + 2)) ?_
 rintro v w14 a ⟨c13, qa15, rfl, E16, h17, B18⟩ F
 replace B := B18 _ B lm
 replace h3 := h3.ev E16 nq nq
 replace h10 := h10.ev E16 nq
 replace E := E.trans E16 nx
 replace h17 : AT true (m + 2) c13 w14 qa15 [.slice none 0 0, .int .i64 0] := h17
 refine q_eff F rfl rfl (by decide) (e_alloc F zv_4 c13 (m + 3)) ?_
 rintro v w21 a ⟨c20, qa22, rfl, E23, h24, B25⟩ F
 replace B := B25 _ B lm
 replace h3 := h3.ev E23 nq nq
 replace h10 := h10.ev E23 nq
 replace h17 := h17.ev E23 nq
 replace E := E.trans E23 nx
 replace h24 : AT true (m + 3) c20 w21 qa22 [.bool false] := h24
 refine nil (hK5 _ _ ?_)
 refine wp_seq_k fun K27 hK27 => ?_
 refine wp_seq_k fun K28 hK28 => reg ?_
 refine qm F fun a F => ?_
 refine qm F fun a F => ?_
 obtain ⟨t29, q30, H⟩ := bind_some H
 refine qc F Try.func61 (tree_Tree_From.calls (m := m + 8) (pl hm0) B h3 (m + 4) lm _ q30) ?_
 rintro e w32 ⟨c31, vi35, rfl, E33, B34, h36⟩
 refine ⟨_, rfl, fun a F => ?_⟩
 have B := B34
 replace h10 := h10.ev E33 nq
 replace h17 := h17.ev E33 nq
 replace h24 := h24.ev E33 nq
 replace E := E.trans E33 nx
 refine nil (hK28 _ _ ?_)
 refine wp_block ?_
 obtain ⟨x45, HL, HR46⟩ := bind_some H
 refine ITR.range h36 (m := m + 8) (y := m + 5) (z := m + 6) (M := fun x => False ∨ m ≤ x) (g := (fun (s_ : Unit) (k_ : ByteArray) (v_ : table_cell) => tree_Tree_Seek.b1 k_ v_)) (fun (s_ : Unit) (c_ : Nat → Nat) (w_ : World) => Ev (fun x => False ∨ m ≤ x) c31 w32 c_ w_ ∧ () = s_ ∧ AT true (m + 1) c_ w_ qa8 [.string .empty] ∧ AT true (m + 2) c_ w_ qa15 [.slice none 0 0, .int .i64 0] ∧ AT true (m + 3) c_ w_ qa22 [.bool false]) (fun (s_ : ByteArray × (List Int) × Int) (c_ : Nat → Nat) (w_ : World) => Ev (fun x => False ∨ m ≤ x) c31 w32 c_ w_ ∧ ∃ (s79 : ByteArray), ∃ (l81 : List Int), ∃ (A82 : Option Addr), ∃ (C83 : Nat), ∃ (i84 : Int), (s79, l81, i84) = s_ ∧ AT true (m + 1) c_ w_ qa8 [.string s79] ∧ AT true (m + 2) c_ w_ qa15 [.slice A82 l81.length C83, .int .i64 i84] ∧ AT true (m + 3) c_ w_ qa22 [.bool true] ∧ SL false (Kint .u8) 0 0 c_ w_ A82 C83 l81) F rfl (by decide) (by decide) (by omega) (by omega) (by omega) (by omega) (by intro q; rcases q with q | q <;> first | exact q.elim | (replace q : False := q; omega) | (replace q : m ≤ 0 := q; omega)) B (fun _ _ _ h_ => h_.1) (fun _ _ _ h_ => h_.1) (fun s_ c1_ w1_ c2_ w2_ ⟨E_, e_, h10, h17, h24⟩ E2_ => ⟨E_.trans E2_ (fun x q => by show False ∨ m ≤ x; replace q : x = m + 5 := q; omega), e_, AT.ev h10 E2_ mm, AT.ev h17 E2_ mm, AT.ev h24 E2_ mm⟩) (fun s_ c1_ w1_ c2_ w2_ ⟨E_, s79, l81, A82, C83, i84, e_, h10, h17, h24, h80⟩ E2_ => ⟨E_.trans E2_ (fun x q => by show False ∨ m ≤ x; replace q : x = m + 5 := q; omega), s79, l81, A82, C83, i84, e_, AT.ev h10 E2_ mm, AT.ev h17 E2_ mm, AT.ev h24 E2_ mm, SL.ev h80 E2_ ne_zm ne_zm⟩) () ⟨Ev.refl, rfl, h10, h17, h24⟩ x45 HL ?_ ?_ ?_
 ·intro bd40 lo41 rec42 s_ s48 v49 c38 w39 A50 C51 rr47 ⟨E, e_, h10, h17, h24⟩ B hb43 hl44 h52 Hg a F
  clear HL H
  subst e_
  have H : tree_Tree_Seek.b1 s48 v49 = some rr47 := Hg
  clear Hg
  unfold tree_Tree_Seek.b1 at H
  refine wpIn_seq_k fun K53 hK53 => ?_
  refine regR ?_
  refine qa F fun a F => ?_
  refine nil (hK53 _ _ ?_)
  refine regR ?_
  refine q_eff F rfl rfl (by decide) (e_alloc F zv_80 c38 (m + 7)) ?_
  rintro v w55 a ⟨c54, qa56, rfl, E57, h58, B59⟩ F
  replace B := B59 _ B lm
  replace h10 := h10.ev E57 nq
  replace h17 := h17.ev E57 nq
  replace h24 := h24.ev E57 nq
  replace h52 := h52.ev E57 nq nq
  replace hb43 := hb43.ev E57 nq
  replace hl44 := hl44.ev E57 nq
  replace E := E.trans E57 nx
  replace h58 : AT true (m + 7) c54 w55 qa56 [.slice none 0 0, .int .i64 0] := h58
  refine q_eff0 F rfl rfl (e_storeN0 (us := [.slice A50 v49.value.length C51, .int .i64 v49.rev]) F rfl rfl sz_80 h58 (nb rfl) (one_all rfl)) ?_
  rintro w61 a ⟨E62, h58, Z63⟩ F
  replace B := B.size Z63
  replace h10 := h10.ev E62 mm
  replace h17 := h17.ev E62 mm
  replace h24 := h24.ev E62 mm
  replace h52 := h52.ev E62 ne_zm ne_zm
  replace hb43 := hb43.ev E62 mm
  replace hl44 := hl44.ev E62 mm
  replace E := E.trans E62 lc1
  replace h58 : AT true (m + 7) c54 w61 qa56 [.slice A50 v49.value.length C51, .int .i64 v49.rev] := h58
  refine nil ?_
  refine thenN ?_
  refine ⟨c54, hl44, fun w64 E65 hl44 Z66 => ?_⟩
  replace B := B.size Z66
  replace h10 := h10.ev E65 mm
  replace h17 := h17.ev E65 mm
  replace h24 := h24.ev E65 mm
  replace h52 := h52.ev E65 ne_zm ne_zm
  replace hb43 := hb43.ev E65 mm
  replace h58 := h58.ev E65 mm
  replace E := E.trans E65 lc1
  refine wpIn_block ?_
  refine wpIn_seq_k fun K67 hK67 => ?_
  refine regDR (SB (fun x => x = m + 1 ∨ x = m + 2) c54 w64) 4 (.q 0 (.q 1 (.e 2 (.e 3 (.e 4 .nil))))) Try_hm (by decide +kernel) ?_
  intro w68 w1_ w2_ w3_ w4_
  have E69 : Ev No c54 w64 c54 w68 := Ev.same w1_ w2_ w3_ w4_
  replace B := B.same w1_
  have zh58 := h58
  have ER : Ev (fun x => x = m + 1 ∨ x = m + 2) c54 w64 c54 w68 := Ev.same w1_ w2_ w3_ w4_
  replace h10 := h10.ev E69 nq
  replace h17 := h17.ev E69 nq
  replace h24 := h24.ev E69 nq
  replace h52 := h52.ev E69 nq nq
  replace hb43 := hb43.ev E69 nq
  replace hl44 := hl44.ev E69 nq
  replace E := E.trans E69 nx
  refine dm F ER.sb fun a F => ?_
  refine dq F (fun wq hS => r_loads (cs := [.slice A50 v49.value.length C51, .int .i64 v49.rev]) F rfl ag_80 sz_80 (AT.sb zh58 hS (nor mm mm))) ER.sb fun a F => ?_
  refine d_e ?_
  refine o_eff0 F rfl rfl rfl (e_store0 F rfl rfl sz_9 h10 (nb rfl) rfl) ?_
  rintro w70 a ⟨E71, h10, Z72⟩ F
  replace B := B.size Z72
  replace ER := ER.trans E71 (fun x q => by replace q : x = m + 1 := q; show x = m + 1 ∨ x = m + 2; omega)
  replace h17 := h17.ev E71 mm
  replace h24 := h24.ev E71 mm
  replace h52 := h52.ev E71 ne_zm ne_zm
  replace hb43 := hb43.ev E71 mm
  replace hl44 := hl44.ev E71 mm
  replace E := E.trans E71 lc1
  replace h10 : AT true (m + 1) c54 w70 qa8 [.string s48] := h10
  refine ⟨fun _ => ER.sb, ?_⟩
  refine d_e ?_
  refine o_eff0 F rfl rfl rfl (e_storeN0 (us := [.slice A50 v49.value.length C51, .int .i64 v49.rev]) F rfl rfl sz_80 h17 (nb rfl) (one_all rfl)) ?_
  rintro w73 a ⟨E74, h17, Z75⟩ F
  replace B := B.size Z75
  replace ER := ER.trans E74 (fun x q => by replace q : x = m + 2 := q; show x = m + 1 ∨ x = m + 2; omega)
  replace h10 := h10.ev E74 mm
  replace h24 := h24.ev E74 mm
  replace h52 := h52.ev E74 ne_zm ne_zm
  replace hb43 := hb43.ev E74 mm
  replace hl44 := hl44.ev E74 mm
  replace E := E.trans E74 lc1
  replace h17 : AT true (m + 2) c54 w73 qa15 [.slice A50 v49.value.length C51, .int .i64 v49.rev] := h17
  refine ⟨fun _ => ER.sb, ?_⟩
  refine d_e ?_
  refine o_eff0 F rfl rfl rfl (e_store0 F rfl rfl sz_4 h24 (nb rfl) rfl) ?_
  rintro w76 a ⟨E77, h24, Z78⟩ F
  replace B := B.size Z78
  replace h10 := h10.ev E77 mm
  replace h17 := h17.ev E77 mm
  replace h52 := h52.ev E77 ne_zm ne_zm
  replace hb43 := hb43.ev E77 mm
  replace hl44 := hl44.ev E77 mm
  replace E := E.trans E77 lc1
  replace h24 : AT true (m + 3) c54 w76 qa22 [.bool true] := h24
  refine ⟨fun q => absurd rfl q, ?_⟩
  refine d_nil ?_
  refine hK67 _ _ ?_
  refine wpIn_ret ?_
  refine inbR ?_
  have hr_ := si H
  subst hr_
  refine REr c54 hl44 ?_
  exact ⟨rfl, ⟨E, s48, v49.value, A50, C51, v49.rev, rfl, h10, h17, h24, h52⟩, B, hb43⟩
 ·intro s_ hx89 c85 w86 bd87 ⟨E90, e_, h10, h17, h24⟩ B hb88 a F
  subst e_
  rw [hx89] at HR46
  have H : tree_Tree_Seek.j2 = some r := HR46
  unfold tree_Tree_Seek.j2 at H
  replace E := E.trans E90 (fun _ q => q)
  refine hK27 _ _ ?_
  refine wp_seq_k fun K100 hK100 => ?_
  refine regD (SB (fun x => x = m + 1 ∨ x = m + 2) c85 w86) 4 (.f 0 (.f 1 (.e 2 (.e 3 (.e 4 .nil))) 2 (.e 1 (.e 3 (.e 4 .nil)))) 1 (.e 0 (.e 2 (.e 3 (.e 4 .nil))))) Try_hm (by decide +kernel) ?_
  intro w105 w1_ w2_ w3_ w4_
  have E106 : Ev No c85 w86 c85 w105 := Ev.same w1_ w2_ w3_ w4_
  replace B := B.same w1_
  have ER : Ev (fun x => x = m + 1 ∨ x = m + 2) c85 w86 c85 w105 := Ev.same w1_ w2_ w3_ w4_
  replace h10 := h10.ev E106 nq
  replace h17 := h17.ev E106 nq
  replace h24 := h24.ev E106 nq
  replace hb88 := hb88.ev E106 nq
  replace E := E.trans E106 nx
  refine d_f ?_ ?_
  ·refine o_val F rfl rfl rfl (by decide) (r_load F rfl ag_9 (AT.cell0 h10 rfl)) fun a F => ?_
   refine ⟨fun _ => ER.sb, ?_⟩
   refine d_f ?_ ?_
   ·refine o_val F rfl rfl rfl (by decide) (r_loads (cs := [.slice none 0 0, .int .i64 0]) F rfl ag_80 sz_80 h17) fun a F => ?_
    refine ⟨fun _ => ER.sb, ?_⟩
    refine d_e ?_
    refine o_eff0 F rfl rfl rfl (e_store0 F rfl rfl sz_9 h10 (nb rfl) rfl) ?_
    rintro w107 a ⟨E108, h10, Z109⟩ F
    replace B := B.size Z109
    replace ER := ER.trans E108 (fun x q => by replace q : x = m + 1 := q; show x = m + 1 ∨ x = m + 2; omega)
    replace h17 := h17.ev E108 mm
    replace h24 := h24.ev E108 mm
    replace hb88 := hb88.ev E108 mm
    replace E := E.trans E108 lc1
    replace h10 : AT true (m + 1) c85 w107 qa8 [.string .empty] := h10
    refine ⟨fun _ => ER.sb, ?_⟩
    refine d_e ?_
    refine o_eff0 F rfl rfl rfl (e_storeN0 (us := [.slice none 0 0, .int .i64 0]) F rfl rfl sz_80 h17 (nb rfl) (one_all rfl)) ?_
    rintro w110 a ⟨E111, h17, Z112⟩ F
    replace B := B.size Z112
    replace ER := ER.trans E111 (fun x q => by replace q : x = m + 2 := q; show x = m + 1 ∨ x = m + 2; omega)
    replace h10 := h10.ev E111 mm
    replace h24 := h24.ev E111 mm
    replace hb88 := hb88.ev E111 mm
    replace E := E.trans E111 lc1
    replace h17 : AT true (m + 2) c85 w110 qa15 [.slice none 0 0, .int .i64 0] := h17
    refine ⟨fun _ => ER.sb, ?_⟩
    refine d_e ?_
    refine o_eff0 F rfl rfl rfl (e_store0 F rfl rfl sz_4 h24 (nb rfl) rfl) ?_
    rintro w113 a ⟨E114, h24, Z115⟩ F
    replace B := B.size Z115
    replace h10 := h10.ev E114 mm
    replace h17 := h17.ev E114 mm
    replace hb88 := hb88.ev E114 mm
    replace E := E.trans E114 lc1
    replace h24 : AT true (m + 3) c85 w113 qa22 [.bool false] := h24
    refine ⟨fun q => absurd rfl q, ?_⟩
    refine d_nil ?_
    refine hK100 _ _ ?_
    refine wp_ret ?_
    refine outM ?_
    refine endM F hb88 fun w134 E135 Z136 a F => ?_
    replace B := B.size Z136
    replace h10 := h10.ev E135 mm
    replace h17 := h17.ev E135 mm
    replace h24 := h24.ev E135 mm
    replace E := E.trans E135 lc1
    refine endM0 F ?_
    replace H := si H
    subst H
    refine outR3 F rfl ⟨_, rfl, lv_one ag_9 (AT.cell0 h10 rfl)⟩ ⟨_, rfl, lv_agg (cs := [.slice none 0 0, .int .i64 0]) ag_80 sz_80 h17⟩ ⟨_, rfl, lv_one ag_4 (AT.cell0 h24 rfl)⟩ ?_
    exact ⟨cf (fun x_ => if x_ < m then x_ else 0) c85, none, 0, rfl, E.lv B0, cfb, SL.nil⟩
   refine o_eff0 F rfl rfl rfl (e_store0 F rfl rfl sz_9 h10 (nb rfl) rfl) ?_
   rintro w116 a ⟨E117, h10, Z118⟩ F
   replace B := B.size Z118
   replace ER := ER.trans E117 (fun x q => by replace q : x = m + 1 := q; show x = m + 1 ∨ x = m + 2; omega)
   replace h17 := h17.ev E117 mm
   replace h24 := h24.ev E117 mm
   replace hb88 := hb88.ev E117 mm
   replace E := E.trans E117 lc1
   replace h10 : AT true (m + 1) c85 w116 qa8 [.string .empty] := h10
   refine ⟨fun _ => ER.sb, ?_⟩
   refine d_e ?_
   refine o_val F rfl rfl rfl (by decide) (r_loads (cs := [.slice none 0 0, .int .i64 0]) F rfl ag_80 sz_80 h17) fun a F => ?_
   refine ⟨fun _ => ER.sb, ?_⟩
   refine d_e ?_
   refine o_eff0 F rfl rfl rfl (e_storeN0 (us := [.slice none 0 0, .int .i64 0]) F rfl rfl sz_80 h17 (nb rfl) (one_all rfl)) ?_
   rintro w119 a ⟨E120, h17, Z121⟩ F
   replace B := B.size Z121
   replace ER := ER.trans E120 (fun x q => by replace q : x = m + 2 := q; show x = m + 1 ∨ x = m + 2; omega)
   replace h10 := h10.ev E120 mm
   replace h24 := h24.ev E120 mm
   replace hb88 := hb88.ev E120 mm
   replace E := E.trans E120 lc1
   replace h17 : AT true (m + 2) c85 w119 qa15 [.slice none 0 0, .int .i64 0] := h17
   refine ⟨fun _ => ER.sb, ?_⟩
   refine d_e ?_
   refine o_eff0 F rfl rfl rfl (e_store0 F rfl rfl sz_4 h24 (nb rfl) rfl) ?_
   rintro w122 a ⟨E123, h24, Z124⟩ F
   replace B := B.size Z124
   replace h10 := h10.ev E123 mm
   replace h17 := h17.ev E123 mm
   replace hb88 := hb88.ev E123 mm
   replace E := E.trans E123 lc1
   replace h24 : AT true (m + 3) c85 w122 qa22 [.bool false] := h24
   refine ⟨fun q => absurd rfl q, ?_⟩
   refine d_nil ?_
   refine hK100 _ _ ?_
   refine wp_ret ?_
   refine outM ?_
   refine endM F hb88 fun w137 E138 Z139 a F => ?_
   replace B := B.size Z139
   replace h10 := h10.ev E138 mm
   replace h17 := h17.ev E138 mm
   replace h24 := h24.ev E138 mm
   replace E := E.trans E138 lc1
   refine endM0 F ?_
   replace H := si H
   subst H
   refine outR3 F rfl ⟨_, rfl, lv_one ag_9 (AT.cell0 h10 rfl)⟩ ⟨_, rfl, lv_agg (cs := [.slice none 0 0, .int .i64 0]) ag_80 sz_80 h17⟩ ⟨_, rfl, lv_one ag_4 (AT.cell0 h24 rfl)⟩ ?_
   exact ⟨cf (fun x_ => if x_ < m then x_ else 0) c85, none, 0, rfl, E.lv B0, cfb, SL.nil⟩
  refine o_val F rfl rfl rfl (by decide) (r_loads (cs := [.slice none 0 0, .int .i64 0]) F rfl ag_80 sz_80 h17) fun a F => ?_
  refine ⟨fun _ => ER.sb, ?_⟩
  refine d_e ?_
  refine o_val F rfl rfl rfl (by decide) (r_load F rfl ag_9 (AT.cell0 h10 rfl)) fun a F => ?_
  refine ⟨fun _ => ER.sb, ?_⟩
  refine d_e ?_
  refine o_eff0 F rfl rfl rfl (e_store0 F rfl rfl sz_9 h10 (nb rfl) rfl) ?_
  rintro w125 a ⟨E126, h10, Z127⟩ F
  replace B := B.size Z127
  replace ER := ER.trans E126 (fun x q => by replace q : x = m + 1 := q; show x = m + 1 ∨ x = m + 2; omega)
  replace h17 := h17.ev E126 mm
  replace h24 := h24.ev E126 mm
  replace hb88 := hb88.ev E126 mm
  replace E := E.trans E126 lc1
  replace h10 : AT true (m + 1) c85 w125 qa8 [.string .empty] := h10
  refine ⟨fun _ => ER.sb, ?_⟩
  refine d_e ?_
  refine o_eff0 F rfl rfl rfl (e_storeN0 (us := [.slice none 0 0, .int .i64 0]) F rfl rfl sz_80 h17 (nb rfl) (one_all rfl)) ?_
  rintro w128 a ⟨E129, h17, Z130⟩ F
  replace B := B.size Z130
  replace ER := ER.trans E129 (fun x q => by replace q : x = m + 2 := q; show x = m + 1 ∨ x = m + 2; omega)
  replace h10 := h10.ev E129 mm
  replace h24 := h24.ev E129 mm
  replace hb88 := hb88.ev E129 mm
  replace E := E.trans E129 lc1
  replace h17 : AT true (m + 2) c85 w128 qa15 [.slice none 0 0, .int .i64 0] := h17
  refine ⟨fun _ => ER.sb, ?_⟩
  refine d_e ?_
  refine o_eff0 F rfl rfl rfl (e_store0 F rfl rfl sz_4 h24 (nb rfl) rfl) ?_
  rintro w131 a ⟨E132, h24, Z133⟩ F
  replace B := B.size Z133
  replace h10 := h10.ev E132 mm
  replace h17 := h17.ev E132 mm
  replace hb88 := hb88.ev E132 mm
  replace E := E.trans E132 lc1
  replace h24 : AT true (m + 3) c85 w131 qa22 [.bool false] := h24
  refine ⟨fun q => absurd rfl q, ?_⟩
  refine d_nil ?_
  refine hK100 _ _ ?_
  refine wp_ret ?_
  refine outM ?_
  refine endM F hb88 fun w140 E141 Z142 a F => ?_
  replace B := B.size Z142
  replace h10 := h10.ev E141 mm
  replace h17 := h17.ev E141 mm
  replace h24 := h24.ev E141 mm
  replace E := E.trans E141 lc1
  refine endM0 F ?_
  replace H := si H
  subst H
  refine outR3 F rfl ⟨_, rfl, lv_one ag_9 (AT.cell0 h10 rfl)⟩ ⟨_, rfl, lv_agg (cs := [.slice none 0 0, .int .i64 0]) ag_80 sz_80 h17⟩ ⟨_, rfl, lv_one ag_4 (AT.cell0 h24 rfl)⟩ ?_
  exact ⟨cf (fun x_ => if x_ < m then x_ else 0) c85, none, 0, rfl, E.lv B0, cfb, SL.nil⟩
 intro s_ hx95 c91 w92 bd93 ⟨E96, s79, l81, A82, C83, i84, e_, h10, h17, h24, h80⟩ B hb94 a F
 subst e_
 rw [hx95] at HR46
 have H : tree_Tree_Seek.j3 s79 l81 i84 = some r := HR46
 unfold tree_Tree_Seek.j3 at H
 replace E := E.trans E96 (fun _ q => q)
 refine inbR ?_
 refine thenR ?_
 refine outM ?_
 refine endM F hb94 fun w97 E98 Z99 a F => ?_
 replace B := B.size Z99
 replace h10 := h10.ev E98 mm
 replace h17 := h17.ev E98 mm
 replace h24 := h24.ev E98 mm
 replace h80 := h80.ev E98 ne_zm ne_zm
 replace E := E.trans E98 lc1
 refine endM0 F ?_
 replace H := si H
 subst H
 refine outR3 F rfl ⟨_, rfl, lv_one ag_9 (AT.cell0 h10 rfl)⟩ ⟨_, rfl, lv_agg (cs := [.slice A82 l81.length C83, .int .i64 i84]) ag_80 sz_80 h17⟩ ⟨_, rfl, lv_one ag_4 (AT.cell0 h24 rfl)⟩ ?_
 exact ⟨cf (fun x_ => if x_ < m then x_ else 0) c91, A82, C83, rfl, E.lv B0, cfb, SL.rc h80 cfk cfk⟩
theorem table_Table_Do.calls (k : Nat) {m : Nat} {c0 : Nat → Nat} {w0 : World} {j4 : Nat} {p2 : Option Addr} {A6 : Option Addr} {C7 : Nat} {A9 : Option Addr} {C10 : Nat} {a1 : Option Tab} {a5 : api_Op} (hm0 : 0 < m) (B0 : CB m c0 w0) (h3 : TB j4 c0 w0 p2 a1) (h8 : SL false (Kint .u8) 0 0 c0 w0 A6 C7 a5.Key) (h11 : SL false (Kint .u8) 0 0 c0 w0 A9 C10 a5.Value) (bj4 : 0 < j4 ∧ j4 < m) (r : api_Answer × Int × (Option Tab)) (H : table_Table_Do.f k a1 a5 = some r) : Calls Try.prog 12 #[.pointer p2, .agg #[.int .i64 a5.Kind, .slice A6 a5.Key.length C7, .slice A9 a5.Value.length C10, .int .i64 a5.Rev]] w0 (fun e w_ => ∃ (c_ : Nat → Nat) (A0_ : Option Addr) (C0_ : Nat) (A2_ : Option Addr) (C2_ : Nat), e = .returned (.tuple #[.agg #[.bool r.1.Done, .slice A0_ r.1.Key.length C0_, .slice A2_ r.1.Value.length C2_, .int .i64 r.1.Rev, .int .i64 r.1.At], .int .i64 r.2.1]) ∧ Ev (fun x => (x = j4)) c0 w0 c_ w_ ∧ CB m c_ w_ ∧ SL false (Kint .u8) 0 0 c_ w_ A0_ C0_ r.1.Key ∧ SL false (Kint .u8) 0 0 c_ w_ A2_ C2_ r.1.Value ∧ TB j4 c_ w_ p2 r.2.2) := by
 unfold table_Table_Do.f at H
 have B := B0.mono (show m ≤ m + 7 by omega)
 have E : Ev (fun x => (x = j4) ∨ m ≤ x) c0 w0 c0 w0 := Ev.refl
 refine enter (N := 116) (l := [.pointer p2, .agg #[.int .i64 a5.Kind, .slice A6 a5.Key.length C7, .slice A9 a5.Value.length C10, .int .i64 a5.Rev]]) Try.func12 rfl rfl (nb rfl) fun a F => ?_
 refine wp_seq_k fun K12 hK12 => reg ?_
 refine q_eff F rfl rfl (by decide) (e_box F (v := .agg #[.int .i64 a5.Kind, .slice A6 a5.Key.length C7, .slice A9 a5.Value.length C10, .int .i64 a5.Rev]) rfl c0 (m + 1)) ?_
 rintro v w14 a ⟨c13, qa15, rfl, E16, h17, B18⟩ F
 replace B := B18 _ B lm
 replace h3 := h3.ev E16 nq nq
 replace h8 := h8.ev E16 nq nq
 replace h11 := h11.ev E16 nq nq
 replace E := E.trans E16 nx
 replace h17 : AT true (m + 1) c13 w14 qa15 [.int .i64 a5.Kind, .slice A6 a5.Key.length C7, .slice A9 a5.Value.length C10, .int .i64 a5.Rev] := h17
 refine q_eff F rfl rfl (by decide) (e_alloc F zv_34 c13 (m + 2)) ?_
 rintro v w21 a ⟨c20, qa22, rfl, E23, h24, B25⟩ F
 replace B := B25 _ B lm
 replace h3 := h3.ev E23 nq nq
 replace h8 := h8.ev E23 nq nq
 replace h11 := h11.ev E23 nq nq
 replace h17 := h17.ev E23 nq
 replace E := E.trans E23 nx
 as_aux_lemma =>
 replace h24 : AT true (m + 2) c20 w21 qa22 [.bool false, .slice none 0 0, .slice none 0 0, .int .i64 0, .int .i64 0] := h24
 refine qa F fun a F => ?_
 refine nil (hK12 _ _ ?_)
 refine wp_seq_k fun K27 hK27 => ?_
 refine wp_block ?_
 refine wp_seq_k fun K28 hK28 => reg ?_
 refine qm F fun a F => ?_
 refine qv F (r_peqlA F Try.underlying26 rfl rfl (TB.isNone h3)) fun a F => ?_
 refine qa F fun a F => ?_
 refine nil (hK28 _ _ ?_)
 by_cases hb29 : (Option.isNone a1) = true
 ·replace H := ip hb29 H
  refine wp_cond_true (fb F hb29) ?_
  refine wp_seq_k fun K30 hK30 => reg ?_
  refine qv F (r_build (v := .agg #[.bool false, .slice none 0 0, .slice none 0 0, .int .i64 0, .int .i64 0]) F [] (by exact trivial) (fun w => by kernel_rfl)) fun a F => ?_
  refine q_eff0 F rfl rfl (e_storeN0 (us := [.bool false, .slice none 0 0, .slice none 0 0, .int .i64 0, .int .i64 0]) F rfl rfl sz_34 h24 (nb rfl) (one_all rfl)) ?_
  rintro w31 a ⟨E32, h24, Z33⟩ F
  replace B := B.size Z33
  replace h3 := h3.ev E32 (ne_pm bj4.2) ne_zm
  replace E := E.trans E32 lc1
  replace h24 : AT true (m + 2) c20 w31 qa22 [.bool false, .slice none 0 0, .slice none 0 0, .int .i64 0, .int .i64 0] := h24
  refine qa F fun a F => ?_
  refine nil (hK30 _ _ ?_)
  as_aux_lemma =>
  refine wp_ret ?_
  refine inbR ?_
  refine thenR ?_
  replace H := si H
  subst H
  refine outR2 F rfl ⟨_, rfl, lv_agg (cs := [.bool false, .slice none 0 0, .slice none 0 0, .int .i64 0, .int .i64 0]) ag_34 sz_34 h24⟩ rfl ?_
  exact ⟨cf (fun x_ => if x_ < m then x_ else 0) c20, none, 0, none, 0, rfl, E.lv B0, cfb, SL.nil, SL.nil, TB.rc h3 cfk cfk⟩
 replace H := im hb29 H
 refine wp_cond_false (fb F (bfalse hb29)) ?_
 refine wp_seq_k fun K34 hK34 => reg ?_
 refine qv F (r_loads (cs := [.int .i64 a5.Kind, .slice A6 a5.Key.length C7, .slice A9 a5.Value.length C10, .int .i64 a5.Rev]) F rfl ag_30 sz_30 h17) fun a F => ?_
 obtain ⟨t35, q36, H⟩ := bind_some H
 refine qc F Try.func24 (table_Right.calls (m := m + 7) (pl hm0) B h8 h11 _ q36) ?_
 rintro e w38 ⟨c37, rfl, E39, B40⟩
 refine ⟨_, rfl, fun a F => ?_⟩
 have B := B40
 replace h3 := h3.ev E39 nq nq
 replace h8 := h8.ev E39 nq nq
 replace h11 := h11.ev E39 nq nq
 replace h17 := h17.ev E39 nq
 replace h24 := h24.ev E39 nq
 replace E := E.trans E39 nx
 as_aux_lemma =>
 refine qv F (r_not F rfl) fun a F => ?_
 refine qa F fun a F => ?_
 refine nil (hK34 _ _ ?_)
 replace F : Fr a 116 [(0, .pointer p2), (3, .pointer (some qa15)), (4, .pointer (some qa22)), (18, .bool (!t35))] := F.sub ⟨rfl, rfl, rfl, rfl, trivial⟩
 by_cases hb42 : t35 = true
 ·replace H := ip hb42 H
  refine wp_cond_false (fb F (congrArg not hb42)) ?_
  refine wp_seq_k fun K43 hK43 => reg ?_
  refine qf F ff_30_0 fun a F => ?_
  refine qv F (r_load F rfl ag_3 (AT.cell h17 rfl)) fun a F => ?_
  refine qv F (r_eql F rfl rfl) fun a F => ?_
  refine qa F fun a F => ?_
  refine nil (hK43 _ _ ?_)
  by_cases hb44 : a5.Kind = 5
  ·replace H := ip hb44 H
   refine wp_cond_true (fb F (dt hb44)) ?_
   refine wp_seq_k fun K45 hK45 => ?_
   have J94 : ∀ (c95 : Nat → Nat) (w96 : World) (a : Act) (ad49 : Addr) (t56 : ByteArray × table_cell × Bool) (qa68 : Addr) (p51 : Option Addr) (ob46 : Tab) (A91 : Option Addr) (C92 : Nat), p2 = some ad49 → Fr a 116 [(0, .pointer (some ad49)), (4, .pointer (some qa22)), (6, .string t56.1), (7, .pointer (some qa68)), (8, .bool t56.2.2)] → Ev (fun x => (x = j4) ∨ m ≤ x) c0 w0 c95 w96 → CB (m + 7) c95 w96 → AT true j4 c95 w96 ad49 [.pointer p51, .int .i64 ob46.rev, .int .i64 ob46.size] → AT true (m + 2) c95 w96 qa22 [.bool false, .slice none 0 0, .slice none 0 0, .int .i64 0, .int .i64 0] → AT true (m + 3) c95 w96 qa68 [.slice A91 t56.2.1.value.length C92, .int .i64 t56.2.1.rev] → TR 0 c95 w96 p51 ob46.rows → SL false (Kint .u8) 0 0 c95 w96 A91 C92 t56.2.1.value → table_Table_Do.j1 ob46 t56 = some r → K45 a w96 := by
    intro c95 w96 a ad49 t56 qa68 p51 ob46 A91 C92 qe97 F E B hat50 h24 h70 h52 h93 H
    unfold table_Table_Do.j1 at H
    refine hK45 _ _ ?_
    refine wp_seq_k fun K98 hK98 => reg ?_
    refine qm F fun a F => ?_
    refine qm F fun a F => ?_
    as_aux_lemma =>
    refine qv F (r_loads (cs := [.slice A91 t56.2.1.value.length C92, .int .i64 t56.2.1.rev]) F rfl ag_80 sz_80 h70) fun a F => ?_
    refine qm F fun a F => ?_
    have h99 : TB j4 c95 w96 (some ad49) (some (Tab.mk ob46.rows ob46.rev ob46.size)) := TB.mk hat50 h52
    obtain ⟨t100, q101, H⟩ := bind_some H
    refine qc F Try.func39 (table_Table_told.calls (m := m + 7) (pl hm0) B h99 h93 (Nat.lt_add_right _ bj4.2) _ q101) ?_
    rintro e w103 ⟨c102, A106, C107, A109, C110, rfl, E104, B105, h108, h111⟩
    refine ⟨_, rfl, fun a F => ?_⟩
    have B := B105
    replace hat50 := hat50.ev E104 nq
    replace h24 := h24.ev E104 nq
    replace h52 := h52.ev E104 nq nq
    replace E := E.trans E104 nx
    refine q_eff0 F rfl rfl (e_storeN0 (us := [.bool t100.Done, .slice A106 t100.Key.length C107, .slice A109 t100.Value.length C110, .int .i64 t100.Rev, .int .i64 t100.At]) F rfl rfl sz_34 h24 (nb rfl) (one_all rfl)) ?_
    rintro w113 a ⟨E114, h24, Z115⟩ F
    replace B := B.size Z115
    replace hat50 := hat50.ev E114 (ne_pm bj4.2)
    replace h52 := h52.ev E114 ne_zm ne_zm
    replace h108 := h108.ev E114 ne_zm ne_zm
    replace h111 := h111.ev E114 ne_zm ne_zm
    replace E := E.trans E114 lc1
    replace h24 : AT true (m + 2) c102 w113 qa22 [.bool t100.Done, .slice A106 t100.Key.length C107, .slice A109 t100.Value.length C110, .int .i64 t100.Rev, .int .i64 t100.At] := h24
    refine qa F fun a F => ?_
    as_aux_lemma =>
    refine nil (hK98 _ _ ?_)
    replace F : Fr a 116 [(4, .pointer (some qa22)), (5, .int .i64 0)] := F.sub ⟨rfl, rfl, trivial⟩
    refine wp_ret ?_
    refine inbR ?_
    refine thenR ?_
    have h116 : TB j4 c102 w113 (some ad49) (some (Tab.mk ob46.rows ob46.rev ob46.size)) := TB.mk hat50 h52
    replace H := si H
    subst H
    refine outR2 F rfl ⟨_, rfl, lv_agg (cs := [.bool t100.Done, .slice A106 t100.Key.length C107, .slice A109 t100.Value.length C110, .int .i64 t100.Rev, .int .i64 t100.At]) ag_34 sz_34 h24⟩ rfl ?_
    exact ⟨cf (fun x_ => if x_ < m then x_ else 0) c102, A106, C107, A109, C110, rfl, E.lv B0, cfb, SL.rc h108 cfk cfk, SL.rc h111 cfk cfk, (by rw [qe97]; exact TB.rc h116 cfk cfk)⟩
   obtain ⟨ob46, e47, H⟩ := bind_some H
   have z48 := h3
   rw [e47] at z48
   obtain ⟨ad49, p51, rfl, hat50, h52⟩ := TB.some z48
   refine regD (SB (fun x => x = m + 3) c37 w38) 16 (.q 0 (.q 1 (.q 2 (.q 3 (.q 4 (.q 5 (.q 6 (.f 7 (.q 8 (.q 9 (.q 10 (.q 11 (.e 12 (.q 13 (.e 14 (.q 15 .nil)))))))) 12 (.e 7 (.q 8 (.q 9 (.q 10 (.q 11 (.q 13 (.e 14 (.q 15 .nil)))))))))))))))) Try_hm (by decide +kernel) ?_
   intro w54 w1_ w2_ w3_ w4_
   have E55 : Ev No c37 w38 c37 w54 := Ev.same w1_ w2_ w3_ w4_
   replace B := B.same w1_
   have zh8 := h8
   have zh17 := h17
   have zhat50 := hat50
   have ER : Ev (fun x => x = m + 3) c37 w38 c37 w54 := Ev.same w1_ w2_ w3_ w4_
   as_aux_lemma =>
   replace h24 := h24.ev E55 nq
   replace h52 := h52.ev E55 nq nq
   replace hat50 := hat50.ev E55 nq
   replace E := E.trans E55 nx
   refine dm F ER.sb fun a F => ?_
   refine dq F (fun wq hS => r_nil F rfl) ER.sb fun a F => ?_
   refine df F ff_82_0 ER.sb fun a F => ?_
   refine dq F (fun wq hS => r_load F rfl ag_77 (AT.cell (AT.sb zhat50 hS (ne_pm bj4.2)) rfl)) ER.sb fun a F => ?_
   refine df F ff_30_1 ER.sb fun a F => ?_
   refine dq F (fun wq hS => r_load F rfl ag_28 (AT.cell (AT.sb zh17 hS mm) rfl)) ER.sb fun a F => ?_
   refine dq F (fun wq hS => r_bytesStr F Try.underlying28 Try.underlying5 Try.underlying9 rfl (SL.sb zh8 hS ne_zm ne_zm)) ER.sb fun a F => ?_
   refine d_f ?_ ?_
   ·obtain ⟨t56, q57, H⟩ := bind_some H
    refine oc F Try.func38 (tree_Tree_Seek.calls (m := m + 7) (pl hm0) B h52 _ q57) ?_
    rintro e w59 ⟨c58, A62, C63, rfl, E60, B61, h64⟩
    refine ⟨_, rfl, fun a F => ?_⟩
    have B := B61
    replace ER := ER.trans E60 nx
    replace h24 := h24.ev E60 nq
    replace h52 := h52.ev E60 nq nq
    replace hat50 := hat50.ev E60 nq
    replace E := E.trans E60 nx
    refine ⟨fun _ => ER.sb, ?_⟩
    as_aux_lemma =>
    refine dm F ER.sb fun a F => ?_
    refine dq F (fun wq hS => r_extract F rfl rfl) ER.sb fun a F => ?_
    refine dq F (fun wq hS => r_extract F rfl rfl) ER.sb fun a F => ?_
    refine dq F (fun wq hS => r_extract F rfl rfl) ER.sb fun a F => ?_
    refine d_e ?_
    refine o_eff F rfl rfl rfl (by decide) (e_alloc F zv_80 c58 (m + 3)) ?_
    rintro v w67 a ⟨c66, qa68, rfl, E69, h70, B71⟩ F
    replace B := B71 _ B lm
    replace ER := ER.trans E69 nx
    replace h24 := h24.ev E69 nq
    replace h52 := h52.ev E69 nq nq
    replace hat50 := hat50.ev E69 nq
    replace h64 := h64.ev E69 nq nq
    replace E := E.trans E69 nx
    replace h70 : AT true (m + 3) c66 w67 qa68 [.slice none 0 0, .int .i64 0] := h70
    refine ⟨fun _ => ER.sb, ?_⟩
    refine da F ER.sb fun a F => ?_
    refine d_e ?_
    refine o_eff0 F rfl rfl rfl (e_storeN0 (us := [.slice A62 t56.2.1.value.length C63, .int .i64 t56.2.1.rev]) F rfl rfl sz_80 h70 (nb rfl) (one_all rfl)) ?_
    rintro w73 a ⟨E74, h70, Z75⟩ F
    replace B := B.size Z75
    replace ER := ER.trans E74 (fun x q => by replace q : x = m + 3 := q; show x = m + 3; omega)
    as_aux_lemma =>
    replace h24 := h24.ev E74 mm
    replace h52 := h52.ev E74 ne_zm ne_zm
    replace hat50 := hat50.ev E74 (ne_pm bj4.2)
    replace h64 := h64.ev E74 ne_zm ne_zm
    replace E := E.trans E74 lc1
    replace h70 : AT true (m + 3) c66 w73 qa68 [.slice A62 t56.2.1.value.length C63, .int .i64 t56.2.1.rev] := h70
    refine ⟨fun _ => ER.sb, ?_⟩
    refine da F ER.sb fun a F => ?_
    refine d_nil ?_
    exact J94 c66 w73 a ad49 t56 qa68 p51 ob46 A62 C63 rfl (F.sub ⟨rfl, rfl, rfl, rfl, rfl, trivial⟩) E B hat50 h24 h70 h52 h64 H
   obtain ⟨t56, q57, H⟩ := bind_some H
   refine o_eff F rfl rfl rfl (by decide) (e_alloc F zv_80 c37 (m + 3)) ?_
   rintro v w77 a ⟨c76, qa68, rfl, E78, h70, B79⟩ F
   replace B := B79 _ B lm
   replace ER := ER.trans E78 nx
   replace h24 := h24.ev E78 nq
   replace h52 := h52.ev E78 nq nq
   replace hat50 := hat50.ev E78 nq
   replace E := E.trans E78 nx
   replace h70 : AT true (m + 3) c76 w77 qa68 [.slice none 0 0, .int .i64 0] := h70
   refine ⟨fun _ => ER.sb, ?_⟩
   refine d_e ?_
   as_aux_lemma =>
   refine oc F Try.func38 (tree_Tree_Seek.calls (m := m + 7) (pl hm0) B h52 _ q57) ?_
   rintro e w81 ⟨c80, A84, C85, rfl, E82, B83, h86⟩
   refine ⟨_, rfl, fun a F => ?_⟩
   have B := B83
   replace ER := ER.trans E82 nx
   replace h24 := h24.ev E82 nq
   replace h52 := h52.ev E82 nq nq
   replace hat50 := hat50.ev E82 nq
   replace h70 := h70.ev E82 nq
   replace E := E.trans E82 nx
   refine ⟨fun _ => ER.sb, ?_⟩
   refine dm F ER.sb fun a F => ?_
   refine dq F (fun wq hS => r_extract F rfl rfl) ER.sb fun a F => ?_
   refine dq F (fun wq hS => r_extract F rfl rfl) ER.sb fun a F => ?_
   refine dq F (fun wq hS => r_extract F rfl rfl) ER.sb fun a F => ?_
   refine da F ER.sb fun a F => ?_
   refine d_e ?_
   refine o_eff0 F rfl rfl rfl (e_storeN0 (us := [.slice A84 t56.2.1.value.length C85, .int .i64 t56.2.1.rev]) F rfl rfl sz_80 h70 (nb rfl) (one_all rfl)) ?_
   rintro w88 a ⟨E89, h70, Z90⟩ F
   replace B := B.size Z90
   replace ER := ER.trans E89 (fun x q => by replace q : x = m + 3 := q; show x = m + 3; omega)
   replace h24 := h24.ev E89 mm
   as_aux_lemma =>
   replace h52 := h52.ev E89 ne_zm ne_zm
   replace hat50 := hat50.ev E89 (ne_pm bj4.2)
   replace h86 := h86.ev E89 ne_zm ne_zm
   replace E := E.trans E89 lc1
   replace h70 : AT true (m + 3) c80 w88 qa68 [.slice A84 t56.2.1.value.length C85, .int .i64 t56.2.1.rev] := h70
   refine ⟨fun _ => ER.sb, ?_⟩
   refine da F ER.sb fun a F => ?_
   refine d_nil ?_
   exact J94 c80 w88 a ad49 t56 qa68 p51 ob46 A84 C85 rfl (F.sub ⟨rfl, rfl, rfl, rfl, rfl, trivial⟩) E B hat50 h24 h70 h52 h86 H
  replace H := im hb44 H
  refine wp_cond_false (fb F (dz hb44)) (wp_skip (hK27 _ _ ?_))
  refine wp_seq_k fun K121 hK121 => reg ?_
  refine qf F ff_30_1 fun a F => ?_
  refine qv F (r_load F rfl ag_28 (AT.cell h17 rfl)) fun a F => ?_
  refine qv F (r_bytesStr F Try.underlying28 Try.underlying5 Try.underlying9 rfl h8) fun a F => ?_
  refine qa F fun a F => ?_
  refine nil (hK121 _ _ ?_)
  replace F : Fr a 116 [(0, .pointer p2), (3, .pointer (some qa15)), (4, .pointer (some qa22)), (9, .string (bs a5.Key))] := F.sub ⟨rfl, rfl, rfl, rfl, trivial⟩
  refine wp_seq_k fun K122 hK122 => reg ?_
  refine qm F fun a F => ?_
  obtain ⟨ob123, e124, H⟩ := bind_some H
  have z125 := h3
  rw [e124] at z125
  obtain ⟨ad126, p128, rfl, hat127, h129⟩ := TB.some z125
  as_aux_lemma =>
  refine qv F (r_nil F rfl) fun a F => ?_
  refine qf F ff_82_0 fun a F => ?_
  refine qv F (r_load F rfl ag_77 (AT.cell hat127 rfl)) fun a F => ?_
  refine qm F fun a F => ?_
  obtain ⟨t131, q132, H⟩ := bind_some H
  refine qc F Try.func40 (tree_Tree_Get.calls k (m := m + 7) (pl hm0) B h129 _ q132) ?_
  rintro e w134 ⟨c133, A137, C138, rfl, E135, B136, h139⟩
  refine ⟨_, rfl, fun a F => ?_⟩
  have B := B136
  replace h3 := h3.ev E135 nq nq
  replace h8 := h8.ev E135 nq nq
  replace h11 := h11.ev E135 nq nq
  replace h17 := h17.ev E135 nq
  replace h24 := h24.ev E135 nq
  replace h129 := h129.ev E135 nq nq
  replace hat127 := hat127.ev E135 nq
  replace E := E.trans E135 nx
  refine qm F fun a F => ?_
  refine qv F (r_extract F rfl rfl) fun a F => ?_
  refine qv F (r_extract F rfl rfl) fun a F => ?_
  refine q_eff F rfl rfl (by decide) (e_alloc F zv_80 c133 (m + 4)) ?_
  rintro v w142 a ⟨c141, qa143, rfl, E144, h145, B146⟩ F
  as_aux_lemma =>
  replace B := B146 _ B lm
  replace h3 := h3.ev E144 nq nq
  replace h8 := h8.ev E144 nq nq
  replace h11 := h11.ev E144 nq nq
  replace h17 := h17.ev E144 nq
  replace h24 := h24.ev E144 nq
  replace h129 := h129.ev E144 nq nq
  replace hat127 := hat127.ev E144 nq
  replace h139 := h139.ev E144 nq nq
  replace E := E.trans E144 nx
  replace h145 : AT true (m + 4) c141 w142 qa143 [.slice none 0 0, .int .i64 0] := h145
  refine q_eff0 F rfl rfl (e_storeN0 (us := [.slice A137 t131.1.value.length C138, .int .i64 t131.1.rev]) F rfl rfl sz_80 h145 (nb rfl) (one_all rfl)) ?_
  rintro w148 a ⟨E149, h145, Z150⟩ F
  replace B := B.size Z150
  replace h3 := h3.ev E149 (ne_pm bj4.2) ne_zm
  replace h8 := h8.ev E149 ne_zm ne_zm
  replace h11 := h11.ev E149 ne_zm ne_zm
  replace h17 := h17.ev E149 mm
  replace h24 := h24.ev E149 mm
  replace h129 := h129.ev E149 ne_zm ne_zm
  replace hat127 := hat127.ev E149 (ne_pm bj4.2)
  replace h139 := h139.ev E149 ne_zm ne_zm
  as_aux_lemma =>
  replace E := E.trans E149 lc1
  replace h145 : AT true (m + 4) c141 w148 qa143 [.slice A137 t131.1.value.length C138, .int .i64 t131.1.rev] := h145
  refine qa F fun a F => ?_
  refine nil (hK122 _ _ ?_)
  replace F : Fr a 116 [(0, .pointer (some ad126)), (3, .pointer (some qa15)), (4, .pointer (some qa22)), (9, .string (bs a5.Key)), (10, .pointer (some qa143)), (11, .bool t131.2)] := F.sub ⟨rfl, rfl, rfl, rfl, rfl, rfl, trivial⟩
  refine wp_seq_k fun K151 hK151 => ?_
  refine wp_seq_k fun K152 hK152 => reg ?_
  refine qv F (r_loads (cs := [.int .i64 a5.Kind, .slice A6 a5.Key.length C7, .slice A9 a5.Value.length C10, .int .i64 a5.Rev]) F rfl ag_30 sz_30 h17) fun a F => ?_
  obtain ⟨t153, q154, H⟩ := bind_some H
  refine qc F Try.func41 (table_writes.calls (m := m + 7) (pl hm0) B h8 h11 _ q154) ?_
  rintro e w156 ⟨c155, rfl, E157, B158⟩
  refine ⟨_, rfl, fun a F => ?_⟩
  have B := B158
  replace h3 := h3.ev E157 nq nq
  replace h8 := h8.ev E157 nq nq
  replace h11 := h11.ev E157 nq nq
  replace h17 := h17.ev E157 nq
  replace h24 := h24.ev E157 nq
  replace h129 := h129.ev E157 nq nq
  replace hat127 := hat127.ev E157 nq
  replace h139 := h139.ev E157 nq nq
  replace h145 := h145.ev E157 nq
  as_aux_lemma =>
  replace E := E.trans E157 nx
  refine qv F (r_not F rfl) fun a F => ?_
  refine nil (hK152 _ _ ?_)
  by_cases hb160 : t153 = true
  ·replace H := ip hb160 H
   refine wp_cond_false (fb F (congrArg not hb160)) (wp_skip (hK151 _ _ ?_))
   refine wp_seq_k fun K178 hK178 => ?_
   refine wp_seq_k fun K179 hK179 => reg ?_
   refine qm F fun a F => ?_
   refine qv F (r_nil F rfl) fun a F => ?_
   refine qf F ff_82_1 fun a F => ?_
   refine qv F (r_load F rfl ag_3 (AT.cell hat127 rfl)) fun a F => ?_
   refine qv F (r_eql F rfl rfl) fun a F => ?_
   refine nil (hK179 _ _ ?_)
   by_cases hb180 : ob123.rev = 1099511627776
   ·replace H := ip hb180 H
    refine wp_cond_true (fb F (dt hb180)) ?_
    refine wp_seq_k fun K181 hK181 => reg ?_
    refine qv F (r_build (v := .agg #[.bool false, .slice none 0 0, .slice none 0 0, .int .i64 0, .int .i64 0]) F [] (by exact trivial) (fun w => by kernel_rfl)) fun a F => ?_
    refine q_eff0 F rfl rfl (e_storeN0 (us := [.bool false, .slice none 0 0, .slice none 0 0, .int .i64 0, .int .i64 0]) F rfl rfl sz_34 h24 (nb rfl) (one_all rfl)) ?_
    rintro w182 a ⟨E183, h24, Z184⟩ F
    replace B := B.size Z184
    replace h3 := h3.ev E183 (ne_pm bj4.2) ne_zm
    replace E := E.trans E183 lc1
    as_aux_lemma =>
    replace h24 : AT true (m + 2) c155 w182 qa22 [.bool false, .slice none 0 0, .slice none 0 0, .int .i64 0, .int .i64 0] := h24
    refine qa F fun a F => ?_
    refine nil (hK181 _ _ ?_)
    replace F : Fr a 116 [(4, .pointer (some qa22)), (5, .int .i64 132)] := F.sub ⟨rfl, rfl, trivial⟩
    refine wp_ret ?_
    refine thenR ?_
    replace H := si H
    subst H
    refine outR2 F rfl ⟨_, rfl, lv_agg (cs := [.bool false, .slice none 0 0, .slice none 0 0, .int .i64 0, .int .i64 0]) ag_34 sz_34 h24⟩ rfl ?_
    exact ⟨cf (fun x_ => if x_ < m then x_ else 0) c155, none, 0, none, 0, rfl, E.lv B0, cfb, SL.nil, SL.nil, TB.rc h3 cfk cfk⟩
   replace H := im hb180 H
   refine wp_cond_false (fb F (dz hb180)) (wp_skip (hK178 _ _ ?_))
   replace F : Fr a 116 [(0, .pointer (some ad126)), (3, .pointer (some qa15)), (4, .pointer (some qa22)), (9, .string (bs a5.Key)), (10, .pointer (some qa143)), (11, .bool t131.2)] := F.sub ⟨rfl, rfl, rfl, rfl, rfl, rfl, trivial⟩
   refine wp_seq_k fun K185 hK185 => reg ?_
   refine qm F fun a F => ?_
   refine qv F (r_nil F rfl) fun a F => ?_
   refine qf F ff_82_1 fun a F => ?_
   refine qv F (r_load F rfl ag_3 (AT.cell hat127 rfl)) fun a F => ?_
   refine qv F (r_add F rfl rfl) fun a F => ?_
   refine qv F (r_nil F rfl) fun a F => ?_
   refine qf F ff_82_1 fun a F => ?_
   refine q_eff0 F rfl rfl (e_store F rfl rfl sz_3 hat127 (nb rfl) rfl) ?_
   rintro w186 a ⟨E187, hat127, Z188⟩ F
   as_aux_lemma =>
   replace B := B.size Z188
   replace h8 := h8.ev E187 (ne_z bj4.1) (ne_z bj4.1)
   replace h11 := h11.ev E187 (ne_z bj4.1) (ne_z bj4.1)
   replace h17 := h17.ev E187 (ne_mp bj4.2)
   replace h24 := h24.ev E187 (ne_mp bj4.2)
   replace h129 := h129.ev E187 (ne_z bj4.1) (ne_z bj4.1)
   replace h139 := h139.ev E187 (ne_z bj4.1) (ne_z bj4.1)
   replace h145 := h145.ev E187 (ne_mp bj4.2)
   replace E := E.trans E187 (fun x (q : x = j4) => Or.inl (q))
   replace hat127 : AT true j4 c155 w186 ad126 [.pointer p128, .int .i64 (IntKind.i64.wrap (ob123.rev + 1)), .int .i64 ob123.size] := hat127
   refine nil (hK185 _ _ ?_)
   refine wp_seq_k fun K189 hK189 => reg ?_
   refine qm F fun a F => ?_
   refine qm F fun a F => ?_
   refine qv F (r_loads (cs := [.slice A137 t131.1.value.length C138, .int .i64 t131.1.rev]) F rfl ag_80 sz_80 h145) fun a F => ?_
   refine qm F fun a F => ?_
   have h190 : TB j4 c155 w186 (some ad126) (some (Tab.mk ob123.rows (IntKind.i64.wrap (ob123.rev + 1)) ob123.size)) := TB.mk hat127 h129
   obtain ⟨t191, q192, H⟩ := bind_some H
   refine qc F Try.func39 (table_Table_told.calls (m := m + 7) (pl hm0) B h190 h139 (Nat.lt_add_right _ bj4.2) _ q192) ?_
   rintro e w194 ⟨c193, A197, C198, A200, C201, rfl, E195, B196, h199, h202⟩
   refine ⟨_, rfl, fun a F => ?_⟩
   have B := B196
   as_aux_lemma =>
   replace h8 := h8.ev E195 nq nq
   replace h11 := h11.ev E195 nq nq
   replace h17 := h17.ev E195 nq
   replace h24 := h24.ev E195 nq
   replace h129 := h129.ev E195 nq nq
   replace hat127 := hat127.ev E195 nq
   replace h139 := h139.ev E195 nq nq
   replace h145 := h145.ev E195 nq
   replace E := E.trans E195 nx
   refine q_eff F rfl rfl (by decide) (e_alloc F zv_34 c193 (m + 5)) ?_
   rintro v w205 a ⟨c204, qa206, rfl, E207, h208, B209⟩ F
   replace B := B209 _ B lm
   replace h8 := h8.ev E207 nq nq
   replace h11 := h11.ev E207 nq nq
   replace h17 := h17.ev E207 nq
   replace h24 := h24.ev E207 nq
   replace h129 := h129.ev E207 nq nq
   replace hat127 := hat127.ev E207 nq
   replace h139 := h139.ev E207 nq nq
   replace h145 := h145.ev E207 nq
   replace h199 := h199.ev E207 nq nq
   replace h202 := h202.ev E207 nq nq
   as_aux_lemma =>
   replace E := E.trans E207 nx
   replace h208 : AT true (m + 5) c204 w205 qa206 [.bool false, .slice none 0 0, .slice none 0 0, .int .i64 0, .int .i64 0] := h208
   refine q_eff0 F rfl rfl (e_storeN0 (us := [.bool t191.Done, .slice A197 t191.Key.length C198, .slice A200 t191.Value.length C201, .int .i64 t191.Rev, .int .i64 t191.At]) F rfl rfl sz_34 h208 (nb rfl) (one_all rfl)) ?_
   rintro w211 a ⟨E212, h208, Z213⟩ F
   replace B := B.size Z213
   replace h8 := h8.ev E212 ne_zm ne_zm
   replace h11 := h11.ev E212 ne_zm ne_zm
   replace h17 := h17.ev E212 mm
   replace h24 := h24.ev E212 mm
   replace h129 := h129.ev E212 ne_zm ne_zm
   replace hat127 := hat127.ev E212 (ne_pm bj4.2)
   replace h139 := h139.ev E212 ne_zm ne_zm
   replace h145 := h145.ev E212 mm
   replace h199 := h199.ev E212 ne_zm ne_zm
   replace h202 := h202.ev E212 ne_zm ne_zm
   replace E := E.trans E212 lc1
   replace h208 : AT true (m + 5) c204 w211 qa206 [.bool t191.Done, .slice A197 t191.Key.length C198, .slice A200 t191.Value.length C201, .int .i64 t191.Rev, .int .i64 t191.At] := h208
   refine nil (hK189 _ _ ?_)
   replace F : Fr a 116 [(0, .pointer (some ad126)), (3, .pointer (some qa15)), (4, .pointer (some qa22)), (9, .string (bs a5.Key)), (10, .pointer (some qa143)), (12, .pointer (some qa206))] := F.sub ⟨rfl, rfl, rfl, rfl, rfl, rfl, trivial⟩
   refine wp_seq_k fun K214 hK214 => ?_
   refine wp_seq_k fun K215 hK215 => ?_
   have J256 : ∀ (c257 : Nat → Nat) (w258 : World) (a : Act) (qa230 : Addr) (t218 : List Int) (A253 : Option Addr) (C254 : Nat), Fr a 116 [(0, .pointer (some ad126)), (3, .pointer (some qa15)), (4, .pointer (some qa22)), (9, .string (bs a5.Key)), (10, .pointer (some qa143)), (12, .pointer (some qa206)), (13, .pointer (some qa230))] → Ev (fun x => (x = j4) ∨ m ≤ x) c0 w0 c257 w258 → CB (m + 7) c257 w258 → AT true j4 c257 w258 ad126 [.pointer p128, .int .i64 (IntKind.i64.wrap (ob123.rev + 1)), .int .i64 ob123.size] → AT true (m + 1) c257 w258 qa15 [.int .i64 a5.Kind, .slice A6 a5.Key.length C7, .slice A9 a5.Value.length C10, .int .i64 a5.Rev] → AT true (m + 2) c257 w258 qa22 [.bool false, .slice none 0 0, .slice none 0 0, .int .i64 0, .int .i64 0] → AT true (m + 4) c257 w258 qa143 [.slice A137 t131.1.value.length C138, .int .i64 t131.1.rev] → AT true (m + 5) c257 w258 qa206 [.bool t191.Done, .slice A197 t191.Key.length C198, .slice A200 t191.Value.length C201, .int .i64 t191.Rev, .int .i64 t191.At] → AT true (m + 6) c257 w258 qa230 [.slice A253 t218.length C254, .int .i64 (IntKind.i64.wrap (ob123.rev + 1))] → TR 0 c257 w258 p128 ob123.rows → SL false (Kint .u8) 0 0 c257 w258 A6 C7 a5.Key → SL false (Kint .u8) 0 0 c257 w258 A9 C10 a5.Value → SL false (Kint .u8) 0 0 c257 w258 A137 C138 t131.1.value → SL false (Kint .u8) 0 0 c257 w258 A197 C198 t191.Key → SL false (Kint .u8) 0 0 c257 w258 A200 C201 t191.Value → SL true (Kint .u8) 0 0 c257 w258 A253 C254 t218 → table_Table_Do.j2 k a5 ob123 t131 t191 t218 = some r → K215 a w258 := by
    intro c257 w258 a qa230 t218 A253 C254 F E B hat127 h17 h24 h145 h208 h232 h129 h8 h11 h139 h199 h202 h255 H
    unfold table_Table_Do.j2 at H
    as_aux_lemma =>
    refine hK215 _ _ ?_
    refine wp_block ?_
    refine wp_seq_k fun K259 hK259 => reg ?_
    refine qf F ff_30_0 fun a F => ?_
    refine qv F (r_load F rfl ag_3 (AT.cell h17 rfl)) fun a F => ?_
    refine qv F (r_eql F rfl rfl) fun a F => ?_
    refine qa F fun a F => ?_
    refine nil (hK259 _ _ ?_)
    by_cases hb260 : a5.Kind = 3
    ·replace H := ip hb260 H
     refine wp_cond_true (fb F (dt hb260)) ?_
     refine reg ?_
     refine qm F fun a F => ?_
     refine qm F fun a F => ?_
     refine qv F (r_loads (cs := [.slice A253 t218.length C254, .int .i64 (IntKind.i64.wrap (ob123.rev + 1))]) F rfl ag_80 sz_80 h232) fun a F => ?_
     have h261 : TB j4 c257 w258 (some ad126) (some (Tab.mk ob123.rows (IntKind.i64.wrap (ob123.rev + 1)) ob123.size)) := TB.mk hat127 h129
     obtain ⟨t262, q263, H⟩ := bind_some H
     refine qc F Try.func43 (table_Table_set.calls k (m := m + 7) (a6 := table_cell.mk t218 (IntKind.i64.wrap (ob123.rev + 1))) (pl hm0) B h261 h255.r ⟨bj4.1, (Nat.lt_add_right _ bj4.2)⟩ _ q263) ?_
     rintro e w265 ⟨c264, rfl, E266, B267, h268⟩
     refine ⟨_, rfl, fun a F => ?_⟩
     have B := B267
     replace h24 := h24.ev E266 (ne_mp bj4.2)
     replace h208 := h208.ev E266 (ne_mp bj4.2)
     as_aux_lemma =>
     replace h199 := h199.ev E266 (ne_z bj4.1) (ne_z bj4.1)
     replace h202 := h202.ev E266 (ne_z bj4.1) (ne_z bj4.1)
     replace E := E.trans E266 (fun x (q : x = j4) => Or.inl (q))
     refine nil (hK214 _ _ ?_)
     replace F : Fr a 116 [(4, .pointer (some qa22)), (12, .pointer (some qa206))] := F.sub ⟨rfl, rfl, trivial⟩
     refine wp_seq_k fun K293 hK293 => reg ?_
     refine qv F (r_loads (cs := [.bool t191.Done, .slice A197 t191.Key.length C198, .slice A200 t191.Value.length C201, .int .i64 t191.Rev, .int .i64 t191.At]) F rfl ag_34 sz_34 h208) fun a F => ?_
     refine q_eff0 F rfl rfl (e_storeN0 (us := [.bool t191.Done, .slice A197 t191.Key.length C198, .slice A200 t191.Value.length C201, .int .i64 t191.Rev, .int .i64 t191.At]) F rfl rfl sz_34 h24 (nb rfl) (one_all rfl)) ?_
     rintro w294 a ⟨E295, h24, Z296⟩ F
     replace B := B.size Z296
     replace h199 := h199.ev E295 ne_zm ne_zm
     replace h202 := h202.ev E295 ne_zm ne_zm
     replace h268 := h268.ev E295 (ne_pm bj4.2) ne_zm
     replace E := E.trans E295 lc1
     replace h24 : AT true (m + 2) c264 w294 qa22 [.bool t191.Done, .slice A197 t191.Key.length C198, .slice A200 t191.Value.length C201, .int .i64 t191.Rev, .int .i64 t191.At] := h24
     refine qa F fun a F => ?_
     refine nil (hK293 _ _ ?_)
     refine wp_ret ?_
     replace H := si H
     subst H
     refine outR2 F rfl ⟨_, rfl, lv_agg (cs := [.bool t191.Done, .slice A197 t191.Key.length C198, .slice A200 t191.Value.length C201, .int .i64 t191.Rev, .int .i64 t191.At]) ag_34 sz_34 h24⟩ rfl ?_
     exact ⟨cf (fun x_ => if x_ < m then x_ else 0) c264, A197, C198, A200, C201, rfl, E.lv B0, cfb, SL.rc h199 cfk cfk, SL.rc h202 cfk cfk, TB.rc h268 cfk cfk⟩
    as_aux_lemma =>
    replace H := im hb260 H
    refine wp_cond_false (fb F (dz hb260)) ?_
    refine wp_seq_k fun K270 hK270 => ?_
    have J273 : ∀ (c274 : Nat → Nat) (w275 : World) (a : Act) (b272 : Bool), Fr a 116 [(0, .pointer (some ad126)), (4, .pointer (some qa22)), (9, .string (bs a5.Key)), (12, .pointer (some qa206)), (13, .pointer (some qa230)), (99, .bool b272)] → Ev (fun x => (x = j4) ∨ m ≤ x) c0 w0 c274 w275 → CB (m + 7) c274 w275 → AT true j4 c274 w275 ad126 [.pointer p128, .int .i64 (IntKind.i64.wrap (ob123.rev + 1)), .int .i64 ob123.size] → AT true (m + 2) c274 w275 qa22 [.bool false, .slice none 0 0, .slice none 0 0, .int .i64 0, .int .i64 0] → AT true (m + 5) c274 w275 qa206 [.bool t191.Done, .slice A197 t191.Key.length C198, .slice A200 t191.Value.length C201, .int .i64 t191.Rev, .int .i64 t191.At] → AT true (m + 6) c274 w275 qa230 [.slice A253 t218.length C254, .int .i64 (IntKind.i64.wrap (ob123.rev + 1))] → TR 0 c274 w275 p128 ob123.rows → SL false (Kint .u8) 0 0 c274 w275 A197 C198 t191.Key → SL false (Kint .u8) 0 0 c274 w275 A200 C201 t191.Value → SL true (Kint .u8) 0 0 c274 w275 A253 C254 t218 → table_Table_Do.j3 k a5 ob123 t191 t218 b272 = some r → K270 a w275 := by
     intro c274 w275 a b272 F E B hat127 h24 h208 h232 h129 h199 h202 h255 H
     unfold table_Table_Do.j3 at H
     refine hK270 _ _ ?_
     by_cases hb276 : b272 = true
     ·replace H := ip hb276 H
      refine wp_cond_true (fb F hb276) ?_
      refine wp_seq_k fun K277 hK277 => reg ?_
      refine qf F ff_34_0 fun a F => ?_
      refine q_eff0 F rfl rfl (e_store F rfl rfl sz_4 h208 (nb rfl) rfl) ?_
      rintro w278 a ⟨E279, h208, Z280⟩ F
      replace B := B.size Z280
      replace hat127 := hat127.ev E279 (ne_pm bj4.2)
      replace h24 := h24.ev E279 mm
      replace h232 := h232.ev E279 mm
      replace h129 := h129.ev E279 ne_zm ne_zm
      replace h199 := h199.ev E279 ne_zm ne_zm
      replace h202 := h202.ev E279 ne_zm ne_zm
      replace h255 := h255.ev E279 ne_zm ne_zm
      replace E := E.trans E279 lc1
      as_aux_lemma =>
      replace h208 : AT true (m + 5) c274 w278 qa206 [.bool true, .slice A197 t191.Key.length C198, .slice A200 t191.Value.length C201, .int .i64 t191.Rev, .int .i64 t191.At] := h208
      refine nil (hK277 _ _ ?_)
      refine reg ?_
      refine qm F fun a F => ?_
      refine qm F fun a F => ?_
      refine qv F (r_loads (cs := [.slice A253 t218.length C254, .int .i64 (IntKind.i64.wrap (ob123.rev + 1))]) F rfl ag_80 sz_80 h232) fun a F => ?_
      have h281 : TB j4 c274 w278 (some ad126) (some (Tab.mk ob123.rows (IntKind.i64.wrap (ob123.rev + 1)) ob123.size)) := TB.mk hat127 h129
      obtain ⟨t282, q283, H⟩ := bind_some H
      refine qc F Try.func43 (table_Table_set.calls k (m := m + 7) (a6 := table_cell.mk t218 (IntKind.i64.wrap (ob123.rev + 1))) (pl hm0) B h281 h255.r ⟨bj4.1, (Nat.lt_add_right _ bj4.2)⟩ _ q283) ?_
      rintro e w285 ⟨c284, rfl, E286, B287, h288⟩
      refine ⟨_, rfl, fun a F => ?_⟩
      have B := B287
      replace h24 := h24.ev E286 (ne_mp bj4.2)
      replace h208 := h208.ev E286 (ne_mp bj4.2)
      replace h199 := h199.ev E286 (ne_z bj4.1) (ne_z bj4.1)
      replace h202 := h202.ev E286 (ne_z bj4.1) (ne_z bj4.1)
      replace E := E.trans E286 (fun x (q : x = j4) => Or.inl (q))
      refine nil (hK214 _ _ ?_)
      replace F : Fr a 116 [(4, .pointer (some qa22)), (12, .pointer (some qa206))] := F.sub ⟨rfl, rfl, trivial⟩
      refine wp_seq_k fun K297 hK297 => reg ?_
      refine qv F (r_loads (cs := [.bool true, .slice A197 t191.Key.length C198, .slice A200 t191.Value.length C201, .int .i64 t191.Rev, .int .i64 t191.At]) F rfl ag_34 sz_34 h208) fun a F => ?_
      refine q_eff0 F rfl rfl (e_storeN0 (us := [.bool true, .slice A197 t191.Key.length C198, .slice A200 t191.Value.length C201, .int .i64 t191.Rev, .int .i64 t191.At]) F rfl rfl sz_34 h24 (nb rfl) (one_all rfl)) ?_
      rintro w298 a ⟨E299, h24, Z300⟩ F
      as_aux_lemma =>
      replace B := B.size Z300
      replace h199 := h199.ev E299 ne_zm ne_zm
      replace h202 := h202.ev E299 ne_zm ne_zm
      replace h288 := h288.ev E299 (ne_pm bj4.2) ne_zm
      replace E := E.trans E299 lc1
      replace h24 : AT true (m + 2) c284 w298 qa22 [.bool true, .slice A197 t191.Key.length C198, .slice A200 t191.Value.length C201, .int .i64 t191.Rev, .int .i64 t191.At] := h24
      refine qa F fun a F => ?_
      refine nil (hK297 _ _ ?_)
      refine wp_ret ?_
      replace H := si H
      subst H
      refine outR2 F rfl ⟨_, rfl, lv_agg (cs := [.bool true, .slice A197 t191.Key.length C198, .slice A200 t191.Value.length C201, .int .i64 t191.Rev, .int .i64 t191.At]) ag_34 sz_34 h24⟩ rfl ?_
      exact ⟨cf (fun x_ => if x_ < m then x_ else 0) c284, A197, C198, A200, C201, rfl, E.lv B0, cfb, SL.rc h199 cfk cfk, SL.rc h202 cfk cfk, TB.rc h288 cfk cfk⟩
     replace H := im hb276 H
     refine wp_cond_false (fb F (bfalse hb276)) ?_
     refine reg ?_
     refine qf F ff_34_0 fun a F => ?_
     refine q_eff0 F rfl rfl (e_store F rfl rfl sz_4 h208 (nb rfl) rfl) ?_
     rintro w290 a ⟨E291, h208, Z292⟩ F
     replace B := B.size Z292
     replace hat127 := hat127.ev E291 (ne_pm bj4.2)
     replace h24 := h24.ev E291 mm
     as_aux_lemma =>
     replace h129 := h129.ev E291 ne_zm ne_zm
     replace h199 := h199.ev E291 ne_zm ne_zm
     replace h202 := h202.ev E291 ne_zm ne_zm
     replace E := E.trans E291 lc1
     replace h208 : AT true (m + 5) c274 w290 qa206 [.bool false, .slice A197 t191.Key.length C198, .slice A200 t191.Value.length C201, .int .i64 t191.Rev, .int .i64 t191.At] := h208
     refine nil (hK214 _ _ ?_)
     refine wp_seq_k fun K301 hK301 => reg ?_
     refine qv F (r_loads (cs := [.bool false, .slice A197 t191.Key.length C198, .slice A200 t191.Value.length C201, .int .i64 t191.Rev, .int .i64 t191.At]) F rfl ag_34 sz_34 h208) fun a F => ?_
     refine q_eff0 F rfl rfl (e_storeN0 (us := [.bool false, .slice A197 t191.Key.length C198, .slice A200 t191.Value.length C201, .int .i64 t191.Rev, .int .i64 t191.At]) F rfl rfl sz_34 h24 (nb rfl) (one_all rfl)) ?_
     rintro w302 a ⟨E303, h24, Z304⟩ F
     replace B := B.size Z304
     replace hat127 := hat127.ev E303 (ne_pm bj4.2)
     replace h129 := h129.ev E303 ne_zm ne_zm
     replace h199 := h199.ev E303 ne_zm ne_zm
     replace h202 := h202.ev E303 ne_zm ne_zm
     replace E := E.trans E303 lc1
     replace h24 : AT true (m + 2) c274 w302 qa22 [.bool false, .slice A197 t191.Key.length C198, .slice A200 t191.Value.length C201, .int .i64 t191.Rev, .int .i64 t191.At] := h24
     refine qa F fun a F => ?_
     refine nil (hK301 _ _ ?_)
     refine wp_ret ?_
     have h305 : TB j4 c274 w302 (some ad126) (some (Tab.mk ob123.rows (IntKind.i64.wrap (ob123.rev + 1)) ob123.size)) := TB.mk hat127 h129
     replace H := si H
     subst H
     as_aux_lemma =>
     refine outR2 F rfl ⟨_, rfl, lv_agg (cs := [.bool false, .slice A197 t191.Key.length C198, .slice A200 t191.Value.length C201, .int .i64 t191.Rev, .int .i64 t191.At]) ag_34 sz_34 h24⟩ rfl ?_
     exact ⟨cf (fun x_ => if x_ < m then x_ else 0) c274, A197, C198, A200, C201, rfl, E.lv B0, cfb, SL.rc h199 cfk cfk, SL.rc h202 cfk cfk, TB.rc h305 cfk cfk⟩
    refine reg ?_
    refine qf F ff_30_0 fun a F => ?_
    refine qv F (r_load F rfl ag_3 (AT.cell h17 rfl)) fun a F => ?_
    refine qv F (r_eql F rfl rfl) fun a F => ?_
    refine qm F fun a F => ?_
    by_cases hb271 : a5.Kind = 2
    ·replace H := ip hb271 H
     refine qn F (dt hb271) fun a F => ?_
     refine qn F (dt hb271) fun a F => ?_
     refine qn F (dt hb271) fun a F => ?_
     refine qn F (dt hb271) fun a F => ?_
     refine qn F (dt hb271) fun a F => ?_
     refine qv F (r_pick_t F rfl (dt hb271) rfl) fun a F => ?_
     refine qa F fun a F => ?_
     refine nil ?_
     exact J273 c257 w258 a true (F.sub ⟨rfl, rfl, rfl, rfl, rfl, rfl, trivial⟩) E B hat127 h24 h208 h232 h129 h199 h202 h255 H
    replace H := im hb271 H
    refine qy F (dz hb271) ?_
    refine qf F ff_80_1 fun a F => ?_
    refine qy F (dz hb271) ?_
    refine qv F (r_load F rfl ag_3 (AT.cell h145 rfl)) fun a F => ?_
    as_aux_lemma =>
    refine qy F (dz hb271) ?_
    refine qf F ff_30_3 fun a F => ?_
    refine qy F (dz hb271) ?_
    refine qv F (r_load F rfl ag_3 (AT.cell h17 rfl)) fun a F => ?_
    refine qy F (dz hb271) ?_
    refine qv F (r_eql F rfl rfl) fun a F => ?_
    refine qv F (r_pick_f F rfl (dz hb271) rfl) fun a F => ?_
    refine qa F fun a F => ?_
    refine nil ?_
    exact J273 c257 w258 a (decide (t131.1.rev = a5.Rev)) (F.sub ⟨rfl, rfl, rfl, rfl, rfl, rfl, trivial⟩) E B hat127 h24 h208 h232 h129 h199 h202 h255 H
   refine regD (SB No c204 w211) 9 (.q 0 (.q 1 (.q 3 (.q 4 (.q 5 (.q 6 (.f 2 (.q 7 (.e 8 (.e 9 .nil))) 8 (.e 2 (.q 7 (.e 9 .nil)))))))))) Try_hm (by decide +kernel) ?_
   intro w216 w1_ w2_ w3_ w4_
   have E217 : Ev No c204 w211 c204 w216 := Ev.same w1_ w2_ w3_ w4_
   replace B := B.same w1_
   have zh17 := h17
   have zhat127 := hat127
   have ER : Ev No c204 w211 c204 w216 := Ev.same w1_ w2_ w3_ w4_
   replace h8 := h8.ev E217 nq nq
   replace h11 := h11.ev E217 nq nq
   replace h17 := h17.ev E217 nq
   replace h24 := h24.ev E217 nq
   replace h129 := h129.ev E217 nq nq
   as_aux_lemma =>
   replace hat127 := hat127.ev E217 nq
   replace h139 := h139.ev E217 nq nq
   replace h145 := h145.ev E217 nq
   replace h199 := h199.ev E217 nq nq
   replace h202 := h202.ev E217 nq nq
   replace h208 := h208.ev E217 nq
   replace E := E.trans E217 nx
   refine df F ff_30_2 ER.sb fun a F => ?_
   refine dq F (fun wq hS => r_load F rfl ag_28 (AT.cell (AT.sb zh17 hS nq) rfl)) ER.sb fun a F => ?_
   refine dm F ER.sb fun a F => ?_
   refine dq F (fun wq hS => r_nil F rfl) ER.sb fun a F => ?_
   refine df F ff_82_1 ER.sb fun a F => ?_
   refine dq F (fun wq hS => r_load F rfl ag_3 (AT.cell (AT.sb zhat127 hS nq) rfl)) ER.sb fun a F => ?_
   refine d_f ?_ ?_
   ·obtain ⟨t218, q219, H⟩ := bind_some H
    refine oc F Try.func42 (bytes_Clone.calls (m := m + 7) (pl hm0) B h11 (by omega) 0 (pl hm0) _ q219) ?_
    rintro e w221 ⟨c220, A224, C225, rfl, E222, B223, h226⟩
    refine ⟨_, rfl, fun a F => ?_⟩
    have B := B223
    replace ER := ER.trans E222 nx
    replace h8 := h8.ev E222 nq nq
    replace h11 := h11.ev E222 nq nq
    replace h17 := h17.ev E222 nq
    as_aux_lemma =>
    replace h24 := h24.ev E222 nq
    replace h129 := h129.ev E222 nq nq
    replace hat127 := hat127.ev E222 nq
    replace h139 := h139.ev E222 nq nq
    replace h145 := h145.ev E222 nq
    replace h199 := h199.ev E222 nq nq
    replace h202 := h202.ev E222 nq nq
    replace h208 := h208.ev E222 nq
    replace E := E.trans E222 nx
    refine ⟨fun _ => ER.sb, ?_⟩
    refine d_q F rfl rfl rfl (by decide) (fun wq hS => r_build (v := .agg #[.slice A224 t218.length C225, .int .i64 (IntKind.i64.wrap (ob123.rev + 1))]) F [(0, .slice A224 t218.length C225), (1, .int .i64 (IntKind.i64.wrap (ob123.rev + 1)))] (by exact ⟨rfl, rfl, rfl, rfl, trivial⟩) (fun w => by kernel_rfl)) ER.sb fun a F => ?_
    refine d_e ?_
    refine o_eff F rfl rfl rfl (by decide) (e_alloc F zv_80 c220 (m + 6)) ?_
    rintro v w229 a ⟨c228, qa230, rfl, E231, h232, B233⟩ F
    replace B := B233 _ B lm
    replace ER := ER.trans E231 nx
    replace h8 := h8.ev E231 nq nq
    replace h11 := h11.ev E231 nq nq
    replace h17 := h17.ev E231 nq
    replace h24 := h24.ev E231 nq
    replace h129 := h129.ev E231 nq nq
    replace hat127 := hat127.ev E231 nq
    as_aux_lemma =>
    replace h139 := h139.ev E231 nq nq
    replace h145 := h145.ev E231 nq
    replace h199 := h199.ev E231 nq nq
    replace h202 := h202.ev E231 nq nq
    replace h208 := h208.ev E231 nq
    replace h226 := h226.ev E231 nq nq
    replace E := E.trans E231 nx
    replace h232 : AT true (m + 6) c228 w229 qa230 [.slice none 0 0, .int .i64 0] := h232
    refine ⟨fun _ => ER.sb, ?_⟩
    refine d_e ?_
    refine o_eff0 F rfl rfl rfl (e_storeN0 (us := [.slice A224 t218.length C225, .int .i64 (IntKind.i64.wrap (ob123.rev + 1))]) F rfl rfl sz_80 h232 (nb rfl) (one_all rfl)) ?_
    rintro w235 a ⟨E236, h232, Z237⟩ F
    replace B := B.size Z237
    replace h8 := h8.ev E236 ne_zm ne_zm
    replace h11 := h11.ev E236 ne_zm ne_zm
    replace h17 := h17.ev E236 mm
    replace h24 := h24.ev E236 mm
    replace h129 := h129.ev E236 ne_zm ne_zm
    replace hat127 := hat127.ev E236 (ne_pm bj4.2)
    replace h139 := h139.ev E236 ne_zm ne_zm
    replace h145 := h145.ev E236 mm
    replace h199 := h199.ev E236 ne_zm ne_zm
    as_aux_lemma =>
    replace h202 := h202.ev E236 ne_zm ne_zm
    replace h208 := h208.ev E236 mm
    replace h226 := h226.ev E236 ne_zm ne_zm
    replace E := E.trans E236 lc1
    replace h232 : AT true (m + 6) c228 w235 qa230 [.slice A224 t218.length C225, .int .i64 (IntKind.i64.wrap (ob123.rev + 1))] := h232
    refine ⟨fun q => absurd rfl q, ?_⟩
    refine d_nil ?_
    exact J256 c228 w235 a qa230 t218 A224 C225 (F.sub ⟨rfl, rfl, rfl, rfl, rfl, rfl, rfl, trivial⟩) E B hat127 h17 h24 h145 h208 h232 h129 h8 h11 h139 h199 h202 h226 H
   obtain ⟨t218, q219, H⟩ := bind_some H
   refine o_eff F rfl rfl rfl (by decide) (e_alloc F zv_80 c204 (m + 6)) ?_
   rintro v w239 a ⟨c238, qa230, rfl, E240, h232, B241⟩ F
   replace B := B241 _ B lm
   replace ER := ER.trans E240 nx
   replace h8 := h8.ev E240 nq nq
   replace h11 := h11.ev E240 nq nq
   replace h17 := h17.ev E240 nq
   replace h24 := h24.ev E240 nq
   replace h129 := h129.ev E240 nq nq
   replace hat127 := hat127.ev E240 nq
   replace h139 := h139.ev E240 nq nq
   replace h145 := h145.ev E240 nq
   replace h199 := h199.ev E240 nq nq
   as_aux_lemma =>
   replace h202 := h202.ev E240 nq nq
   replace h208 := h208.ev E240 nq
   replace E := E.trans E240 nx
   replace h232 : AT true (m + 6) c238 w239 qa230 [.slice none 0 0, .int .i64 0] := h232
   refine ⟨fun _ => ER.sb, ?_⟩
   refine d_e ?_
   refine oc F Try.func42 (bytes_Clone.calls (m := m + 7) (pl hm0) B h11 (by omega) 0 (pl hm0) _ q219) ?_
   rintro e w243 ⟨c242, A246, C247, rfl, E244, B245, h248⟩
   refine ⟨_, rfl, fun a F => ?_⟩
   have B := B245
   replace ER := ER.trans E244 nx
   replace h8 := h8.ev E244 nq nq
   replace h11 := h11.ev E244 nq nq
   replace h17 := h17.ev E244 nq
   replace h24 := h24.ev E244 nq
   replace h129 := h129.ev E244 nq nq
   replace hat127 := hat127.ev E244 nq
   replace h139 := h139.ev E244 nq nq
   replace h145 := h145.ev E244 nq
   replace h199 := h199.ev E244 nq nq
   replace h202 := h202.ev E244 nq nq
   replace h208 := h208.ev E244 nq
   as_aux_lemma =>
   replace h232 := h232.ev E244 nq
   replace E := E.trans E244 nx
   refine ⟨fun _ => ER.sb, ?_⟩
   refine d_q F rfl rfl rfl (by decide) (fun wq hS => r_build (v := .agg #[.slice A246 t218.length C247, .int .i64 (IntKind.i64.wrap (ob123.rev + 1))]) F [(0, .slice A246 t218.length C247), (1, .int .i64 (IntKind.i64.wrap (ob123.rev + 1)))] (by exact ⟨rfl, rfl, rfl, rfl, trivial⟩) (fun w => by kernel_rfl)) ER.sb fun a F => ?_
   refine d_e ?_
   refine o_eff0 F rfl rfl rfl (e_storeN0 (us := [.slice A246 t218.length C247, .int .i64 (IntKind.i64.wrap (ob123.rev + 1))]) F rfl rfl sz_80 h232 (nb rfl) (one_all rfl)) ?_
   rintro w250 a ⟨E251, h232, Z252⟩ F
   replace B := B.size Z252
   replace h8 := h8.ev E251 ne_zm ne_zm
   replace h11 := h11.ev E251 ne_zm ne_zm
   replace h17 := h17.ev E251 mm
   replace h24 := h24.ev E251 mm
   replace h129 := h129.ev E251 ne_zm ne_zm
   replace hat127 := hat127.ev E251 (ne_pm bj4.2)
   replace h139 := h139.ev E251 ne_zm ne_zm
   replace h145 := h145.ev E251 mm
   replace h199 := h199.ev E251 ne_zm ne_zm
   replace h202 := h202.ev E251 ne_zm ne_zm
   replace h208 := h208.ev E251 mm
   replace h248 := h248.ev E251 ne_zm ne_zm
   replace E := E.trans E251 lc1
   replace h232 : AT true (m + 6) c242 w250 qa230 [.slice A246 t218.length C247, .int .i64 (IntKind.i64.wrap (ob123.rev + 1))] := h232
   as_aux_lemma =>
   refine ⟨fun q => absurd rfl q, ?_⟩
   refine d_nil ?_
   exact J256 c242 w250 a qa230 t218 A246 C247 (F.sub ⟨rfl, rfl, rfl, rfl, rfl, rfl, rfl, trivial⟩) E B hat127 h17 h24 h145 h208 h232 h129 h8 h11 h139 h199 h202 h248 H
  replace H := im hb160 H
  refine wp_cond_true (fb F (congrArg not (bfalse hb160))) ?_
  refine wp_seq_k fun K161 hK161 => reg ?_
  refine qm F fun a F => ?_
  refine qm F fun a F => ?_
  refine qv F (r_loads (cs := [.slice A137 t131.1.value.length C138, .int .i64 t131.1.rev]) F rfl ag_80 sz_80 h145) fun a F => ?_
  refine qm F fun a F => ?_
  obtain ⟨t162, q163, H⟩ := bind_some H
  refine qc F Try.func39 (table_Table_told.calls (m := m + 7) (pl hm0) B h3 h139 (Nat.lt_add_right _ bj4.2) _ q163) ?_
  rintro e w165 ⟨c164, A168, C169, A171, C172, rfl, E166, B167, h170, h173⟩
  refine ⟨_, rfl, fun a F => ?_⟩
  have B := B167
  replace h3 := h3.ev E166 nq nq
  replace h24 := h24.ev E166 nq
  replace E := E.trans E166 nx
  refine q_eff0 F rfl rfl (e_storeN0 (us := [.bool t162.Done, .slice A168 t162.Key.length C169, .slice A171 t162.Value.length C172, .int .i64 t162.Rev, .int .i64 t162.At]) F rfl rfl sz_34 h24 (nb rfl) (one_all rfl)) ?_
  rintro w175 a ⟨E176, h24, Z177⟩ F
  replace B := B.size Z177
  replace h3 := h3.ev E176 (ne_pm bj4.2) ne_zm
  as_aux_lemma =>
  replace h170 := h170.ev E176 ne_zm ne_zm
  replace h173 := h173.ev E176 ne_zm ne_zm
  replace E := E.trans E176 lc1
  replace h24 : AT true (m + 2) c164 w175 qa22 [.bool t162.Done, .slice A168 t162.Key.length C169, .slice A171 t162.Value.length C172, .int .i64 t162.Rev, .int .i64 t162.At] := h24
  refine qa F fun a F => ?_
  refine nil (hK161 _ _ ?_)
  replace F : Fr a 116 [(4, .pointer (some qa22)), (5, .int .i64 0)] := F.sub ⟨rfl, rfl, trivial⟩
  refine wp_ret ?_
  refine thenR ?_
  replace H := si H
  subst H
  refine outR2 F rfl ⟨_, rfl, lv_agg (cs := [.bool t162.Done, .slice A168 t162.Key.length C169, .slice A171 t162.Value.length C172, .int .i64 t162.Rev, .int .i64 t162.At]) ag_34 sz_34 h24⟩ rfl ?_
  exact ⟨cf (fun x_ => if x_ < m then x_ else 0) c164, A168, C169, A171, C172, rfl, E.lv B0, cfb, SL.rc h170 cfk cfk, SL.rc h173 cfk cfk, TB.rc h3 cfk cfk⟩
 replace H := im hb42 H
 refine wp_cond_true (fb F (congrArg not (bfalse hb42))) ?_
 refine wp_seq_k fun K117 hK117 => reg ?_
 refine qv F (r_build (v := .agg #[.bool false, .slice none 0 0, .slice none 0 0, .int .i64 0, .int .i64 0]) F [] (by exact trivial) (fun w => by kernel_rfl)) fun a F => ?_
 refine q_eff0 F rfl rfl (e_storeN0 (us := [.bool false, .slice none 0 0, .slice none 0 0, .int .i64 0, .int .i64 0]) F rfl rfl sz_34 h24 (nb rfl) (one_all rfl)) ?_
 rintro w118 a ⟨E119, h24, Z120⟩ F
 replace B := B.size Z120
 replace h3 := h3.ev E119 (ne_pm bj4.2) ne_zm
 replace E := E.trans E119 lc1
 as_aux_lemma =>
 replace h24 : AT true (m + 2) c37 w118 qa22 [.bool false, .slice none 0 0, .slice none 0 0, .int .i64 0, .int .i64 0] := h24
 refine qa F fun a F => ?_
 refine nil (hK117 _ _ ?_)
 refine wp_ret ?_
 refine inbR ?_
 refine thenR ?_
 replace H := si H
 subst H
 refine outR2 F rfl ⟨_, rfl, lv_agg (cs := [.bool false, .slice none 0 0, .slice none 0 0, .int .i64 0, .int .i64 0]) ag_34 sz_34 h24⟩ rfl ?_
 exact ⟨cf (fun x_ => if x_ < m then x_ else 0) c37, none, 0, none, 0, rfl, E.lv B0, cfb, SL.nil, SL.nil, TB.rc h3 cfk cfk⟩
end Go.Proofs.Ythankpjbfpcldaa.G