/- Words, contracts and plain laws on which the row of 'ShardKnown' hangs (its '..UptoSaid': inputs of bulk at most 1048576). -/
import Derived.Test.YthankpjbfpcldaaGreatHShardKnownA
import Derived.Test.YthankpjbfpcldaaGreatHShardKnownB
namespace Go.Proofs.YthankpjbfpcldaaGreat.G
open Go Go.RowKit
set_option linter.unusedVariables false
set_option linter.unusedSimpArgs false
set_option maxRecDepth 100000
set_option maxHeartbeats 40000000
theorem tree_Tree_Delete.calls (k : Nat) : ∀ {m : Nat} {c0 : Nat → Nat} {w0 : World} {p2 : Option Addr} {a1 : Tr} {a4 : ByteArray} (hm0 : 0 < m) (B0 : CB m c0 w0) (h3 : TR 0 c0 w0 p2 a1) (r : Tr × Bool) (H : tree_Tree_Delete.f k a1 a4 = some r), Calls Tryz.prog 162 #[.pointer p2, .string a4] w0 (fun e w_ => ∃ (c_ : Nat → Nat) (P0_ : Option Addr), e = .returned (.tuple #[.pointer P0_, .bool r.2]) ∧ Ev (fun x => False) c0 w0 c_ w_ ∧ CB m c_ w_ ∧ TR 0 c_ w_ P0_ r.1) := by
 induction k with
 | zero => intro m c0 w0 p2 a1 a4 hm0 B0 h3 r H; exact absurd H (by simp [tree_Tree_Delete.f])
 | succ k ih =>
  intro m c0 w0 p2 a1 a4 hm0 B0 h3 r H
  unfold tree_Tree_Delete.f at H
  have B := B0.mono (show m ≤ m + 1 by omega)
  have E : Ev (fun x => False ∨ m ≤ x) c0 w0 c0 w0 := Ev.refl
  refine enter (N := 86) (l := [.pointer p2, .string a4]) Tryz.func162 rfl rfl (nb rfl) fun a F => ?_
  refine wp_seq_k fun K5 hK5 => reg ?_
  refine qa F fun a F => ?_
  refine qa F fun a F => ?_
  refine nil (hK5 _ _ ?_)
  refine wp_seq_k fun K6 hK6 => ?_
  refine wp_seq_k fun K7 hK7 => reg ?_
  refine qm F fun a F => ?_
  refine qv F (r_peqlA F Tryz.underlying130 rfl rfl (TR.isNil h3)) fun a F => ?_
  refine nil (hK7 _ _ ?_)
  by_cases hb8 : (Tr.isNil a1) = true
  ·replace H := ip hb8 H
   refine wp_cond_true (fb F hb8) ?_
   refine wp_seq_k fun K9 hK9 => reg ?_
   refine qa F fun a F => ?_
   refine qa F fun a F => ?_
   refine nil (hK9 _ _ ?_)
   refine wp_ret ?_
   refine thenR ?_
   replace H := si H
   subst H
   refine out2 F rfl rfl rfl ?_
   exact ⟨cf (fun x_ => if x_ < m then x_ else 0) c0, none, rfl, E.lv B0, cfb, TR.nil⟩
  replace H := im hb8 H
  refine wp_cond_false (fb F (bfalse hb8)) (wp_skip (hK6 _ _ ?_))
  refine wp_seq_k fun K10 hK10 => ?_
  refine wp_seq_k fun K11 hK11 => reg ?_
  refine qm F fun a F => ?_
  refine qm F fun a F => ?_
  replace H := cs_some H
  obtain ⟨tl12, tr13, tk14, tv15, ts16, td17, e18, H⟩ := H
  have z19 := h3
  rw [e18] at z19
  obtain ⟨ad23, lp24, rp25, A20, C21, rfl, hat26, h22, hl27, hr28⟩ := TR.node z19
  refine qv F (r_nil F rfl) fun a F => ?_
  refine qf F ff_205_2 fun a F => ?_
  refine qv F (r_load F rfl ag_9 (AT.cell hat26 rfl)) fun a F => ?_
  obtain ⟨t30, q31, H⟩ := bind_some H
  refine qc F Tryz.func177 (cmp_Compare.calls (m := m + 1) (pl hm0) B _ q31) ?_
  rintro e w33 ⟨c32, rfl, E34, B35⟩
  refine ⟨_, rfl, fun a F => ?_⟩
  have B := B35
  replace h3 := h3.ev E34 nq nq
  replace h22 := h22.ev E34 nq nq
  replace hl27 := hl27.ev E34 nq nq
  replace hr28 := hr28.ev E34 nq nq
  replace hat26 := hat26.ev E34 nq
  replace E := E.trans E34 nx
  refine qa F fun a F => ?_
  refine nil (hK11 _ _ ?_)
  replace F : Fr a 86 [(0, .pointer (some ad23)), (1, .string a4), (6, .int .i64 t30)] := F.sub ⟨rfl, rfl, rfl, trivial⟩
  refine wp_block ?_
  refine wp_seq_k fun K37 hK37 => reg ?_
  refine qm F fun a F => ?_
  refine qv F (r_lss F rfl rfl) fun a F => ?_
  refine qa F fun a F => ?_
  refine nil (hK37 _ _ ?_)
  by_cases hb38 : t30 < 0
  ·replace H := ip hb38 H
   refine wp_cond_true (fb F (dt hb38)) ?_
   refine wp_seq_k fun K39 hK39 => reg ?_
   refine qm F fun a F => ?_
   refine qv F (r_nil F rfl) fun a F => ?_
   refine qf F ff_205_0 fun a F => ?_
   refine qv F (r_load F rfl ag_130 (AT.cell hat26 rfl)) fun a F => ?_
   refine qm F fun a F => ?_
   obtain ⟨t40, q41, H⟩ := bind_some H
   refine qc F Tryz.func162 (ih (m := m + 1) (pl hm0) B hl27 _ q41) ?_
   rintro e w43 ⟨c42, p46, rfl, E44, B45, h47⟩
   refine ⟨_, rfl, fun a F => ?_⟩
   have B := B45
   replace h3 := h3.ev E44 nq nq
   replace h22 := h22.ev E44 nq nq
   replace hr28 := hr28.ev E44 nq nq
   replace hat26 := hat26.ev E44 nq
   replace E := E.trans E44 nx
   refine qm F fun a F => ?_
   refine qv F (r_extract F rfl rfl) fun a F => ?_
   refine qv F (r_extract F rfl rfl) fun a F => ?_
   refine qa F fun a F => ?_
   refine qa F fun a F => ?_
   refine nil (hK39 _ _ ?_)
   replace F : Fr a 86 [(0, .pointer (some ad23)), (7, .pointer p46), (8, .bool t40.2)] := F.sub ⟨rfl, rfl, rfl, trivial⟩
   refine wp_seq_k fun K49 hK49 => ?_
   refine wp_seq_k fun K50 hK50 => reg ?_
   refine qm F fun a F => ?_
   refine qv F (r_not F rfl) fun a F => ?_
   refine nil (hK50 _ _ ?_)
   by_cases hb51 : t40.2 = true
   ·replace H := ip hb51 H
    refine wp_cond_false (fb F (congrArg not hb51)) (wp_skip (hK49 _ _ ?_))
    refine wp_seq_k fun K53 hK53 => ?_
    refine regD (SB No c42 w43) 16 (.q 0 (.q 1 (.q 2 (.q 3 (.q 4 (.q 5 (.q 6 (.q 7 (.q 8 (.q 9 (.q 10 (.q 11 (.q 12 (.e 13 (.q 14 (.q 15 .nil)))))))))))))))) Tryz_hm (by decide +kernel) ?_
    intro w54 w1_ w2_ w3_ w4_
    have E55 : Ev No c42 w43 c42 w54 := Ev.same w1_ w2_ w3_ w4_
    replace B := B.same w1_
    have zhat26 := hat26
    have ER : Ev No c42 w43 c42 w54 := Ev.same w1_ w2_ w3_ w4_
    replace h22 := h22.ev E55 nq nq
    replace hr28 := hr28.ev E55 nq nq
    replace h47 := h47.ev E55 nq nq
    replace E := E.trans E55 nx
    refine dm F ER.sb fun a F => ?_
    refine dm F ER.sb fun a F => ?_
    refine dq F (fun wq hS => r_nil F rfl) ER.sb fun a F => ?_
    refine df F ff_205_2 ER.sb fun a F => ?_
    refine dq F (fun wq hS => r_load F rfl ag_9 (AT.cell (AT.sb zhat26 hS nq) rfl)) ER.sb fun a F => ?_
    refine dm F ER.sb fun a F => ?_
    refine dq F (fun wq hS => r_nil F rfl) ER.sb fun a F => ?_
    refine df F ff_205_3 ER.sb fun a F => ?_
    refine dq F (fun wq hS => r_loads (cs := [.slice A20 tv15.value.length C21, .int .i64 tv15.rev]) F rfl ag_133 sz_133 (AT.sub (AT.sb zhat26 hS nq) 3 2 (nb rfl))) ER.sb fun a F => ?_
    refine dm F ER.sb fun a F => ?_
    refine dq F (fun wq hS => r_nil F rfl) ER.sb fun a F => ?_
    refine df F ff_205_1 ER.sb fun a F => ?_
    refine dq F (fun wq hS => r_load F rfl ag_130 (AT.cell (AT.sb zhat26 hS nq) rfl)) ER.sb fun a F => ?_
    refine d_e ?_
    obtain ⟨t56, q57, H⟩ := bind_some H
    refine oc F Tryz.func183 (tree_join.calls k (m := m + 1) (pl hm0) B h47 h22 hr28 _ q57) ?_
    rintro e w59 ⟨c58, p62, rfl, E60, B61, h63⟩
    refine ⟨_, rfl, fun a F => ?_⟩
    have B := B61
    replace ER := ER.trans E60 nx
    replace E := E.trans E60 nx
    refine ⟨fun _ => ER.sb, ?_⟩
    refine da F ER.sb fun a F => ?_
    refine da F ER.sb fun a F => ?_
    refine d_nil ?_
    refine hK53 _ _ ?_
    replace F : Fr a 86 [(4, .pointer p62), (5, .bool true)] := F.sub ⟨rfl, rfl, trivial⟩
    refine wp_ret ?_
    refine inbR ?_
    refine thenR ?_
    replace H := si H
    subst H
    refine out2 F rfl rfl rfl ?_
    exact ⟨cf (fun x_ => if x_ < m then x_ else 0) c58, p62, rfl, E.lv B0, cfb, TR.rc h63 cfk cfk⟩
   replace H := im hb51 H
   refine wp_cond_true (fb F (congrArg not (bfalse hb51))) ?_
   refine wp_seq_k fun K52 hK52 => reg ?_
   refine qm F fun a F => ?_
   refine qa F fun a F => ?_
   refine qa F fun a F => ?_
   refine nil (hK52 _ _ ?_)
   refine wp_ret ?_
   refine thenR ?_
   refine inbR ?_
   refine thenR ?_
   replace H := si H
   subst H
   refine out2 F rfl rfl rfl ?_
   exact ⟨cf (fun x_ => if x_ < m then x_ else 0) c42, (some ad23), rfl, E.lv B0, cfb, TR.rc h3 cfk cfk⟩
  replace H := im hb38 H
  refine wp_cond_false (fb F (dz hb38)) ?_
  refine wp_seq_k fun K65 hK65 => reg ?_
  refine qm F fun a F => ?_
  refine qv F (r_gtr F rfl rfl) fun a F => ?_
  refine qa F fun a F => ?_
  refine nil (hK65 _ _ ?_)
  by_cases hb66 : 0 < t30
  ·replace H := ip hb66 H
   refine wp_cond_true (fb F (dt hb66)) ?_
   refine wp_seq_k fun K67 hK67 => reg ?_
   refine qm F fun a F => ?_
   refine qv F (r_nil F rfl) fun a F => ?_
   refine qf F ff_205_1 fun a F => ?_
   refine qv F (r_load F rfl ag_130 (AT.cell hat26 rfl)) fun a F => ?_
   refine qm F fun a F => ?_
   obtain ⟨t68, q69, H⟩ := bind_some H
   refine qc F Tryz.func162 (ih (m := m + 1) (pl hm0) B hr28 _ q69) ?_
   rintro e w71 ⟨c70, p74, rfl, E72, B73, h75⟩
   refine ⟨_, rfl, fun a F => ?_⟩
   have B := B73
   replace h3 := h3.ev E72 nq nq
   replace h22 := h22.ev E72 nq nq
   replace hl27 := hl27.ev E72 nq nq
   replace hat26 := hat26.ev E72 nq
   replace E := E.trans E72 nx
   refine qm F fun a F => ?_
   refine qv F (r_extract F rfl rfl) fun a F => ?_
   refine qv F (r_extract F rfl rfl) fun a F => ?_
   refine qa F fun a F => ?_
   refine qa F fun a F => ?_
   refine nil (hK67 _ _ ?_)
   replace F : Fr a 86 [(0, .pointer (some ad23)), (9, .pointer p74), (10, .bool t68.2)] := F.sub ⟨rfl, rfl, rfl, trivial⟩
   refine wp_seq_k fun K77 hK77 => ?_
   refine wp_seq_k fun K78 hK78 => reg ?_
   refine qm F fun a F => ?_
   refine qv F (r_not F rfl) fun a F => ?_
   refine nil (hK78 _ _ ?_)
   by_cases hb79 : t68.2 = true
   ·replace H := ip hb79 H
    refine wp_cond_false (fb F (congrArg not hb79)) (wp_skip (hK77 _ _ ?_))
    refine wp_seq_k fun K81 hK81 => ?_
    refine regD (SB No c70 w71) 16 (.q 0 (.q 1 (.q 2 (.q 3 (.q 4 (.q 5 (.q 6 (.q 7 (.q 8 (.q 9 (.q 10 (.q 11 (.q 12 (.e 13 (.q 14 (.q 15 .nil)))))))))))))))) Tryz_hm (by decide +kernel) ?_
    intro w82 w1_ w2_ w3_ w4_
    have E83 : Ev No c70 w71 c70 w82 := Ev.same w1_ w2_ w3_ w4_
    replace B := B.same w1_
    have zhat26 := hat26
    have ER : Ev No c70 w71 c70 w82 := Ev.same w1_ w2_ w3_ w4_
    replace h22 := h22.ev E83 nq nq
    replace hl27 := hl27.ev E83 nq nq
    replace h75 := h75.ev E83 nq nq
    replace E := E.trans E83 nx
    refine dm F ER.sb fun a F => ?_
    refine dq F (fun wq hS => r_nil F rfl) ER.sb fun a F => ?_
    refine df F ff_205_0 ER.sb fun a F => ?_
    refine dq F (fun wq hS => r_load F rfl ag_130 (AT.cell (AT.sb zhat26 hS nq) rfl)) ER.sb fun a F => ?_
    refine dm F ER.sb fun a F => ?_
    refine dq F (fun wq hS => r_nil F rfl) ER.sb fun a F => ?_
    refine df F ff_205_2 ER.sb fun a F => ?_
    refine dq F (fun wq hS => r_load F rfl ag_9 (AT.cell (AT.sb zhat26 hS nq) rfl)) ER.sb fun a F => ?_
    refine dm F ER.sb fun a F => ?_
    refine dq F (fun wq hS => r_nil F rfl) ER.sb fun a F => ?_
    refine df F ff_205_3 ER.sb fun a F => ?_
    refine dq F (fun wq hS => r_loads (cs := [.slice A20 tv15.value.length C21, .int .i64 tv15.rev]) F rfl ag_133 sz_133 (AT.sub (AT.sb zhat26 hS nq) 3 2 (nb rfl))) ER.sb fun a F => ?_
    refine dm F ER.sb fun a F => ?_
    refine d_e ?_
    obtain ⟨t84, q85, H⟩ := bind_some H
    refine oc F Tryz.func183 (tree_join.calls k (m := m + 1) (pl hm0) B hl27 h22 h75 _ q85) ?_
    rintro e w87 ⟨c86, p90, rfl, E88, B89, h91⟩
    refine ⟨_, rfl, fun a F => ?_⟩
    have B := B89
    replace ER := ER.trans E88 nx
    replace E := E.trans E88 nx
    refine ⟨fun _ => ER.sb, ?_⟩
    refine da F ER.sb fun a F => ?_
    refine da F ER.sb fun a F => ?_
    refine d_nil ?_
    refine hK81 _ _ ?_
    replace F : Fr a 86 [(4, .pointer p90), (5, .bool true)] := F.sub ⟨rfl, rfl, trivial⟩
    refine wp_ret ?_
    refine inbR ?_
    refine thenR ?_
    replace H := si H
    subst H
    refine out2 F rfl rfl rfl ?_
    exact ⟨cf (fun x_ => if x_ < m then x_ else 0) c86, p90, rfl, E.lv B0, cfb, TR.rc h91 cfk cfk⟩
   replace H := im hb79 H
   refine wp_cond_true (fb F (congrArg not (bfalse hb79))) ?_
   refine wp_seq_k fun K80 hK80 => reg ?_
   refine qm F fun a F => ?_
   refine qa F fun a F => ?_
   refine qa F fun a F => ?_
   refine nil (hK80 _ _ ?_)
   refine wp_ret ?_
   refine thenR ?_
   refine inbR ?_
   refine thenR ?_
   replace H := si H
   subst H
   refine out2 F rfl rfl rfl ?_
   exact ⟨cf (fun x_ => if x_ < m then x_ else 0) c70, (some ad23), rfl, E.lv B0, cfb, TR.rc h3 cfk cfk⟩
  replace H := im hb66 H
  refine wp_cond_false (fb F (dz hb66)) (wp_skip (hK10 _ _ ?_))
  replace F : Fr a 86 [(0, .pointer (some ad23))] := F.sub ⟨rfl, trivial⟩
  refine wp_seq_k fun K93 hK93 => ?_
  refine regD (SB No c32 w33) 11 (.q 0 (.q 1 (.q 2 (.q 3 (.q 4 (.q 5 (.q 6 (.q 7 (.e 8 (.q 9 (.q 10 .nil))))))))))) Tryz_hm (by decide +kernel) ?_
  intro w94 w1_ w2_ w3_ w4_
  have E95 : Ev No c32 w33 c32 w94 := Ev.same w1_ w2_ w3_ w4_
  replace B := B.same w1_
  have zhat26 := hat26
  have ER : Ev No c32 w33 c32 w94 := Ev.same w1_ w2_ w3_ w4_
  replace hl27 := hl27.ev E95 nq nq
  replace hr28 := hr28.ev E95 nq nq
  replace E := E.trans E95 nx
  refine dm F ER.sb fun a F => ?_
  refine dq F (fun wq hS => r_nil F rfl) ER.sb fun a F => ?_
  refine df F ff_205_0 ER.sb fun a F => ?_
  refine dq F (fun wq hS => r_load F rfl ag_130 (AT.cell (AT.sb zhat26 hS nq) rfl)) ER.sb fun a F => ?_
  refine dm F ER.sb fun a F => ?_
  refine dq F (fun wq hS => r_nil F rfl) ER.sb fun a F => ?_
  refine df F ff_205_1 ER.sb fun a F => ?_
  refine dq F (fun wq hS => r_load F rfl ag_130 (AT.cell (AT.sb zhat26 hS nq) rfl)) ER.sb fun a F => ?_
  refine d_e ?_
  obtain ⟨t96, q97, H⟩ := bind_some H
  refine oc F Tryz.func184 (tree_both.calls k (m := m + 1) (pl hm0) B hl27 hr28 _ q97) ?_
  rintro e w99 ⟨c98, p102, rfl, E100, B101, h103⟩
  refine ⟨_, rfl, fun a F => ?_⟩
  have B := B101
  replace ER := ER.trans E100 nx
  replace E := E.trans E100 nx
  refine ⟨fun _ => ER.sb, ?_⟩
  refine da F ER.sb fun a F => ?_
  refine da F ER.sb fun a F => ?_
  refine d_nil ?_
  refine hK93 _ _ ?_
  replace F : Fr a 86 [(4, .pointer p102), (5, .bool true)] := F.sub ⟨rfl, rfl, trivial⟩
  refine wp_ret ?_
  replace H := si H
  subst H
  refine out2 F rfl rfl rfl ?_
  exact ⟨cf (fun x_ => if x_ < m then x_ else 0) c98, p102, rfl, E.lv B0, cfb, TR.rc h103 cfk cfk⟩
theorem tree_Tree_Get.calls (k : Nat) {m : Nat} {c0 : Nat → Nat} {w0 : World} {p2 : Option Addr} {a1 : Tr} {a4 : ByteArray} (hm0 : 0 < m) (B0 : CB m c0 w0) (h3 : TR 0 c0 w0 p2 a1) (r : table_cell × Bool) (H : tree_Tree_Get.f k a1 a4 = some r) : Calls Tryz.prog 153 #[.pointer p2, .string a4] w0 (fun e w_ => ∃ (c_ : Nat → Nat) (A0_ : Option Addr) (C0_ : Nat), e = .returned (.tuple #[.agg #[.slice A0_ r.1.value.length C0_, .int .i64 r.1.rev], .bool r.2]) ∧ Ev (fun x => False) c0 w0 c_ w_ ∧ CB m c_ w_ ∧ SL false (Kint .u8) 0 0 c_ w_ A0_ C0_ r.1.value) := by
 unfold tree_Tree_Get.f at H
 have B := B0.mono (show m ≤ m + 2 by omega)
 have E : Ev (fun x => False ∨ m ≤ x) c0 w0 c0 w0 := Ev.refl
 refine enter (N := 34) (l := [.pointer p2, .string a4]) Tryz.func153 rfl rfl (nb rfl) fun a F => ?_
 refine wp_seq_k fun K5 hK5 => reg ?_
 refine q_eff F rfl rfl (by decide) (e_alloc F zv_133 c0 (m + 1)) ?_
 rintro v w7 a ⟨c6, qa8, rfl, E9, h10, B11⟩ F
 replace B := B11 _ B lm
 replace h3 := h3.ev E9 nq nq
 replace E := E.trans E9 nx
 replace h10 : AT true (m + 1) c6 w7 qa8 [.slice none 0 0, .int .i64 0] := h10
 refine qa F fun a F => ?_
 refine nil (hK5 _ _ ?_)
 refine wp_seq_k fun K13 hK13 => ?_
 refine wp_block ?_
 obtain ⟨x26, HL, HR25⟩ := bind_some H
 have J67 : ∀ (c68 : Nat → Nat) (w69 : World) (a : Act), Fr a 34 [(4, .pointer (some qa8))] → Ev (fun x => False ∨ m ≤ x) c0 w0 c68 w69 → CB (m + 2) c68 w69 → AT true (m + 1) c68 w69 qa8 [.slice none 0 0, .int .i64 0] → tree_Tree_Get.j2 = some r → K13 a w69 := by
  intro c68 w69 a  F E B h10 H
  unfold tree_Tree_Get.j2 at H
  refine hK13 _ _ ?_
  refine wp_seq_k fun K70 hK70 => reg ?_
  refine qv F (r_loads (cs := [.slice none 0 0, .int .i64 0]) F rfl ag_133 sz_133 h10) fun a F => ?_
  refine q_eff0 F rfl rfl (e_storeN0 (us := [.slice none 0 0, .int .i64 0]) F rfl rfl sz_133 h10 (nb rfl) (one_all rfl)) ?_
  rintro w71 a ⟨E72, h10, Z73⟩ F
  replace B := B.size Z73
  replace E := E.trans E72 lc1
  replace h10 : AT true (m + 1) c68 w71 qa8 [.slice none 0 0, .int .i64 0] := h10
  refine qa F fun a F => ?_
  refine nil (hK70 _ _ ?_)
  refine wp_ret ?_
  replace H := si H
  subst H
  refine outR2 F rfl ⟨_, rfl, lv_agg (cs := [.slice none 0 0, .int .i64 0]) ag_133 sz_133 h10⟩ rfl ?_
  exact ⟨cf (fun x_ => if x_ < m then x_ else 0) c68, none, 0, rfl, E.lv B0, cfb, SL.nil⟩
 refine loop_fuel (I := fun n a w => ∃ (o14 : Tr) (p15 : Option Addr) (c : Nat → Nat), Fr a 34 [(0, .pointer p15), (1, .string a4), (4, .pointer (some qa8))] ∧ Ev (fun x => False ∨ m ≤ x) c0 w0 c w ∧ CB (m + 2) c w ∧ AT true (m + 1) c w qa8 [.slice none 0 0, .int .i64 0] ∧ TR 0 c w p15 o14 ∧ loop (fun (s_ : Tr) => tree_Tree_Get.b1 a4 s_) n o14 = some x26) (k := k) ⟨a1, p2, c6, F.sub ⟨rfl, rfl, rfl, trivial⟩, E, B, h10, h3, HL⟩ ?_
 clear HL H E F B
 intro n23 X19 hX19 a w18 ⟨o14, p15, c17, F, E, B, h10, h16, HL⟩
 obtain ⟨n24, ctl22, rfl, HB, HN20, HD21⟩ := loop_some HL
 have H : tree_Tree_Get.b1 a4 o14 = some ctl22 := HB
 clear HB HL
 unfold tree_Tree_Get.b1 at H
 refine wp_seq_k fun K27 hK27 => ?_
 refine wp_seq_k fun K28 hK28 => reg ?_
 refine qm F fun a F => ?_
 refine qv F (r_pneqA F Tryz.underlying130 rfl rfl (TR.isNil h16)) fun a F => ?_
 refine nil (hK28 _ _ ?_)
 by_cases hb29 : (Tr.isNil o14) = true
 ·replace H := ip hb29 H
  refine wp_cond_false (fb F (congrArg not hb29)) ?_
  refine wp_exit ?_
  refine thenE ?_
  refine thenE ?_
  refine inbE ?_
  have hx_ := HD21 _ (si H).symm
  have H := HR25
  rw [← hx_] at H
  exact J67 c17 w18 a  (F.sub ⟨rfl, trivial⟩) E B h10 H
 replace H := im hb29 H
 refine wp_cond_true (fb F (congrArg not (bfalse hb29))) (wp_skip (hK27 _ _ ?_))
 refine wp_block ?_
 refine wp_seq_k fun K30 hK30 => reg ?_
 refine qm F fun a F => ?_
 refine qm F fun a F => ?_
 replace H := cs_some H
 obtain ⟨tl31, tr32, tk33, tv34, ts35, td36, e37, H⟩ := H
 have z38 := h16
 rw [e37] at z38
 obtain ⟨ad42, lp43, rp44, A39, C40, rfl, hat45, h41, hl46, hr47⟩ := TR.node z38
 refine qv F (r_nil F rfl) fun a F => ?_
 refine qf F ff_205_2 fun a F => ?_
 refine qv F (r_load F rfl ag_9 (AT.cell hat45 rfl)) fun a F => ?_
 obtain ⟨t49, q50, H⟩ := bind_some H
 refine qc F Tryz.func177 (cmp_Compare.calls (m := m + 2) (pl hm0) B _ q50) ?_
 rintro e w52 ⟨c51, rfl, E53, B54⟩
 refine ⟨_, rfl, fun a F => ?_⟩
 have B := B54
 replace h10 := h10.ev E53 nq
 replace h41 := h41.ev E53 nq nq
 replace hl46 := hl46.ev E53 nq nq
 replace hr47 := hr47.ev E53 nq nq
 replace hat45 := hat45.ev E53 nq
 replace E := E.trans E53 nx
 refine qa F fun a F => ?_
 refine nil (hK30 _ _ ?_)
 replace F : Fr a 34 [(0, .pointer (some ad42)), (1, .string a4), (4, .pointer (some qa8)), (6, .int .i64 t49)] := F.sub ⟨rfl, rfl, rfl, rfl, trivial⟩
 refine wp_block ?_
 refine wp_seq_k fun K56 hK56 => reg ?_
 refine qm F fun a F => ?_
 refine qv F (r_eql F rfl rfl) fun a F => ?_
 refine qa F fun a F => ?_
 refine nil (hK56 _ _ ?_)
 by_cases hb57 : t49 = 0
 ·replace H := ip hb57 H
  refine wp_cond_true (fb F (dt hb57)) ?_
  refine wp_seq_k fun K58 hK58 => reg ?_
  refine qm F fun a F => ?_
  refine qv F (r_nil F rfl) fun a F => ?_
  refine qf F ff_205_3 fun a F => ?_
  refine qv F (r_loads (cs := [.slice A39 tv34.value.length C40, .int .i64 tv34.rev]) F rfl ag_133 sz_133 (AT.sub hat45 3 2 (nb rfl))) fun a F => ?_
  refine q_eff0 F rfl rfl (e_storeN0 (us := [.slice A39 tv34.value.length C40, .int .i64 tv34.rev]) F rfl rfl sz_133 h10 (nb rfl) (one_all rfl)) ?_
  rintro w59 a ⟨E60, h10, Z61⟩ F
  replace B := B.size Z61
  replace h41 := h41.ev E60 ne_zm ne_zm
  replace E := E.trans E60 lc1
  replace h10 : AT true (m + 1) c51 w59 qa8 [.slice A39 tv34.value.length C40, .int .i64 tv34.rev] := h10
  refine qa F fun a F => ?_
  refine nil (hK58 _ _ ?_)
  replace F : Fr a 34 [(4, .pointer (some qa8)), (5, .bool true)] := F.sub ⟨rfl, rfl, trivial⟩
  refine wp_ret ?_
  refine inbR ?_
  refine inbR ?_
  refine thenR ?_
  refine inbR ?_
  refine thenR ?_
  have hx_ := HD21 _ (si H).symm
  have H := HR25
  rw [← hx_] at H
  replace H : some (tv34, true) = some r := H
  replace H := si H
  subst H
  refine outR2 F rfl ⟨_, rfl, lv_agg (cs := [.slice A39 tv34.value.length C40, .int .i64 tv34.rev]) ag_133 sz_133 h10⟩ rfl ?_
  exact ⟨cf (fun x_ => if x_ < m then x_ else 0) c51, A39, C40, rfl, E.lv B0, cfb, SL.rc h41 cfk cfk⟩
 replace H := im hb57 H
 refine wp_cond_false (fb F (dz hb57)) ?_
 refine wp_seq_k fun K62 hK62 => reg ?_
 refine qm F fun a F => ?_
 refine qv F (r_lss F rfl rfl) fun a F => ?_
 refine qa F fun a F => ?_
 refine nil (hK62 _ _ ?_)
 by_cases hb63 : t49 < 0
 ·replace H := ip hb63 H
  refine wp_cond_true (fb F (dt hb63)) ?_
  refine reg ?_
  refine qm F fun a F => ?_
  refine qv F (r_nil F rfl) fun a F => ?_
  refine qf F ff_205_0 fun a F => ?_
  refine qv F (r_load F rfl ag_130 (AT.cell hat45 rfl)) fun a F => ?_
  refine qa F fun a F => ?_
  refine nil ?_
  replace H := HN20 _ (si H).symm
  exact hX19 _ _ _ (Nat.lt_succ_self _) ⟨tl31, lp43, c51, F.sub ⟨rfl, rfl, rfl, trivial⟩, E, B, h10, hl46, H⟩
 replace H := im hb63 H
 refine wp_cond_false (fb F (dz hb63)) ?_
 refine reg ?_
 refine qm F fun a F => ?_
 refine qv F (r_nil F rfl) fun a F => ?_
 refine qf F ff_205_1 fun a F => ?_
 refine qv F (r_load F rfl ag_130 (AT.cell hat45 rfl)) fun a F => ?_
 refine qa F fun a F => ?_
 refine nil ?_
 replace H := HN20 _ (si H).symm
 exact hX19 _ _ _ (Nat.lt_succ_self _) ⟨tr32, rp44, c51, F.sub ⟨rfl, rfl, rfl, trivial⟩, E, B, h10, hr47, H⟩
theorem tree_Tree_Put.calls (k : Nat) : ∀ {m : Nat} {c0 : Nat → Nat} {w0 : World} {p2 : Option Addr} {A6 : Option Addr} {C7 : Nat} {a1 : Tr} {a4 : ByteArray} {a5 : table_cell} (hm0 : 0 < m) (B0 : CB m c0 w0) (h3 : TR 0 c0 w0 p2 a1) (h8 : SL false (Kint .u8) 0 0 c0 w0 A6 C7 a5.value) (r : Tr) (H : tree_Tree_Put.f k a1 a4 a5 = some r), Calls Tryz.prog 163 #[.pointer p2, .string a4, .agg #[.slice A6 a5.value.length C7, .int .i64 a5.rev]] w0 (fun e w_ => ∃ (c_ : Nat → Nat) (P0_ : Option Addr), e = .returned (.pointer P0_) ∧ Ev (fun x => False) c0 w0 c_ w_ ∧ CB m c_ w_ ∧ TR 0 c_ w_ P0_ r) := by
 induction k with
 | zero => intro m c0 w0 p2 A6 C7 a1 a4 a5 hm0 B0 h3 h8 r H; exact absurd H (by simp [tree_Tree_Put.f])
 | succ k ih =>
  intro m c0 w0 p2 A6 C7 a1 a4 a5 hm0 B0 h3 h8 r H
  unfold tree_Tree_Put.f at H
  have B := B0.mono (show m ≤ m + 2 by omega)
  have E : Ev (fun x => False ∨ m ≤ x) c0 w0 c0 w0 := Ev.refl
  refine enter (N := 76) (l := [.pointer p2, .string a4, .agg #[.slice A6 a5.value.length C7, .int .i64 a5.rev]]) Tryz.func163 rfl rfl (nb rfl) fun a F => ?_
  refine wp_seq_k fun K9 hK9 => reg ?_
  refine q_eff F rfl rfl (by decide) (e_box F (v := .agg #[.slice A6 a5.value.length C7, .int .i64 a5.rev]) rfl c0 (m + 1)) ?_
  rintro v w11 a ⟨c10, qa12, rfl, E13, h14, B15⟩ F
  replace B := B15 _ B lm
  replace h3 := h3.ev E13 nq nq
  replace h8 := h8.ev E13 nq nq
  replace E := E.trans E13 nx
  replace h14 : AT true (m + 1) c10 w11 qa12 [.slice A6 a5.value.length C7, .int .i64 a5.rev] := h14
  refine qa F fun a F => ?_
  refine nil (hK9 _ _ ?_)
  refine wp_seq_k fun K17 hK17 => ?_
  refine wp_seq_k fun K18 hK18 => reg ?_
  refine qm F fun a F => ?_
  refine qv F (r_peqlA F Tryz.underlying130 rfl rfl (TR.isNil h3)) fun a F => ?_
  refine nil (hK18 _ _ ?_)
  by_cases hb19 : (Tr.isNil a1) = true
  ·replace H := ip hb19 H
   refine wp_cond_true (fb F hb19) ?_
   refine wp_seq_k fun K20 hK20 => reg ?_
   refine qm F fun a F => ?_
   refine qv F (r_loads (cs := [.slice A6 a5.value.length C7, .int .i64 a5.rev]) F rfl ag_133 sz_133 h14) fun a F => ?_
   obtain ⟨t21, q22, H⟩ := bind_some H
   refine qc F Tryz.func185 (tree_node.calls (m := m + 2) (pl hm0) B TR.nil h8 TR.nil _ q22) ?_
   rintro e w24 ⟨c23, p27, rfl, E25, B26, h28⟩
   refine ⟨_, rfl, fun a F => ?_⟩
   have B := B26
   replace E := E.trans E25 nx
   refine qa F fun a F => ?_
   refine nil (hK20 _ _ ?_)
   replace F : Fr a 76 [(6, .pointer p27)] := F.sub ⟨rfl, trivial⟩
   refine wp_ret ?_
   refine thenR ?_
   replace H := si H
   subst H
   refine out1 F rfl rfl ?_
   exact ⟨cf (fun x_ => if x_ < m then x_ else 0) c23, p27, rfl, E.lv B0, cfb, TR.rc h28 cfk cfk⟩
  replace H := im hb19 H
  refine wp_cond_false (fb F (bfalse hb19)) (wp_skip (hK17 _ _ ?_))
  refine wp_seq_k fun K30 hK30 => ?_
  refine wp_seq_k fun K31 hK31 => reg ?_
  refine qm F fun a F => ?_
  refine qm F fun a F => ?_
  replace H := cs_some H
  obtain ⟨tl32, tr33, tk34, tv35, ts36, td37, e38, H⟩ := H
  have z39 := h3
  rw [e38] at z39
  obtain ⟨ad43, lp44, rp45, A40, C41, rfl, hat46, h42, hl47, hr48⟩ := TR.node z39
  refine qv F (r_nil F rfl) fun a F => ?_
  refine qf F ff_205_2 fun a F => ?_
  refine qv F (r_load F rfl ag_9 (AT.cell hat46 rfl)) fun a F => ?_
  obtain ⟨t50, q51, H⟩ := bind_some H
  refine qc F Tryz.func177 (cmp_Compare.calls (m := m + 2) (pl hm0) B _ q51) ?_
  rintro e w53 ⟨c52, rfl, E54, B55⟩
  refine ⟨_, rfl, fun a F => ?_⟩
  have B := B55
  replace h8 := h8.ev E54 nq nq
  replace h14 := h14.ev E54 nq
  replace h42 := h42.ev E54 nq nq
  replace hl47 := hl47.ev E54 nq nq
  replace hr48 := hr48.ev E54 nq nq
  replace hat46 := hat46.ev E54 nq
  replace E := E.trans E54 nx
  refine qa F fun a F => ?_
  refine nil (hK31 _ _ ?_)
  replace F : Fr a 76 [(0, .pointer (some ad43)), (1, .string a4), (5, .pointer (some qa12)), (7, .int .i64 t50)] := F.sub ⟨rfl, rfl, rfl, rfl, trivial⟩
  refine wp_block ?_
  refine wp_seq_k fun K57 hK57 => reg ?_
  refine qm F fun a F => ?_
  refine qv F (r_lss F rfl rfl) fun a F => ?_
  refine qa F fun a F => ?_
  refine nil (hK57 _ _ ?_)
  by_cases hb58 : t50 < 0
  ·replace H := ip hb58 H
   refine wp_cond_true (fb F (dt hb58)) ?_
   refine wp_seq_k fun K59 hK59 => ?_
   refine regD (SB No c52 w53) 21 (.q 0 (.q 1 (.q 2 (.q 3 (.q 4 (.q 5 (.q 7 (.q 8 (.q 9 (.q 10 (.q 11 (.q 12 (.q 13 (.q 14 (.q 15 (.q 16 (.q 17 (.q 18 (.e 6 (.e 19 (.q 20 .nil))))))))))))))))))))) Tryz_hm (by decide +kernel) ?_
   intro w60 w1_ w2_ w3_ w4_
   have E61 : Ev No c52 w53 c52 w60 := Ev.same w1_ w2_ w3_ w4_
   replace B := B.same w1_
   have zh14 := h14
   have zhat46 := hat46
   have ER : Ev No c52 w53 c52 w60 := Ev.same w1_ w2_ w3_ w4_
   replace h8 := h8.ev E61 nq nq
   replace h42 := h42.ev E61 nq nq
   replace hl47 := hl47.ev E61 nq nq
   replace hr48 := hr48.ev E61 nq nq
   replace E := E.trans E61 nx
   refine dm F ER.sb fun a F => ?_
   refine dq F (fun wq hS => r_nil F rfl) ER.sb fun a F => ?_
   refine df F ff_205_0 ER.sb fun a F => ?_
   refine dq F (fun wq hS => r_load F rfl ag_130 (AT.cell (AT.sb zhat46 hS nq) rfl)) ER.sb fun a F => ?_
   refine dm F ER.sb fun a F => ?_
   refine dq F (fun wq hS => r_loads (cs := [.slice A6 a5.value.length C7, .int .i64 a5.rev]) F rfl ag_133 sz_133 (AT.sb zh14 hS nq)) ER.sb fun a F => ?_
   refine dm F ER.sb fun a F => ?_
   refine dq F (fun wq hS => r_nil F rfl) ER.sb fun a F => ?_
   refine df F ff_205_2 ER.sb fun a F => ?_
   refine dq F (fun wq hS => r_load F rfl ag_9 (AT.cell (AT.sb zhat46 hS nq) rfl)) ER.sb fun a F => ?_
   refine dm F ER.sb fun a F => ?_
   refine dq F (fun wq hS => r_nil F rfl) ER.sb fun a F => ?_
   refine df F ff_205_3 ER.sb fun a F => ?_
   refine dq F (fun wq hS => r_loads (cs := [.slice A40 tv35.value.length C41, .int .i64 tv35.rev]) F rfl ag_133 sz_133 (AT.sub (AT.sb zhat46 hS nq) 3 2 (nb rfl))) ER.sb fun a F => ?_
   refine dm F ER.sb fun a F => ?_
   refine dq F (fun wq hS => r_nil F rfl) ER.sb fun a F => ?_
   refine df F ff_205_1 ER.sb fun a F => ?_
   refine dq F (fun wq hS => r_load F rfl ag_130 (AT.cell (AT.sb zhat46 hS nq) rfl)) ER.sb fun a F => ?_
   refine d_e ?_
   obtain ⟨t62, q63, H⟩ := bind_some H
   refine oc F Tryz.func163 (ih (m := m + 2) (pl hm0) B hl47 h8 _ q63) ?_
   rintro e w65 ⟨c64, p68, rfl, E66, B67, h69⟩
   refine ⟨_, rfl, fun a F => ?_⟩
   have B := B67
   replace ER := ER.trans E66 nx
   replace h42 := h42.ev E66 nq nq
   replace hr48 := hr48.ev E66 nq nq
   replace E := E.trans E66 nx
   refine ⟨fun _ => ER.sb, ?_⟩
   refine d_e ?_
   obtain ⟨t71, q72, H⟩ := bind_some H
   refine oc F Tryz.func183 (tree_join.calls k (m := m + 2) (pl hm0) B h69 h42 hr48 _ q72) ?_
   rintro e w74 ⟨c73, p77, rfl, E75, B76, h78⟩
   refine ⟨_, rfl, fun a F => ?_⟩
   have B := B76
   replace ER := ER.trans E75 nx
   replace E := E.trans E75 nx
   refine ⟨fun _ => ER.sb, ?_⟩
   refine da F ER.sb fun a F => ?_
   refine d_nil ?_
   refine hK59 _ _ ?_
   replace F : Fr a 76 [(6, .pointer p77)] := F.sub ⟨rfl, trivial⟩
   refine wp_ret ?_
   refine inbR ?_
   refine thenR ?_
   replace H := si H
   subst H
   refine out1 F rfl rfl ?_
   exact ⟨cf (fun x_ => if x_ < m then x_ else 0) c73, p77, rfl, E.lv B0, cfb, TR.rc h78 cfk cfk⟩
  replace H := im hb58 H
  refine wp_cond_false (fb F (dz hb58)) ?_
  refine wp_seq_k fun K80 hK80 => reg ?_
  refine qm F fun a F => ?_
  refine qv F (r_gtr F rfl rfl) fun a F => ?_
  refine qa F fun a F => ?_
  refine nil (hK80 _ _ ?_)
  by_cases hb81 : 0 < t50
  ·replace H := ip hb81 H
   refine wp_cond_true (fb F (dt hb81)) ?_
   refine wp_seq_k fun K82 hK82 => ?_
   refine regD (SB No c52 w53) 21 (.q 0 (.q 1 (.q 2 (.q 3 (.q 4 (.q 5 (.q 6 (.q 7 (.q 8 (.q 9 (.q 10 (.q 11 (.q 12 (.q 13 (.q 14 (.q 15 (.q 16 (.q 17 (.e 18 (.e 19 (.q 20 .nil))))))))))))))))))))) Tryz_hm (by decide +kernel) ?_
   intro w83 w1_ w2_ w3_ w4_
   have E84 : Ev No c52 w53 c52 w83 := Ev.same w1_ w2_ w3_ w4_
   replace B := B.same w1_
   have zh14 := h14
   have zhat46 := hat46
   have ER : Ev No c52 w53 c52 w83 := Ev.same w1_ w2_ w3_ w4_
   replace h8 := h8.ev E84 nq nq
   replace h42 := h42.ev E84 nq nq
   replace hl47 := hl47.ev E84 nq nq
   replace hr48 := hr48.ev E84 nq nq
   replace E := E.trans E84 nx
   refine dm F ER.sb fun a F => ?_
   refine dq F (fun wq hS => r_nil F rfl) ER.sb fun a F => ?_
   refine df F ff_205_0 ER.sb fun a F => ?_
   refine dq F (fun wq hS => r_load F rfl ag_130 (AT.cell (AT.sb zhat46 hS nq) rfl)) ER.sb fun a F => ?_
   refine dm F ER.sb fun a F => ?_
   refine dq F (fun wq hS => r_nil F rfl) ER.sb fun a F => ?_
   refine df F ff_205_2 ER.sb fun a F => ?_
   refine dq F (fun wq hS => r_load F rfl ag_9 (AT.cell (AT.sb zhat46 hS nq) rfl)) ER.sb fun a F => ?_
   refine dm F ER.sb fun a F => ?_
   refine dq F (fun wq hS => r_nil F rfl) ER.sb fun a F => ?_
   refine df F ff_205_3 ER.sb fun a F => ?_
   refine dq F (fun wq hS => r_loads (cs := [.slice A40 tv35.value.length C41, .int .i64 tv35.rev]) F rfl ag_133 sz_133 (AT.sub (AT.sb zhat46 hS nq) 3 2 (nb rfl))) ER.sb fun a F => ?_
   refine dm F ER.sb fun a F => ?_
   refine dq F (fun wq hS => r_nil F rfl) ER.sb fun a F => ?_
   refine df F ff_205_1 ER.sb fun a F => ?_
   refine dq F (fun wq hS => r_load F rfl ag_130 (AT.cell (AT.sb zhat46 hS nq) rfl)) ER.sb fun a F => ?_
   refine dm F ER.sb fun a F => ?_
   refine dq F (fun wq hS => r_loads (cs := [.slice A6 a5.value.length C7, .int .i64 a5.rev]) F rfl ag_133 sz_133 (AT.sb zh14 hS nq)) ER.sb fun a F => ?_
   refine d_e ?_
   obtain ⟨t85, q86, H⟩ := bind_some H
   refine oc F Tryz.func163 (ih (m := m + 2) (pl hm0) B hr48 h8 _ q86) ?_
   rintro e w88 ⟨c87, p91, rfl, E89, B90, h92⟩
   refine ⟨_, rfl, fun a F => ?_⟩
   have B := B90
   replace ER := ER.trans E89 nx
   replace h42 := h42.ev E89 nq nq
   replace hl47 := hl47.ev E89 nq nq
   replace E := E.trans E89 nx
   refine ⟨fun _ => ER.sb, ?_⟩
   refine d_e ?_
   obtain ⟨t94, q95, H⟩ := bind_some H
   refine oc F Tryz.func183 (tree_join.calls k (m := m + 2) (pl hm0) B hl47 h42 h92 _ q95) ?_
   rintro e w97 ⟨c96, p100, rfl, E98, B99, h101⟩
   refine ⟨_, rfl, fun a F => ?_⟩
   have B := B99
   replace ER := ER.trans E98 nx
   replace E := E.trans E98 nx
   refine ⟨fun _ => ER.sb, ?_⟩
   refine da F ER.sb fun a F => ?_
   refine d_nil ?_
   refine hK82 _ _ ?_
   replace F : Fr a 76 [(6, .pointer p100)] := F.sub ⟨rfl, trivial⟩
   refine wp_ret ?_
   refine inbR ?_
   refine thenR ?_
   replace H := si H
   subst H
   refine out1 F rfl rfl ?_
   exact ⟨cf (fun x_ => if x_ < m then x_ else 0) c96, p100, rfl, E.lv B0, cfb, TR.rc h101 cfk cfk⟩
  replace H := im hb81 H
  refine wp_cond_false (fb F (dz hb81)) (wp_skip (hK30 _ _ ?_))
  refine wp_seq_k fun K103 hK103 => ?_
  refine regD (SB No c52 w53) 12 (.q 0 (.q 1 (.q 2 (.q 3 (.q 4 (.q 5 (.q 6 (.q 7 (.q 8 (.q 9 (.e 10 (.q 11 .nil)))))))))))) Tryz_hm (by decide +kernel) ?_
  intro w104 w1_ w2_ w3_ w4_
  have E105 : Ev No c52 w53 c52 w104 := Ev.same w1_ w2_ w3_ w4_
  replace B := B.same w1_
  have zh14 := h14
  have zhat46 := hat46
  have ER : Ev No c52 w53 c52 w104 := Ev.same w1_ w2_ w3_ w4_
  replace h8 := h8.ev E105 nq nq
  replace hl47 := hl47.ev E105 nq nq
  replace hr48 := hr48.ev E105 nq nq
  replace E := E.trans E105 nx
  refine dm F ER.sb fun a F => ?_
  refine dq F (fun wq hS => r_nil F rfl) ER.sb fun a F => ?_
  refine df F ff_205_0 ER.sb fun a F => ?_
  refine dq F (fun wq hS => r_load F rfl ag_130 (AT.cell (AT.sb zhat46 hS nq) rfl)) ER.sb fun a F => ?_
  refine dm F ER.sb fun a F => ?_
  refine dq F (fun wq hS => r_loads (cs := [.slice A6 a5.value.length C7, .int .i64 a5.rev]) F rfl ag_133 sz_133 (AT.sb zh14 hS nq)) ER.sb fun a F => ?_
  refine dm F ER.sb fun a F => ?_
  refine dq F (fun wq hS => r_nil F rfl) ER.sb fun a F => ?_
  refine df F ff_205_1 ER.sb fun a F => ?_
  refine dq F (fun wq hS => r_load F rfl ag_130 (AT.cell (AT.sb zhat46 hS nq) rfl)) ER.sb fun a F => ?_
  refine d_e ?_
  obtain ⟨t106, q107, H⟩ := bind_some H
  refine oc F Tryz.func185 (tree_node.calls (m := m + 2) (pl hm0) B hl47 h8 hr48 _ q107) ?_
  rintro e w109 ⟨c108, p112, rfl, E110, B111, h113⟩
  refine ⟨_, rfl, fun a F => ?_⟩
  have B := B111
  replace ER := ER.trans E110 nx
  replace E := E.trans E110 nx
  refine ⟨fun _ => ER.sb, ?_⟩
  refine da F ER.sb fun a F => ?_
  refine d_nil ?_
  refine hK103 _ _ ?_
  replace F : Fr a 76 [(6, .pointer p112)] := F.sub ⟨rfl, trivial⟩
  refine wp_ret ?_
  replace H := si H
  subst H
  refine out1 F rfl rfl ?_
  exact ⟨cf (fun x_ => if x_ < m then x_ else 0) c108, p112, rfl, E.lv B0, cfb, TR.rc h113 cfk cfk⟩
theorem table_Table_set.calls (k : Nat) {m : Nat} {c0 : Nat → Nat} {w0 : World} {j4 : Nat} {p2 : Option Addr} {A7 : Option Addr} {C8 : Nat} {a1 : Option Tab} {a5 : ByteArray} {a6 : table_cell} {a10 : Bool} (hm0 : 0 < m) (B0 : CB m c0 w0) (h3 : TB j4 c0 w0 p2 a1) (h9 : SL false (Kint .u8) 0 0 c0 w0 A7 C8 a6.value) (bj4 : 0 < j4 ∧ j4 < m) (r : (Option Tab)) (H : table_Table_set.f k a1 a5 a6 a10 = some r) : Calls Tryz.prog 114 #[.pointer p2, .string a5, .agg #[.slice A7 a6.value.length C8, .int .i64 a6.rev], .bool a10] w0 (fun e w_ => ∃ (c_ : Nat → Nat), e = .returned (.tuple #[]) ∧ Ev (fun x => (x = j4)) c0 w0 c_ w_ ∧ CB m c_ w_ ∧ TB j4 c_ w_ p2 r) := by
 unfold table_Table_set.f at H
 have B := B0.mono (show m ≤ m + 3 by omega)
 have E : Ev (fun x => (x = j4) ∨ m ≤ x) c0 w0 c0 w0 := Ev.refl
 refine enter (N := 64) (l := [.pointer p2, .string a5, .agg #[.slice A7 a6.value.length C8, .int .i64 a6.rev], .bool a10]) Tryz.func114 rfl rfl (nb rfl) fun a F => ?_
 refine wp_seq_k fun K11 hK11 => reg ?_
 refine q_eff F rfl rfl (by decide) (e_box F (v := .agg #[.slice A7 a6.value.length C8, .int .i64 a6.rev]) rfl c0 (m + 1)) ?_
 rintro v w13 a ⟨c12, qa14, rfl, E15, h16, B17⟩ F
 replace B := B17 _ B lm
 replace h3 := h3.ev E15 nq nq
 replace h9 := h9.ev E15 nq nq
 replace E := E.trans E15 nx
 replace h16 : AT true (m + 1) c12 w13 qa14 [.slice A7 a6.value.length C8, .int .i64 a6.rev] := h16
 refine nil (hK11 _ _ ?_)
 refine wp_seq_k fun K19 hK19 => ?_
 have J64 : ∀ (c65 : Nat → Nat) (w66 : World) (a : Act) (ad24 : Addr) (p26 : Option Addr) (ob21 : Tab) (i63 : Int), p2 = some ad24 → Fr a 64 [(0, .pointer (some ad24)), (1, .string a5), (3, .bool a10), (6, .pointer (some qa14))] → Ev (fun x => (x = j4) ∨ m ≤ x) c0 w0 c65 w66 → CB (m + 3) c65 w66 → AT true j4 c65 w66 ad24 [.pointer p26, .int .i64 ob21.rev, .int .i64 i63] → AT true (m + 1) c65 w66 qa14 [.slice A7 a6.value.length C8, .int .i64 a6.rev] → TR 0 c65 w66 p26 ob21.rows → SL false (Kint .u8) 0 0 c65 w66 A7 C8 a6.value → table_Table_set.j1 k a5 a6 a10 ob21 i63 = some r → K19 a w66 := by
  intro c65 w66 a ad24 p26 ob21 i63 qe67 F E B hat25 h16 h27 h9 H
  unfold table_Table_set.j1 at H
  refine hK19 _ _ ?_
  refine wp_seq_k fun K68 hK68 => ?_
  refine wp_seq_k fun K69 hK69 => reg ?_
  refine qm F fun a F => ?_
  refine qv F (r_not F rfl) fun a F => ?_
  refine nil (hK69 _ _ ?_)
  by_cases hb70 : a10 = true
  ·replace H := ip hb70 H
   refine wp_cond_false (fb F (congrArg not hb70)) (wp_skip (hK68 _ _ ?_))
   refine wp_seq_k fun K85 hK85 => ?_
   refine regD (SB No c65 w66) 10 (.q 0 (.q 1 (.q 2 (.q 3 (.q 4 (.q 5 (.q 6 (.e 7 (.e 8 (.q 9 (.e 10 .nil))))))))))) Tryz_hm (by decide +kernel) ?_
   intro w86 w1_ w2_ w3_ w4_
   have E87 : Ev No c65 w66 c65 w86 := Ev.same w1_ w2_ w3_ w4_
   replace B := B.same w1_
   have zhat25 := hat25
   have zh16 := h16
   have ER : Ev No c65 w66 c65 w86 := Ev.same w1_ w2_ w3_ w4_
   replace hat25 := hat25.ev E87 nq
   replace h16 := h16.ev E87 nq
   replace h27 := h27.ev E87 nq nq
   replace h9 := h9.ev E87 nq nq
   replace E := E.trans E87 nx
   refine dm F ER.sb fun a F => ?_
   refine dm F ER.sb fun a F => ?_
   refine dq F (fun wq hS => r_nil F rfl) ER.sb fun a F => ?_
   refine df F ff_135_0 ER.sb fun a F => ?_
   refine dq F (fun wq hS => r_load F rfl ag_130 (AT.cell (AT.sb zhat25 hS nq) rfl)) ER.sb fun a F => ?_
   refine dm F ER.sb fun a F => ?_
   refine dq F (fun wq hS => r_loads (cs := [.slice A7 a6.value.length C8, .int .i64 a6.rev]) F rfl ag_133 sz_133 (AT.sb zh16 hS nq)) ER.sb fun a F => ?_
   refine d_e ?_
   obtain ⟨t88, q89, H⟩ := bind_some H
   refine oc F Tryz.func163 (tree_Tree_Put.calls k (m := m + 3) (pl hm0) B h27 h9 _ q89) ?_
   rintro e w91 ⟨c90, p94, rfl, E92, B93, h95⟩
   refine ⟨_, rfl, fun a F => ?_⟩
   have B := B93
   replace ER := ER.trans E92 nx
   replace hat25 := hat25.ev E92 nq
   replace h16 := h16.ev E92 nq
   replace h9 := h9.ev E92 nq nq
   replace E := E.trans E92 nx
   refine ⟨fun _ => ER.sb, ?_⟩
   refine d_e ?_
   refine o_val F rfl rfl rfl (by decide) (r_nil F rfl) fun a F => ?_
   refine ⟨fun _ => ER.sb, ?_⟩
   refine df F ff_135_0 ER.sb fun a F => ?_
   refine d_e ?_
   refine o_eff0 F rfl rfl rfl (e_store F rfl rfl sz_130 hat25 (nb rfl) rfl) ?_
   rintro w97 a ⟨E98, hat25, Z99⟩ F
   replace B := B.size Z99
   replace h16 := h16.ev E98 (ne_mp bj4.2)
   replace h9 := h9.ev E98 (ne_z bj4.1) (ne_z bj4.1)
   replace h95 := h95.ev E98 (ne_z bj4.1) (ne_z bj4.1)
   replace E := E.trans E98 (fun x (q : x = j4) => Or.inl (q))
   replace hat25 : AT true j4 c90 w97 ad24 [.pointer p94, .int .i64 ob21.rev, .int .i64 i63] := hat25
   refine ⟨fun q => absurd rfl q, ?_⟩
   refine d_nil ?_
   refine hK85 _ _ ?_
   replace F : Fr a 64 [(0, .pointer (some ad24)), (1, .string a5), (6, .pointer (some qa14))] := F.sub ⟨rfl, rfl, rfl, trivial⟩
   refine regD (SB No c90 w97) 10 (.q 0 (.q 1 (.q 2 (.q 3 (.q 4 (.q 5 (.e 6 (.q 7 (.e 8 (.q 9 (.e 10 .nil))))))))))) Tryz_hm (by decide +kernel) ?_
   intro w100 w1_ w2_ w3_ w4_
   have E101 : Ev No c90 w97 c90 w100 := Ev.same w1_ w2_ w3_ w4_
   replace B := B.same w1_
   have zhat25 := hat25
   have zh16 := h16
   have ER : Ev No c90 w97 c90 w100 := Ev.same w1_ w2_ w3_ w4_
   replace hat25 := hat25.ev E101 nq
   replace h9 := h9.ev E101 nq nq
   replace h95 := h95.ev E101 nq nq
   replace E := E.trans E101 nx
   refine dm F ER.sb fun a F => ?_
   refine dq F (fun wq hS => r_nil F rfl) ER.sb fun a F => ?_
   refine df F ff_135_2 ER.sb fun a F => ?_
   refine dq F (fun wq hS => r_load F rfl ag_3 (AT.cell (AT.sb zhat25 hS nq) rfl)) ER.sb fun a F => ?_
   refine dm F ER.sb fun a F => ?_
   refine dq F (fun wq hS => r_loads (cs := [.slice A7 a6.value.length C8, .int .i64 a6.rev]) F rfl ag_133 sz_133 (AT.sb zh16 hS nq)) ER.sb fun a F => ?_
   refine d_e ?_
   obtain ⟨t102, q103, H⟩ := bind_some H
   refine oc F Tryz.func161 (table_long.calls k (m := m + 3) (pl hm0) B h9 _ q103) ?_
   rintro e w105 ⟨c104, rfl, E106, B107⟩
   refine ⟨_, rfl, fun a F => ?_⟩
   have B := B107
   replace ER := ER.trans E106 nx
   replace hat25 := hat25.ev E106 nq
   replace h95 := h95.ev E106 nq nq
   replace E := E.trans E106 nx
   refine ⟨fun _ => ER.sb, ?_⟩
   refine dq F (fun wq hS => r_add F rfl rfl) ER.sb fun a F => ?_
   refine d_e ?_
   refine o_val F rfl rfl rfl (by decide) (r_nil F rfl) fun a F => ?_
   refine ⟨fun _ => ER.sb, ?_⟩
   refine df F ff_135_2 ER.sb fun a F => ?_
   refine d_e ?_
   refine o_eff0 F rfl rfl rfl (e_store F rfl rfl sz_3 hat25 (nb rfl) rfl) ?_
   rintro w109 a ⟨E110, hat25, Z111⟩ F
   replace B := B.size Z111
   replace h95 := h95.ev E110 (ne_z bj4.1) (ne_z bj4.1)
   replace E := E.trans E110 (fun x (q : x = j4) => Or.inl (q))
   replace hat25 : AT true j4 c104 w109 ad24 [.pointer p94, .int .i64 ob21.rev, .int .i64 (IntKind.i64.wrap (i63 + t102))] := hat25
   refine ⟨fun q => absurd rfl q, ?_⟩
   refine d_nil ?_
   have h112 : TB j4 c104 w109 (some ad24) (some (Tab.mk t88 ob21.rev (IntKind.i64.wrap (i63 + t102)))) := TB.mk hat25 h95
   replace H := si H
   subst H
   first | refine out0n F rfl ?_ | refine inbN (out0n F rfl ?_) | refine inbN (inbN (out0n F rfl ?_)) | refine inbN (inbN (inbN (out0n F rfl ?_)))
   exact ⟨cf (fun x_ => if x_ < m then x_ else 0) c104, rfl, E.lv B0, cfb, (by rw [qe67]; exact TB.rc h112 cfk cfk)⟩
  replace H := im hb70 H
  refine wp_cond_true (fb F (congrArg not (bfalse hb70))) ?_
  refine wp_seq_k fun K71 hK71 => reg ?_
  refine qm F fun a F => ?_
  refine qm F fun a F => ?_
  refine qv F (r_nil F rfl) fun a F => ?_
  refine qf F ff_135_0 fun a F => ?_
  refine qv F (r_load F rfl ag_130 (AT.cell hat25 rfl)) fun a F => ?_
  refine qm F fun a F => ?_
  obtain ⟨t72, q73, H⟩ := bind_some H
  refine qc F Tryz.func162 (tree_Tree_Delete.calls k (m := m + 3) (pl hm0) B h27 _ q73) ?_
  rintro e w75 ⟨c74, p78, rfl, E76, B77, h79⟩
  refine ⟨_, rfl, fun a F => ?_⟩
  have B := B77
  replace hat25 := hat25.ev E76 nq
  replace E := E.trans E76 nx
  refine qm F fun a F => ?_
  refine qv F (r_extract F rfl rfl) fun a F => ?_
  refine qv F (r_extract F rfl rfl) fun a F => ?_
  refine qv F (r_nil F rfl) fun a F => ?_
  refine qf F ff_135_0 fun a F => ?_
  refine q_eff0 F rfl rfl (e_store F rfl rfl sz_130 hat25 (nb rfl) rfl) ?_
  rintro w81 a ⟨E82, hat25, Z83⟩ F
  replace B := B.size Z83
  replace h79 := h79.ev E82 (ne_z bj4.1) (ne_z bj4.1)
  replace E := E.trans E82 (fun x (q : x = j4) => Or.inl (q))
  replace hat25 : AT true j4 c74 w81 ad24 [.pointer p78, .int .i64 ob21.rev, .int .i64 i63] := hat25
  refine nil (hK71 _ _ ?_)
  replace F : Fr a 64 [] := F.sub trivial
  refine wp_ret ?_
  refine thenR ?_
  have h84 : TB j4 c74 w81 (some ad24) (some (Tab.mk t72.1 ob21.rev i63)) := TB.mk hat25 h79
  replace H := si H
  subst H
  refine out0 F rfl ?_
  exact ⟨cf (fun x_ => if x_ < m then x_ else 0) c74, rfl, E.lv B0, cfb, (by rw [qe67]; exact TB.rc h84 cfk cfk)⟩
 refine wp_seq_k fun K20 hK20 => reg ?_
 refine qm F fun a F => ?_
 obtain ⟨ob21, e22, H⟩ := bind_some H
 have z23 := h3
 rw [e22] at z23
 obtain ⟨ad24, p26, rfl, hat25, h27⟩ := TB.some z23
 refine qv F (r_nil F rfl) fun a F => ?_
 refine qf F ff_135_0 fun a F => ?_
 refine qv F (r_load F rfl ag_130 (AT.cell hat25 rfl)) fun a F => ?_
 refine qm F fun a F => ?_
 obtain ⟨t29, q30, H⟩ := bind_some H
 refine qc F Tryz.func153 (tree_Tree_Get.calls k (m := m + 3) (pl hm0) B h27 _ q30) ?_
 rintro e w32 ⟨c31, A35, C36, rfl, E33, B34, h37⟩
 refine ⟨_, rfl, fun a F => ?_⟩
 have B := B34
 replace h9 := h9.ev E33 nq nq
 replace h16 := h16.ev E33 nq
 replace h27 := h27.ev E33 nq nq
 replace hat25 := hat25.ev E33 nq
 replace E := E.trans E33 nx
 refine qm F fun a F => ?_
 refine qv F (r_extract F rfl rfl) fun a F => ?_
 refine qv F (r_extract F rfl rfl) fun a F => ?_
 refine q_eff F rfl rfl (by decide) (e_alloc F zv_133 c31 (m + 2)) ?_
 rintro v w40 a ⟨c39, qa41, rfl, E42, h43, B44⟩ F
 replace B := B44 _ B lm
 replace h9 := h9.ev E42 nq nq
 replace h16 := h16.ev E42 nq
 replace h27 := h27.ev E42 nq nq
 replace hat25 := hat25.ev E42 nq
 replace h37 := h37.ev E42 nq nq
 replace E := E.trans E42 nx
 replace h43 : AT true (m + 2) c39 w40 qa41 [.slice none 0 0, .int .i64 0] := h43
 refine q_eff0 F rfl rfl (e_storeN0 (us := [.slice A35 t29.1.value.length C36, .int .i64 t29.1.rev]) F rfl rfl sz_133 h43 (nb rfl) (one_all rfl)) ?_
 rintro w46 a ⟨E47, h43, Z48⟩ F
 replace B := B.size Z48
 replace h9 := h9.ev E47 ne_zm ne_zm
 replace h16 := h16.ev E47 mm
 replace h27 := h27.ev E47 ne_zm ne_zm
 replace hat25 := hat25.ev E47 (ne_pm bj4.2)
 replace h37 := h37.ev E47 ne_zm ne_zm
 replace E := E.trans E47 lc1
 replace h43 : AT true (m + 2) c39 w46 qa41 [.slice A35 t29.1.value.length C36, .int .i64 t29.1.rev] := h43
 refine qa F fun a F => ?_
 refine nil (hK20 _ _ ?_)
 replace F : Fr a 64 [(0, .pointer (some ad24)), (1, .string a5), (3, .bool a10), (6, .pointer (some qa14)), (8, .pointer (some qa41)), (9, .bool t29.2)] := F.sub ⟨rfl, rfl, rfl, rfl, rfl, rfl, trivial⟩
 refine wp_seq_k fun K49 hK49 => reg ?_
 refine qm F fun a F => ?_
 refine nil (hK49 _ _ ?_)
 by_cases hb50 : t29.2 = true
 ·replace H := ip hb50 H
  refine wp_cond_true (fb F hb50) ?_
  refine regD (SB No c39 w46) 10 (.q 0 (.q 1 (.q 2 (.q 3 (.q 4 (.q 5 (.e 6 (.q 7 (.e 8 (.q 9 (.e 10 .nil))))))))))) Tryz_hm (by decide +kernel) ?_
  intro w51 w1_ w2_ w3_ w4_
  have E52 : Ev No c39 w46 c39 w51 := Ev.same w1_ w2_ w3_ w4_
  replace B := B.same w1_
  have zhat25 := hat25
  have zh43 := h43
  have ER : Ev No c39 w46 c39 w51 := Ev.same w1_ w2_ w3_ w4_
  replace h9 := h9.ev E52 nq nq
  replace h16 := h16.ev E52 nq
  replace h27 := h27.ev E52 nq nq
  replace hat25 := hat25.ev E52 nq
  replace h37 := h37.ev E52 nq nq
  replace E := E.trans E52 nx
  refine dm F ER.sb fun a F => ?_
  refine dq F (fun wq hS => r_nil F rfl) ER.sb fun a F => ?_
  refine df F ff_135_2 ER.sb fun a F => ?_
  refine dq F (fun wq hS => r_load F rfl ag_3 (AT.cell (AT.sb zhat25 hS nq) rfl)) ER.sb fun a F => ?_
  refine dm F ER.sb fun a F => ?_
  refine dq F (fun wq hS => r_loads (cs := [.slice A35 t29.1.value.length C36, .int .i64 t29.1.rev]) F rfl ag_133 sz_133 (AT.sb zh43 hS nq)) ER.sb fun a F => ?_
  refine d_e ?_
  obtain ⟨t53, q54, H⟩ := bind_some H
  refine oc F Tryz.func161 (table_long.calls k (m := m + 3) (pl hm0) B h37 _ q54) ?_
  rintro e w56 ⟨c55, rfl, E57, B58⟩
  refine ⟨_, rfl, fun a F => ?_⟩
  have B := B58
  replace ER := ER.trans E57 nx
  replace h9 := h9.ev E57 nq nq
  replace h16 := h16.ev E57 nq
  replace h27 := h27.ev E57 nq nq
  replace hat25 := hat25.ev E57 nq
  replace E := E.trans E57 nx
  refine ⟨fun _ => ER.sb, ?_⟩
  refine dq F (fun wq hS => r_sub F rfl rfl) ER.sb fun a F => ?_
  refine d_e ?_
  refine o_val F rfl rfl rfl (by decide) (r_nil F rfl) fun a F => ?_
  refine ⟨fun _ => ER.sb, ?_⟩
  refine df F ff_135_2 ER.sb fun a F => ?_
  refine d_e ?_
  refine o_eff0 F rfl rfl rfl (e_store F rfl rfl sz_3 hat25 (nb rfl) rfl) ?_
  rintro w60 a ⟨E61, hat25, Z62⟩ F
  replace B := B.size Z62
  replace h9 := h9.ev E61 (ne_z bj4.1) (ne_z bj4.1)
  replace h16 := h16.ev E61 (ne_mp bj4.2)
  replace h27 := h27.ev E61 (ne_z bj4.1) (ne_z bj4.1)
  replace E := E.trans E61 (fun x (q : x = j4) => Or.inl (q))
  replace hat25 : AT true j4 c55 w60 ad24 [.pointer p26, .int .i64 ob21.rev, .int .i64 (IntKind.i64.wrap (ob21.size - t53))] := hat25
  refine ⟨fun q => absurd rfl q, ?_⟩
  refine d_nil ?_
  exact J64 c55 w60 a ad24 p26 ob21 (IntKind.i64.wrap (ob21.size - t53)) rfl (F.sub ⟨rfl, rfl, rfl, rfl, trivial⟩) E B hat25 h16 h27 h9 H
 replace H := im hb50 H
 refine wp_cond_false (fb F (bfalse hb50)) ?_
 refine wp_skip ?_
 exact J64 c39 w46 a ad24 p26 ob21 ob21.size rfl (F.sub ⟨rfl, rfl, rfl, rfl, trivial⟩) E B hat25 h16 h27 h9 H
theorem table_Table_told.calls {m : Nat} {c0 : Nat → Nat} {w0 : World} {j4 : Nat} {p2 : Option Addr} {A7 : Option Addr} {C8 : Nat} {a1 : Option Tab} {a5 : ByteArray} {a6 : table_cell} {a10 : Bool} (hm0 : 0 < m) (B0 : CB m c0 w0) (h3 : TB j4 c0 w0 p2 a1) (h9 : SL false (Kint .u8) 0 0 c0 w0 A7 C8 a6.value) (bj4 : j4 < m) (r : api_Answer) (H : table_Table_told.f a1 a5 a6 a10 = some r) : Calls Tryz.prog 152 #[.pointer p2, .string a5, .agg #[.slice A7 a6.value.length C8, .int .i64 a6.rev], .bool a10] w0 (fun e w_ => ∃ (c_ : Nat → Nat) (A0_ : Option Addr) (C0_ : Nat) (A2_ : Option Addr) (C2_ : Nat), e = .returned (.agg #[.bool r.Done, .slice A0_ r.Key.length C0_, .slice A2_ r.Value.length C2_, .int .i64 r.Rev, .int .i64 r.At]) ∧ Ev (fun x => False) c0 w0 c_ w_ ∧ CB m c_ w_ ∧ SL false (Kint .u8) 0 0 c_ w_ A0_ C0_ r.Key ∧ SL false (Kint .u8) 0 0 c_ w_ A2_ C2_ r.Value) := by
 unfold table_Table_told.f at H
 have B := B0.mono (show m ≤ m + 4 by omega)
 have E : Ev (fun x => False ∨ m ≤ x) c0 w0 c0 w0 := Ev.refl
 refine enter (N := 28) (l := [.pointer p2, .string a5, .agg #[.slice A7 a6.value.length C8, .int .i64 a6.rev], .bool a10]) Tryz.func152 rfl rfl (nb rfl) fun a F => ?_
 refine wp_seq_k fun K11 hK11 => reg ?_
 refine q_eff F rfl rfl (by decide) (e_box F (v := .agg #[.slice A7 a6.value.length C8, .int .i64 a6.rev]) rfl c0 (m + 1)) ?_
 rintro v w13 a ⟨c12, qa14, rfl, E15, h16, B17⟩ F
 replace B := B17 _ B lm
 replace h3 := h3.ev E15 nq nq
 replace h9 := h9.ev E15 nq nq
 replace E := E.trans E15 nx
 replace h16 : AT true (m + 1) c12 w13 qa14 [.slice A7 a6.value.length C8, .int .i64 a6.rev] := h16
 refine q_eff F rfl rfl (by decide) (e_alloc F zv_32 c12 (m + 2)) ?_
 rintro v w20 a ⟨c19, qa21, rfl, E22, h23, B24⟩ F
 replace B := B24 _ B lm
 replace h3 := h3.ev E22 nq nq
 replace h9 := h9.ev E22 nq nq
 replace h16 := h16.ev E22 nq
 replace E := E.trans E22 nx
 replace h23 : AT true (m + 2) c19 w20 qa21 [.bool false, .slice none 0 0, .slice none 0 0, .int .i64 0, .int .i64 0] := h23
 refine nil (hK11 _ _ ?_)
 refine wp_seq_k fun K26 hK26 => reg ?_
 refine qm F fun a F => ?_
 refine qm F fun a F => ?_
 obtain ⟨ob27, e28, H⟩ := bind_some H
 have z29 := h3
 rw [e28] at z29
 obtain ⟨ad30, p32, rfl, hat31, h33⟩ := TB.some z29
 refine qv F (r_nil F rfl) fun a F => ?_
 refine qf F ff_135_1 fun a F => ?_
 refine qv F (r_load F rfl ag_3 (AT.cell hat31 rfl)) fun a F => ?_
 refine qv F (r_build (v := .agg #[.bool a10, .slice none 0 0, .slice none 0 0, .int .i64 0, .int .i64 ob27.rev]) F [(0, .bool a10), (4, .int .i64 ob27.rev)] (by exact ⟨rfl, rfl, rfl, rfl, trivial⟩) (fun w => by kernel_rfl)) fun a F => ?_
 refine q_eff F rfl rfl (by decide) (e_alloc F zv_32 c19 (m + 3)) ?_
 rintro v w36 a ⟨c35, qa37, rfl, E38, h39, B40⟩ F
 replace B := B40 _ B lm
 replace h9 := h9.ev E38 nq nq
 replace h16 := h16.ev E38 nq
 replace h23 := h23.ev E38 nq
 replace E := E.trans E38 nx
 replace h39 : AT true (m + 3) c35 w36 qa37 [.bool false, .slice none 0 0, .slice none 0 0, .int .i64 0, .int .i64 0] := h39
 refine q_eff0 F rfl rfl (e_storeN0 (us := [.bool a10, .slice none 0 0, .slice none 0 0, .int .i64 0, .int .i64 ob27.rev]) F rfl rfl sz_32 h39 (nb rfl) (one_all rfl)) ?_
 rintro w42 a ⟨E43, h39, Z44⟩ F
 replace B := B.size Z44
 replace h9 := h9.ev E43 ne_zm ne_zm
 replace h16 := h16.ev E43 mm
 replace h23 := h23.ev E43 mm
 replace E := E.trans E43 lc1
 replace h39 : AT true (m + 3) c35 w42 qa37 [.bool a10, .slice none 0 0, .slice none 0 0, .int .i64 0, .int .i64 ob27.rev] := h39
 refine nil (hK26 _ _ ?_)
 replace F : Fr a 28 [(1, .string a5), (3, .bool a10), (6, .pointer (some qa14)), (8, .pointer (some qa21)), (9, .pointer (some qa37))] := F.sub ⟨rfl, rfl, rfl, rfl, rfl, trivial⟩
 refine wp_seq_k fun K45 hK45 => ?_
 refine wp_seq_k fun K46 hK46 => reg ?_
 refine qm F fun a F => ?_
 refine nil (hK46 _ _ ?_)
 by_cases hb47 : a10 = true
 ·replace H := ip hb47 H
  refine wp_cond_true (fb F hb47) ?_
  refine regD (SB (fun x => x = m + 3) c35 w42) 12 (.q 0 (.q 2 (.q 3 (.q 5 (.q 6 (.f 1 (.q 7 (.e 4 (.e 8 (.q 9 (.e 10 (.q 11 (.e 12 .nil))))))) 4 (.e 1 (.q 7 (.e 8 (.q 9 (.e 10 (.q 11 (.e 12 .nil))))))))))))) Tryz_hm (by decide +kernel) ?_
  intro w48 w1_ w2_ w3_ w4_
  have E49 : Ev No c35 w42 c35 w48 := Ev.same w1_ w2_ w3_ w4_
  replace B := B.same w1_
  have zh16 := h16
  have ER : Ev (fun x => x = m + 3) c35 w42 c35 w48 := Ev.same w1_ w2_ w3_ w4_
  replace h9 := h9.ev E49 nq nq
  replace h23 := h23.ev E49 nq
  replace h39 := h39.ev E49 nq
  replace E := E.trans E49 nx
  refine dm F ER.sb fun a F => ?_
  refine df F ff_133_0 ER.sb fun a F => ?_
  refine dq F (fun wq hS => r_load F rfl ag_27 (AT.cell (AT.sb zh16 hS mm) rfl)) ER.sb fun a F => ?_
  refine df F ff_133_1 ER.sb fun a F => ?_
  refine dq F (fun wq hS => r_load F rfl ag_3 (AT.cell (AT.sb zh16 hS mm) rfl)) ER.sb fun a F => ?_
  refine d_f ?_ ?_
  ·replace H := ifN H
   obtain ⟨g50, H⟩ := H
   refine o_eff F rfl rfl rfl (by decide) (e_strBytes F Tryz.underlying9 Tryz.underlying27 Tryz.underlying5 rfl (by unfold maxLen; omega) c35 0 0) ?_
   rintro v w52 a ⟨c51, A53, C54, rfl, E55, h56, B57⟩ F
   replace B := B57 _ B (pl hm0)
   replace ER := ER.trans E55 nx
   replace h9 := h9.ev E55 nq nq
   replace h23 := h23.ev E55 nq
   replace h39 := h39.ev E55 nq
   replace E := E.trans E55 nx
   refine ⟨fun _ => ER.sb, ?_⟩
   refine df F ff_32_1 ER.sb fun a F => ?_
   refine d_e ?_
   obtain ⟨t58, q59, H⟩ := bind_some H
   refine oc F Tryz.func147 (bytes_Clone.calls (m := m + 4) (pl hm0) B h9 (by omega) 0 (pl hm0) _ q59) ?_
   rintro e w61 ⟨c60, A64, C65, rfl, E62, B63, h66⟩
   refine ⟨_, rfl, fun a F => ?_⟩
   have B := B63
   replace ER := ER.trans E62 nx
   replace h23 := h23.ev E62 nq
   replace h39 := h39.ev E62 nq
   replace h56 := h56.ev E62 nq nq
   replace E := E.trans E62 nx
   refine ⟨fun _ => ER.sb, ?_⟩
   refine d_e ?_
   refine o_eff0 F rfl rfl rfl (e_store F rfl rfl sz_27 h39 (nb rfl) rfl) ?_
   rintro w68 a ⟨E69, h39, Z70⟩ F
   replace B := B.size Z70
   replace ER := ER.trans E69 (fun x q => by replace q : x = m + 3 := q; show x = m + 3; omega)
   replace h23 := h23.ev E69 mm
   replace h56 := h56.ev E69 ne_zm ne_zm
   replace h66 := h66.ev E69 ne_zm ne_zm
   replace E := E.trans E69 lc1
   replace h39 : AT true (m + 3) c60 w68 qa37 [.bool a10, .slice A53 (sb a5).length C54, .slice none 0 0, .int .i64 0, .int .i64 ob27.rev] := h39
   refine ⟨fun _ => ER.sb, ?_⟩
   refine df F ff_32_2 ER.sb fun a F => ?_
   refine d_e ?_
   refine o_eff0 F rfl rfl rfl (e_store F rfl rfl sz_27 h39 (nb rfl) rfl) ?_
   rintro w71 a ⟨E72, h39, Z73⟩ F
   replace B := B.size Z73
   replace ER := ER.trans E72 (fun x q => by replace q : x = m + 3 := q; show x = m + 3; omega)
   replace h23 := h23.ev E72 mm
   replace h56 := h56.ev E72 ne_zm ne_zm
   replace h66 := h66.ev E72 ne_zm ne_zm
   replace E := E.trans E72 lc1
   replace h39 : AT true (m + 3) c60 w71 qa37 [.bool a10, .slice A53 (sb a5).length C54, .slice A64 t58.length C65, .int .i64 0, .int .i64 ob27.rev] := h39
   refine ⟨fun _ => ER.sb, ?_⟩
   refine df F ff_32_3 ER.sb fun a F => ?_
   refine d_e ?_
   refine o_eff0 F rfl rfl rfl (e_store F rfl rfl sz_3 h39 (nb rfl) rfl) ?_
   rintro w74 a ⟨E75, h39, Z76⟩ F
   replace B := B.size Z76
   replace ER := ER.trans E75 (fun x q => by replace q : x = m + 3 := q; show x = m + 3; omega)
   replace h23 := h23.ev E75 mm
   replace h56 := h56.ev E75 ne_zm ne_zm
   replace h66 := h66.ev E75 ne_zm ne_zm
   replace E := E.trans E75 lc1
   replace h39 : AT true (m + 3) c60 w74 qa37 [.bool a10, .slice A53 (sb a5).length C54, .slice A64 t58.length C65, .int .i64 a6.rev, .int .i64 ob27.rev] := h39
   refine ⟨fun q => absurd rfl q, ?_⟩
   refine d_nil ?_
   refine hK45 _ _ ?_
   replace F : Fr a 28 [(8, .pointer (some qa21)), (9, .pointer (some qa37))] := F.sub ⟨rfl, rfl, trivial⟩
   refine wp_seq_k fun K101 hK101 => reg ?_
   refine qv F (r_loads (cs := [.bool a10, .slice A53 (sb a5).length C54, .slice A64 t58.length C65, .int .i64 a6.rev, .int .i64 ob27.rev]) F rfl ag_32 sz_32 h39) fun a F => ?_
   refine q_eff0 F rfl rfl (e_storeN0 (us := [.bool a10, .slice A53 (sb a5).length C54, .slice A64 t58.length C65, .int .i64 a6.rev, .int .i64 ob27.rev]) F rfl rfl sz_32 h23 (nb rfl) (one_all rfl)) ?_
   rintro w102 a ⟨E103, h23, Z104⟩ F
   replace B := B.size Z104
   replace h56 := h56.ev E103 ne_zm ne_zm
   replace h66 := h66.ev E103 ne_zm ne_zm
   replace E := E.trans E103 lc1
   replace h23 : AT true (m + 2) c60 w102 qa21 [.bool a10, .slice A53 (sb a5).length C54, .slice A64 t58.length C65, .int .i64 a6.rev, .int .i64 ob27.rev] := h23
   refine nil (hK101 _ _ ?_)
   refine wp_ret ?_
   replace H := si H
   subst H
   refine outR1 F rfl ⟨_, rfl, lv_agg (cs := [.bool a10, .slice A53 (sb a5).length C54, .slice A64 t58.length C65, .int .i64 a6.rev, .int .i64 ob27.rev]) ag_32 sz_32 h23⟩ ?_
   exact ⟨cf (fun x_ => if x_ < m then x_ else 0) c60, A53, C54, A64, C65, rfl, E.lv B0, cfb, SL.rc h56.r cfk cfk, SL.rc h66.r cfk cfk⟩
  replace H := ifN H
  obtain ⟨g50, H⟩ := H
  obtain ⟨t58, q59, H⟩ := bind_some H
  refine oc F Tryz.func147 (bytes_Clone.calls (m := m + 4) (pl hm0) B h9 (by omega) 0 (pl hm0) _ q59) ?_
  rintro e w78 ⟨c77, A81, C82, rfl, E79, B80, h83⟩
  refine ⟨_, rfl, fun a F => ?_⟩
  have B := B80
  replace ER := ER.trans E79 nx
  replace h23 := h23.ev E79 nq
  replace h39 := h39.ev E79 nq
  replace E := E.trans E79 nx
  refine ⟨fun _ => ER.sb, ?_⟩
  refine d_e ?_
  refine o_eff F rfl rfl rfl (by decide) (e_strBytes F Tryz.underlying9 Tryz.underlying27 Tryz.underlying5 rfl (by unfold maxLen; omega) c77 0 0) ?_
  rintro v w86 a ⟨c85, A87, C88, rfl, E89, h90, B91⟩ F
  replace B := B91 _ B (pl hm0)
  replace ER := ER.trans E89 nx
  replace h23 := h23.ev E89 nq
  replace h39 := h39.ev E89 nq
  replace h83 := h83.ev E89 nq nq
  replace E := E.trans E89 nx
  refine ⟨fun _ => ER.sb, ?_⟩
  refine df F ff_32_1 ER.sb fun a F => ?_
  refine d_e ?_
  refine o_eff0 F rfl rfl rfl (e_store F rfl rfl sz_27 h39 (nb rfl) rfl) ?_
  rintro w92 a ⟨E93, h39, Z94⟩ F
  replace B := B.size Z94
  replace ER := ER.trans E93 (fun x q => by replace q : x = m + 3 := q; show x = m + 3; omega)
  replace h23 := h23.ev E93 mm
  replace h83 := h83.ev E93 ne_zm ne_zm
  replace h90 := h90.ev E93 ne_zm ne_zm
  replace E := E.trans E93 lc1
  replace h39 : AT true (m + 3) c85 w92 qa37 [.bool a10, .slice A87 (sb a5).length C88, .slice none 0 0, .int .i64 0, .int .i64 ob27.rev] := h39
  refine ⟨fun _ => ER.sb, ?_⟩
  refine df F ff_32_2 ER.sb fun a F => ?_
  refine d_e ?_
  refine o_eff0 F rfl rfl rfl (e_store F rfl rfl sz_27 h39 (nb rfl) rfl) ?_
  rintro w95 a ⟨E96, h39, Z97⟩ F
  replace B := B.size Z97
  replace ER := ER.trans E96 (fun x q => by replace q : x = m + 3 := q; show x = m + 3; omega)
  replace h23 := h23.ev E96 mm
  replace h83 := h83.ev E96 ne_zm ne_zm
  replace h90 := h90.ev E96 ne_zm ne_zm
  replace E := E.trans E96 lc1
  replace h39 : AT true (m + 3) c85 w95 qa37 [.bool a10, .slice A87 (sb a5).length C88, .slice A81 t58.length C82, .int .i64 0, .int .i64 ob27.rev] := h39
  refine ⟨fun _ => ER.sb, ?_⟩
  refine df F ff_32_3 ER.sb fun a F => ?_
  refine d_e ?_
  refine o_eff0 F rfl rfl rfl (e_store F rfl rfl sz_3 h39 (nb rfl) rfl) ?_
  rintro w98 a ⟨E99, h39, Z100⟩ F
  replace B := B.size Z100
  replace ER := ER.trans E99 (fun x q => by replace q : x = m + 3 := q; show x = m + 3; omega)
  replace h23 := h23.ev E99 mm
  replace h83 := h83.ev E99 ne_zm ne_zm
  replace h90 := h90.ev E99 ne_zm ne_zm
  replace E := E.trans E99 lc1
  replace h39 : AT true (m + 3) c85 w98 qa37 [.bool a10, .slice A87 (sb a5).length C88, .slice A81 t58.length C82, .int .i64 a6.rev, .int .i64 ob27.rev] := h39
  refine ⟨fun q => absurd rfl q, ?_⟩
  refine d_nil ?_
  refine hK45 _ _ ?_
  replace F : Fr a 28 [(8, .pointer (some qa21)), (9, .pointer (some qa37))] := F.sub ⟨rfl, rfl, trivial⟩
  refine wp_seq_k fun K105 hK105 => reg ?_
  refine qv F (r_loads (cs := [.bool a10, .slice A87 (sb a5).length C88, .slice A81 t58.length C82, .int .i64 a6.rev, .int .i64 ob27.rev]) F rfl ag_32 sz_32 h39) fun a F => ?_
  refine q_eff0 F rfl rfl (e_storeN0 (us := [.bool a10, .slice A87 (sb a5).length C88, .slice A81 t58.length C82, .int .i64 a6.rev, .int .i64 ob27.rev]) F rfl rfl sz_32 h23 (nb rfl) (one_all rfl)) ?_
  rintro w106 a ⟨E107, h23, Z108⟩ F
  replace B := B.size Z108
  replace h83 := h83.ev E107 ne_zm ne_zm
  replace h90 := h90.ev E107 ne_zm ne_zm
  replace E := E.trans E107 lc1
  replace h23 : AT true (m + 2) c85 w106 qa21 [.bool a10, .slice A87 (sb a5).length C88, .slice A81 t58.length C82, .int .i64 a6.rev, .int .i64 ob27.rev] := h23
  refine nil (hK105 _ _ ?_)
  refine wp_ret ?_
  replace H := si H
  subst H
  refine outR1 F rfl ⟨_, rfl, lv_agg (cs := [.bool a10, .slice A87 (sb a5).length C88, .slice A81 t58.length C82, .int .i64 a6.rev, .int .i64 ob27.rev]) ag_32 sz_32 h23⟩ ?_
  exact ⟨cf (fun x_ => if x_ < m then x_ else 0) c85, A87, C88, A81, C82, rfl, E.lv B0, cfb, SL.rc h90.r cfk cfk, SL.rc h83.r cfk cfk⟩
 replace H := im hb47 H
 refine wp_cond_false (fb F (bfalse hb47)) (wp_skip (hK45 _ _ ?_))
 refine wp_seq_k fun K109 hK109 => reg ?_
 refine qv F (r_loads (cs := [.bool a10, .slice none 0 0, .slice none 0 0, .int .i64 0, .int .i64 ob27.rev]) F rfl ag_32 sz_32 h39) fun a F => ?_
 refine q_eff0 F rfl rfl (e_storeN0 (us := [.bool a10, .slice none 0 0, .slice none 0 0, .int .i64 0, .int .i64 ob27.rev]) F rfl rfl sz_32 h23 (nb rfl) (one_all rfl)) ?_
 rintro w110 a ⟨E111, h23, Z112⟩ F
 replace B := B.size Z112
 replace E := E.trans E111 lc1
 replace h23 : AT true (m + 2) c35 w110 qa21 [.bool a10, .slice none 0 0, .slice none 0 0, .int .i64 0, .int .i64 ob27.rev] := h23
 refine nil (hK109 _ _ ?_)
 refine wp_ret ?_
 replace H := si H
 subst H
 refine outR1 F rfl ⟨_, rfl, lv_agg (cs := [.bool a10, .slice none 0 0, .slice none 0 0, .int .i64 0, .int .i64 ob27.rev]) ag_32 sz_32 h23⟩ ?_
 exact ⟨cf (fun x_ => if x_ < m then x_ else 0) c35, none, 0, none, 0, rfl, E.lv B0, cfb, SL.nil, SL.nil⟩
theorem table_writes.calls {m : Nat} {c0 : Nat → Nat} {w0 : World} {A2 : Option Addr} {C3 : Nat} {A5 : Option Addr} {C6 : Nat} {a1 : api_Op} (hm0 : 0 < m) (B0 : CB m c0 w0) (h4 : SL false (Kint .u8) 0 0 c0 w0 A2 C3 a1.Key) (h7 : SL false (Kint .u8) 0 0 c0 w0 A5 C6 a1.Value) (r : Bool) (H : table_writes.f a1 = some r) : Calls Tryz.prog 154 #[.agg #[.int .i64 a1.Kind, .slice A2 a1.Key.length C3, .slice A5 a1.Value.length C6, .int .i64 a1.Rev]] w0 (fun e w_ => ∃ (c_ : Nat → Nat), e = .returned (.bool r) ∧ Ev (fun x => False) c0 w0 c_ w_ ∧ CB m c_ w_) := by
 unfold table_writes.f at H
 have B := B0.mono (show m ≤ m + 2 by omega)
 have E : Ev (fun x => False ∨ m ≤ x) c0 w0 c0 w0 := Ev.refl
 refine enter (N := 16) (l := [.agg #[.int .i64 a1.Kind, .slice A2 a1.Key.length C3, .slice A5 a1.Value.length C6, .int .i64 a1.Rev]]) Tryz.func154 rfl rfl (nb rfl) fun a F => ?_
 refine wp_seq_k fun K8 hK8 => reg ?_
 refine q_eff F rfl rfl (by decide) (e_box F (v := .agg #[.int .i64 a1.Kind, .slice A2 a1.Key.length C3, .slice A5 a1.Value.length C6, .int .i64 a1.Rev]) rfl c0 (m + 1)) ?_
 rintro v w10 a ⟨c9, qa11, rfl, E12, h13, B14⟩ F
 replace B := B14 _ B lm
 replace E := E.trans E12 nx
 replace h13 : AT true (m + 1) c9 w10 qa11 [.int .i64 a1.Kind, .slice A2 a1.Key.length C3, .slice A5 a1.Value.length C6, .int .i64 a1.Rev] := h13
 refine qa F fun a F => ?_
 refine nil (hK8 _ _ ?_)
 refine wp_seq_k fun K16 hK16 => reg ?_
 refine qf F ff_29_0 fun a F => ?_
 refine qv F (r_load F rfl ag_3 (AT.cell h13 rfl)) fun a F => ?_
 refine qv F (r_eql F rfl rfl) fun a F => ?_
 refine qm F fun a F => ?_
 by_cases hb17 : a1.Kind = 2
 ·replace H := ip hb17 H
  refine qn F (dt hb17) fun a F => ?_
  refine qn F (dt hb17) fun a F => ?_
  refine qn F (dt hb17) fun a F => ?_
  refine qv F (r_pick_t F rfl (dt hb17) rfl) fun a F => ?_
  refine qm F fun a F => ?_
  refine qn F rfl fun a F => ?_
  refine qn F rfl fun a F => ?_
  refine qn F rfl fun a F => ?_
  refine qv F (r_pick_t F rfl rfl rfl) fun a F => ?_
  refine qa F fun a F => ?_
  refine nil (hK16 _ _ ?_)
  replace F : Fr a 16 [(2, .bool true)] := F.sub ⟨rfl, trivial⟩
  refine wp_ret ?_
  replace H := si H
  subst H
  refine out1 F rfl rfl ?_
  exact ⟨cf (fun x_ => if x_ < m then x_ else 0) c9, rfl, E.lv B0, cfb⟩
 replace H := im hb17 H
 refine qy F (dz hb17) ?_
 refine qf F ff_29_0 fun a F => ?_
 refine qy F (dz hb17) ?_
 refine qv F (r_load F rfl ag_3 (AT.cell h13 rfl)) fun a F => ?_
 refine qy F (dz hb17) ?_
 refine qv F (r_eql F rfl rfl) fun a F => ?_
 refine qv F (r_pick_f F rfl (dz hb17) rfl) fun a F => ?_
 refine qm F fun a F => ?_
 by_cases hb18 : a1.Kind = 3
 ·replace H := ip hb18 H
  refine qn F (dt hb18) fun a F => ?_
  refine qn F (dt hb18) fun a F => ?_
  refine qn F (dt hb18) fun a F => ?_
  refine qv F (r_pick_t F rfl (dt hb18) rfl) fun a F => ?_
  refine qa F fun a F => ?_
  refine nil (hK16 _ _ ?_)
  replace F : Fr a 16 [(2, .bool true)] := F.sub ⟨rfl, trivial⟩
  refine wp_ret ?_
  replace H := si H
  subst H
  refine out1 F rfl rfl ?_
  exact ⟨cf (fun x_ => if x_ < m then x_ else 0) c9, rfl, E.lv B0, cfb⟩
 replace H := im hb18 H
 refine qy F (dz hb18) ?_
 refine qf F ff_29_0 fun a F => ?_
 refine qy F (dz hb18) ?_
 refine qv F (r_load F rfl ag_3 (AT.cell h13 rfl)) fun a F => ?_
 refine qy F (dz hb18) ?_
 refine qv F (r_eql F rfl rfl) fun a F => ?_
 refine qv F (r_pick_f F rfl (dz hb18) rfl) fun a F => ?_
 refine qa F fun a F => ?_
 refine nil (hK16 _ _ ?_)
 replace F : Fr a 16 [(2, .bool (decide (a1.Kind = 4)))] := F.sub ⟨rfl, trivial⟩
 refine wp_ret ?_
 replace H := si H
 subst H
 refine out1 F rfl rfl ?_
 exact ⟨cf (fun x_ => if x_ < m then x_ else 0) c9, rfl, E.lv B0, cfb⟩
theorem tree_Tree_up.calls {σ X : Type} {m : Nat} {M : Nat → Prop} {cR : Nat → Nat} {wR : World} {l : Nat} (hm0 : 0 < m) (HM : ¬ M 0) {g : σ → ByteArray → table_cell → Option (Ctl σ X)} {J : σ → (Nat → Nat) → World → Prop} {JX : X → (Nat → Nat) → World → Prop} (HE : ∀ s c w, J s c w → Ev M cR wR c w) (HX : ∀ x c w, JX x c w → Ev M cR wR c w) (HY : ∀ s k (v : table_cell) c w (A20 : Option Addr) (C21 : Nat) r, JS m (J s) c w → SL false (Kint .u8) 0 0 c w A20 C21 v.value → g s k v = some r → YieldAt Fence.wide 0 Tryz.prog l #[.string k, .agg #[.slice A20 v.value.length C21, .int .i64 v.rev]] w (IP (fun s => JS m (J s)) JX r)) (t : Tr) : ∀ (p : Option Addr) (s : σ) (c : Nat → Nat) (w : World), TR 0 cR wR p t → JS m (J s) c w → ∀ (r : Ctl σ X), Tr.up g t s = some r → Calls Tryz.prog 171 #[.pointer p, yv l] w (IP (fun s => JS m (J s)) JX r) := by
 induction t with
 | nil =>
  intro p s0 c w ht hJ r H
  have ht : p = none := ht
  subst ht
  have H : some (Ctl.next s0) = some r := H
  refine enter (N := 35) (l := [.pointer none, yv l]) Tryz.func171 rfl rfl (nb rfl) fun a F => ?_
  have ER := hJ.ev (HE _)
  refine wp_seq_k fun K1 hK1 => reg ?_
  refine qa F fun a F => ?_
  refine nil (hK1 _ _ ?_)
  refine wp_seq_k fun K2 hK2 => ?_
  refine regD (SB M cR wR) 31 (.q 0 (.q 1 (.q 2 (.q 3 (.q 4 (.q 5 (.q 6 (.q 7 (.e 8 (.q 9 (.q 10 (.q 11 (.q 12 (.q 13 (.q 14 (.q 15 (.q 16 (.q 17 (.q 18 (.e 19 (.q 20 (.q 21 (.q 22 (.q 23 (.q 24 (.q 25 (.q 26 (.e 27 (.q 28 (.q 29 (.q 30 .nil))))))))))))))))))))))))))))))) Tryz_hm (by decide +kernel) ?_
  intro w3 w1_ w2_ w3_ w4_
  have hJ := hJ.step (Ev.same w1_ w2_ w3_ w4_) (hJ.1.same w1_)
  have ER := hJ.ev (HE _)
  refine dm F ER.sb fun a F => ?_
  refine dq F (fun wq hS => r_peql F Tryz.underlying130 rfl rfl) ER.sb fun a F => ?_
  refine dm F ER.sb fun a F => ?_
  refine dn F rfl ER.sb fun a F => ?_
  refine dn F rfl ER.sb fun a F => ?_
  refine dn F rfl ER.sb fun a F => ?_
  refine dn F rfl ER.sb fun a F => ?_
  refine dn F rfl ER.sb fun a F => ?_
  refine d_e ?_
  refine o_no F rfl rfl rfl (by decide) rfl rfl rfl (by decide) fun a F => ?_
  refine ⟨fun _ => ER.sb, ?_⟩
  refine dn F rfl ER.sb fun a F => ?_
  refine du F ER.sb fun a F => ?_
  refine du F ER.sb fun a F => ?_
  refine du F ER.sb fun a F => ?_
  refine du F ER.sb fun a F => ?_
  refine du F ER.sb fun a F => ?_
  refine du F ER.sb fun a F => ?_
  refine du F ER.sb fun a F => ?_
  refine du F ER.sb fun a F => ?_
  refine du F ER.sb fun a F => ?_
  refine d_e ?_
  refine o_nu F rfl rfl rfl (by decide) rfl rfl (by decide) fun a F => ?_
  refine ⟨fun _ => ER.sb, ?_⟩
  refine dn F rfl ER.sb fun a F => ?_
  refine dn F rfl ER.sb fun a F => ?_
  refine du F ER.sb fun a F => ?_
  refine du F ER.sb fun a F => ?_
  refine du F ER.sb fun a F => ?_
  refine du F ER.sb fun a F => ?_
  refine du F ER.sb fun a F => ?_
  refine d_e ?_
  refine o_nu F rfl rfl rfl (by decide) rfl rfl (by decide) fun a F => ?_
  refine ⟨fun _ => ER.sb, ?_⟩
  refine dn F rfl ER.sb fun a F => ?_
  refine dq F (fun wq hS => r_pick_t F rfl rfl rfl) ER.sb fun a F => ?_
  refine da F ER.sb fun a F => ?_
  refine d_nil ?_
  refine hK2 _ _ ?_
  have F : Fr a 35 [(4, .bool true)] := F.sub ⟨rfl, trivial⟩
  refine wp_ret ?_
  have H := si H
  subst H
  refine out1 F rfl rfl ?_
  exact ⟨rfl, _, hJ⟩
 | node tl tr k v s d ihhl ihhr =>
  intro p s0 c w ht hJ r H
  obtain ⟨ad, lp, rp, A1, C2, rfl, hat, h3, hl, hr⟩ := TR.node ht
  have H : (thenC (Tr.up g tl s0) fun s => thenC (g s k v) fun s => Tr.up g tr s) = some r := H
  refine enter (N := 35) (l := [.pointer (some ad), yv l]) Tryz.func171 rfl rfl (nb rfl) fun a F => ?_
  have ER := hJ.ev (HE _)
  refine wp_seq_k fun K4 hK4 => reg ?_
  refine qa F fun a F => ?_
  refine nil (hK4 _ _ ?_)
  refine wp_seq_k fun K5 hK5 => ?_
  refine regD (SB M cR wR) 31 (.q 0 (.q 1 (.q 2 (.q 3 (.q 4 (.q 5 (.q 6 (.q 7 (.e 8 (.q 9 (.q 10 (.q 11 (.q 12 (.q 13 (.q 14 (.q 15 (.q 16 (.q 17 (.q 18 (.e 19 (.q 20 (.q 21 (.q 22 (.q 23 (.q 24 (.q 25 (.q 26 (.e 27 (.q 28 (.q 29 (.q 30 .nil))))))))))))))))))))))))))))))) Tryz_hm (by decide +kernel) ?_
  intro w6 w1_ w2_ w3_ w4_
  have hJ := hJ.step (Ev.same w1_ w2_ w3_ w4_) (hJ.1.same w1_)
  have ER := hJ.ev (HE _)
  refine dm F ER.sb fun a F => ?_
  refine dq F (fun wq hS => r_peql F Tryz.underlying130 rfl rfl) ER.sb fun a F => ?_
  refine dm F ER.sb fun a F => ?_
  refine dy F rfl (fun wq hS => r_move F rfl) ER.sb fun a F => ?_
  refine dy F rfl (fun wq hS => r_nil F rfl) ER.sb fun a F => ?_
  refine dy F rfl (fun wq hS => r_fieldAddr F rfl ff_205_0) ER.sb fun a F => ?_
  refine dy F rfl (fun wq hS => r_load F rfl ag_130 (AT.cell (AT.sb hat hS HM) rfl)) ER.sb fun a F => ?_
  refine dy F rfl (fun wq hS => r_move F rfl) ER.sb fun a F => ?_
  refine d_e ?_
  obtain ⟨t7, q8, H⟩ := thenC_some H
  refine o_call F rfl (wanted_yes F rfl rfl (by decide) rfl rfl) rfl (by decide) (r_call F Tryz.func171 rfl (by kernel_rfl) rfl) (ihhl _ _ _ _ hl hJ _ q8) ?_
  rintro e w10 h11
  cases t7 with
  | next s_ =>
   obtain ⟨rfl, c9, hJ⟩ := h11
   refine ⟨_, rfl, fun a F => ?_⟩
   have ER := hJ.ev (HE _)
   have H : _ = some r := H
   refine ⟨fun _ => ER.sb, ?_⟩
   refine dy F rfl (fun wq hS => r_move F rfl) ER.sb fun a F => ?_
   refine dy F rfl (fun wq hS => r_move F rfl) ER.sb fun a F => ?_
   refine dy F rfl (fun wq hS => r_move F rfl) ER.sb fun a F => ?_
   refine dy F rfl (fun wq hS => r_nil F rfl) ER.sb fun a F => ?_
   refine dy F rfl (fun wq hS => r_fieldAddr F rfl ff_205_2) ER.sb fun a F => ?_
   refine dy F rfl (fun wq hS => r_load F rfl ag_9 (AT.cell (AT.sb hat hS HM) rfl)) ER.sb fun a F => ?_
   refine dy F rfl (fun wq hS => r_move F rfl) ER.sb fun a F => ?_
   refine dy F rfl (fun wq hS => r_nil F rfl) ER.sb fun a F => ?_
   refine dy F rfl (fun wq hS => r_fieldAddr F rfl ff_205_3) ER.sb fun a F => ?_
   refine dy F rfl (fun wq hS => r_loads (cs := [.slice A1 v.value.length C2, .int .i64 v.rev]) F rfl ag_133 sz_133 (AT.sub (AT.sb hat hS HM) 3 2 (nb rfl))) ER.sb fun a F => ?_
   refine d_e ?_
   obtain ⟨t12, q13, H⟩ := thenC_some H
   refine o_yield F rfl (wanted_yes F rfl rfl (by decide) rfl rfl) rfl (by decide) (r_yield F rfl (vs := [.string k, .agg #[.slice A1 v.value.length C2, .int .i64 v.rev]]) rfl) (HY _ _ _ _ _ _ _ _ hJ (SL.ev h3 ER HM HM) q13) ?_
   rintro e w15 h16
   cases t12 with
   | next s_ =>
    obtain ⟨rfl, c14, hJ⟩ := h16
    refine ⟨_, rfl, fun a F => ?_⟩
    have ER := hJ.ev (HE _)
    have H : _ = some r := H
    refine ⟨fun _ => ER.sb, ?_⟩
    refine dy F rfl (fun wq hS => r_pick_t F rfl rfl rfl) ER.sb fun a F => ?_
    refine dy F rfl (fun wq hS => r_move F rfl) ER.sb fun a F => ?_
    refine dy F rfl (fun wq hS => r_move F rfl) ER.sb fun a F => ?_
    refine dy F rfl (fun wq hS => r_nil F rfl) ER.sb fun a F => ?_
    refine dy F rfl (fun wq hS => r_fieldAddr F rfl ff_205_1) ER.sb fun a F => ?_
    refine dy F rfl (fun wq hS => r_load F rfl ag_130 (AT.cell (AT.sb hat hS HM) rfl)) ER.sb fun a F => ?_
    refine dy F rfl (fun wq hS => r_move F rfl) ER.sb fun a F => ?_
    refine d_e ?_
    refine o_call F rfl (wanted_yes F rfl rfl (by decide) rfl rfl) rfl (by decide) (r_call F Tryz.func171 rfl (by kernel_rfl) rfl) (ihhr _ _ _ _ hr hJ _ H) ?_
    rintro e w18 h19
    cases r with
    | next s_ =>
     obtain ⟨rfl, c17, hJ⟩ := h19
     refine ⟨_, rfl, fun a F => ?_⟩
     have ER := hJ.ev (HE _)
     refine ⟨fun _ => ER.sb, ?_⟩
     refine dy F rfl (fun wq hS => r_pick_t F rfl rfl rfl) ER.sb fun a F => ?_
     refine dq F (fun wq hS => r_pick_f F rfl rfl rfl) ER.sb fun a F => ?_
     refine da F ER.sb fun a F => ?_
     refine d_nil ?_
     refine hK5 _ _ ?_
     have F : Fr a 35 [(4, .bool true)] := F.sub ⟨rfl, trivial⟩
     refine wp_ret ?_
     refine out1 F rfl rfl ?_
     exact ⟨rfl, _, hJ⟩
    | done x_ =>
     obtain ⟨rfl, c17, hX⟩ := h19
     refine ⟨_, rfl, fun a F => ?_⟩
     have ER := HX _ _ _ hX
     refine ⟨fun _ => ER.sb, ?_⟩
     refine dy F rfl (fun wq hS => r_pick_t F rfl rfl rfl) ER.sb fun a F => ?_
     refine dq F (fun wq hS => r_pick_f F rfl rfl rfl) ER.sb fun a F => ?_
     refine da F ER.sb fun a F => ?_
     refine d_nil ?_
     refine hK5 _ _ ?_
     have F : Fr a 35 [(4, .bool false)] := F.sub ⟨rfl, trivial⟩
     refine wp_ret ?_
     refine out1 F rfl rfl ?_
     exact ⟨rfl, _, hX⟩
   | done x_ =>
    obtain ⟨rfl, c14, hX⟩ := h16
    refine ⟨_, rfl, fun a F => ?_⟩
    have ER := HX _ _ _ hX
    have H : Ctl.done _ = r := H
    subst H
    refine ⟨fun _ => ER.sb, ?_⟩
    refine dy F rfl (fun wq hS => r_pick_t F rfl rfl rfl) ER.sb fun a F => ?_
    refine dy F rfl (fun wq hS => r_move F rfl) ER.sb fun a F => ?_
    refine dn F rfl ER.sb fun a F => ?_
    refine dn F rfl ER.sb fun a F => ?_
    refine dn F rfl ER.sb fun a F => ?_
    refine dn F rfl ER.sb fun a F => ?_
    refine dn F rfl ER.sb fun a F => ?_
    refine d_e ?_
    refine o_no F rfl rfl rfl (by decide) rfl rfl rfl (by decide) fun a F => ?_
    refine ⟨fun _ => ER.sb, ?_⟩
    refine dy F rfl (fun wq hS => r_pick_f F rfl rfl rfl) ER.sb fun a F => ?_
    refine dq F (fun wq hS => r_pick_f F rfl rfl rfl) ER.sb fun a F => ?_
    refine da F ER.sb fun a F => ?_
    refine d_nil ?_
    refine hK5 _ _ ?_
    have F : Fr a 35 [(4, .bool false)] := F.sub ⟨rfl, trivial⟩
    refine wp_ret ?_
    refine out1 F rfl rfl ?_
    exact ⟨rfl, _, hX⟩
  | done x_ =>
   obtain ⟨rfl, c9, hX⟩ := h11
   refine ⟨_, rfl, fun a F => ?_⟩
   have ER := HX _ _ _ hX
   have H : Ctl.done _ = r := H
   subst H
   refine ⟨fun _ => ER.sb, ?_⟩
   refine dy F rfl (fun wq hS => r_move F rfl) ER.sb fun a F => ?_
   refine dn F rfl ER.sb fun a F => ?_
   refine dn F rfl ER.sb fun a F => ?_
   refine dn F rfl ER.sb fun a F => ?_
   refine dn F rfl ER.sb fun a F => ?_
   refine dn F rfl ER.sb fun a F => ?_
   refine dn F rfl ER.sb fun a F => ?_
   refine dn F rfl ER.sb fun a F => ?_
   refine dn F rfl ER.sb fun a F => ?_
   refine dn F rfl ER.sb fun a F => ?_
   refine d_e ?_
   refine o_no F rfl rfl rfl (by decide) rfl rfl rfl (by decide) fun a F => ?_
   refine ⟨fun _ => ER.sb, ?_⟩
   refine dy F rfl (fun wq hS => r_pick_f F rfl rfl rfl) ER.sb fun a F => ?_
   refine dy F rfl (fun wq hS => r_move F rfl) ER.sb fun a F => ?_
   refine dn F rfl ER.sb fun a F => ?_
   refine dn F rfl ER.sb fun a F => ?_
   refine dn F rfl ER.sb fun a F => ?_
   refine dn F rfl ER.sb fun a F => ?_
   refine dn F rfl ER.sb fun a F => ?_
   refine d_e ?_
   refine o_no F rfl rfl rfl (by decide) rfl rfl rfl (by decide) fun a F => ?_
   refine ⟨fun _ => ER.sb, ?_⟩
   refine dy F rfl (fun wq hS => r_pick_f F rfl rfl rfl) ER.sb fun a F => ?_
   refine dq F (fun wq hS => r_pick_f F rfl rfl rfl) ER.sb fun a F => ?_
   refine da F ER.sb fun a F => ?_
   refine d_nil ?_
   refine hK5 _ _ ?_
   have F : Fr a 35 [(4, .bool false)] := F.sub ⟨rfl, trivial⟩
   refine wp_ret ?_
   refine out1 F rfl rfl ?_
   exact ⟨rfl, _, hX⟩
theorem tree_Tree_All_1.calls {σ X : Type} {m : Nat} {M : Nat → Prop} {cR : Nat → Nat} {wR : World} {l : Nat} (hm0 : 0 < m) (HM : ¬ M 0) {g : σ → ByteArray → table_cell → Option (Ctl σ X)} {J : σ → (Nat → Nat) → World → Prop} {JX : X → (Nat → Nat) → World → Prop} (HE : ∀ s c w, J s c w → Ev M cR wR c w) (HX : ∀ x c w, JX x c w → Ev M cR wR c w) (HY : ∀ s k (v : table_cell) c w (A4 : Option Addr) (C5 : Nat) r, JS m (J s) c w → SL false (Kint .u8) 0 0 c w A4 C5 v.value → g s k v = some r → YieldAt Fence.wide 0 Tryz.prog l #[.string k, .agg #[.slice A4 v.value.length C5, .int .i64 v.rev]] w (IP (fun s => JS m (J s)) JX r)) (t : Tr) (p : Option Addr) (s : σ) (c : Nat → Nat) (w : World) {own0 : Bool} {jq0 : Nat} {q0 : Addr} (hq0 : AT own0 jq0 c w q0 [.pointer p]) (ht : TR 0 cR wR p t) (hJ : JS m (J s) c w) (r : Ctl σ X) (H : Tr.up g t s = some r) : Calls Tryz.prog 170 #[yv l, .pointer (some q0)] w (IT (fun s => JS m (J s)) JX r) := by
 refine enter (N := 6) (l := [yv l, .pointer (some q0)]) Tryz.func170 rfl rfl (nb rfl) fun a F => ?_
 have ER := hJ.ev (HE _)
 refine reg ?_
 refine qv F (r_load F rfl ag_130 (AT.cell0 hq0 rfl)) fun a F => ?_
 refine qm F fun a F => ?_
 refine qc F Tryz.func171 (tree_Tree_up.calls hm0 HM HE HX HY _ _ _ _ _ ht hJ _ H) ?_
 rintro e w2 h3
 cases r with
 | next s_ =>
  obtain ⟨rfl, c1, hJ⟩ := h3
  refine ⟨_, rfl, fun a F => ?_⟩
  have ER := hJ.ev (HE _)
  refine nil ?_
  refine out0n F rfl ?_
  exact ⟨⟨_, rfl⟩, _, hJ⟩
 | done x_ =>
  obtain ⟨rfl, c1, hX⟩ := h3
  refine ⟨_, rfl, fun a F => ?_⟩
  have ER := HX _ _ _ hX
  refine nil ?_
  refine out0n F rfl ?_
  exact ⟨⟨_, rfl⟩, _, hX⟩
theorem cmp_Less.calls {m : Nat} {c0 : Nat → Nat} {w0 : World} {a1 : ByteArray} {a2 : ByteArray} (hm0 : 0 < m) (B0 : CB m c0 w0) (r : Bool) (H : cmp_Less.f a1 a2 = some r) : Calls Tryz.prog 199 #[.string a1, .string a2] w0 (fun e w_ => ∃ (c_ : Nat → Nat), e = .returned (.bool r) ∧ Ev (fun x => False) c0 w0 c_ w_ ∧ CB m c_ w_) := by
 unfold cmp_Less.f at H
 have B := B0.mono (show m ≤ m + 1 by omega)
 have E : Ev (fun x => False ∨ m ≤ x) c0 w0 c0 w0 := Ev.refl
 refine enter (N := 17) (l := [.string a1, .string a2]) Tryz.func199 rfl rfl (nb rfl) fun a F => ?_
 refine wp_seq_k fun K3 hK3 => reg ?_
 refine qa F fun a F => ?_
 refine nil (hK3 _ _ ?_)
 refine wp_seq_k fun K4 hK4 => reg ?_
 refine qm F fun a F => ?_
 obtain ⟨t5, q6, H⟩ := bind_some H
 refine qc F Tryz.func191 (cmp_isNaN.calls (m := m + 1) (pl hm0) B _ q6) ?_
 rintro e w8 ⟨c7, rfl, E9, B10⟩
 refine ⟨_, rfl, fun a F => ?_⟩
 have B := B10
 replace E := E.trans E9 nx
 refine qm F fun a F => ?_
 by_cases hb12 : t5 = true
 ·replace H := ip hb12 H
  refine qy F hb12 ?_
  refine qm F fun a F => ?_
  obtain ⟨t13, q14, H⟩ := bind_some H
  refine qy F hb12 ?_
  refine qc F Tryz.func191 (cmp_isNaN.calls (m := m + 1) (pl hm0) B _ q14) ?_
  rintro e w16 ⟨c15, rfl, E17, B18⟩
  refine ⟨_, rfl, fun a F => ?_⟩
  have B := B18
  replace E := E.trans E17 nx
  refine qy F hb12 ?_
  refine qv F (r_not F rfl) fun a F => ?_
  refine qv F (r_pick_t F rfl hb12 rfl) fun a F => ?_
  refine qm F fun a F => ?_
  by_cases hb20 : t13 = true
  ·replace H := ip hb20 H
   refine qy F (congrArg not hb20) ?_
   refine qm F fun a F => ?_
   refine qy F (congrArg not hb20) ?_
   refine qm F fun a F => ?_
   refine qy F (congrArg not hb20) ?_
   refine qv F (r_slss F rfl rfl) fun a F => ?_
   refine qv F (r_pick_f F rfl (congrArg not hb20) rfl) fun a F => ?_
   refine qa F fun a F => ?_
   refine nil (hK4 _ _ ?_)
   replace F : Fr a 17 [(4, .bool (Op.bytesLess a1.toList a2.toList))] := F.sub ⟨rfl, trivial⟩
   refine wp_ret ?_
   replace H := si H
   subst H
   refine out1 F rfl rfl ?_
   exact ⟨cf (fun x_ => if x_ < m then x_ else 0) c15, rfl, E.lv B0, cfb⟩
  replace H := im hb20 H
  refine qn F (congrArg not (bfalse hb20)) fun a F => ?_
  refine qn F (congrArg not (bfalse hb20)) fun a F => ?_
  refine qn F (congrArg not (bfalse hb20)) fun a F => ?_
  refine qv F (r_pick_t F rfl (congrArg not (bfalse hb20)) rfl) fun a F => ?_
  refine qa F fun a F => ?_
  refine nil (hK4 _ _ ?_)
  replace F : Fr a 17 [(4, .bool true)] := F.sub ⟨rfl, trivial⟩
  refine wp_ret ?_
  replace H := si H
  subst H
  refine out1 F rfl rfl ?_
  exact ⟨cf (fun x_ => if x_ < m then x_ else 0) c15, rfl, E.lv B0, cfb⟩
 replace H := im hb12 H
 refine qn F (bfalse hb12) fun a F => ?_
 refine qn F (bfalse hb12) fun a F => ?_
 refine qn F (bfalse hb12) fun a F => ?_
 refine qv F (r_pick_f F rfl (bfalse hb12) rfl) fun a F => ?_
 refine qm F fun a F => ?_
 refine qy F rfl ?_
 refine qm F fun a F => ?_
 refine qy F rfl ?_
 refine qm F fun a F => ?_
 refine qy F rfl ?_
 refine qv F (r_slss F rfl rfl) fun a F => ?_
 refine qv F (r_pick_f F rfl rfl rfl) fun a F => ?_
 refine qa F fun a F => ?_
 refine nil (hK4 _ _ ?_)
 replace F : Fr a 17 [(4, .bool (Op.bytesLess a1.toList a2.toList))] := F.sub ⟨rfl, trivial⟩
 refine wp_ret ?_
 replace H := si H
 subst H
 refine out1 F rfl rfl ?_
 exact ⟨cf (fun x_ => if x_ < m then x_ else 0) c7, rfl, E.lv B0, cfb⟩
theorem tree_Tree_from.calls {σ X : Type} {m : Nat} {M : Nat → Prop} {cR : Nat → Nat} {wR : World} {l : Nat} (hm0 : 0 < m) (HM : ¬ M 0) {g : σ → ByteArray → table_cell → Option (Ctl σ X)} {J : σ → (Nat → Nat) → World → Prop} {JX : X → (Nat → Nat) → World → Prop} (HE : ∀ s c w, J s c w → Ev M cR wR c w) (HX : ∀ x c w, JX x c w → Ev M cR wR c w) (HY : ∀ s k (v : table_cell) c w (A35 : Option Addr) (C36 : Nat) r, JS m (J s) c w → SL false (Kint .u8) 0 0 c w A35 C36 v.value → g s k v = some r → YieldAt Fence.wide 0 Tryz.prog l #[.string k, .agg #[.slice A35 v.value.length C36, .int .i64 v.rev]] w (IP (fun s => JS m (J s)) JX r)) (key : ByteArray) (t : Tr) : ∀ (p : Option Addr) (s : σ) (c : Nat → Nat) (w : World), TR 0 cR wR p t → JS m (J s) c w → ∀ (r : Ctl σ X), Tr.from key g t s = some r → Calls Tryz.prog 190 #[.pointer p, .string key, yv l] w (IP (fun s => JS m (J s)) JX r) := by
 induction t with
 | nil =>
  intro p s0 c w ht hJ r H
  have ht : p = none := ht
  subst ht
  have H : some (Ctl.next s0) = some r := H
  refine enter (N := 49) (l := [.pointer none, .string key, yv l]) Tryz.func190 rfl rfl (nb rfl) fun a F => ?_
  have ER := hJ.ev (HE _)
  refine wp_seq_k fun K1 hK1 => reg ?_
  refine qa F fun a F => ?_
  refine nil (hK1 _ _ ?_)
  refine wp_seq_k fun K2 hK2 => ?_
  refine wp_seq_k fun K3 hK3 => reg ?_
  refine qm F fun a F => ?_
  refine qv F (r_peql F Tryz.underlying130 rfl rfl) fun a F => ?_
  refine nil (hK3 _ _ ?_)
  refine wp_cond_true (F.ev rfl) ?_
  refine wp_seq_k fun K4 hK4 => reg ?_
  refine qa F fun a F => ?_
  refine nil (hK4 _ _ ?_)
  refine wp_ret ?_
  refine thenR ?_
  have H := si H
  subst H
  refine out1 F rfl rfl ?_
  exact ⟨rfl, _, hJ⟩
 | node tl tr k v s d ihhl ihhr =>
  intro p s0 c w ht hJ r H
  obtain ⟨ad, lp, rp, A1, C2, rfl, hat, h3, hl, hr⟩ := TR.node ht
  have H : ((cmp_Less.f k key).bind fun b => if b = true then Tr.from key g tr s0 else thenC (Tr.from key g tl s0) fun s => thenC (g s k v) fun s => Tr.up g tr s) = some r := H
  refine enter (N := 49) (l := [.pointer (some ad), .string key, yv l]) Tryz.func190 rfl rfl (nb rfl) fun a F => ?_
  have ER := hJ.ev (HE _)
  refine wp_seq_k fun K4 hK4 => reg ?_
  refine qa F fun a F => ?_
  refine nil (hK4 _ _ ?_)
  refine wp_seq_k fun K5 hK5 => ?_
  refine wp_seq_k fun K6 hK6 => reg ?_
  refine qm F fun a F => ?_
  refine qv F (r_peql F Tryz.underlying130 rfl rfl) fun a F => ?_
  refine nil (hK6 _ _ ?_)
  refine wp_cond_false (F.ev rfl) (wp_skip (hK5 _ _ ?_))
  refine wp_seq_k fun K7 hK7 => ?_
  refine wp_seq_k fun K8 hK8 => reg ?_
  refine qm F fun a F => ?_
  refine qv F (r_nil F rfl) fun a F => ?_
  refine qf F ff_205_2 fun a F => ?_
  refine qv F (r_load F rfl ag_9 (AT.cell (AT.sb hat ER.sb HM) rfl)) fun a F => ?_
  refine qm F fun a F => ?_
  obtain ⟨t9, q10, H⟩ := bind_some H
  refine qc F Tryz.func199 (cmp_Less.calls (m := m) hm0 hJ.1 _ q10) ?_
  rintro e w12 ⟨c11, rfl, E13, B14⟩
  refine ⟨_, rfl, fun a F => ?_⟩
  have hJ := hJ.step E13 B14
  have ER := hJ.ev (HE _)
  refine nil (hK8 _ _ ?_)
  by_cases hb15 : t9 = true
  ·have H := (if_pos hb15).symm.trans H
   refine wp_cond_true (fb F hb15) ?_
   refine wp_seq_k fun K16 hK16 => reg ?_
   refine qm F fun a F => ?_
   refine qv F (r_nil F rfl) fun a F => ?_
   refine qf F ff_205_1 fun a F => ?_
   refine qv F (r_load F rfl ag_130 (AT.cell (AT.sb hat ER.sb HM) rfl)) fun a F => ?_
   refine qm F fun a F => ?_
   refine qm F fun a F => ?_
   refine qc F Tryz.func190 (ihhr _ _ _ _ hr hJ _ H) ?_
   rintro e w18 h19
   cases r with
   | next s_ =>
    obtain ⟨rfl, c17, hJ⟩ := h19
    refine ⟨_, rfl, fun a F => ?_⟩
    have ER := hJ.ev (HE _)
    refine qa F fun a F => ?_
    refine nil (hK16 _ _ ?_)
    have F : Fr a 49 [(6, .bool true)] := F.sub ⟨rfl, trivial⟩
    refine wp_ret ?_
    refine thenR ?_
    refine out1 F rfl rfl ?_
    exact ⟨rfl, _, hJ⟩
   | done x_ =>
    obtain ⟨rfl, c17, hX⟩ := h19
    refine ⟨_, rfl, fun a F => ?_⟩
    have ER := HX _ _ _ hX
    refine qa F fun a F => ?_
    refine nil (hK16 _ _ ?_)
    have F : Fr a 49 [(6, .bool false)] := F.sub ⟨rfl, trivial⟩
    refine wp_ret ?_
    refine thenR ?_
    refine out1 F rfl rfl ?_
    exact ⟨rfl, _, hX⟩
  have H := (if_neg hb15).symm.trans H
  refine wp_cond_false (fb F (bfalse hb15)) (wp_skip (hK7 _ _ ?_))
  refine wp_seq_k fun K20 hK20 => ?_
  refine regD (SB M cR wR) 28 (.q 0 (.q 1 (.q 2 (.q 3 (.q 4 (.q 5 (.e 6 (.q 7 (.q 8 (.q 9 (.q 10 (.q 11 (.q 12 (.q 13 (.q 14 (.q 15 (.q 16 (.e 17 (.q 18 (.q 19 (.q 20 (.q 21 (.q 22 (.q 23 (.q 24 (.e 25 (.q 26 (.q 27 .nil)))))))))))))))))))))))))))) Tryz_hm (by decide +kernel) ?_
  intro w21 w1_ w2_ w3_ w4_
  have hJ := hJ.step (Ev.same w1_ w2_ w3_ w4_) (hJ.1.same w1_)
  have ER := hJ.ev (HE _)
  refine dm F ER.sb fun a F => ?_
  refine dq F (fun wq hS => r_nil F rfl) ER.sb fun a F => ?_
  refine df F ff_205_0 ER.sb fun a F => ?_
  refine dq F (fun wq hS => r_load F rfl ag_130 (AT.cell (AT.sb hat hS HM) rfl)) ER.sb fun a F => ?_
  refine dm F ER.sb fun a F => ?_
  refine dm F ER.sb fun a F => ?_
  refine d_e ?_
  obtain ⟨t22, q23, H⟩ := thenC_some H
  refine oc F Tryz.func190 (ihhl _ _ _ _ hl hJ _ q23) ?_
  rintro e w25 h26
  cases t22 with
  | next s_ =>
   obtain ⟨rfl, c24, hJ⟩ := h26
   refine ⟨_, rfl, fun a F => ?_⟩
   have ER := hJ.ev (HE _)
   have H : _ = some r := H
   refine ⟨fun _ => ER.sb, ?_⟩
   refine dm F ER.sb fun a F => ?_
   refine dy F rfl (fun wq hS => r_move F rfl) ER.sb fun a F => ?_
   refine dy F rfl (fun wq hS => r_move F rfl) ER.sb fun a F => ?_
   refine dy F rfl (fun wq hS => r_nil F rfl) ER.sb fun a F => ?_
   refine dy F rfl (fun wq hS => r_fieldAddr F rfl ff_205_2) ER.sb fun a F => ?_
   refine dy F rfl (fun wq hS => r_load F rfl ag_9 (AT.cell (AT.sb hat hS HM) rfl)) ER.sb fun a F => ?_
   refine dy F rfl (fun wq hS => r_move F rfl) ER.sb fun a F => ?_
   refine dy F rfl (fun wq hS => r_nil F rfl) ER.sb fun a F => ?_
   refine dy F rfl (fun wq hS => r_fieldAddr F rfl ff_205_3) ER.sb fun a F => ?_
   refine dy F rfl (fun wq hS => r_loads (cs := [.slice A1 v.value.length C2, .int .i64 v.rev]) F rfl ag_133 sz_133 (AT.sub (AT.sb hat hS HM) 3 2 (nb rfl))) ER.sb fun a F => ?_
   refine d_e ?_
   obtain ⟨t27, q28, H⟩ := thenC_some H
   refine o_yield F rfl (wanted_yes F rfl rfl (by decide) rfl rfl) rfl (by decide) (r_yield F rfl (vs := [.string k, .agg #[.slice A1 v.value.length C2, .int .i64 v.rev]]) rfl) (HY _ _ _ _ _ _ _ _ hJ (SL.ev h3 ER HM HM) q28) ?_
   rintro e w30 h31
   cases t27 with
   | next s_ =>
    obtain ⟨rfl, c29, hJ⟩ := h31
    refine ⟨_, rfl, fun a F => ?_⟩
    have ER := hJ.ev (HE _)
    have H : _ = some r := H
    refine ⟨fun _ => ER.sb, ?_⟩
    refine dq F (fun wq hS => r_pick_t F rfl rfl rfl) ER.sb fun a F => ?_
    refine dm F ER.sb fun a F => ?_
    refine dy F rfl (fun wq hS => r_move F rfl) ER.sb fun a F => ?_
    refine dy F rfl (fun wq hS => r_nil F rfl) ER.sb fun a F => ?_
    refine dy F rfl (fun wq hS => r_fieldAddr F rfl ff_205_1) ER.sb fun a F => ?_
    refine dy F rfl (fun wq hS => r_load F rfl ag_130 (AT.cell (AT.sb hat hS HM) rfl)) ER.sb fun a F => ?_
    refine dy F rfl (fun wq hS => r_move F rfl) ER.sb fun a F => ?_
    refine d_e ?_
    refine o_call F rfl (wanted_yes F rfl rfl (by decide) rfl rfl) rfl (by decide) (r_call F Tryz.func171 rfl (by kernel_rfl) rfl) (tree_Tree_up.calls hm0 HM HE HX HY _ _ _ _ _ hr hJ _ H) ?_
    rintro e w33 h34
    cases r with
    | next s_ =>
     obtain ⟨rfl, c32, hJ⟩ := h34
     refine ⟨_, rfl, fun a F => ?_⟩
     have ER := hJ.ev (HE _)
     refine ⟨fun _ => ER.sb, ?_⟩
     refine dq F (fun wq hS => r_pick_t F rfl rfl rfl) ER.sb fun a F => ?_
     refine da F ER.sb fun a F => ?_
     refine d_nil ?_
     refine hK20 _ _ ?_
     have F : Fr a 49 [(6, .bool true)] := F.sub ⟨rfl, trivial⟩
     refine wp_ret ?_
     refine out1 F rfl rfl ?_
     exact ⟨rfl, _, hJ⟩
    | done x_ =>
     obtain ⟨rfl, c32, hX⟩ := h34
     refine ⟨_, rfl, fun a F => ?_⟩
     have ER := HX _ _ _ hX
     refine ⟨fun _ => ER.sb, ?_⟩
     refine dq F (fun wq hS => r_pick_t F rfl rfl rfl) ER.sb fun a F => ?_
     refine da F ER.sb fun a F => ?_
     refine d_nil ?_
     refine hK20 _ _ ?_
     have F : Fr a 49 [(6, .bool false)] := F.sub ⟨rfl, trivial⟩
     refine wp_ret ?_
     refine out1 F rfl rfl ?_
     exact ⟨rfl, _, hX⟩
   | done x_ =>
    obtain ⟨rfl, c29, hX⟩ := h31
    refine ⟨_, rfl, fun a F => ?_⟩
    have ER := HX _ _ _ hX
    have H : Ctl.done _ = r := H
    subst H
    refine ⟨fun _ => ER.sb, ?_⟩
    refine dq F (fun wq hS => r_pick_t F rfl rfl rfl) ER.sb fun a F => ?_
    refine dm F ER.sb fun a F => ?_
    refine dn F rfl ER.sb fun a F => ?_
    refine dn F rfl ER.sb fun a F => ?_
    refine dn F rfl ER.sb fun a F => ?_
    refine dn F rfl ER.sb fun a F => ?_
    refine dn F rfl ER.sb fun a F => ?_
    refine d_e ?_
    refine o_no F rfl rfl rfl (by decide) rfl rfl rfl (by decide) fun a F => ?_
    refine ⟨fun _ => ER.sb, ?_⟩
    refine dq F (fun wq hS => r_pick_f F rfl rfl rfl) ER.sb fun a F => ?_
    refine da F ER.sb fun a F => ?_
    refine d_nil ?_
    refine hK20 _ _ ?_
    have F : Fr a 49 [(6, .bool false)] := F.sub ⟨rfl, trivial⟩
    refine wp_ret ?_
    refine out1 F rfl rfl ?_
    exact ⟨rfl, _, hX⟩
  | done x_ =>
   obtain ⟨rfl, c24, hX⟩ := h26
   refine ⟨_, rfl, fun a F => ?_⟩
   have ER := HX _ _ _ hX
   have H : Ctl.done _ = r := H
   subst H
   refine ⟨fun _ => ER.sb, ?_⟩
   refine dm F ER.sb fun a F => ?_
   refine dn F rfl ER.sb fun a F => ?_
   refine dn F rfl ER.sb fun a F => ?_
   refine dn F rfl ER.sb fun a F => ?_
   refine dn F rfl ER.sb fun a F => ?_
   refine dn F rfl ER.sb fun a F => ?_
   refine dn F rfl ER.sb fun a F => ?_
   refine dn F rfl ER.sb fun a F => ?_
   refine dn F rfl ER.sb fun a F => ?_
   refine dn F rfl ER.sb fun a F => ?_
   refine d_e ?_
   refine o_no F rfl rfl rfl (by decide) rfl rfl rfl (by decide) fun a F => ?_
   refine ⟨fun _ => ER.sb, ?_⟩
   refine dq F (fun wq hS => r_pick_f F rfl rfl rfl) ER.sb fun a F => ?_
   refine dm F ER.sb fun a F => ?_
   refine dn F rfl ER.sb fun a F => ?_
   refine dn F rfl ER.sb fun a F => ?_
   refine dn F rfl ER.sb fun a F => ?_
   refine dn F rfl ER.sb fun a F => ?_
   refine dn F rfl ER.sb fun a F => ?_
   refine d_e ?_
   refine o_no F rfl rfl rfl (by decide) rfl rfl rfl (by decide) fun a F => ?_
   refine ⟨fun _ => ER.sb, ?_⟩
   refine dq F (fun wq hS => r_pick_f F rfl rfl rfl) ER.sb fun a F => ?_
   refine da F ER.sb fun a F => ?_
   refine d_nil ?_
   refine hK20 _ _ ?_
   have F : Fr a 49 [(6, .bool false)] := F.sub ⟨rfl, trivial⟩
   refine wp_ret ?_
   refine out1 F rfl rfl ?_
   exact ⟨rfl, _, hX⟩
theorem tree_Tree_From_1.calls {σ X : Type} {m : Nat} {M : Nat → Prop} {cR : Nat → Nat} {wR : World} {l : Nat} (hm0 : 0 < m) (HM : ¬ M 0) {g : σ → ByteArray → table_cell → Option (Ctl σ X)} {J : σ → (Nat → Nat) → World → Prop} {JX : X → (Nat → Nat) → World → Prop} (HE : ∀ s c w, J s c w → Ev M cR wR c w) (HX : ∀ x c w, JX x c w → Ev M cR wR c w) (HY : ∀ s k (v : table_cell) c w (A4 : Option Addr) (C5 : Nat) r, JS m (J s) c w → SL false (Kint .u8) 0 0 c w A4 C5 v.value → g s k v = some r → YieldAt Fence.wide 0 Tryz.prog l #[.string k, .agg #[.slice A4 v.value.length C5, .int .i64 v.rev]] w (IP (fun s => JS m (J s)) JX r)) (t : Tr) (p : Option Addr) (key : ByteArray) (s : σ) (c : Nat → Nat) (w : World) {own0 : Bool} {jq0 : Nat} {q0 : Addr} (hq0 : AT own0 jq0 c w q0 [.pointer p]) {own1 : Bool} {jq1 : Nat} {q1 : Addr} (hq1 : AT own1 jq1 c w q1 [.string key]) (ht : TR 0 cR wR p t) (hJ : JS m (J s) c w) (r : Ctl σ X) (H : Tr.from key g t s = some r) : Calls Tryz.prog 189 #[yv l, .pointer (some q0), .pointer (some q1)] w (IT (fun s => JS m (J s)) JX r) := by
 refine enter (N := 8) (l := [yv l, .pointer (some q0), .pointer (some q1)]) Tryz.func189 rfl rfl (nb rfl) fun a F => ?_
 have ER := hJ.ev (HE _)
 refine reg ?_
 refine qv F (r_load F rfl ag_130 (AT.cell0 hq0 rfl)) fun a F => ?_
 refine qv F (r_load F rfl ag_9 (AT.cell0 hq1 rfl)) fun a F => ?_
 refine qm F fun a F => ?_
 refine qc F Tryz.func190 (tree_Tree_from.calls hm0 HM HE HX HY key _ _ _ _ _ ht hJ _ H) ?_
 rintro e w2 h3
 cases r with
 | next s_ =>
  obtain ⟨rfl, c1, hJ⟩ := h3
  refine ⟨_, rfl, fun a F => ?_⟩
  have ER := hJ.ev (HE _)
  refine nil ?_
  refine out0n F rfl ?_
  exact ⟨⟨_, rfl⟩, _, hJ⟩
 | done x_ =>
  obtain ⟨rfl, c1, hX⟩ := h3
  refine ⟨_, rfl, fun a F => ?_⟩
  have ER := HX _ _ _ hX
  refine nil ?_
  refine out0n F rfl ?_
  exact ⟨⟨_, rfl⟩, _, hX⟩
theorem ITR.go {j : Nat} {cR : Nat → Nat} {wR : World} {v : Value} {i : It} (hi : ITR j cR wR v i) : ∃ gf lb, v = .func (.func gf) #[] lb ∧ (∀ args w, (callFunc gf args).run Tryz.prog w = .ok (.enter gf args) w) ∧
  ∀ {σ X : Type} {m : Nat} {M : Nat → Prop}  {l : Nat} (hm0 : 0 < m) (HM : ¬ M 0) {g : σ → ByteArray → table_cell → Option (Ctl σ X)} {J : σ → (Nat → Nat) → World → Prop} {JX : X → (Nat → Nat) → World → Prop} (HE : ∀ s c w, J s c w → Ev M cR wR c w) (HX : ∀ x c w, JX x c w → Ev M cR wR c w) (HY : ∀ s k (v : table_cell) c w (A1 : Option Addr) (C2 : Nat) r, JS m (J s) c w → SL false (Kint .u8) 0 0 c w A1 C2 v.value → g s k v = some r → YieldAt Fence.wide 0 Tryz.prog l #[.string k, .agg #[.slice A1 v.value.length C2, .int .i64 v.rev]] w (IP (fun s => JS m (J s)) JX r)) (c1 : Nat → Nat) (w1 : World) (E1 : Ev No cR wR c1 w1) (s : σ) (hJ : JS m (J s) c1 w1) (r : Ctl σ X) (H : It.run g i s = some r), Calls Tryz.prog gf (#[yv l] ++ lb) w1 (IT (fun s => JS m (J s)) JX r) := by
 cases i with
 | all t =>
  obtain ⟨q, p, e, h, ht⟩ := hi
  refine ⟨_, _, e, callFunc_go Tryz.func170 (by kernel_rfl) rfl, ?_⟩
  intro σ X m M l hm0 HM g J JX HE HX HY c1 w1 E1 s hJ r H
  exact tree_Tree_All_1.calls hm0 HM HE HX HY t p s c1 w1 (h.ev E1 (fun q => q)) ht hJ r H
 | «from» t k =>
  obtain ⟨q, q1, p, e, h, h1, ht⟩ := hi
  refine ⟨_, _, e, callFunc_go Tryz.func189 (by kernel_rfl) rfl, ?_⟩
  intro σ X m M l hm0 HM g J JX HE HX HY c1 w1 E1 s hJ r H
  exact tree_Tree_From_1.calls hm0 HM HE HX HY t p k s c1 w1 (h.ev E1 (fun q => q)) (h1.ev E1 (fun q => q)) ht hJ r H
set_option maxHeartbeats 1000000 in
theorem ITR.range {j : Nat} {c : Nat → Nat} {w : World} {u : Value} {i : It} (hi : ITR j c w u i) {S X : Type} {m y z N : Nat} {M : Nat → Prop} {L : List (Nat × Value)} {D : List Deferred} {a : Act} {g0 : Operand} {p1 p2 : Tmp} {assign body : Code} {Q : Exit → Act → World → Prop} {g : S → ByteArray → table_cell → Option (Ctl S X)} (J : S → (Nat → Nat) → World → Prop) (JX : X → (Nat → Nat) → World → Prop)
  (F : Fr a N L D) (hg : G.ev L g0 = some u) (h1 : p1 < N) (h2 : p2 < N) (hy : y < m) (hz : z < m) (hyz : z ≠ y) (h0y : 0 < m) (HM : ¬ M 0) (B : CB m c w)
  (JE : ∀ s c1 w1, J s c1 w1 → Ev M c w c1 w1) (JXE : ∀ x c1 w1, JX x c1 w1 → Ev M c w c1 w1)
  (Jst : ∀ s c1 w1 c2 w2, J s c1 w1 → Ev (fun x => x = y) c1 w1 c2 w2 → J s c2 w2) (JXst : ∀ x c1 w1 c2 w2, JX x c1 w1 → Ev (fun x => x = y) c1 w1 c2 w2 → JX x c2 w2)
  (s0 : S) (h0 : J s0 c w) (xv : Ctl S X) (HL : It.run g i s0 = some xv)
  (round : ∀ (bd l : Nat) (rec_ : Loop) (s : S) (k : ByteArray) (v : table_cell) (c1 : Nat → Nat) (w1 : World) (A1 : Option Addr) (C2 : Nat) (r : Ctl S X), J s c1 w1 → CB m c1 w1 → OBJ z c1 w1 bd (.deferred (some [])) → OBJ y c1 w1 l (.loop rec_) → SL false (Kint .u8) 0 0 c1 w1 A1 C2 v.value → g s k v = some r → ∀ a1, Fr a1 N ((p2, .agg #[.slice A1 v.value.length C2, .int .i64 v.rev]) :: (p1, .string k) :: L) →
   assign.wpIn (Fw (some l)) 0 Tryz.prog (Exit.then (fun a2 w2 => ∃ c2, OBJ y c2 w2 l (.loop rec_) ∧ ∀ w3, Ev (fun x => x = y) c2 w2 c2 w3 → OBJ y c2 w3 l (.loop (lbusy rec_)) → w3.heap.size = w2.heap.size →
    body.wpIn (Fw (some l)) 0 Tryz.prog (RE y l rec_ (fun c4 w4 => r.el (fun s' => J s' c4 w4 ∧ CB m c4 w4 ∧ OBJ z c4 w4 bd (.deferred (some []))) (fun _ => False)) (fun jc c4 w4 => jc = .ret ∧ r.el (fun _ => False) (fun x => JX x c4 w4 ∧ CB m c4 w4 ∧ OBJ z c4 w4 bd (.deferred (some []))))) a2 w3) (fun _ _ _ => False)) a1 w1)
  (normal : ∀ s', xv = .next s' → ∀ c2 w2 bd, J s' c2 w2 → CB m c2 w2 → OBJ z c2 w2 bd (.deferred (some [])) → ∀ a', Fr a' N L ({ target := .collected bd, args := #[] } :: D) → Q .normal a' w2)
  (exit : ∀ x, xv = .done x → ∀ c2 w2 bd, JX x c2 w2 → CB m c2 w2 → OBJ z c2 w2 bd (.deferred (some [])) → ∀ a', Fr a' N L ({ target := .collected bd, args := #[] } :: D) → Q .ret a' w2) :
  (Code.rangeFunc g0 #[p1, p2] assign body).wp Tryz.prog Q a w := by
 obtain ⟨gf, lb, rfl, eg, hrun⟩ := ITR.go hi
 refine range_wp F hg eg c y z ?_
 intro fn bd l c1 w1 E1 hb hl hB hne
 have B1 := hB m B hy hz
 have no : ∀ x, No x → x = y := fun _ q => q.elim
 refine (hrun (σ := S) (X := X) (m := m) (M := M) (l := l) h0y HM (g := g) (J := fun s c1 w1 => J s c1 w1 ∧ OBJ z c1 w1 bd (.deferred (some [])) ∧ OBJ y c1 w1 l (.loop (lrec fn a.tmps #[p1, p2] assign body bd)))
  (JX := fun x c1 w1 => JX x c1 w1 ∧ CB m c1 w1 ∧ OBJ z c1 w1 bd (.deferred (some [])) ∧ OBJ y c1 w1 l (.loop (ldone (lrec fn a.tmps #[p1, p2] assign body bd) .ret))) (fun s c1 w1 h => JE _ _ _ h.1) (fun x c1 w1 h => JXE _ _ _ h.1) ?_ c1 w1 E1 s0 (JS.mk B1 ⟨Jst _ _ _ _ _ h0 (E1.mono no), hb, hl⟩) xv HL).mono ?_
 ·intro s k v c2 w2 A1 C2 r hjs h3 Hg
  obtain ⟨B2, c3, w3, ⟨hJ, hb3, hl3⟩, E3⟩ := hjs
  have hJ := Jst _ _ _ _ _ hJ (E3.mono no)
  have hb2 := hb3.ev E3 (fun q => q)
  have hl2 := hl3.ev E3 (fun q => q)
  refine YieldAt.mono (round2 F h1 h2 hl2 (G := fun c4 w4 => r.el (fun s' => J s' c4 w4 ∧ CB m c4 w4 ∧ OBJ z c4 w4 bd (.deferred (some []))) (fun _ => False)) (X := fun jc c4 w4 => jc = .ret ∧ r.el (fun _ => False) (fun x => JX x c4 w4 ∧ CB m c4 w4 ∧ OBJ z c4 w4 bd (.deferred (some [])))) (fun a1 F1 => round bd l _ s k v c2 w2 A1 C2 r hJ B2 hb2 hl2 h3 Hg a1 F1)) ?_
  rintro e W (⟨rfl, c4, V, hG, E4, hl4, hz4⟩ | ⟨rfl, jc, c4, V, hX, E4, hl4, hz4⟩)
  ·cases r with
   | next s' =>
    obtain ⟨hJ', B', hb'⟩ := hG
    exact ⟨rfl, c4, JS.mk (B'.size hz4) ⟨Jst _ _ _ _ _ hJ' E4, hb'.ev E4 (fun q => hyz q), hl4⟩⟩
   | done x => exact hG.elim
  cases r with
  | next s' => exact hX.2.elim
  | done x =>
   obtain ⟨rfl, hX, B', hb'⟩ := hX
   exact ⟨rfl, c4, JXst _ _ _ _ _ hX E4, B'.size hz4, hb'.ev E4 (fun q => hyz q), hl4⟩
 rintro e W ⟨hv, hr⟩
 cases xv with
 | next s' =>
  obtain ⟨c4, B4, c5, w5, ⟨hJ, hb5, hl5⟩, E5⟩ := hr
  refine ⟨hv, c4, none, hl5.ev E5 (fun q => q), fun W' E' Z' _ a' F' => ?_⟩
  exact normal s' rfl c4 W' bd (Jst _ _ _ _ _ (Jst _ _ _ _ _ hJ (E5.mono no)) E') (B4.size Z') ((hb5.ev E5 (fun q => q)).ev E' (fun q => hyz q)) a' F'
 | done x =>
  obtain ⟨c4, hX, B4, hb4, hl4⟩ := hr
  refine ⟨hv, c4, some .ret, hl4, fun W' E' Z' _ a' F' => ?_⟩
  refine wp_ret ?_
  exact exit x rfl c4 W' bd (JXst _ _ _ _ _ hX E') (B4.size Z') (hb4.ev E' (fun q => hyz q)) a' F'
theorem tree_Tree_From.calls {m : Nat} {c0 : Nat → Nat} {w0 : World} {p2 : Option Addr} {a1 : Tr} {a4 : ByteArray} (hm0 : 0 < m) (B0 : CB m c0 w0) (h3 : TR 0 c0 w0 p2 a1) (jr22 : Nat) (bjr22 : jr22 < m) (r : It) (H : tree_Tree_From.f a1 a4 = some r) : Calls Tryz.prog 176 #[.pointer p2, .string a4] w0 (fun e w_ => ∃ (c_ : Nat → Nat) (V0_ : Value), e = .returned (V0_) ∧ Ev (fun x => False) c0 w0 c_ w_ ∧ CB m c_ w_ ∧ ITR jr22 c_ w_ V0_ r) := by
 unfold tree_Tree_From.f at H
 have B := B0.mono (show m ≤ m + 2 by omega)
 have E : Ev (fun x => False ∨ m ≤ x) c0 w0 c0 w0 := Ev.refl
 refine enter (N := 6) (l := [.pointer p2, .string a4]) Tryz.func176 rfl rfl (nb rfl) fun a F => ?_
 refine wp_seq_k fun K5 hK5 => reg ?_
 refine q_eff F rfl rfl (by decide) (e_box F (v := .pointer p2) rfl c0 (m + 1)) ?_
 rintro v w7 a ⟨c6, qa8, rfl, E9, h10, B11⟩ F
 replace B := B11 _ B lm
 replace h3 := h3.ev E9 nq nq
 replace E := E.trans E9 nx
 replace h10 : AT true (m + 1) c6 w7 qa8 [.pointer p2] := h10
 refine q_eff F rfl rfl (by decide) (e_box F (v := .string a4) rfl c6 (m + 1)) ?_
 rintro v w14 a ⟨c13, qa15, rfl, E16, h17, B18⟩ F
 replace B := B18 _ B lm
 replace h3 := h3.ev E16 nq nq
 replace h10 := h10.ev E16 nq
 replace E := E.trans E16 nx
 replace h17 : AT true (m + 1) c13 w14 qa15 [.string a4] := h17
 refine qa F fun a F => ?_
 refine nil (hK5 _ _ ?_)
 refine wp_seq_k fun K20 hK20 => reg ?_
 refine qv F (r_makeFunc (vs := [.pointer (some qa8), .pointer (some qa15)]) F rfl) fun a F => ?_
 refine qa F fun a F => ?_
 refine nil (hK20 _ _ ?_)
 refine wp_ret ?_
 have h21 : ITR (m + 1) c13 w14 (.func (.func 189) #[] #[.pointer (some qa8), .pointer (some qa15)]) (.from a1 a4) := ⟨qa8, qa15, p2, rfl, h10, h17, h3⟩
 replace H := si H
 subst H
 refine out1 F rfl rfl ?_
 exact ⟨cf (fun x_ => if x_ = m + 1 then jr22 else if x_ < m then x_ else 0) c13, (.func (.func 189) #[] #[.pointer (some qa8), .pointer (some qa15)]), rfl, E.lv B0, cfb, ITR.rc h21 cfk cfk⟩
theorem tree_Tree_Seek.calls {m : Nat} {c0 : Nat → Nat} {w0 : World} {p2 : Option Addr} {a1 : Tr} {a4 : ByteArray} (hm0 : 0 < m) (B0 : CB m c0 w0) (h3 : TR 0 c0 w0 p2 a1) (r : ByteArray × table_cell × Bool) (H : tree_Tree_Seek.f a1 a4 = some r) : Calls Tryz.prog 151 #[.pointer p2, .string a4] w0 (fun e w_ => ∃ (c_ : Nat → Nat) (A0_ : Option Addr) (C0_ : Nat), e = .returned (.tuple #[.string r.1, .agg #[.slice A0_ r.2.1.value.length C0_, .int .i64 r.2.1.rev], .bool r.2.2]) ∧ Ev (fun x => False) c0 w0 c_ w_ ∧ CB m c_ w_ ∧ SL false (Kint .u8) 0 0 c_ w_ A0_ C0_ r.2.1.value) := by
 unfold tree_Tree_Seek.f at H
 have B := B0.mono (show m ≤ m + 8 by omega)
 have E : Ev (fun x => False ∨ m ≤ x) c0 w0 c0 w0 := Ev.refl
 refine enterM (N := 18) (l := [.pointer p2, .string a4]) Tryz.func151 rfl rfl (nb rfl) fun a F => ?_
 refine wp_seq_k fun K5 hK5 => reg ?_
 refine q_eff F rfl rfl (by decide) (e_alloc F zv_9 c0 (m + 1)) ?_
 rintro v w7 a ⟨c6, qa8, rfl, E9, h10, B11⟩ F
 replace B := B11 _ B lm
 replace h3 := h3.ev E9 nq nq
 replace E := E.trans E9 nx
 replace h10 : AT true (m + 1) c6 w7 qa8 [.string .empty] := h10
 refine q_eff F rfl rfl (by decide) (e_alloc F zv_133 c6 (m + 2)) ?_
 rintro v w14 a ⟨c13, qa15, rfl, E16, h17, B18⟩ F
 replace B := B18 _ B lm
 replace h3 := h3.ev E16 nq nq
 replace h10 := h10.ev E16 nq
 replace E := E.trans E16 nx
 replace h17 : AT true (m + 2) c13 w14 qa15 [.slice none 0 0, .int .i64 0] := h17
 refine q_eff F rfl rfl (by decide) (e_alloc F zv_4 c13 (m + 3)) ?_
 rintro v w21 a ⟨c20, qa22, rfl, E23, h24, B25⟩ F
 replace B := B25 _ B lm
 replace h3 := h3.ev E23 nq nq
 replace h10 := h10.ev E23 nq
 replace h17 := h17.ev E23 nq
 replace E := E.trans E23 nx
 replace h24 : AT true (m + 3) c20 w21 qa22 [.bool false] := h24
 refine nil (hK5 _ _ ?_)
 refine wp_seq_k fun K27 hK27 => ?_
 refine wp_seq_k fun K28 hK28 => reg ?_
 refine qm F fun a F => ?_
 refine qm F fun a F => ?_
 obtain ⟨t29, q30, H⟩ := bind_some H
 refine qc F Tryz.func176 (tree_Tree_From.calls (m := m + 8) (pl hm0) B h3 (m + 4) lm _ q30) ?_
 rintro e w32 ⟨c31, vi35, rfl, E33, B34, h36⟩
 refine ⟨_, rfl, fun a F => ?_⟩
 have B := B34
 replace h10 := h10.ev E33 nq
 replace h17 := h17.ev E33 nq
 replace h24 := h24.ev E33 nq
 replace E := E.trans E33 nx
 refine nil (hK28 _ _ ?_)
 refine wp_block ?_
 obtain ⟨x45, HL, HR46⟩ := bind_some H
 refine ITR.range h36 (m := m + 8) (y := m + 5) (z := m + 6) (M := fun x => False ∨ m ≤ x) (g := (fun (s_ : Unit) (k_ : ByteArray) (v_ : table_cell) => tree_Tree_Seek.b1 k_ v_)) (fun (s_ : Unit) (c_ : Nat → Nat) (w_ : World) => Ev (fun x => False ∨ m ≤ x) c31 w32 c_ w_ ∧ () = s_ ∧ AT true (m + 1) c_ w_ qa8 [.string .empty] ∧ AT true (m + 2) c_ w_ qa15 [.slice none 0 0, .int .i64 0] ∧ AT true (m + 3) c_ w_ qa22 [.bool false]) (fun (s_ : ByteArray × (List Int) × Int) (c_ : Nat → Nat) (w_ : World) => Ev (fun x => False ∨ m ≤ x) c31 w32 c_ w_ ∧ ∃ (s79 : ByteArray), ∃ (l81 : List Int), ∃ (A82 : Option Addr), ∃ (C83 : Nat), ∃ (i84 : Int), (s79, l81, i84) = s_ ∧ AT true (m + 1) c_ w_ qa8 [.string s79] ∧ AT true (m + 2) c_ w_ qa15 [.slice A82 l81.length C83, .int .i64 i84] ∧ AT true (m + 3) c_ w_ qa22 [.bool true] ∧ SL false (Kint .u8) 0 0 c_ w_ A82 C83 l81) F rfl (by decide) (by decide) (by omega) (by omega) (by omega) (by omega) (by intro q; rcases q with q | q <;> first | exact q.elim | (replace q : False := q; omega) | (replace q : m ≤ 0 := q; omega)) B (fun _ _ _ h_ => h_.1) (fun _ _ _ h_ => h_.1) (fun s_ c1_ w1_ c2_ w2_ ⟨E_, e_, h10, h17, h24⟩ E2_ => ⟨E_.trans E2_ (fun x q => by show False ∨ m ≤ x; replace q : x = m + 5 := q; omega), e_, AT.ev h10 E2_ mm, AT.ev h17 E2_ mm, AT.ev h24 E2_ mm⟩) (fun s_ c1_ w1_ c2_ w2_ ⟨E_, s79, l81, A82, C83, i84, e_, h10, h17, h24, h80⟩ E2_ => ⟨E_.trans E2_ (fun x q => by show False ∨ m ≤ x; replace q : x = m + 5 := q; omega), s79, l81, A82, C83, i84, e_, AT.ev h10 E2_ mm, AT.ev h17 E2_ mm, AT.ev h24 E2_ mm, SL.ev h80 E2_ ne_zm ne_zm⟩) () ⟨Ev.refl, rfl, h10, h17, h24⟩ x45 HL ?_ ?_ ?_
 ·intro bd40 lo41 rec42 s_ s48 v49 c38 w39 A50 C51 rr47 ⟨E, e_, h10, h17, h24⟩ B hb43 hl44 h52 Hg a F
  clear HL H
  subst e_
  have H : tree_Tree_Seek.b1 s48 v49 = some rr47 := Hg
  clear Hg
  unfold tree_Tree_Seek.b1 at H
  refine wpIn_seq_k fun K53 hK53 => ?_
  refine regR ?_
  refine qa F fun a F => ?_
  refine nil (hK53 _ _ ?_)
  refine regR ?_
  refine q_eff F rfl rfl (by decide) (e_alloc F zv_133 c38 (m + 7)) ?_
  rintro v w55 a ⟨c54, qa56, rfl, E57, h58, B59⟩ F
  replace B := B59 _ B lm
  replace h10 := h10.ev E57 nq
  replace h17 := h17.ev E57 nq
  replace h24 := h24.ev E57 nq
  replace h52 := h52.ev E57 nq nq
  replace hb43 := hb43.ev E57 nq
  replace hl44 := hl44.ev E57 nq
  replace E := E.trans E57 nx
  replace h58 : AT true (m + 7) c54 w55 qa56 [.slice none 0 0, .int .i64 0] := h58
  refine q_eff0 F rfl rfl (e_storeN0 (us := [.slice A50 v49.value.length C51, .int .i64 v49.rev]) F rfl rfl sz_133 h58 (nb rfl) (one_all rfl)) ?_
  rintro w61 a ⟨E62, h58, Z63⟩ F
  replace B := B.size Z63
  replace h10 := h10.ev E62 mm
  replace h17 := h17.ev E62 mm
  replace h24 := h24.ev E62 mm
  replace h52 := h52.ev E62 ne_zm ne_zm
  replace hb43 := hb43.ev E62 mm
  replace hl44 := hl44.ev E62 mm
  replace E := E.trans E62 lc1
  replace h58 : AT true (m + 7) c54 w61 qa56 [.slice A50 v49.value.length C51, .int .i64 v49.rev] := h58
  refine nil ?_
  refine thenN ?_
  refine ⟨c54, hl44, fun w64 E65 hl44 Z66 => ?_⟩
  replace B := B.size Z66
  replace h10 := h10.ev E65 mm
  replace h17 := h17.ev E65 mm
  replace h24 := h24.ev E65 mm
  replace h52 := h52.ev E65 ne_zm ne_zm
  replace hb43 := hb43.ev E65 mm
  replace h58 := h58.ev E65 mm
  replace E := E.trans E65 lc1
  refine wpIn_block ?_
  refine wpIn_seq_k fun K67 hK67 => ?_
  refine regDR (SB (fun x => x = m + 1 ∨ x = m + 2) c54 w64) 4 (.q 0 (.q 1 (.e 2 (.e 3 (.e 4 .nil))))) Tryz_hm (by decide +kernel) ?_
  intro w68 w1_ w2_ w3_ w4_
  have E69 : Ev No c54 w64 c54 w68 := Ev.same w1_ w2_ w3_ w4_
  replace B := B.same w1_
  have zh58 := h58
  have ER : Ev (fun x => x = m + 1 ∨ x = m + 2) c54 w64 c54 w68 := Ev.same w1_ w2_ w3_ w4_
  replace h10 := h10.ev E69 nq
  replace h17 := h17.ev E69 nq
  replace h24 := h24.ev E69 nq
  replace h52 := h52.ev E69 nq nq
  replace hb43 := hb43.ev E69 nq
  replace hl44 := hl44.ev E69 nq
  replace E := E.trans E69 nx
  refine dm F ER.sb fun a F => ?_
  refine dq F (fun wq hS => r_loads (cs := [.slice A50 v49.value.length C51, .int .i64 v49.rev]) F rfl ag_133 sz_133 (AT.sb zh58 hS (nor mm mm))) ER.sb fun a F => ?_
  refine d_e ?_
  refine o_eff0 F rfl rfl rfl (e_store0 F rfl rfl sz_9 h10 (nb rfl) rfl) ?_
  rintro w70 a ⟨E71, h10, Z72⟩ F
  replace B := B.size Z72
  replace ER := ER.trans E71 (fun x q => by replace q : x = m + 1 := q; show x = m + 1 ∨ x = m + 2; omega)
  replace h17 := h17.ev E71 mm
  replace h24 := h24.ev E71 mm
  replace h52 := h52.ev E71 ne_zm ne_zm
  replace hb43 := hb43.ev E71 mm
  replace hl44 := hl44.ev E71 mm
  replace E := E.trans E71 lc1
  replace h10 : AT true (m + 1) c54 w70 qa8 [.string s48] := h10
  refine ⟨fun _ => ER.sb, ?_⟩
  refine d_e ?_
  refine o_eff0 F rfl rfl rfl (e_storeN0 (us := [.slice A50 v49.value.length C51, .int .i64 v49.rev]) F rfl rfl sz_133 h17 (nb rfl) (one_all rfl)) ?_
  rintro w73 a ⟨E74, h17, Z75⟩ F
  replace B := B.size Z75
  replace ER := ER.trans E74 (fun x q => by replace q : x = m + 2 := q; show x = m + 1 ∨ x = m + 2; omega)
  replace h10 := h10.ev E74 mm
  replace h24 := h24.ev E74 mm
  replace h52 := h52.ev E74 ne_zm ne_zm
  replace hb43 := hb43.ev E74 mm
  replace hl44 := hl44.ev E74 mm
  replace E := E.trans E74 lc1
  replace h17 : AT true (m + 2) c54 w73 qa15 [.slice A50 v49.value.length C51, .int .i64 v49.rev] := h17
  refine ⟨fun _ => ER.sb, ?_⟩
  refine d_e ?_
  refine o_eff0 F rfl rfl rfl (e_store0 F rfl rfl sz_4 h24 (nb rfl) rfl) ?_
  rintro w76 a ⟨E77, h24, Z78⟩ F
  replace B := B.size Z78
  replace h10 := h10.ev E77 mm
  replace h17 := h17.ev E77 mm
  replace h52 := h52.ev E77 ne_zm ne_zm
  replace hb43 := hb43.ev E77 mm
  replace hl44 := hl44.ev E77 mm
  replace E := E.trans E77 lc1
  replace h24 : AT true (m + 3) c54 w76 qa22 [.bool true] := h24
  refine ⟨fun q => absurd rfl q, ?_⟩
  refine d_nil ?_
  refine hK67 _ _ ?_
  refine wpIn_ret ?_
  refine inbR ?_
  have hr_ := si H
  subst hr_
  refine REr c54 hl44 ?_
  exact ⟨rfl, ⟨E, s48, v49.value, A50, C51, v49.rev, rfl, h10, h17, h24, h52⟩, B, hb43⟩
 ·intro s_ hx89 c85 w86 bd87 ⟨E90, e_, h10, h17, h24⟩ B hb88 a F
  subst e_
  rw [hx89] at HR46
  have H : tree_Tree_Seek.j2 = some r := HR46
  unfold tree_Tree_Seek.j2 at H
  replace E := E.trans E90 (fun _ q => q)
  refine hK27 _ _ ?_
  refine wp_seq_k fun K100 hK100 => ?_
  refine regD (SB (fun x => x = m + 1 ∨ x = m + 2) c85 w86) 4 (.f 0 (.f 1 (.e 2 (.e 3 (.e 4 .nil))) 2 (.e 1 (.e 3 (.e 4 .nil)))) 1 (.e 0 (.e 2 (.e 3 (.e 4 .nil))))) Tryz_hm (by decide +kernel) ?_
  intro w105 w1_ w2_ w3_ w4_
  have E106 : Ev No c85 w86 c85 w105 := Ev.same w1_ w2_ w3_ w4_
  replace B := B.same w1_
  have ER : Ev (fun x => x = m + 1 ∨ x = m + 2) c85 w86 c85 w105 := Ev.same w1_ w2_ w3_ w4_
  replace h10 := h10.ev E106 nq
  replace h17 := h17.ev E106 nq
  replace h24 := h24.ev E106 nq
  replace hb88 := hb88.ev E106 nq
  replace E := E.trans E106 nx
  refine d_f ?_ ?_
  ·refine o_val F rfl rfl rfl (by decide) (r_load F rfl ag_9 (AT.cell0 h10 rfl)) fun a F => ?_
   refine ⟨fun _ => ER.sb, ?_⟩
   refine d_f ?_ ?_
   ·refine o_val F rfl rfl rfl (by decide) (r_loads (cs := [.slice none 0 0, .int .i64 0]) F rfl ag_133 sz_133 h17) fun a F => ?_
    refine ⟨fun _ => ER.sb, ?_⟩
    refine d_e ?_
    refine o_eff0 F rfl rfl rfl (e_store0 F rfl rfl sz_9 h10 (nb rfl) rfl) ?_
    rintro w107 a ⟨E108, h10, Z109⟩ F
    replace B := B.size Z109
    replace ER := ER.trans E108 (fun x q => by replace q : x = m + 1 := q; show x = m + 1 ∨ x = m + 2; omega)
    replace h17 := h17.ev E108 mm
    replace h24 := h24.ev E108 mm
    replace hb88 := hb88.ev E108 mm
    replace E := E.trans E108 lc1
    replace h10 : AT true (m + 1) c85 w107 qa8 [.string .empty] := h10
    refine ⟨fun _ => ER.sb, ?_⟩
    refine d_e ?_
    refine o_eff0 F rfl rfl rfl (e_storeN0 (us := [.slice none 0 0, .int .i64 0]) F rfl rfl sz_133 h17 (nb rfl) (one_all rfl)) ?_
    rintro w110 a ⟨E111, h17, Z112⟩ F
    replace B := B.size Z112
    replace ER := ER.trans E111 (fun x q => by replace q : x = m + 2 := q; show x = m + 1 ∨ x = m + 2; omega)
    replace h10 := h10.ev E111 mm
    replace h24 := h24.ev E111 mm
    replace hb88 := hb88.ev E111 mm
    replace E := E.trans E111 lc1
    replace h17 : AT true (m + 2) c85 w110 qa15 [.slice none 0 0, .int .i64 0] := h17
    refine ⟨fun _ => ER.sb, ?_⟩
    refine d_e ?_
    refine o_eff0 F rfl rfl rfl (e_store0 F rfl rfl sz_4 h24 (nb rfl) rfl) ?_
    rintro w113 a ⟨E114, h24, Z115⟩ F
    replace B := B.size Z115
    replace h10 := h10.ev E114 mm
    replace h17 := h17.ev E114 mm
    replace hb88 := hb88.ev E114 mm
    replace E := E.trans E114 lc1
    replace h24 : AT true (m + 3) c85 w113 qa22 [.bool false] := h24
    refine ⟨fun q => absurd rfl q, ?_⟩
    refine d_nil ?_
    refine hK100 _ _ ?_
    refine wp_ret ?_
    refine outM ?_
    refine endM F hb88 fun w134 E135 Z136 a F => ?_
    replace B := B.size Z136
    replace h10 := h10.ev E135 mm
    replace h17 := h17.ev E135 mm
    replace h24 := h24.ev E135 mm
    replace E := E.trans E135 lc1
    refine endM0 F ?_
    replace H := si H
    subst H
    refine outR3 F rfl ⟨_, rfl, lv_one ag_9 (AT.cell0 h10 rfl)⟩ ⟨_, rfl, lv_agg (cs := [.slice none 0 0, .int .i64 0]) ag_133 sz_133 h17⟩ ⟨_, rfl, lv_one ag_4 (AT.cell0 h24 rfl)⟩ ?_
    exact ⟨cf (fun x_ => if x_ < m then x_ else 0) c85, none, 0, rfl, E.lv B0, cfb, SL.nil⟩
   refine o_eff0 F rfl rfl rfl (e_store0 F rfl rfl sz_9 h10 (nb rfl) rfl) ?_
   rintro w116 a ⟨E117, h10, Z118⟩ F
   replace B := B.size Z118
   replace ER := ER.trans E117 (fun x q => by replace q : x = m + 1 := q; show x = m + 1 ∨ x = m + 2; omega)
   replace h17 := h17.ev E117 mm
   replace h24 := h24.ev E117 mm
   replace hb88 := hb88.ev E117 mm
   replace E := E.trans E117 lc1
   replace h10 : AT true (m + 1) c85 w116 qa8 [.string .empty] := h10
   refine ⟨fun _ => ER.sb, ?_⟩
   refine d_e ?_
   refine o_val F rfl rfl rfl (by decide) (r_loads (cs := [.slice none 0 0, .int .i64 0]) F rfl ag_133 sz_133 h17) fun a F => ?_
   refine ⟨fun _ => ER.sb, ?_⟩
   refine d_e ?_
   refine o_eff0 F rfl rfl rfl (e_storeN0 (us := [.slice none 0 0, .int .i64 0]) F rfl rfl sz_133 h17 (nb rfl) (one_all rfl)) ?_
   rintro w119 a ⟨E120, h17, Z121⟩ F
   replace B := B.size Z121
   replace ER := ER.trans E120 (fun x q => by replace q : x = m + 2 := q; show x = m + 1 ∨ x = m + 2; omega)
   replace h10 := h10.ev E120 mm
   replace h24 := h24.ev E120 mm
   replace hb88 := hb88.ev E120 mm
   replace E := E.trans E120 lc1
   replace h17 : AT true (m + 2) c85 w119 qa15 [.slice none 0 0, .int .i64 0] := h17
   refine ⟨fun _ => ER.sb, ?_⟩
   refine d_e ?_
   refine o_eff0 F rfl rfl rfl (e_store0 F rfl rfl sz_4 h24 (nb rfl) rfl) ?_
   rintro w122 a ⟨E123, h24, Z124⟩ F
   replace B := B.size Z124
   replace h10 := h10.ev E123 mm
   replace h17 := h17.ev E123 mm
   replace hb88 := hb88.ev E123 mm
   replace E := E.trans E123 lc1
   replace h24 : AT true (m + 3) c85 w122 qa22 [.bool false] := h24
   refine ⟨fun q => absurd rfl q, ?_⟩
   refine d_nil ?_
   refine hK100 _ _ ?_
   refine wp_ret ?_
   refine outM ?_
   refine endM F hb88 fun w137 E138 Z139 a F => ?_
   replace B := B.size Z139
   replace h10 := h10.ev E138 mm
   replace h17 := h17.ev E138 mm
   replace h24 := h24.ev E138 mm
   replace E := E.trans E138 lc1
   refine endM0 F ?_
   replace H := si H
   subst H
   refine outR3 F rfl ⟨_, rfl, lv_one ag_9 (AT.cell0 h10 rfl)⟩ ⟨_, rfl, lv_agg (cs := [.slice none 0 0, .int .i64 0]) ag_133 sz_133 h17⟩ ⟨_, rfl, lv_one ag_4 (AT.cell0 h24 rfl)⟩ ?_
   exact ⟨cf (fun x_ => if x_ < m then x_ else 0) c85, none, 0, rfl, E.lv B0, cfb, SL.nil⟩
  refine o_val F rfl rfl rfl (by decide) (r_loads (cs := [.slice none 0 0, .int .i64 0]) F rfl ag_133 sz_133 h17) fun a F => ?_
  refine ⟨fun _ => ER.sb, ?_⟩
  refine d_e ?_
  refine o_val F rfl rfl rfl (by decide) (r_load F rfl ag_9 (AT.cell0 h10 rfl)) fun a F => ?_
  refine ⟨fun _ => ER.sb, ?_⟩
  refine d_e ?_
  refine o_eff0 F rfl rfl rfl (e_store0 F rfl rfl sz_9 h10 (nb rfl) rfl) ?_
  rintro w125 a ⟨E126, h10, Z127⟩ F
  replace B := B.size Z127
  replace ER := ER.trans E126 (fun x q => by replace q : x = m + 1 := q; show x = m + 1 ∨ x = m + 2; omega)
  replace h17 := h17.ev E126 mm
  replace h24 := h24.ev E126 mm
  replace hb88 := hb88.ev E126 mm
  replace E := E.trans E126 lc1
  replace h10 : AT true (m + 1) c85 w125 qa8 [.string .empty] := h10
  refine ⟨fun _ => ER.sb, ?_⟩
  refine d_e ?_
  refine o_eff0 F rfl rfl rfl (e_storeN0 (us := [.slice none 0 0, .int .i64 0]) F rfl rfl sz_133 h17 (nb rfl) (one_all rfl)) ?_
  rintro w128 a ⟨E129, h17, Z130⟩ F
  replace B := B.size Z130
  replace ER := ER.trans E129 (fun x q => by replace q : x = m + 2 := q; show x = m + 1 ∨ x = m + 2; omega)
  replace h10 := h10.ev E129 mm
  replace h24 := h24.ev E129 mm
  replace hb88 := hb88.ev E129 mm
  replace E := E.trans E129 lc1
  replace h17 : AT true (m + 2) c85 w128 qa15 [.slice none 0 0, .int .i64 0] := h17
  refine ⟨fun _ => ER.sb, ?_⟩
  refine d_e ?_
  refine o_eff0 F rfl rfl rfl (e_store0 F rfl rfl sz_4 h24 (nb rfl) rfl) ?_
  rintro w131 a ⟨E132, h24, Z133⟩ F
  replace B := B.size Z133
  replace h10 := h10.ev E132 mm
  replace h17 := h17.ev E132 mm
  replace hb88 := hb88.ev E132 mm
  replace E := E.trans E132 lc1
  replace h24 : AT true (m + 3) c85 w131 qa22 [.bool false] := h24
  refine ⟨fun q => absurd rfl q, ?_⟩
  refine d_nil ?_
  refine hK100 _ _ ?_
  refine wp_ret ?_
  refine outM ?_
  refine endM F hb88 fun w140 E141 Z142 a F => ?_
  replace B := B.size Z142
  replace h10 := h10.ev E141 mm
  replace h17 := h17.ev E141 mm
  replace h24 := h24.ev E141 mm
  replace E := E.trans E141 lc1
  refine endM0 F ?_
  replace H := si H
  subst H
  refine outR3 F rfl ⟨_, rfl, lv_one ag_9 (AT.cell0 h10 rfl)⟩ ⟨_, rfl, lv_agg (cs := [.slice none 0 0, .int .i64 0]) ag_133 sz_133 h17⟩ ⟨_, rfl, lv_one ag_4 (AT.cell0 h24 rfl)⟩ ?_
  exact ⟨cf (fun x_ => if x_ < m then x_ else 0) c85, none, 0, rfl, E.lv B0, cfb, SL.nil⟩
 intro s_ hx95 c91 w92 bd93 ⟨E96, s79, l81, A82, C83, i84, e_, h10, h17, h24, h80⟩ B hb94 a F
 subst e_
 rw [hx95] at HR46
 have H : tree_Tree_Seek.j3 s79 l81 i84 = some r := HR46
 unfold tree_Tree_Seek.j3 at H
 replace E := E.trans E96 (fun _ q => q)
 refine inbR ?_
 refine thenR ?_
 refine outM ?_
 refine endM F hb94 fun w97 E98 Z99 a F => ?_
 replace B := B.size Z99
 replace h10 := h10.ev E98 mm
 replace h17 := h17.ev E98 mm
 replace h24 := h24.ev E98 mm
 replace h80 := h80.ev E98 ne_zm ne_zm
 replace E := E.trans E98 lc1
 refine endM0 F ?_
 replace H := si H
 subst H
 refine outR3 F rfl ⟨_, rfl, lv_one ag_9 (AT.cell0 h10 rfl)⟩ ⟨_, rfl, lv_agg (cs := [.slice A82 l81.length C83, .int .i64 i84]) ag_133 sz_133 h17⟩ ⟨_, rfl, lv_one ag_4 (AT.cell0 h24 rfl)⟩ ?_
 exact ⟨cf (fun x_ => if x_ < m then x_ else 0) c91, A82, C83, rfl, E.lv B0, cfb, SL.rc h80 cfk cfk⟩
theorem table_Table_Do.calls (k : Nat) {m : Nat} {c0 : Nat → Nat} {w0 : World} {j4 : Nat} {p2 : Option Addr} {A6 : Option Addr} {C7 : Nat} {A9 : Option Addr} {C10 : Nat} {a1 : Option Tab} {a5 : api_Op} (hm0 : 0 < m) (B0 : CB m c0 w0) (h3 : TB j4 c0 w0 p2 a1) (h8 : SL false (Kint .u8) 0 0 c0 w0 A6 C7 a5.Key) (h11 : SL false (Kint .u8) 0 0 c0 w0 A9 C10 a5.Value) (bj4 : 0 < j4 ∧ j4 < m) (r : api_Answer × Int × (Option Tab)) (H : table_Table_Do.f k a1 a5 = some r) : Calls Tryz.prog 100 #[.pointer p2, .agg #[.int .i64 a5.Kind, .slice A6 a5.Key.length C7, .slice A9 a5.Value.length C10, .int .i64 a5.Rev]] w0 (fun e w_ => ∃ (c_ : Nat → Nat) (A0_ : Option Addr) (C0_ : Nat) (A2_ : Option Addr) (C2_ : Nat), e = .returned (.tuple #[.agg #[.bool r.1.Done, .slice A0_ r.1.Key.length C0_, .slice A2_ r.1.Value.length C2_, .int .i64 r.1.Rev, .int .i64 r.1.At], .int .i64 r.2.1]) ∧ Ev (fun x => (x = j4)) c0 w0 c_ w_ ∧ CB m c_ w_ ∧ SL false (Kint .u8) 0 0 c_ w_ A0_ C0_ r.1.Key ∧ SL false (Kint .u8) 0 0 c_ w_ A2_ C2_ r.1.Value ∧ TB j4 c_ w_ p2 r.2.2) := by
 unfold table_Table_Do.f at H
 have B := B0.mono (show m ≤ m + 7 by omega)
 have E : Ev (fun x => (x = j4) ∨ m ≤ x) c0 w0 c0 w0 := Ev.refl
 refine enter (N := 116) (l := [.pointer p2, .agg #[.int .i64 a5.Kind, .slice A6 a5.Key.length C7, .slice A9 a5.Value.length C10, .int .i64 a5.Rev]]) Tryz.func100 rfl rfl (nb rfl) fun a F => ?_
 refine wp_seq_k fun K12 hK12 => reg ?_
 refine q_eff F rfl rfl (by decide) (e_box F (v := .agg #[.int .i64 a5.Kind, .slice A6 a5.Key.length C7, .slice A9 a5.Value.length C10, .int .i64 a5.Rev]) rfl c0 (m + 1)) ?_
 rintro v w14 a ⟨c13, qa15, rfl, E16, h17, B18⟩ F
 replace B := B18 _ B lm
 replace h3 := h3.ev E16 nq nq
 replace h8 := h8.ev E16 nq nq
 replace h11 := h11.ev E16 nq nq
 replace E := E.trans E16 nx
 replace h17 : AT true (m + 1) c13 w14 qa15 [.int .i64 a5.Kind, .slice A6 a5.Key.length C7, .slice A9 a5.Value.length C10, .int .i64 a5.Rev] := h17
 refine q_eff F rfl rfl (by decide) (e_alloc F zv_32 c13 (m + 2)) ?_
 rintro v w21 a ⟨c20, qa22, rfl, E23, h24, B25⟩ F
 replace B := B25 _ B lm
 replace h3 := h3.ev E23 nq nq
 replace h8 := h8.ev E23 nq nq
 replace h11 := h11.ev E23 nq nq
 replace h17 := h17.ev E23 nq
 replace E := E.trans E23 nx
 as_aux_lemma =>
 replace h24 : AT true (m + 2) c20 w21 qa22 [.bool false, .slice none 0 0, .slice none 0 0, .int .i64 0, .int .i64 0] := h24
 refine qa F fun a F => ?_
 refine nil (hK12 _ _ ?_)
 refine wp_seq_k fun K27 hK27 => ?_
 refine wp_block ?_
 refine wp_seq_k fun K28 hK28 => reg ?_
 refine qm F fun a F => ?_
 refine qv F (r_peqlA F Tryz.underlying75 rfl rfl (TB.isNone h3)) fun a F => ?_
 refine qa F fun a F => ?_
 refine nil (hK28 _ _ ?_)
 by_cases hb29 : (Option.isNone a1) = true
 ·replace H := ip hb29 H
  refine wp_cond_true (fb F hb29) ?_
  refine wp_seq_k fun K30 hK30 => reg ?_
  refine qv F (r_build (v := .agg #[.bool false, .slice none 0 0, .slice none 0 0, .int .i64 0, .int .i64 0]) F [] (by exact trivial) (fun w => by kernel_rfl)) fun a F => ?_
  refine q_eff0 F rfl rfl (e_storeN0 (us := [.bool false, .slice none 0 0, .slice none 0 0, .int .i64 0, .int .i64 0]) F rfl rfl sz_32 h24 (nb rfl) (one_all rfl)) ?_
  rintro w31 a ⟨E32, h24, Z33⟩ F
  replace B := B.size Z33
  replace h3 := h3.ev E32 (ne_pm bj4.2) ne_zm
  replace E := E.trans E32 lc1
  replace h24 : AT true (m + 2) c20 w31 qa22 [.bool false, .slice none 0 0, .slice none 0 0, .int .i64 0, .int .i64 0] := h24
  refine qa F fun a F => ?_
  refine nil (hK30 _ _ ?_)
  as_aux_lemma =>
  refine wp_ret ?_
  refine inbR ?_
  refine thenR ?_
  replace H := si H
  subst H
  refine outR2 F rfl ⟨_, rfl, lv_agg (cs := [.bool false, .slice none 0 0, .slice none 0 0, .int .i64 0, .int .i64 0]) ag_32 sz_32 h24⟩ rfl ?_
  exact ⟨cf (fun x_ => if x_ < m then x_ else 0) c20, none, 0, none, 0, rfl, E.lv B0, cfb, SL.nil, SL.nil, TB.rc h3 cfk cfk⟩
 replace H := im hb29 H
 refine wp_cond_false (fb F (bfalse hb29)) ?_
 refine wp_seq_k fun K34 hK34 => reg ?_
 refine qv F (r_loads (cs := [.int .i64 a5.Kind, .slice A6 a5.Key.length C7, .slice A9 a5.Value.length C10, .int .i64 a5.Rev]) F rfl ag_29 sz_29 h17) fun a F => ?_
 obtain ⟨t35, q36, H⟩ := bind_some H
 refine qc F Tryz.func99 (table_Right.calls (m := m + 7) (pl hm0) B h8 h11 _ q36) ?_
 rintro e w38 ⟨c37, rfl, E39, B40⟩
 refine ⟨_, rfl, fun a F => ?_⟩
 have B := B40
 replace h3 := h3.ev E39 nq nq
 replace h8 := h8.ev E39 nq nq
 replace h11 := h11.ev E39 nq nq
 replace h17 := h17.ev E39 nq
 replace h24 := h24.ev E39 nq
 replace E := E.trans E39 nx
 as_aux_lemma =>
 refine qv F (r_not F rfl) fun a F => ?_
 refine qa F fun a F => ?_
 refine nil (hK34 _ _ ?_)
 replace F : Fr a 116 [(0, .pointer p2), (3, .pointer (some qa15)), (4, .pointer (some qa22)), (18, .bool (!t35))] := F.sub ⟨rfl, rfl, rfl, rfl, trivial⟩
 by_cases hb42 : t35 = true
 ·replace H := ip hb42 H
  refine wp_cond_false (fb F (congrArg not hb42)) ?_
  refine wp_seq_k fun K43 hK43 => reg ?_
  refine qf F ff_29_0 fun a F => ?_
  refine qv F (r_load F rfl ag_3 (AT.cell h17 rfl)) fun a F => ?_
  refine qv F (r_eql F rfl rfl) fun a F => ?_
  refine qa F fun a F => ?_
  refine nil (hK43 _ _ ?_)
  by_cases hb44 : a5.Kind = 5
  ·replace H := ip hb44 H
   refine wp_cond_true (fb F (dt hb44)) ?_
   refine wp_seq_k fun K45 hK45 => ?_
   have J94 : ∀ (c95 : Nat → Nat) (w96 : World) (a : Act) (ad49 : Addr) (t56 : ByteArray × table_cell × Bool) (qa68 : Addr) (p51 : Option Addr) (ob46 : Tab) (A91 : Option Addr) (C92 : Nat), p2 = some ad49 → Fr a 116 [(0, .pointer (some ad49)), (4, .pointer (some qa22)), (6, .string t56.1), (7, .pointer (some qa68)), (8, .bool t56.2.2)] → Ev (fun x => (x = j4) ∨ m ≤ x) c0 w0 c95 w96 → CB (m + 7) c95 w96 → AT true j4 c95 w96 ad49 [.pointer p51, .int .i64 ob46.rev, .int .i64 ob46.size] → AT true (m + 2) c95 w96 qa22 [.bool false, .slice none 0 0, .slice none 0 0, .int .i64 0, .int .i64 0] → AT true (m + 3) c95 w96 qa68 [.slice A91 t56.2.1.value.length C92, .int .i64 t56.2.1.rev] → TR 0 c95 w96 p51 ob46.rows → SL false (Kint .u8) 0 0 c95 w96 A91 C92 t56.2.1.value → table_Table_Do.j1 ob46 t56 = some r → K45 a w96 := by
    intro c95 w96 a ad49 t56 qa68 p51 ob46 A91 C92 qe97 F E B hat50 h24 h70 h52 h93 H
    unfold table_Table_Do.j1 at H
    refine hK45 _ _ ?_
    refine wp_seq_k fun K98 hK98 => reg ?_
    refine qm F fun a F => ?_
    refine qm F fun a F => ?_
    as_aux_lemma =>
    refine qv F (r_loads (cs := [.slice A91 t56.2.1.value.length C92, .int .i64 t56.2.1.rev]) F rfl ag_133 sz_133 h70) fun a F => ?_
    refine qm F fun a F => ?_
    have h99 : TB j4 c95 w96 (some ad49) (some (Tab.mk ob46.rows ob46.rev ob46.size)) := TB.mk hat50 h52
    obtain ⟨t100, q101, H⟩ := bind_some H
    refine qc F Tryz.func152 (table_Table_told.calls (m := m + 7) (pl hm0) B h99 h93 (Nat.lt_add_right _ bj4.2) _ q101) ?_
    rintro e w103 ⟨c102, A106, C107, A109, C110, rfl, E104, B105, h108, h111⟩
    refine ⟨_, rfl, fun a F => ?_⟩
    have B := B105
    replace hat50 := hat50.ev E104 nq
    replace h24 := h24.ev E104 nq
    replace h52 := h52.ev E104 nq nq
    replace E := E.trans E104 nx
    refine q_eff0 F rfl rfl (e_storeN0 (us := [.bool t100.Done, .slice A106 t100.Key.length C107, .slice A109 t100.Value.length C110, .int .i64 t100.Rev, .int .i64 t100.At]) F rfl rfl sz_32 h24 (nb rfl) (one_all rfl)) ?_
    rintro w113 a ⟨E114, h24, Z115⟩ F
    replace B := B.size Z115
    replace hat50 := hat50.ev E114 (ne_pm bj4.2)
    replace h52 := h52.ev E114 ne_zm ne_zm
    replace h108 := h108.ev E114 ne_zm ne_zm
    replace h111 := h111.ev E114 ne_zm ne_zm
    replace E := E.trans E114 lc1
    replace h24 : AT true (m + 2) c102 w113 qa22 [.bool t100.Done, .slice A106 t100.Key.length C107, .slice A109 t100.Value.length C110, .int .i64 t100.Rev, .int .i64 t100.At] := h24
    refine qa F fun a F => ?_
    as_aux_lemma =>
    refine nil (hK98 _ _ ?_)
    replace F : Fr a 116 [(4, .pointer (some qa22)), (5, .int .i64 0)] := F.sub ⟨rfl, rfl, trivial⟩
    refine wp_ret ?_
    refine inbR ?_
    refine thenR ?_
    have h116 : TB j4 c102 w113 (some ad49) (some (Tab.mk ob46.rows ob46.rev ob46.size)) := TB.mk hat50 h52
    replace H := si H
    subst H
    refine outR2 F rfl ⟨_, rfl, lv_agg (cs := [.bool t100.Done, .slice A106 t100.Key.length C107, .slice A109 t100.Value.length C110, .int .i64 t100.Rev, .int .i64 t100.At]) ag_32 sz_32 h24⟩ rfl ?_
    exact ⟨cf (fun x_ => if x_ < m then x_ else 0) c102, A106, C107, A109, C110, rfl, E.lv B0, cfb, SL.rc h108 cfk cfk, SL.rc h111 cfk cfk, (by rw [qe97]; exact TB.rc h116 cfk cfk)⟩
   obtain ⟨ob46, e47, H⟩ := bind_some H
   have z48 := h3
   rw [e47] at z48
   obtain ⟨ad49, p51, rfl, hat50, h52⟩ := TB.some z48
   refine regD (SB (fun x => x = m + 3) c37 w38) 16 (.q 0 (.q 1 (.q 2 (.q 3 (.q 4 (.q 5 (.q 6 (.f 7 (.q 8 (.q 9 (.q 10 (.q 11 (.e 12 (.q 13 (.e 14 (.q 15 .nil)))))))) 12 (.e 7 (.q 8 (.q 9 (.q 10 (.q 11 (.q 13 (.e 14 (.q 15 .nil)))))))))))))))) Tryz_hm (by decide +kernel) ?_
   intro w54 w1_ w2_ w3_ w4_
   have E55 : Ev No c37 w38 c37 w54 := Ev.same w1_ w2_ w3_ w4_
   replace B := B.same w1_
   have zh8 := h8
   have zh17 := h17
   have zhat50 := hat50
   have ER : Ev (fun x => x = m + 3) c37 w38 c37 w54 := Ev.same w1_ w2_ w3_ w4_
   as_aux_lemma =>
   replace h24 := h24.ev E55 nq
   replace h52 := h52.ev E55 nq nq
   replace hat50 := hat50.ev E55 nq
   replace E := E.trans E55 nx
   refine dm F ER.sb fun a F => ?_
   refine dq F (fun wq hS => r_nil F rfl) ER.sb fun a F => ?_
   refine df F ff_135_0 ER.sb fun a F => ?_
   refine dq F (fun wq hS => r_load F rfl ag_130 (AT.cell (AT.sb zhat50 hS (ne_pm bj4.2)) rfl)) ER.sb fun a F => ?_
   refine df F ff_29_1 ER.sb fun a F => ?_
   refine dq F (fun wq hS => r_load F rfl ag_27 (AT.cell (AT.sb zh17 hS mm) rfl)) ER.sb fun a F => ?_
   refine dq F (fun wq hS => r_bytesStr F Tryz.underlying27 Tryz.underlying5 Tryz.underlying9 rfl (SL.sb zh8 hS ne_zm ne_zm)) ER.sb fun a F => ?_
   refine d_f ?_ ?_
   ·obtain ⟨t56, q57, H⟩ := bind_some H
    refine oc F Tryz.func151 (tree_Tree_Seek.calls (m := m + 7) (pl hm0) B h52 _ q57) ?_
    rintro e w59 ⟨c58, A62, C63, rfl, E60, B61, h64⟩
    refine ⟨_, rfl, fun a F => ?_⟩
    have B := B61
    replace ER := ER.trans E60 nx
    replace h24 := h24.ev E60 nq
    replace h52 := h52.ev E60 nq nq
    replace hat50 := hat50.ev E60 nq
    replace E := E.trans E60 nx
    refine ⟨fun _ => ER.sb, ?_⟩
    as_aux_lemma =>
    refine dm F ER.sb fun a F => ?_
    refine dq F (fun wq hS => r_extract F rfl rfl) ER.sb fun a F => ?_
    refine dq F (fun wq hS => r_extract F rfl rfl) ER.sb fun a F => ?_
    refine dq F (fun wq hS => r_extract F rfl rfl) ER.sb fun a F => ?_
    refine d_e ?_
    refine o_eff F rfl rfl rfl (by decide) (e_alloc F zv_133 c58 (m + 3)) ?_
    rintro v w67 a ⟨c66, qa68, rfl, E69, h70, B71⟩ F
    replace B := B71 _ B lm
    replace ER := ER.trans E69 nx
    replace h24 := h24.ev E69 nq
    replace h52 := h52.ev E69 nq nq
    replace hat50 := hat50.ev E69 nq
    replace h64 := h64.ev E69 nq nq
    replace E := E.trans E69 nx
    replace h70 : AT true (m + 3) c66 w67 qa68 [.slice none 0 0, .int .i64 0] := h70
    refine ⟨fun _ => ER.sb, ?_⟩
    refine da F ER.sb fun a F => ?_
    refine d_e ?_
    refine o_eff0 F rfl rfl rfl (e_storeN0 (us := [.slice A62 t56.2.1.value.length C63, .int .i64 t56.2.1.rev]) F rfl rfl sz_133 h70 (nb rfl) (one_all rfl)) ?_
    rintro w73 a ⟨E74, h70, Z75⟩ F
    replace B := B.size Z75
    replace ER := ER.trans E74 (fun x q => by replace q : x = m + 3 := q; show x = m + 3; omega)
    as_aux_lemma =>
    replace h24 := h24.ev E74 mm
    replace h52 := h52.ev E74 ne_zm ne_zm
    replace hat50 := hat50.ev E74 (ne_pm bj4.2)
    replace h64 := h64.ev E74 ne_zm ne_zm
    replace E := E.trans E74 lc1
    replace h70 : AT true (m + 3) c66 w73 qa68 [.slice A62 t56.2.1.value.length C63, .int .i64 t56.2.1.rev] := h70
    refine ⟨fun _ => ER.sb, ?_⟩
    refine da F ER.sb fun a F => ?_
    refine d_nil ?_
    exact J94 c66 w73 a ad49 t56 qa68 p51 ob46 A62 C63 rfl (F.sub ⟨rfl, rfl, rfl, rfl, rfl, trivial⟩) E B hat50 h24 h70 h52 h64 H
   obtain ⟨t56, q57, H⟩ := bind_some H
   refine o_eff F rfl rfl rfl (by decide) (e_alloc F zv_133 c37 (m + 3)) ?_
   rintro v w77 a ⟨c76, qa68, rfl, E78, h70, B79⟩ F
   replace B := B79 _ B lm
   replace ER := ER.trans E78 nx
   replace h24 := h24.ev E78 nq
   replace h52 := h52.ev E78 nq nq
   replace hat50 := hat50.ev E78 nq
   replace E := E.trans E78 nx
   replace h70 : AT true (m + 3) c76 w77 qa68 [.slice none 0 0, .int .i64 0] := h70
   refine ⟨fun _ => ER.sb, ?_⟩
   refine d_e ?_
   as_aux_lemma =>
   refine oc F Tryz.func151 (tree_Tree_Seek.calls (m := m + 7) (pl hm0) B h52 _ q57) ?_
   rintro e w81 ⟨c80, A84, C85, rfl, E82, B83, h86⟩
   refine ⟨_, rfl, fun a F => ?_⟩
   have B := B83
   replace ER := ER.trans E82 nx
   replace h24 := h24.ev E82 nq
   replace h52 := h52.ev E82 nq nq
   replace hat50 := hat50.ev E82 nq
   replace h70 := h70.ev E82 nq
   replace E := E.trans E82 nx
   refine ⟨fun _ => ER.sb, ?_⟩
   refine dm F ER.sb fun a F => ?_
   refine dq F (fun wq hS => r_extract F rfl rfl) ER.sb fun a F => ?_
   refine dq F (fun wq hS => r_extract F rfl rfl) ER.sb fun a F => ?_
   refine dq F (fun wq hS => r_extract F rfl rfl) ER.sb fun a F => ?_
   refine da F ER.sb fun a F => ?_
   refine d_e ?_
   refine o_eff0 F rfl rfl rfl (e_storeN0 (us := [.slice A84 t56.2.1.value.length C85, .int .i64 t56.2.1.rev]) F rfl rfl sz_133 h70 (nb rfl) (one_all rfl)) ?_
   rintro w88 a ⟨E89, h70, Z90⟩ F
   replace B := B.size Z90
   replace ER := ER.trans E89 (fun x q => by replace q : x = m + 3 := q; show x = m + 3; omega)
   replace h24 := h24.ev E89 mm
   as_aux_lemma =>
   replace h52 := h52.ev E89 ne_zm ne_zm
   replace hat50 := hat50.ev E89 (ne_pm bj4.2)
   replace h86 := h86.ev E89 ne_zm ne_zm
   replace E := E.trans E89 lc1
   replace h70 : AT true (m + 3) c80 w88 qa68 [.slice A84 t56.2.1.value.length C85, .int .i64 t56.2.1.rev] := h70
   refine ⟨fun _ => ER.sb, ?_⟩
   refine da F ER.sb fun a F => ?_
   refine d_nil ?_
   exact J94 c80 w88 a ad49 t56 qa68 p51 ob46 A84 C85 rfl (F.sub ⟨rfl, rfl, rfl, rfl, rfl, trivial⟩) E B hat50 h24 h70 h52 h86 H
  replace H := im hb44 H
  refine wp_cond_false (fb F (dz hb44)) (wp_skip (hK27 _ _ ?_))
  refine wp_seq_k fun K121 hK121 => reg ?_
  refine qf F ff_29_1 fun a F => ?_
  refine qv F (r_load F rfl ag_27 (AT.cell h17 rfl)) fun a F => ?_
  refine qv F (r_bytesStr F Tryz.underlying27 Tryz.underlying5 Tryz.underlying9 rfl h8) fun a F => ?_
  refine qa F fun a F => ?_
  refine nil (hK121 _ _ ?_)
  replace F : Fr a 116 [(0, .pointer p2), (3, .pointer (some qa15)), (4, .pointer (some qa22)), (9, .string (bs a5.Key))] := F.sub ⟨rfl, rfl, rfl, rfl, trivial⟩
  refine wp_seq_k fun K122 hK122 => reg ?_
  refine qm F fun a F => ?_
  obtain ⟨ob123, e124, H⟩ := bind_some H
  have z125 := h3
  rw [e124] at z125
  obtain ⟨ad126, p128, rfl, hat127, h129⟩ := TB.some z125
  as_aux_lemma =>
  refine qv F (r_nil F rfl) fun a F => ?_
  refine qf F ff_135_0 fun a F => ?_
  refine qv F (r_load F rfl ag_130 (AT.cell hat127 rfl)) fun a F => ?_
  refine qm F fun a F => ?_
  obtain ⟨t131, q132, H⟩ := bind_some H
  refine qc F Tryz.func153 (tree_Tree_Get.calls k (m := m + 7) (pl hm0) B h129 _ q132) ?_
  rintro e w134 ⟨c133, A137, C138, rfl, E135, B136, h139⟩
  refine ⟨_, rfl, fun a F => ?_⟩
  have B := B136
  replace h3 := h3.ev E135 nq nq
  replace h8 := h8.ev E135 nq nq
  replace h11 := h11.ev E135 nq nq
  replace h17 := h17.ev E135 nq
  replace h24 := h24.ev E135 nq
  replace h129 := h129.ev E135 nq nq
  replace hat127 := hat127.ev E135 nq
  replace E := E.trans E135 nx
  refine qm F fun a F => ?_
  refine qv F (r_extract F rfl rfl) fun a F => ?_
  refine qv F (r_extract F rfl rfl) fun a F => ?_
  refine q_eff F rfl rfl (by decide) (e_alloc F zv_133 c133 (m + 4)) ?_
  rintro v w142 a ⟨c141, qa143, rfl, E144, h145, B146⟩ F
  as_aux_lemma =>
  replace B := B146 _ B lm
  replace h3 := h3.ev E144 nq nq
  replace h8 := h8.ev E144 nq nq
  replace h11 := h11.ev E144 nq nq
  replace h17 := h17.ev E144 nq
  replace h24 := h24.ev E144 nq
  replace h129 := h129.ev E144 nq nq
  replace hat127 := hat127.ev E144 nq
  replace h139 := h139.ev E144 nq nq
  replace E := E.trans E144 nx
  replace h145 : AT true (m + 4) c141 w142 qa143 [.slice none 0 0, .int .i64 0] := h145
  refine q_eff0 F rfl rfl (e_storeN0 (us := [.slice A137 t131.1.value.length C138, .int .i64 t131.1.rev]) F rfl rfl sz_133 h145 (nb rfl) (one_all rfl)) ?_
  rintro w148 a ⟨E149, h145, Z150⟩ F
  replace B := B.size Z150
  replace h3 := h3.ev E149 (ne_pm bj4.2) ne_zm
  replace h8 := h8.ev E149 ne_zm ne_zm
  replace h11 := h11.ev E149 ne_zm ne_zm
  replace h17 := h17.ev E149 mm
  replace h24 := h24.ev E149 mm
  replace h129 := h129.ev E149 ne_zm ne_zm
  replace hat127 := hat127.ev E149 (ne_pm bj4.2)
  replace h139 := h139.ev E149 ne_zm ne_zm
  as_aux_lemma =>
  replace E := E.trans E149 lc1
  replace h145 : AT true (m + 4) c141 w148 qa143 [.slice A137 t131.1.value.length C138, .int .i64 t131.1.rev] := h145
  refine qa F fun a F => ?_
  refine nil (hK122 _ _ ?_)
  replace F : Fr a 116 [(0, .pointer (some ad126)), (3, .pointer (some qa15)), (4, .pointer (some qa22)), (9, .string (bs a5.Key)), (10, .pointer (some qa143)), (11, .bool t131.2)] := F.sub ⟨rfl, rfl, rfl, rfl, rfl, rfl, trivial⟩
  refine wp_seq_k fun K151 hK151 => ?_
  refine wp_seq_k fun K152 hK152 => reg ?_
  refine qv F (r_loads (cs := [.int .i64 a5.Kind, .slice A6 a5.Key.length C7, .slice A9 a5.Value.length C10, .int .i64 a5.Rev]) F rfl ag_29 sz_29 h17) fun a F => ?_
  obtain ⟨t153, q154, H⟩ := bind_some H
  refine qc F Tryz.func154 (table_writes.calls (m := m + 7) (pl hm0) B h8 h11 _ q154) ?_
  rintro e w156 ⟨c155, rfl, E157, B158⟩
  refine ⟨_, rfl, fun a F => ?_⟩
  have B := B158
  replace h3 := h3.ev E157 nq nq
  replace h8 := h8.ev E157 nq nq
  replace h11 := h11.ev E157 nq nq
  replace h17 := h17.ev E157 nq
  replace h24 := h24.ev E157 nq
  replace h129 := h129.ev E157 nq nq
  replace hat127 := hat127.ev E157 nq
  replace h139 := h139.ev E157 nq nq
  replace h145 := h145.ev E157 nq
  as_aux_lemma =>
  replace E := E.trans E157 nx
  refine qv F (r_not F rfl) fun a F => ?_
  refine nil (hK152 _ _ ?_)
  by_cases hb160 : t153 = true
  ·replace H := ip hb160 H
   refine wp_cond_false (fb F (congrArg not hb160)) (wp_skip (hK151 _ _ ?_))
   refine wp_seq_k fun K178 hK178 => ?_
   refine wp_seq_k fun K179 hK179 => reg ?_
   refine qm F fun a F => ?_
   refine qv F (r_nil F rfl) fun a F => ?_
   refine qf F ff_135_1 fun a F => ?_
   refine qv F (r_load F rfl ag_3 (AT.cell hat127 rfl)) fun a F => ?_
   refine qv F (r_eql F rfl rfl) fun a F => ?_
   refine nil (hK179 _ _ ?_)
   by_cases hb180 : ob123.rev = 1099511627776
   ·replace H := ip hb180 H
    refine wp_cond_true (fb F (dt hb180)) ?_
    refine wp_seq_k fun K181 hK181 => reg ?_
    refine qv F (r_build (v := .agg #[.bool false, .slice none 0 0, .slice none 0 0, .int .i64 0, .int .i64 0]) F [] (by exact trivial) (fun w => by kernel_rfl)) fun a F => ?_
    refine q_eff0 F rfl rfl (e_storeN0 (us := [.bool false, .slice none 0 0, .slice none 0 0, .int .i64 0, .int .i64 0]) F rfl rfl sz_32 h24 (nb rfl) (one_all rfl)) ?_
    rintro w182 a ⟨E183, h24, Z184⟩ F
    replace B := B.size Z184
    replace h3 := h3.ev E183 (ne_pm bj4.2) ne_zm
    replace E := E.trans E183 lc1
    as_aux_lemma =>
    replace h24 : AT true (m + 2) c155 w182 qa22 [.bool false, .slice none 0 0, .slice none 0 0, .int .i64 0, .int .i64 0] := h24
    refine qa F fun a F => ?_
    refine nil (hK181 _ _ ?_)
    replace F : Fr a 116 [(4, .pointer (some qa22)), (5, .int .i64 132)] := F.sub ⟨rfl, rfl, trivial⟩
    refine wp_ret ?_
    refine thenR ?_
    replace H := si H
    subst H
    refine outR2 F rfl ⟨_, rfl, lv_agg (cs := [.bool false, .slice none 0 0, .slice none 0 0, .int .i64 0, .int .i64 0]) ag_32 sz_32 h24⟩ rfl ?_
    exact ⟨cf (fun x_ => if x_ < m then x_ else 0) c155, none, 0, none, 0, rfl, E.lv B0, cfb, SL.nil, SL.nil, TB.rc h3 cfk cfk⟩
   replace H := im hb180 H
   refine wp_cond_false (fb F (dz hb180)) (wp_skip (hK178 _ _ ?_))
   replace F : Fr a 116 [(0, .pointer (some ad126)), (3, .pointer (some qa15)), (4, .pointer (some qa22)), (9, .string (bs a5.Key)), (10, .pointer (some qa143)), (11, .bool t131.2)] := F.sub ⟨rfl, rfl, rfl, rfl, rfl, rfl, trivial⟩
   refine wp_seq_k fun K185 hK185 => reg ?_
   refine qm F fun a F => ?_
   refine qv F (r_nil F rfl) fun a F => ?_
   refine qf F ff_135_1 fun a F => ?_
   refine qv F (r_load F rfl ag_3 (AT.cell hat127 rfl)) fun a F => ?_
   refine qv F (r_add F rfl rfl) fun a F => ?_
   refine qv F (r_nil F rfl) fun a F => ?_
   refine qf F ff_135_1 fun a F => ?_
   refine q_eff0 F rfl rfl (e_store F rfl rfl sz_3 hat127 (nb rfl) rfl) ?_
   rintro w186 a ⟨E187, hat127, Z188⟩ F
   as_aux_lemma =>
   replace B := B.size Z188
   replace h8 := h8.ev E187 (ne_z bj4.1) (ne_z bj4.1)
   replace h11 := h11.ev E187 (ne_z bj4.1) (ne_z bj4.1)
   replace h17 := h17.ev E187 (ne_mp bj4.2)
   replace h24 := h24.ev E187 (ne_mp bj4.2)
   replace h129 := h129.ev E187 (ne_z bj4.1) (ne_z bj4.1)
   replace h139 := h139.ev E187 (ne_z bj4.1) (ne_z bj4.1)
   replace h145 := h145.ev E187 (ne_mp bj4.2)
   replace E := E.trans E187 (fun x (q : x = j4) => Or.inl (q))
   replace hat127 : AT true j4 c155 w186 ad126 [.pointer p128, .int .i64 (IntKind.i64.wrap (ob123.rev + 1)), .int .i64 ob123.size] := hat127
   refine nil (hK185 _ _ ?_)
   refine wp_seq_k fun K189 hK189 => reg ?_
   refine qm F fun a F => ?_
   refine qm F fun a F => ?_
   refine qv F (r_loads (cs := [.slice A137 t131.1.value.length C138, .int .i64 t131.1.rev]) F rfl ag_133 sz_133 h145) fun a F => ?_
   refine qm F fun a F => ?_
   have h190 : TB j4 c155 w186 (some ad126) (some (Tab.mk ob123.rows (IntKind.i64.wrap (ob123.rev + 1)) ob123.size)) := TB.mk hat127 h129
   obtain ⟨t191, q192, H⟩ := bind_some H
   refine qc F Tryz.func152 (table_Table_told.calls (m := m + 7) (pl hm0) B h190 h139 (Nat.lt_add_right _ bj4.2) _ q192) ?_
   rintro e w194 ⟨c193, A197, C198, A200, C201, rfl, E195, B196, h199, h202⟩
   refine ⟨_, rfl, fun a F => ?_⟩
   have B := B196
   as_aux_lemma =>
   replace h8 := h8.ev E195 nq nq
   replace h11 := h11.ev E195 nq nq
   replace h17 := h17.ev E195 nq
   replace h24 := h24.ev E195 nq
   replace h129 := h129.ev E195 nq nq
   replace hat127 := hat127.ev E195 nq
   replace h139 := h139.ev E195 nq nq
   replace h145 := h145.ev E195 nq
   replace E := E.trans E195 nx
   refine q_eff F rfl rfl (by decide) (e_alloc F zv_32 c193 (m + 5)) ?_
   rintro v w205 a ⟨c204, qa206, rfl, E207, h208, B209⟩ F
   replace B := B209 _ B lm
   replace h8 := h8.ev E207 nq nq
   replace h11 := h11.ev E207 nq nq
   replace h17 := h17.ev E207 nq
   replace h24 := h24.ev E207 nq
   replace h129 := h129.ev E207 nq nq
   replace hat127 := hat127.ev E207 nq
   replace h139 := h139.ev E207 nq nq
   replace h145 := h145.ev E207 nq
   replace h199 := h199.ev E207 nq nq
   replace h202 := h202.ev E207 nq nq
   as_aux_lemma =>
   replace E := E.trans E207 nx
   replace h208 : AT true (m + 5) c204 w205 qa206 [.bool false, .slice none 0 0, .slice none 0 0, .int .i64 0, .int .i64 0] := h208
   refine q_eff0 F rfl rfl (e_storeN0 (us := [.bool t191.Done, .slice A197 t191.Key.length C198, .slice A200 t191.Value.length C201, .int .i64 t191.Rev, .int .i64 t191.At]) F rfl rfl sz_32 h208 (nb rfl) (one_all rfl)) ?_
   rintro w211 a ⟨E212, h208, Z213⟩ F
   replace B := B.size Z213
   replace h8 := h8.ev E212 ne_zm ne_zm
   replace h11 := h11.ev E212 ne_zm ne_zm
   replace h17 := h17.ev E212 mm
   replace h24 := h24.ev E212 mm
   replace h129 := h129.ev E212 ne_zm ne_zm
   replace hat127 := hat127.ev E212 (ne_pm bj4.2)
   replace h139 := h139.ev E212 ne_zm ne_zm
   replace h145 := h145.ev E212 mm
   replace h199 := h199.ev E212 ne_zm ne_zm
   replace h202 := h202.ev E212 ne_zm ne_zm
   replace E := E.trans E212 lc1
   replace h208 : AT true (m + 5) c204 w211 qa206 [.bool t191.Done, .slice A197 t191.Key.length C198, .slice A200 t191.Value.length C201, .int .i64 t191.Rev, .int .i64 t191.At] := h208
   refine nil (hK189 _ _ ?_)
   replace F : Fr a 116 [(0, .pointer (some ad126)), (3, .pointer (some qa15)), (4, .pointer (some qa22)), (9, .string (bs a5.Key)), (10, .pointer (some qa143)), (12, .pointer (some qa206))] := F.sub ⟨rfl, rfl, rfl, rfl, rfl, rfl, trivial⟩
   refine wp_seq_k fun K214 hK214 => ?_
   refine wp_seq_k fun K215 hK215 => ?_
   have J256 : ∀ (c257 : Nat → Nat) (w258 : World) (a : Act) (qa230 : Addr) (t218 : List Int) (A253 : Option Addr) (C254 : Nat), Fr a 116 [(0, .pointer (some ad126)), (3, .pointer (some qa15)), (4, .pointer (some qa22)), (9, .string (bs a5.Key)), (10, .pointer (some qa143)), (12, .pointer (some qa206)), (13, .pointer (some qa230))] → Ev (fun x => (x = j4) ∨ m ≤ x) c0 w0 c257 w258 → CB (m + 7) c257 w258 → AT true j4 c257 w258 ad126 [.pointer p128, .int .i64 (IntKind.i64.wrap (ob123.rev + 1)), .int .i64 ob123.size] → AT true (m + 1) c257 w258 qa15 [.int .i64 a5.Kind, .slice A6 a5.Key.length C7, .slice A9 a5.Value.length C10, .int .i64 a5.Rev] → AT true (m + 2) c257 w258 qa22 [.bool false, .slice none 0 0, .slice none 0 0, .int .i64 0, .int .i64 0] → AT true (m + 4) c257 w258 qa143 [.slice A137 t131.1.value.length C138, .int .i64 t131.1.rev] → AT true (m + 5) c257 w258 qa206 [.bool t191.Done, .slice A197 t191.Key.length C198, .slice A200 t191.Value.length C201, .int .i64 t191.Rev, .int .i64 t191.At] → AT true (m + 6) c257 w258 qa230 [.slice A253 t218.length C254, .int .i64 (IntKind.i64.wrap (ob123.rev + 1))] → TR 0 c257 w258 p128 ob123.rows → SL false (Kint .u8) 0 0 c257 w258 A6 C7 a5.Key → SL false (Kint .u8) 0 0 c257 w258 A9 C10 a5.Value → SL false (Kint .u8) 0 0 c257 w258 A137 C138 t131.1.value → SL false (Kint .u8) 0 0 c257 w258 A197 C198 t191.Key → SL false (Kint .u8) 0 0 c257 w258 A200 C201 t191.Value → SL true (Kint .u8) 0 0 c257 w258 A253 C254 t218 → table_Table_Do.j2 k a5 ob123 t131 t191 t218 = some r → K215 a w258 := by
    intro c257 w258 a qa230 t218 A253 C254 F E B hat127 h17 h24 h145 h208 h232 h129 h8 h11 h139 h199 h202 h255 H
    unfold table_Table_Do.j2 at H
    as_aux_lemma =>
    refine hK215 _ _ ?_
    refine wp_block ?_
    refine wp_seq_k fun K259 hK259 => reg ?_
    refine qf F ff_29_0 fun a F => ?_
    refine qv F (r_load F rfl ag_3 (AT.cell h17 rfl)) fun a F => ?_
    refine qv F (r_eql F rfl rfl) fun a F => ?_
    refine qa F fun a F => ?_
    refine nil (hK259 _ _ ?_)
    by_cases hb260 : a5.Kind = 3
    ·replace H := ip hb260 H
     refine wp_cond_true (fb F (dt hb260)) ?_
     refine reg ?_
     refine qm F fun a F => ?_
     refine qm F fun a F => ?_
     refine qv F (r_loads (cs := [.slice A253 t218.length C254, .int .i64 (IntKind.i64.wrap (ob123.rev + 1))]) F rfl ag_133 sz_133 h232) fun a F => ?_
     have h261 : TB j4 c257 w258 (some ad126) (some (Tab.mk ob123.rows (IntKind.i64.wrap (ob123.rev + 1)) ob123.size)) := TB.mk hat127 h129
     obtain ⟨t262, q263, H⟩ := bind_some H
     refine qc F Tryz.func114 (table_Table_set.calls k (m := m + 7) (a6 := table_cell.mk t218 (IntKind.i64.wrap (ob123.rev + 1))) (pl hm0) B h261 h255.r ⟨bj4.1, (Nat.lt_add_right _ bj4.2)⟩ _ q263) ?_
     rintro e w265 ⟨c264, rfl, E266, B267, h268⟩
     refine ⟨_, rfl, fun a F => ?_⟩
     have B := B267
     replace h24 := h24.ev E266 (ne_mp bj4.2)
     replace h208 := h208.ev E266 (ne_mp bj4.2)
     as_aux_lemma =>
     replace h199 := h199.ev E266 (ne_z bj4.1) (ne_z bj4.1)
     replace h202 := h202.ev E266 (ne_z bj4.1) (ne_z bj4.1)
     replace E := E.trans E266 (fun x (q : x = j4) => Or.inl (q))
     refine nil (hK214 _ _ ?_)
     replace F : Fr a 116 [(4, .pointer (some qa22)), (12, .pointer (some qa206))] := F.sub ⟨rfl, rfl, trivial⟩
     refine wp_seq_k fun K293 hK293 => reg ?_
     refine qv F (r_loads (cs := [.bool t191.Done, .slice A197 t191.Key.length C198, .slice A200 t191.Value.length C201, .int .i64 t191.Rev, .int .i64 t191.At]) F rfl ag_32 sz_32 h208) fun a F => ?_
     refine q_eff0 F rfl rfl (e_storeN0 (us := [.bool t191.Done, .slice A197 t191.Key.length C198, .slice A200 t191.Value.length C201, .int .i64 t191.Rev, .int .i64 t191.At]) F rfl rfl sz_32 h24 (nb rfl) (one_all rfl)) ?_
     rintro w294 a ⟨E295, h24, Z296⟩ F
     replace B := B.size Z296
     replace h199 := h199.ev E295 ne_zm ne_zm
     replace h202 := h202.ev E295 ne_zm ne_zm
     replace h268 := h268.ev E295 (ne_pm bj4.2) ne_zm
     replace E := E.trans E295 lc1
     replace h24 : AT true (m + 2) c264 w294 qa22 [.bool t191.Done, .slice A197 t191.Key.length C198, .slice A200 t191.Value.length C201, .int .i64 t191.Rev, .int .i64 t191.At] := h24
     refine qa F fun a F => ?_
     refine nil (hK293 _ _ ?_)
     refine wp_ret ?_
     replace H := si H
     subst H
     refine outR2 F rfl ⟨_, rfl, lv_agg (cs := [.bool t191.Done, .slice A197 t191.Key.length C198, .slice A200 t191.Value.length C201, .int .i64 t191.Rev, .int .i64 t191.At]) ag_32 sz_32 h24⟩ rfl ?_
     exact ⟨cf (fun x_ => if x_ < m then x_ else 0) c264, A197, C198, A200, C201, rfl, E.lv B0, cfb, SL.rc h199 cfk cfk, SL.rc h202 cfk cfk, TB.rc h268 cfk cfk⟩
    as_aux_lemma =>
    replace H := im hb260 H
    refine wp_cond_false (fb F (dz hb260)) ?_
    refine wp_seq_k fun K270 hK270 => ?_
    have J273 : ∀ (c274 : Nat → Nat) (w275 : World) (a : Act) (b272 : Bool), Fr a 116 [(0, .pointer (some ad126)), (4, .pointer (some qa22)), (9, .string (bs a5.Key)), (12, .pointer (some qa206)), (13, .pointer (some qa230)), (99, .bool b272)] → Ev (fun x => (x = j4) ∨ m ≤ x) c0 w0 c274 w275 → CB (m + 7) c274 w275 → AT true j4 c274 w275 ad126 [.pointer p128, .int .i64 (IntKind.i64.wrap (ob123.rev + 1)), .int .i64 ob123.size] → AT true (m + 2) c274 w275 qa22 [.bool false, .slice none 0 0, .slice none 0 0, .int .i64 0, .int .i64 0] → AT true (m + 5) c274 w275 qa206 [.bool t191.Done, .slice A197 t191.Key.length C198, .slice A200 t191.Value.length C201, .int .i64 t191.Rev, .int .i64 t191.At] → AT true (m + 6) c274 w275 qa230 [.slice A253 t218.length C254, .int .i64 (IntKind.i64.wrap (ob123.rev + 1))] → TR 0 c274 w275 p128 ob123.rows → SL false (Kint .u8) 0 0 c274 w275 A197 C198 t191.Key → SL false (Kint .u8) 0 0 c274 w275 A200 C201 t191.Value → SL true (Kint .u8) 0 0 c274 w275 A253 C254 t218 → table_Table_Do.j3 k a5 ob123 t191 t218 b272 = some r → K270 a w275 := by
     intro c274 w275 a b272 F E B hat127 h24 h208 h232 h129 h199 h202 h255 H
     unfold table_Table_Do.j3 at H
     refine hK270 _ _ ?_
     by_cases hb276 : b272 = true
     ·replace H := ip hb276 H
      refine wp_cond_true (fb F hb276) ?_
      refine wp_seq_k fun K277 hK277 => reg ?_
      refine qf F ff_32_0 fun a F => ?_
      refine q_eff0 F rfl rfl (e_store F rfl rfl sz_4 h208 (nb rfl) rfl) ?_
      rintro w278 a ⟨E279, h208, Z280⟩ F
      replace B := B.size Z280
      replace hat127 := hat127.ev E279 (ne_pm bj4.2)
      replace h24 := h24.ev E279 mm
      replace h232 := h232.ev E279 mm
      replace h129 := h129.ev E279 ne_zm ne_zm
      replace h199 := h199.ev E279 ne_zm ne_zm
      replace h202 := h202.ev E279 ne_zm ne_zm
      replace h255 := h255.ev E279 ne_zm ne_zm
      replace E := E.trans E279 lc1
      as_aux_lemma =>
      replace h208 : AT true (m + 5) c274 w278 qa206 [.bool true, .slice A197 t191.Key.length C198, .slice A200 t191.Value.length C201, .int .i64 t191.Rev, .int .i64 t191.At] := h208
      refine nil (hK277 _ _ ?_)
      refine reg ?_
      refine qm F fun a F => ?_
      refine qm F fun a F => ?_
      refine qv F (r_loads (cs := [.slice A253 t218.length C254, .int .i64 (IntKind.i64.wrap (ob123.rev + 1))]) F rfl ag_133 sz_133 h232) fun a F => ?_
      have h281 : TB j4 c274 w278 (some ad126) (some (Tab.mk ob123.rows (IntKind.i64.wrap (ob123.rev + 1)) ob123.size)) := TB.mk hat127 h129
      obtain ⟨t282, q283, H⟩ := bind_some H
      refine qc F Tryz.func114 (table_Table_set.calls k (m := m + 7) (a6 := table_cell.mk t218 (IntKind.i64.wrap (ob123.rev + 1))) (pl hm0) B h281 h255.r ⟨bj4.1, (Nat.lt_add_right _ bj4.2)⟩ _ q283) ?_
      rintro e w285 ⟨c284, rfl, E286, B287, h288⟩
      refine ⟨_, rfl, fun a F => ?_⟩
      have B := B287
      replace h24 := h24.ev E286 (ne_mp bj4.2)
      replace h208 := h208.ev E286 (ne_mp bj4.2)
      replace h199 := h199.ev E286 (ne_z bj4.1) (ne_z bj4.1)
      replace h202 := h202.ev E286 (ne_z bj4.1) (ne_z bj4.1)
      replace E := E.trans E286 (fun x (q : x = j4) => Or.inl (q))
      refine nil (hK214 _ _ ?_)
      replace F : Fr a 116 [(4, .pointer (some qa22)), (12, .pointer (some qa206))] := F.sub ⟨rfl, rfl, trivial⟩
      refine wp_seq_k fun K297 hK297 => reg ?_
      refine qv F (r_loads (cs := [.bool true, .slice A197 t191.Key.length C198, .slice A200 t191.Value.length C201, .int .i64 t191.Rev, .int .i64 t191.At]) F rfl ag_32 sz_32 h208) fun a F => ?_
      refine q_eff0 F rfl rfl (e_storeN0 (us := [.bool true, .slice A197 t191.Key.length C198, .slice A200 t191.Value.length C201, .int .i64 t191.Rev, .int .i64 t191.At]) F rfl rfl sz_32 h24 (nb rfl) (one_all rfl)) ?_
      rintro w298 a ⟨E299, h24, Z300⟩ F
      as_aux_lemma =>
      replace B := B.size Z300
      replace h199 := h199.ev E299 ne_zm ne_zm
      replace h202 := h202.ev E299 ne_zm ne_zm
      replace h288 := h288.ev E299 (ne_pm bj4.2) ne_zm
      replace E := E.trans E299 lc1
      replace h24 : AT true (m + 2) c284 w298 qa22 [.bool true, .slice A197 t191.Key.length C198, .slice A200 t191.Value.length C201, .int .i64 t191.Rev, .int .i64 t191.At] := h24
      refine qa F fun a F => ?_
      refine nil (hK297 _ _ ?_)
      refine wp_ret ?_
      replace H := si H
      subst H
      refine outR2 F rfl ⟨_, rfl, lv_agg (cs := [.bool true, .slice A197 t191.Key.length C198, .slice A200 t191.Value.length C201, .int .i64 t191.Rev, .int .i64 t191.At]) ag_32 sz_32 h24⟩ rfl ?_
      exact ⟨cf (fun x_ => if x_ < m then x_ else 0) c284, A197, C198, A200, C201, rfl, E.lv B0, cfb, SL.rc h199 cfk cfk, SL.rc h202 cfk cfk, TB.rc h288 cfk cfk⟩
     replace H := im hb276 H
     refine wp_cond_false (fb F (bfalse hb276)) ?_
     refine reg ?_
     refine qf F ff_32_0 fun a F => ?_
     refine q_eff0 F rfl rfl (e_store F rfl rfl sz_4 h208 (nb rfl) rfl) ?_
     rintro w290 a ⟨E291, h208, Z292⟩ F
     replace B := B.size Z292
     replace hat127 := hat127.ev E291 (ne_pm bj4.2)
     replace h24 := h24.ev E291 mm
     as_aux_lemma =>
     replace h129 := h129.ev E291 ne_zm ne_zm
     replace h199 := h199.ev E291 ne_zm ne_zm
     replace h202 := h202.ev E291 ne_zm ne_zm
     replace E := E.trans E291 lc1
     replace h208 : AT true (m + 5) c274 w290 qa206 [.bool false, .slice A197 t191.Key.length C198, .slice A200 t191.Value.length C201, .int .i64 t191.Rev, .int .i64 t191.At] := h208
     refine nil (hK214 _ _ ?_)
     refine wp_seq_k fun K301 hK301 => reg ?_
     refine qv F (r_loads (cs := [.bool false, .slice A197 t191.Key.length C198, .slice A200 t191.Value.length C201, .int .i64 t191.Rev, .int .i64 t191.At]) F rfl ag_32 sz_32 h208) fun a F => ?_
     refine q_eff0 F rfl rfl (e_storeN0 (us := [.bool false, .slice A197 t191.Key.length C198, .slice A200 t191.Value.length C201, .int .i64 t191.Rev, .int .i64 t191.At]) F rfl rfl sz_32 h24 (nb rfl) (one_all rfl)) ?_
     rintro w302 a ⟨E303, h24, Z304⟩ F
     replace B := B.size Z304
     replace hat127 := hat127.ev E303 (ne_pm bj4.2)
     replace h129 := h129.ev E303 ne_zm ne_zm
     replace h199 := h199.ev E303 ne_zm ne_zm
     replace h202 := h202.ev E303 ne_zm ne_zm
     replace E := E.trans E303 lc1
     replace h24 : AT true (m + 2) c274 w302 qa22 [.bool false, .slice A197 t191.Key.length C198, .slice A200 t191.Value.length C201, .int .i64 t191.Rev, .int .i64 t191.At] := h24
     refine qa F fun a F => ?_
     refine nil (hK301 _ _ ?_)
     refine wp_ret ?_
     have h305 : TB j4 c274 w302 (some ad126) (some (Tab.mk ob123.rows (IntKind.i64.wrap (ob123.rev + 1)) ob123.size)) := TB.mk hat127 h129
     replace H := si H
     subst H
     as_aux_lemma =>
     refine outR2 F rfl ⟨_, rfl, lv_agg (cs := [.bool false, .slice A197 t191.Key.length C198, .slice A200 t191.Value.length C201, .int .i64 t191.Rev, .int .i64 t191.At]) ag_32 sz_32 h24⟩ rfl ?_
     exact ⟨cf (fun x_ => if x_ < m then x_ else 0) c274, A197, C198, A200, C201, rfl, E.lv B0, cfb, SL.rc h199 cfk cfk, SL.rc h202 cfk cfk, TB.rc h305 cfk cfk⟩
    refine reg ?_
    refine qf F ff_29_0 fun a F => ?_
    refine qv F (r_load F rfl ag_3 (AT.cell h17 rfl)) fun a F => ?_
    refine qv F (r_eql F rfl rfl) fun a F => ?_
    refine qm F fun a F => ?_
    by_cases hb271 : a5.Kind = 2
    ·replace H := ip hb271 H
     refine qn F (dt hb271) fun a F => ?_
     refine qn F (dt hb271) fun a F => ?_
     refine qn F (dt hb271) fun a F => ?_
     refine qn F (dt hb271) fun a F => ?_
     refine qn F (dt hb271) fun a F => ?_
     refine qv F (r_pick_t F rfl (dt hb271) rfl) fun a F => ?_
     refine qa F fun a F => ?_
     refine nil ?_
     exact J273 c257 w258 a true (F.sub ⟨rfl, rfl, rfl, rfl, rfl, rfl, trivial⟩) E B hat127 h24 h208 h232 h129 h199 h202 h255 H
    replace H := im hb271 H
    refine qy F (dz hb271) ?_
    refine qf F ff_133_1 fun a F => ?_
    refine qy F (dz hb271) ?_
    refine qv F (r_load F rfl ag_3 (AT.cell h145 rfl)) fun a F => ?_
    as_aux_lemma =>
    refine qy F (dz hb271) ?_
    refine qf F ff_29_3 fun a F => ?_
    refine qy F (dz hb271) ?_
    refine qv F (r_load F rfl ag_3 (AT.cell h17 rfl)) fun a F => ?_
    refine qy F (dz hb271) ?_
    refine qv F (r_eql F rfl rfl) fun a F => ?_
    refine qv F (r_pick_f F rfl (dz hb271) rfl) fun a F => ?_
    refine qa F fun a F => ?_
    refine nil ?_
    exact J273 c257 w258 a (decide (t131.1.rev = a5.Rev)) (F.sub ⟨rfl, rfl, rfl, rfl, rfl, rfl, trivial⟩) E B hat127 h24 h208 h232 h129 h199 h202 h255 H
   refine regD (SB No c204 w211) 9 (.q 0 (.q 1 (.q 3 (.q 4 (.q 5 (.q 6 (.f 2 (.q 7 (.e 8 (.e 9 .nil))) 8 (.e 2 (.q 7 (.e 9 .nil)))))))))) Tryz_hm (by decide +kernel) ?_
   intro w216 w1_ w2_ w3_ w4_
   have E217 : Ev No c204 w211 c204 w216 := Ev.same w1_ w2_ w3_ w4_
   replace B := B.same w1_
   have zh17 := h17
   have zhat127 := hat127
   have ER : Ev No c204 w211 c204 w216 := Ev.same w1_ w2_ w3_ w4_
   replace h8 := h8.ev E217 nq nq
   replace h11 := h11.ev E217 nq nq
   replace h17 := h17.ev E217 nq
   replace h24 := h24.ev E217 nq
   replace h129 := h129.ev E217 nq nq
   as_aux_lemma =>
   replace hat127 := hat127.ev E217 nq
   replace h139 := h139.ev E217 nq nq
   replace h145 := h145.ev E217 nq
   replace h199 := h199.ev E217 nq nq
   replace h202 := h202.ev E217 nq nq
   replace h208 := h208.ev E217 nq
   replace E := E.trans E217 nx
   refine df F ff_29_2 ER.sb fun a F => ?_
   refine dq F (fun wq hS => r_load F rfl ag_27 (AT.cell (AT.sb zh17 hS nq) rfl)) ER.sb fun a F => ?_
   refine dm F ER.sb fun a F => ?_
   refine dq F (fun wq hS => r_nil F rfl) ER.sb fun a F => ?_
   refine df F ff_135_1 ER.sb fun a F => ?_
   refine dq F (fun wq hS => r_load F rfl ag_3 (AT.cell (AT.sb zhat127 hS nq) rfl)) ER.sb fun a F => ?_
   refine d_f ?_ ?_
   ·obtain ⟨t218, q219, H⟩ := bind_some H
    refine oc F Tryz.func147 (bytes_Clone.calls (m := m + 7) (pl hm0) B h11 (by omega) 0 (pl hm0) _ q219) ?_
    rintro e w221 ⟨c220, A224, C225, rfl, E222, B223, h226⟩
    refine ⟨_, rfl, fun a F => ?_⟩
    have B := B223
    replace ER := ER.trans E222 nx
    replace h8 := h8.ev E222 nq nq
    replace h11 := h11.ev E222 nq nq
    replace h17 := h17.ev E222 nq
    as_aux_lemma =>
    replace h24 := h24.ev E222 nq
    replace h129 := h129.ev E222 nq nq
    replace hat127 := hat127.ev E222 nq
    replace h139 := h139.ev E222 nq nq
    replace h145 := h145.ev E222 nq
    replace h199 := h199.ev E222 nq nq
    replace h202 := h202.ev E222 nq nq
    replace h208 := h208.ev E222 nq
    replace E := E.trans E222 nx
    refine ⟨fun _ => ER.sb, ?_⟩
    refine d_q F rfl rfl rfl (by decide) (fun wq hS => r_build (v := .agg #[.slice A224 t218.length C225, .int .i64 (IntKind.i64.wrap (ob123.rev + 1))]) F [(0, .slice A224 t218.length C225), (1, .int .i64 (IntKind.i64.wrap (ob123.rev + 1)))] (by exact ⟨rfl, rfl, rfl, rfl, trivial⟩) (fun w => by kernel_rfl)) ER.sb fun a F => ?_
    refine d_e ?_
    refine o_eff F rfl rfl rfl (by decide) (e_alloc F zv_133 c220 (m + 6)) ?_
    rintro v w229 a ⟨c228, qa230, rfl, E231, h232, B233⟩ F
    replace B := B233 _ B lm
    replace ER := ER.trans E231 nx
    replace h8 := h8.ev E231 nq nq
    replace h11 := h11.ev E231 nq nq
    replace h17 := h17.ev E231 nq
    replace h24 := h24.ev E231 nq
    replace h129 := h129.ev E231 nq nq
    replace hat127 := hat127.ev E231 nq
    as_aux_lemma =>
    replace h139 := h139.ev E231 nq nq
    replace h145 := h145.ev E231 nq
    replace h199 := h199.ev E231 nq nq
    replace h202 := h202.ev E231 nq nq
    replace h208 := h208.ev E231 nq
    replace h226 := h226.ev E231 nq nq
    replace E := E.trans E231 nx
    replace h232 : AT true (m + 6) c228 w229 qa230 [.slice none 0 0, .int .i64 0] := h232
    refine ⟨fun _ => ER.sb, ?_⟩
    refine d_e ?_
    refine o_eff0 F rfl rfl rfl (e_storeN0 (us := [.slice A224 t218.length C225, .int .i64 (IntKind.i64.wrap (ob123.rev + 1))]) F rfl rfl sz_133 h232 (nb rfl) (one_all rfl)) ?_
    rintro w235 a ⟨E236, h232, Z237⟩ F
    replace B := B.size Z237
    replace h8 := h8.ev E236 ne_zm ne_zm
    replace h11 := h11.ev E236 ne_zm ne_zm
    replace h17 := h17.ev E236 mm
    replace h24 := h24.ev E236 mm
    replace h129 := h129.ev E236 ne_zm ne_zm
    replace hat127 := hat127.ev E236 (ne_pm bj4.2)
    replace h139 := h139.ev E236 ne_zm ne_zm
    replace h145 := h145.ev E236 mm
    replace h199 := h199.ev E236 ne_zm ne_zm
    as_aux_lemma =>
    replace h202 := h202.ev E236 ne_zm ne_zm
    replace h208 := h208.ev E236 mm
    replace h226 := h226.ev E236 ne_zm ne_zm
    replace E := E.trans E236 lc1
    replace h232 : AT true (m + 6) c228 w235 qa230 [.slice A224 t218.length C225, .int .i64 (IntKind.i64.wrap (ob123.rev + 1))] := h232
    refine ⟨fun q => absurd rfl q, ?_⟩
    refine d_nil ?_
    exact J256 c228 w235 a qa230 t218 A224 C225 (F.sub ⟨rfl, rfl, rfl, rfl, rfl, rfl, rfl, trivial⟩) E B hat127 h17 h24 h145 h208 h232 h129 h8 h11 h139 h199 h202 h226 H
   obtain ⟨t218, q219, H⟩ := bind_some H
   refine o_eff F rfl rfl rfl (by decide) (e_alloc F zv_133 c204 (m + 6)) ?_
   rintro v w239 a ⟨c238, qa230, rfl, E240, h232, B241⟩ F
   replace B := B241 _ B lm
   replace ER := ER.trans E240 nx
   replace h8 := h8.ev E240 nq nq
   replace h11 := h11.ev E240 nq nq
   replace h17 := h17.ev E240 nq
   replace h24 := h24.ev E240 nq
   replace h129 := h129.ev E240 nq nq
   replace hat127 := hat127.ev E240 nq
   replace h139 := h139.ev E240 nq nq
   replace h145 := h145.ev E240 nq
   replace h199 := h199.ev E240 nq nq
   as_aux_lemma =>
   replace h202 := h202.ev E240 nq nq
   replace h208 := h208.ev E240 nq
   replace E := E.trans E240 nx
   replace h232 : AT true (m + 6) c238 w239 qa230 [.slice none 0 0, .int .i64 0] := h232
   refine ⟨fun _ => ER.sb, ?_⟩
   refine d_e ?_
   refine oc F Tryz.func147 (bytes_Clone.calls (m := m + 7) (pl hm0) B h11 (by omega) 0 (pl hm0) _ q219) ?_
   rintro e w243 ⟨c242, A246, C247, rfl, E244, B245, h248⟩
   refine ⟨_, rfl, fun a F => ?_⟩
   have B := B245
   replace ER := ER.trans E244 nx
   replace h8 := h8.ev E244 nq nq
   replace h11 := h11.ev E244 nq nq
   replace h17 := h17.ev E244 nq
   replace h24 := h24.ev E244 nq
   replace h129 := h129.ev E244 nq nq
   replace hat127 := hat127.ev E244 nq
   replace h139 := h139.ev E244 nq nq
   replace h145 := h145.ev E244 nq
   replace h199 := h199.ev E244 nq nq
   replace h202 := h202.ev E244 nq nq
   replace h208 := h208.ev E244 nq
   as_aux_lemma =>
   replace h232 := h232.ev E244 nq
   replace E := E.trans E244 nx
   refine ⟨fun _ => ER.sb, ?_⟩
   refine d_q F rfl rfl rfl (by decide) (fun wq hS => r_build (v := .agg #[.slice A246 t218.length C247, .int .i64 (IntKind.i64.wrap (ob123.rev + 1))]) F [(0, .slice A246 t218.length C247), (1, .int .i64 (IntKind.i64.wrap (ob123.rev + 1)))] (by exact ⟨rfl, rfl, rfl, rfl, trivial⟩) (fun w => by kernel_rfl)) ER.sb fun a F => ?_
   refine d_e ?_
   refine o_eff0 F rfl rfl rfl (e_storeN0 (us := [.slice A246 t218.length C247, .int .i64 (IntKind.i64.wrap (ob123.rev + 1))]) F rfl rfl sz_133 h232 (nb rfl) (one_all rfl)) ?_
   rintro w250 a ⟨E251, h232, Z252⟩ F
   replace B := B.size Z252
   replace h8 := h8.ev E251 ne_zm ne_zm
   replace h11 := h11.ev E251 ne_zm ne_zm
   replace h17 := h17.ev E251 mm
   replace h24 := h24.ev E251 mm
   replace h129 := h129.ev E251 ne_zm ne_zm
   replace hat127 := hat127.ev E251 (ne_pm bj4.2)
   replace h139 := h139.ev E251 ne_zm ne_zm
   replace h145 := h145.ev E251 mm
   replace h199 := h199.ev E251 ne_zm ne_zm
   replace h202 := h202.ev E251 ne_zm ne_zm
   replace h208 := h208.ev E251 mm
   replace h248 := h248.ev E251 ne_zm ne_zm
   replace E := E.trans E251 lc1
   replace h232 : AT true (m + 6) c242 w250 qa230 [.slice A246 t218.length C247, .int .i64 (IntKind.i64.wrap (ob123.rev + 1))] := h232
   as_aux_lemma =>
   refine ⟨fun q => absurd rfl q, ?_⟩
   refine d_nil ?_
   exact J256 c242 w250 a qa230 t218 A246 C247 (F.sub ⟨rfl, rfl, rfl, rfl, rfl, rfl, rfl, trivial⟩) E B hat127 h17 h24 h145 h208 h232 h129 h8 h11 h139 h199 h202 h248 H
  replace H := im hb160 H
  refine wp_cond_true (fb F (congrArg not (bfalse hb160))) ?_
  refine wp_seq_k fun K161 hK161 => reg ?_
  refine qm F fun a F => ?_
  refine qm F fun a F => ?_
  refine qv F (r_loads (cs := [.slice A137 t131.1.value.length C138, .int .i64 t131.1.rev]) F rfl ag_133 sz_133 h145) fun a F => ?_
  refine qm F fun a F => ?_
  obtain ⟨t162, q163, H⟩ := bind_some H
  refine qc F Tryz.func152 (table_Table_told.calls (m := m + 7) (pl hm0) B h3 h139 (Nat.lt_add_right _ bj4.2) _ q163) ?_
  rintro e w165 ⟨c164, A168, C169, A171, C172, rfl, E166, B167, h170, h173⟩
  refine ⟨_, rfl, fun a F => ?_⟩
  have B := B167
  replace h3 := h3.ev E166 nq nq
  replace h24 := h24.ev E166 nq
  replace E := E.trans E166 nx
  refine q_eff0 F rfl rfl (e_storeN0 (us := [.bool t162.Done, .slice A168 t162.Key.length C169, .slice A171 t162.Value.length C172, .int .i64 t162.Rev, .int .i64 t162.At]) F rfl rfl sz_32 h24 (nb rfl) (one_all rfl)) ?_
  rintro w175 a ⟨E176, h24, Z177⟩ F
  replace B := B.size Z177
  replace h3 := h3.ev E176 (ne_pm bj4.2) ne_zm
  as_aux_lemma =>
  replace h170 := h170.ev E176 ne_zm ne_zm
  replace h173 := h173.ev E176 ne_zm ne_zm
  replace E := E.trans E176 lc1
  replace h24 : AT true (m + 2) c164 w175 qa22 [.bool t162.Done, .slice A168 t162.Key.length C169, .slice A171 t162.Value.length C172, .int .i64 t162.Rev, .int .i64 t162.At] := h24
  refine qa F fun a F => ?_
  refine nil (hK161 _ _ ?_)
  replace F : Fr a 116 [(4, .pointer (some qa22)), (5, .int .i64 0)] := F.sub ⟨rfl, rfl, trivial⟩
  refine wp_ret ?_
  refine thenR ?_
  replace H := si H
  subst H
  refine outR2 F rfl ⟨_, rfl, lv_agg (cs := [.bool t162.Done, .slice A168 t162.Key.length C169, .slice A171 t162.Value.length C172, .int .i64 t162.Rev, .int .i64 t162.At]) ag_32 sz_32 h24⟩ rfl ?_
  exact ⟨cf (fun x_ => if x_ < m then x_ else 0) c164, A168, C169, A171, C172, rfl, E.lv B0, cfb, SL.rc h170 cfk cfk, SL.rc h173 cfk cfk, TB.rc h3 cfk cfk⟩
 replace H := im hb42 H
 refine wp_cond_true (fb F (congrArg not (bfalse hb42))) ?_
 refine wp_seq_k fun K117 hK117 => reg ?_
 refine qv F (r_build (v := .agg #[.bool false, .slice none 0 0, .slice none 0 0, .int .i64 0, .int .i64 0]) F [] (by exact trivial) (fun w => by kernel_rfl)) fun a F => ?_
 refine q_eff0 F rfl rfl (e_storeN0 (us := [.bool false, .slice none 0 0, .slice none 0 0, .int .i64 0, .int .i64 0]) F rfl rfl sz_32 h24 (nb rfl) (one_all rfl)) ?_
 rintro w118 a ⟨E119, h24, Z120⟩ F
 replace B := B.size Z120
 replace h3 := h3.ev E119 (ne_pm bj4.2) ne_zm
 replace E := E.trans E119 lc1
 as_aux_lemma =>
 replace h24 : AT true (m + 2) c37 w118 qa22 [.bool false, .slice none 0 0, .slice none 0 0, .int .i64 0, .int .i64 0] := h24
 refine qa F fun a F => ?_
 refine nil (hK117 _ _ ?_)
 refine wp_ret ?_
 refine inbR ?_
 refine thenR ?_
 replace H := si H
 subst H
 refine outR2 F rfl ⟨_, rfl, lv_agg (cs := [.bool false, .slice none 0 0, .slice none 0 0, .int .i64 0, .int .i64 0]) ag_32 sz_32 h24⟩ rfl ?_
 exact ⟨cf (fun x_ => if x_ < m then x_ else 0) c37, none, 0, none, 0, rfl, E.lv B0, cfb, SL.nil, SL.nil, TB.rc h3 cfk cfk⟩
theorem shard_Shard_next.calls (k : Nat) {m : Nat} {c0 : Nat → Nat} {w0 : World} {j4 : Nat} {j5 : Nat} {p2 : Option Addr} {A9 : Option Addr} {C10 : Nat} {A12 : Option Addr} {C13 : Nat} {a1 : Option Sha} {a6 : Int} {a7 : Int} {a8 : api_Op} (hm0 : 0 < m) (B0 : CB m c0 w0) (h3 : SH j4 j5 c0 w0 p2 a1) (h11 : SL false (Kint .u8) 0 0 c0 w0 A9 C10 a8.Key) (h14 : SL false (Kint .u8) 0 0 c0 w0 A12 C13 a8.Value) (bj4 : j4 < m) (bj5 : j5 < m ∧ j5 ≠ j4) (jr351 : Nat) (bjr351 : jr351 < m) (jr352 : Nat) (bjr352 : jr352 < m) (r : (Option (Option Sha)) × api_Answer × Bool × Int) (H : shard_Shard_next.f k a1 a6 a7 a8 = some r) : Calls Tryz.prog 44 #[.pointer p2, .int .i64 a6, .int .i64 a7, .agg #[.int .i64 a8.Kind, .slice A9 a8.Key.length C10, .slice A12 a8.Value.length C13, .int .i64 a8.Rev]] w0 (fun e w_ => ∃ (c_ : Nat → Nat) (P0_ : Option Addr) (A1_ : Option Addr) (C1_ : Nat) (A3_ : Option Addr) (C3_ : Nat), e = .returned (.tuple #[.pointer P0_, .agg #[.bool r.2.1.Done, .slice A1_ r.2.1.Key.length C1_, .slice A3_ r.2.1.Value.length C3_, .int .i64 r.2.1.Rev, .int .i64 r.2.1.At], .bool r.2.2.1, .int .i64 r.2.2.2]) ∧ Ev (fun x => False) c0 w0 c_ w_ ∧ CB m c_ w_ ∧ alc r.1 (P0_ = p2) (fun o_ => SH jr351 jr352 c_ w_ P0_ o_) ∧ SL false (Kint .u8) 0 0 c_ w_ A1_ C1_ r.2.1.Key ∧ SL false (Kint .u8) 0 0 c_ w_ A3_ C3_ r.2.1.Value) := by
 unfold shard_Shard_next.f at H
 have B := B0.mono (show m ≤ m + 6 by omega)
 have E : Ev (fun x => False ∨ m ≤ x) c0 w0 c0 w0 := Ev.refl
 refine enter (N := 111) (l := [.pointer p2, .int .i64 a6, .int .i64 a7, .agg #[.int .i64 a8.Kind, .slice A9 a8.Key.length C10, .slice A12 a8.Value.length C13, .int .i64 a8.Rev]]) Tryz.func44 rfl rfl (nb rfl) fun a F => ?_
 refine wp_seq_k fun K15 hK15 => reg ?_
 refine q_eff F rfl rfl (by decide) (e_box F (v := .agg #[.int .i64 a8.Kind, .slice A9 a8.Key.length C10, .slice A12 a8.Value.length C13, .int .i64 a8.Rev]) rfl c0 (m + 1)) ?_
 rintro v w17 a ⟨c16, qa18, rfl, E19, h20, B21⟩ F
 replace B := B21 _ B lm
 replace h3 := h3.ev E19 nq nq nq
 replace h11 := h11.ev E19 nq nq
 replace h14 := h14.ev E19 nq nq
 replace E := E.trans E19 nx
 replace h20 : AT true (m + 1) c16 w17 qa18 [.int .i64 a8.Kind, .slice A9 a8.Key.length C10, .slice A12 a8.Value.length C13, .int .i64 a8.Rev] := h20
 refine qa F fun a F => ?_
 refine q_eff F rfl rfl (by decide) (e_alloc F zv_32 c16 (m + 2)) ?_
 rintro v w24 a ⟨c23, qa25, rfl, E26, h27, B28⟩ F
 replace B := B28 _ B lm
 replace h3 := h3.ev E26 nq nq nq
 replace h11 := h11.ev E26 nq nq
 replace h14 := h14.ev E26 nq nq
 replace h20 := h20.ev E26 nq
 as_aux_lemma =>
 replace E := E.trans E26 nx
 replace h27 : AT true (m + 2) c23 w24 qa25 [.bool false, .slice none 0 0, .slice none 0 0, .int .i64 0, .int .i64 0] := h27
 refine qa F fun a F => ?_
 refine qa F fun a F => ?_
 refine nil (hK15 _ _ ?_)
 refine wp_seq_k fun K30 hK30 => ?_
 refine wp_block ?_
 refine wp_seq_k fun K31 hK31 => reg ?_
 refine qm F fun a F => ?_
 refine qv F (r_peqlA F Tryz.underlying23 rfl rfl (SH.isNone h3)) fun a F => ?_
 refine qa F fun a F => ?_
 refine nil (hK31 _ _ ?_)
 by_cases hb32 : (Option.isNone a1) = true
 ·replace H := ip hb32 H
  refine wp_cond_true (fb F hb32) ?_
  refine wp_seq_k fun K33 hK33 => reg ?_
  refine qv F (r_build (v := .agg #[.bool false, .slice none 0 0, .slice none 0 0, .int .i64 0, .int .i64 0]) F [] (by exact trivial) (fun w => by kernel_rfl)) fun a F => ?_
  refine qa F fun a F => ?_
  refine q_eff0 F rfl rfl (e_storeN0 (us := [.bool false, .slice none 0 0, .slice none 0 0, .int .i64 0, .int .i64 0]) F rfl rfl sz_32 h27 (nb rfl) (one_all rfl)) ?_
  rintro w34 a ⟨E35, h27, Z36⟩ F
  replace B := B.size Z36
  replace E := E.trans E35 lc1
  replace h27 : AT true (m + 2) c23 w34 qa25 [.bool false, .slice none 0 0, .slice none 0 0, .int .i64 0, .int .i64 0] := h27
  as_aux_lemma =>
  refine qa F fun a F => ?_
  refine qa F fun a F => ?_
  refine nil (hK33 _ _ ?_)
  replace F : Fr a 111 [(8, .pointer none), (9, .pointer (some qa25)), (10, .bool false), (11, .int .i64 1)] := F.sub ⟨rfl, rfl, rfl, rfl, trivial⟩
  refine wp_ret ?_
  refine inbR ?_
  refine thenR ?_
  replace H := si H
  subst H
  refine outR4 F rfl rfl ⟨_, rfl, lv_agg (cs := [.bool false, .slice none 0 0, .slice none 0 0, .int .i64 0, .int .i64 0]) ag_32 sz_32 h27⟩ rfl rfl ?_
  exact ⟨cf (fun x_ => if x_ = m + 3 then jr351 else if x_ = m + 4 then jr352 else if x_ < m then x_ else 0) c23, none, none, 0, none, 0, rfl, E.lv B0, cfb, alc_mk (SH.nil), SL.nil, SL.nil⟩
 replace H := im hb32 H
 refine wp_cond_false (fb F (bfalse hb32)) ?_
 refine wp_seq_k fun K37 hK37 => ?_
 have J42 : ∀ (c43 : Nat → Nat) (w44 : World) (a : Act) (b41 : Bool), Fr a 111 [(0, .pointer p2), (1, .int .i64 a6), (2, .int .i64 a7), (7, .pointer (some qa18)), (9, .pointer (some qa25)), (19, .bool b41)] → Ev (fun x => False ∨ m ≤ x) c0 w0 c43 w44 → CB (m + 6) c43 w44 → AT true (m + 1) c43 w44 qa18 [.int .i64 a8.Kind, .slice A9 a8.Key.length C10, .slice A12 a8.Value.length C13, .int .i64 a8.Rev] → AT true (m + 2) c43 w44 qa25 [.bool false, .slice none 0 0, .slice none 0 0, .int .i64 0, .int .i64 0] → SH j4 j5 c43 w44 p2 a1 → SL false (Kint .u8) 0 0 c43 w44 A9 C10 a8.Key → SL false (Kint .u8) 0 0 c43 w44 A12 C13 a8.Value → shard_Shard_next.j1 k a1 a6 a7 a8 b41 = some r → K37 a w44 := by
  intro c43 w44 a b41 F E B h20 h27 h3 h11 h14 H
  unfold shard_Shard_next.j1 at H
  refine hK37 _ _ ?_
  by_cases hb45 : b41 = true
  ·replace H := ip hb45 H
   refine wp_cond_true (fb F hb45) ?_
   refine wp_seq_k fun K46 hK46 => reg ?_
   refine qv F (r_build (v := .agg #[.bool false, .slice none 0 0, .slice none 0 0, .int .i64 0, .int .i64 0]) F [] (by exact trivial) (fun w => by kernel_rfl)) fun a F => ?_
   as_aux_lemma =>
   refine qa F fun a F => ?_
   refine q_eff0 F rfl rfl (e_storeN0 (us := [.bool false, .slice none 0 0, .slice none 0 0, .int .i64 0, .int .i64 0]) F rfl rfl sz_32 h27 (nb rfl) (one_all rfl)) ?_
   rintro w47 a ⟨E48, h27, Z49⟩ F
   replace B := B.size Z49
   replace E := E.trans E48 lc1
   replace h27 : AT true (m + 2) c43 w47 qa25 [.bool false, .slice none 0 0, .slice none 0 0, .int .i64 0, .int .i64 0] := h27
   refine qa F fun a F => ?_
   refine qa F fun a F => ?_
   refine nil (hK46 _ _ ?_)
   refine wp_ret ?_
   refine inbR ?_
   refine thenR ?_
   replace H := si H
   subst H
   refine outR4 F rfl rfl ⟨_, rfl, lv_agg (cs := [.bool false, .slice none 0 0, .slice none 0 0, .int .i64 0, .int .i64 0]) ag_32 sz_32 h27⟩ rfl rfl ?_
   exact ⟨cf (fun x_ => if x_ = m + 3 then jr351 else if x_ = m + 4 then jr352 else if x_ < m then x_ else 0) c43, none, none, 0, none, 0, rfl, E.lv B0, cfb, alc_mk (SH.nil), SL.nil, SL.nil⟩
  replace H := im hb45 H
  refine wp_cond_false (fb F (bfalse hb45)) ?_
  refine wp_seq_k fun K50 hK50 => reg ?_
  refine qv F (r_loads (cs := [.int .i64 a8.Kind, .slice A9 a8.Key.length C10, .slice A12 a8.Value.length C13, .int .i64 a8.Rev]) F rfl ag_29 sz_29 h20) fun a F => ?_
  obtain ⟨t51, q52, H⟩ := bind_some H
  refine qc F Tryz.func99 (table_Right.calls (m := m + 6) (pl hm0) B h11 h14 _ q52) ?_
  rintro e w54 ⟨c53, rfl, E55, B56⟩
  as_aux_lemma =>
  refine ⟨_, rfl, fun a F => ?_⟩
  have B := B56
  replace h20 := h20.ev E55 nq
  replace h27 := h27.ev E55 nq
  replace h3 := h3.ev E55 nq nq nq
  replace h11 := h11.ev E55 nq nq
  replace h14 := h14.ev E55 nq nq
  replace E := E.trans E55 nx
  refine qv F (r_not F rfl) fun a F => ?_
  refine qa F fun a F => ?_
  refine nil (hK50 _ _ ?_)
  by_cases hb58 : t51 = true
  ·replace H := ip hb58 H
   refine wp_cond_false (fb F (congrArg not hb58)) ?_
   refine wp_seq_k fun K59 hK59 => reg ?_
   refine qm F fun a F => ?_
   refine qm F fun a F => ?_
   obtain ⟨ob60, e61, H⟩ := bind_some H
   have z62 := h3
   rw [e61] at z62
   obtain ⟨ad63, p65, cs67, rfl, hat64, h66, h68⟩ := SH.some z62
   refine qv F (r_nil F rfl) fun a F => ?_
   refine qf F ff_80_1 fun a F => ?_
   as_aux_lemma =>
   replace H := ifN H
   obtain ⟨g70, H⟩ := H
   obtain ⟨cs72, h73, r74⟩ := AR.at (off := 1) hat64 rfl h68 a6 g70.1 (by have g_ := g70.2; omega)
   obtain ⟨A76, C77, A79, C80, rfl, h78, h81⟩ := r74
   obtain ⟨qa75, qqa75⟩ : ∃ q, q = (ad63.add (1 + a6.toNat * 7)) := ⟨_, rfl⟩
   have h73 : AT true j4 c53 w54 qa75 [.int .i64 ((rd ob60.seats a6).Client), .int .i64 ((rd ob60.seats a6).Seq), .bool (((rd ob60.seats a6).Answer).Done), .slice A76 (((rd ob60.seats a6).Answer).Key).length C77, .slice A79 (((rd ob60.seats a6).Answer).Value).length C80, .int .i64 (((rd ob60.seats a6).Answer).Rev), .int .i64 (((rd ob60.seats a6).Answer).At)] := by rw [qqa75]; exact h73
   refine qv F (r_indexArr3 F ua_78 sz_60 rfl rfl g70.1 (by have g_ := g70.2; omega) hat64 qqa75) fun a F => ?_
   refine qf F ff_60_1 fun a F => ?_
   refine qv F (r_load F rfl ag_3 (AT.cell h73 rfl)) fun a F => ?_
   refine qm F fun a F => ?_
   refine qv F (r_gtr F rfl rfl) fun a F => ?_
   refine qa F fun a F => ?_
   refine nil (hK59 _ _ ?_)
   replace F : Fr a 111 [(0, .pointer (some ad63)), (1, .int .i64 a6), (2, .int .i64 a7), (7, .pointer (some qa18)), (9, .pointer (some qa25)), (40, .bool (decide (a7 < ((rd ob60.seats a6).Seq))))] := F.sub ⟨rfl, rfl, rfl, rfl, rfl, rfl, trivial⟩
   by_cases hb83 : a7 < ((rd ob60.seats a6).Seq)
   ·replace H := ip hb83 H
    refine wp_cond_true (fb F (dt hb83)) ?_
    refine wp_seq_k fun K84 hK84 => reg ?_
    refine qv F (r_build (v := .agg #[.bool false, .slice none 0 0, .slice none 0 0, .int .i64 0, .int .i64 0]) F [] (by exact trivial) (fun w => by kernel_rfl)) fun a F => ?_
    refine qa F fun a F => ?_
    refine q_eff0 F rfl rfl (e_storeN0 (us := [.bool false, .slice none 0 0, .slice none 0 0, .int .i64 0, .int .i64 0]) F rfl rfl sz_32 h27 (nb rfl) (one_all rfl)) ?_
    rintro w85 a ⟨E86, h27, Z87⟩ F
    replace B := B.size Z87
    as_aux_lemma =>
    replace E := E.trans E86 lc1
    replace h27 : AT true (m + 2) c53 w85 qa25 [.bool false, .slice none 0 0, .slice none 0 0, .int .i64 0, .int .i64 0] := h27
    refine qa F fun a F => ?_
    refine qa F fun a F => ?_
    refine nil (hK84 _ _ ?_)
    refine wp_ret ?_
    refine inbR ?_
    refine thenR ?_
    replace H := si H
    subst H
    refine outR4 F rfl rfl ⟨_, rfl, lv_agg (cs := [.bool false, .slice none 0 0, .slice none 0 0, .int .i64 0, .int .i64 0]) ag_32 sz_32 h27⟩ rfl rfl ?_
    exact ⟨cf (fun x_ => if x_ = m + 3 then jr351 else if x_ = m + 4 then jr352 else if x_ < m then x_ else 0) c53, none, none, 0, none, 0, rfl, E.lv B0, cfb, alc_mk (SH.nil), SL.nil, SL.nil⟩
   replace H := im hb83 H
   refine wp_cond_false (fb F (dz hb83)) ?_
   refine wp_seq_k fun K88 hK88 => reg ?_
   refine qm F fun a F => ?_
   refine qm F fun a F => ?_
   refine qv F (r_nil F rfl) fun a F => ?_
   refine qf F ff_80_1 fun a F => ?_
   replace H := ifN H
   obtain ⟨g89, H⟩ := H
   obtain ⟨cs91, h92, r93⟩ := AR.at (off := 1) hat64 rfl h68 a6 g89.1 (by have g_ := g89.2; omega)
   obtain ⟨A95, C96, A98, C99, rfl, h97, h100⟩ := r93
   obtain ⟨qa94, qqa94⟩ : ∃ q, q = (ad63.add (1 + a6.toNat * 7)) := ⟨_, rfl⟩
   have h92 : AT true j4 c53 w54 qa94 [.int .i64 ((rd ob60.seats a6).Client), .int .i64 ((rd ob60.seats a6).Seq), .bool (((rd ob60.seats a6).Answer).Done), .slice A95 (((rd ob60.seats a6).Answer).Key).length C96, .slice A98 (((rd ob60.seats a6).Answer).Value).length C99, .int .i64 (((rd ob60.seats a6).Answer).Rev), .int .i64 (((rd ob60.seats a6).Answer).At)] := by rw [qqa94]; exact h92
   as_aux_lemma =>
   refine qv F (r_indexArr3 F ua_78 sz_60 rfl rfl g89.1 (by have g_ := g89.2; omega) hat64 qqa94) fun a F => ?_
   refine qf F ff_60_1 fun a F => ?_
   refine qv F (r_load F rfl ag_3 (AT.cell h92 rfl)) fun a F => ?_
   refine qm F fun a F => ?_
   refine qv F (r_eql F rfl rfl) fun a F => ?_
   refine qa F fun a F => ?_
   refine nil (hK88 _ _ ?_)
   replace F : Fr a 111 [(0, .pointer (some ad63)), (1, .int .i64 a6), (2, .int .i64 a7), (7, .pointer (some qa18)), (9, .pointer (some qa25)), (51, .bool (decide (((rd ob60.seats a6).Seq) = a7)))] := F.sub ⟨rfl, rfl, rfl, rfl, rfl, rfl, trivial⟩
   by_cases hb102 : ((rd ob60.seats a6).Seq) = a7
   ·replace H := ip hb102 H
    refine wp_cond_true (fb F (dt hb102)) ?_
    refine wp_seq_k fun K103 hK103 => reg ?_
    refine qm F fun a F => ?_
    refine qm F fun a F => ?_
    refine qm F fun a F => ?_
    refine qv F (r_nil F rfl) fun a F => ?_
    refine qf F ff_80_1 fun a F => ?_
    replace H := ifN H
    obtain ⟨g104, H⟩ := H
    obtain ⟨cs106, h107, r108⟩ := AR.at (off := 1) hat64 rfl h68 a6 g104.1 (by have g_ := g104.2; omega)
    obtain ⟨A110, C111, A113, C114, rfl, h112, h115⟩ := r108
    replace h112 := SL.fl (i' := 0) h112 (fun q => q)
    replace h115 := SL.fl (i' := 0) h115 (fun q => q)
    obtain ⟨qa109, qqa109⟩ : ∃ q, q = (ad63.add (1 + a6.toNat * 7)) := ⟨_, rfl⟩
    have h107 : AT true j4 c53 w54 qa109 [.int .i64 ((rd ob60.seats a6).Client), .int .i64 ((rd ob60.seats a6).Seq), .bool (((rd ob60.seats a6).Answer).Done), .slice A110 (((rd ob60.seats a6).Answer).Key).length C111, .slice A113 (((rd ob60.seats a6).Answer).Value).length C114, .int .i64 (((rd ob60.seats a6).Answer).Rev), .int .i64 (((rd ob60.seats a6).Answer).At)] := by rw [qqa109]; exact h107
    as_aux_lemma =>
    refine qv F (r_indexArr3 F ua_78 sz_60 rfl rfl g104.1 (by have g_ := g104.2; omega) hat64 qqa109) fun a F => ?_
    refine qv F (r_loads (cs := [.int .i64 ((rd ob60.seats a6).Client), .int .i64 ((rd ob60.seats a6).Seq), .bool (((rd ob60.seats a6).Answer).Done), .slice A110 (((rd ob60.seats a6).Answer).Key).length C111, .slice A113 (((rd ob60.seats a6).Answer).Value).length C114, .int .i64 (((rd ob60.seats a6).Answer).Rev), .int .i64 (((rd ob60.seats a6).Answer).At)]) F rfl ag_60 sz_60 h107) fun a F => ?_
    obtain ⟨t117, q118, H⟩ := bind_some H
    refine qc F Tryz.func85 (shard_own.calls (m := m + 6) (a1 := api_Seat.mk ((rd ob60.seats a6).Client) ((rd ob60.seats a6).Seq) ((rd ob60.seats a6).Answer)) (pl hm0) B h112 h115 _ q118) ?_
    rintro e w120 ⟨c119, A123, C124, A126, C127, rfl, E121, B122, h125, h128⟩
    refine ⟨_, rfl, fun a F => ?_⟩
    have B := B122
    replace h27 := h27.ev E121 nq
    replace E := E.trans E121 nx
    refine qv F (r_field (v := .agg #[.bool t117.Answer.Done, .slice A123 t117.Answer.Key.length C124, .slice A126 t117.Answer.Value.length C127, .int .i64 t117.Answer.Rev, .int .i64 t117.Answer.At]) F rfl (fun w => by kernel_rfl)) fun a F => ?_
    refine qa F fun a F => ?_
    refine q_eff0 F rfl rfl (e_storeN0 (us := [.bool t117.Answer.Done, .slice A123 t117.Answer.Key.length C124, .slice A126 t117.Answer.Value.length C127, .int .i64 t117.Answer.Rev, .int .i64 t117.Answer.At]) F rfl rfl sz_32 h27 (nb rfl) (one_all rfl)) ?_
    rintro w130 a ⟨E131, h27, Z132⟩ F
    replace B := B.size Z132
    replace h125 := h125.ev E131 ne_zm ne_zm
    replace h128 := h128.ev E131 ne_zm ne_zm
    replace E := E.trans E131 lc1
    replace h27 : AT true (m + 2) c119 w130 qa25 [.bool t117.Answer.Done, .slice A123 t117.Answer.Key.length C124, .slice A126 t117.Answer.Value.length C127, .int .i64 t117.Answer.Rev, .int .i64 t117.Answer.At] := h27
    refine qa F fun a F => ?_
    refine qa F fun a F => ?_
    refine nil (hK103 _ _ ?_)
    replace F : Fr a 111 [(8, .pointer (some ad63)), (9, .pointer (some qa25)), (10, .bool false), (11, .int .i64 0)] := F.sub ⟨rfl, rfl, rfl, rfl, trivial⟩
    as_aux_lemma =>
    refine wp_ret ?_
    refine inbR ?_
    refine thenR ?_
    replace H := si H
    subst H
    refine outR4 F rfl rfl ⟨_, rfl, lv_agg (cs := [.bool t117.Answer.Done, .slice A123 t117.Answer.Key.length C124, .slice A126 t117.Answer.Value.length C127, .int .i64 t117.Answer.Rev, .int .i64 t117.Answer.At]) ag_32 sz_32 h27⟩ rfl rfl ?_
    exact ⟨cf (fun x_ => if x_ = m + 3 then jr351 else if x_ = m + 4 then jr352 else if x_ < m then x_ else 0) c119, (some ad63), A123, C124, A126, C127, rfl, E.lv B0, cfb, alc_sm rfl, SL.rc h125 cfk cfk, SL.rc h128 cfk cfk⟩
   replace H := im hb102 H
   refine wp_cond_false (fb F (dz hb102)) (wp_skip (hK30 _ _ ?_))
   refine wp_seq_k fun K137 hK137 => reg ?_
   refine qm F fun a F => ?_
   obtain ⟨t138, q139, H⟩ := bind_some H
   refine qc F Tryz.func26 (shard_Shard_Copy.calls (m := m + 6) (pl hm0) B h3 (Nat.lt_add_right _ bj4) ⟨(Nat.lt_add_right _ bj5.1), bj5.2⟩ (m + 3) lm (m + 4) lm _ q139) ?_
   rintro e w141 ⟨c140, p144, rfl, E142, B143, h145⟩
   refine ⟨_, rfl, fun a F => ?_⟩
   have B := B143
   replace h20 := h20.ev E142 nq
   replace h27 := h27.ev E142 nq
   replace h11 := h11.ev E142 nq nq
   replace h14 := h14.ev E142 nq nq
   replace h66 := h66.ev E142 nq nq
   replace h68 := h68.ev E142 nq
   as_aux_lemma =>
   replace hat64 := hat64.ev E142 nq
   replace E := E.trans E142 nx
   refine qa F fun a F => ?_
   refine nil (hK137 _ _ ?_)
   refine wp_seq_k fun K147 hK147 => ?_
   have J211 : ∀ (c212 : Nat → Nat) (w213 : World) (a : Act) (ad151 : Addr) (qa176 : Addr) (t160 : api_Answer × Int × (Option Tab)) (p153 : Option Addr) (cs155 : List Value) (ob148 : Sha) (A205 : Option Addr) (C206 : Nat) (A208 : Option Addr) (C209 : Nat), Fr a 111 [(0, .pointer (some ad63)), (1, .int .i64 a6), (2, .int .i64 a7), (7, .pointer (some qa18)), (9, .pointer (some qa25)), (12, .pointer (some ad151)), (13, .pointer (some qa176)), (14, .int .i64 t160.2.1)] → Ev (fun x => False ∨ m ≤ x) c0 w0 c212 w213 → CB (m + 6) c212 w213 → AT true j4 c212 w213 ad63 (([.pointer p65] : List Value) ++ (cs67 ++ (([] : List Value)))) → AT true (m + 1) c212 w213 qa18 [.int .i64 a8.Kind, .slice A9 a8.Key.length C10, .slice A12 a8.Value.length C13, .int .i64 a8.Rev] → AT true (m + 2) c212 w213 qa25 [.bool false, .slice none 0 0, .slice none 0 0, .int .i64 0, .int .i64 0] → AT true (m + 3) c212 w213 ad151 (([.pointer p153] : List Value) ++ (cs155 ++ (([] : List Value)))) → AT true (m + 5) c212 w213 qa176 [.bool t160.1.Done, .slice A205 t160.1.Key.length C206, .slice A208 t160.1.Value.length C209, .int .i64 t160.1.Rev, .int .i64 t160.1.At] → TB j5 c212 w213 p65 ob60.Table → AR K_api_Seat 0 c212 w213 cs67 16 ob60.seats → SL false (Kint .u8) 0 0 c212 w213 A9 C10 a8.Key → SL false (Kint .u8) 0 0 c212 w213 A12 C13 a8.Value → AR K_api_Seat 0 c212 w213 cs155 16 ob148.seats → TB (m + 4) c212 w213 p153 t160.2.2 → SL false (Kint .u8) 0 0 c212 w213 A205 C206 t160.1.Key → SL false (Kint .u8) 0 0 c212 w213 A208 C209 t160.1.Value → shard_Shard_next.j2 k a6 a7 a8 ob148 t160 = some r → K147 a w213 := by
    intro c212 w213 a ad151 qa176 t160 p153 cs155 ob148 A205 C206 A208 C209 F E B hat64 h20 h27 hat152 h178 h66 h68 h11 h14 h156 h204 h207 h210 H
    unfold shard_Shard_next.j2 at H
    refine hK147 _ _ ?_
    refine wp_seq_k fun K214 hK214 => ?_
    refine wp_seq_k fun K215 hK215 => reg ?_
    refine qm F fun a F => ?_
    refine qv F (r_neq F rfl rfl) fun a F => ?_
    refine nil (hK215 _ _ ?_)
    by_cases hb216 : t160.2.1 = 0
    ·replace H := ip hb216 H
     refine wp_cond_false (fb F (congrArg not (dt hb216))) (wp_skip (hK214 _ _ ?_))
     refine wp_seq_k fun K221 hK221 => ?_
     refine wp_seq_k fun K222 hK222 => ?_
     have J225 : ∀ (c226 : Nat → Nat) (w227 : World) (a : Act) (b224 : Bool), Fr a 111 [(0, .pointer (some ad63)), (1, .int .i64 a6), (2, .int .i64 a7), (9, .pointer (some qa25)), (12, .pointer (some ad151)), (13, .pointer (some qa176)), (92, .bool b224)] → Ev (fun x => False ∨ m ≤ x) c0 w0 c226 w227 → CB (m + 6) c226 w227 → AT true j4 c226 w227 ad63 (([.pointer p65] : List Value) ++ (cs67 ++ (([] : List Value)))) → AT true (m + 2) c226 w227 qa25 [.bool false, .slice none 0 0, .slice none 0 0, .int .i64 0, .int .i64 0] → AT true (m + 3) c226 w227 ad151 (([.pointer p153] : List Value) ++ (cs155 ++ (([] : List Value)))) → AT true (m + 5) c226 w227 qa176 [.bool t160.1.Done, .slice A205 t160.1.Key.length C206, .slice A208 t160.1.Value.length C209, .int .i64 t160.1.Rev, .int .i64 t160.1.At] → TB j5 c226 w227 p65 ob60.Table → AR K_api_Seat 0 c226 w227 cs67 16 ob60.seats → TB (m + 4) c226 w227 p153 t160.2.2 → AR K_api_Seat 0 c226 w227 cs155 16 ob148.seats → SL false (Kint .u8) 0 0 c226 w227 A205 C206 t160.1.Key → SL false (Kint .u8) 0 0 c226 w227 A208 C209 t160.1.Value → shard_Shard_next.j3 k a6 a7 ob148 t160 b224 = some r → K222 a w227 := by
      intro c226 w227 a b224 F E B hat64 h27 hat152 h178 h66 h68 h204 h156 h207 h210 H
      unfold shard_Shard_next.j3 at H
      refine hK222 _ _ ?_
      by_cases hb228 : b224 = true
      ·replace H := ip hb228 H
       as_aux_lemma =>
       refine wp_cond_true (fb F hb228) ?_
       refine wp_seq_k fun K229 hK229 => ?_
       refine regD (SB (fun x => x = m + 2) c226 w227) 6 (.q 0 (.q 1 (.q 2 (.e 3 (.q 4 (.q 5 .nil)))))) Tryz_hm (by decide +kernel) ?_
       intro w230 w1_ w2_ w3_ w4_
       have E231 : Ev No c226 w227 c226 w230 := Ev.same w1_ w2_ w3_ w4_
       replace B := B.same w1_
       have zh178 := h178
       have ER : Ev (fun x => x = m + 2) c226 w227 c226 w230 := Ev.same w1_ w2_ w3_ w4_
       replace h27 := h27.ev E231 nq
       replace h207 := h207.ev E231 nq nq
       replace h210 := h210.ev E231 nq nq
       replace E := E.trans E231 nx
       refine dm F ER.sb fun a F => ?_
       refine dq F (fun wq hS => r_loads (cs := [.bool t160.1.Done, .slice A205 t160.1.Key.length C206, .slice A208 t160.1.Value.length C209, .int .i64 t160.1.Rev, .int .i64 t160.1.At]) F rfl ag_32 sz_32 (AT.sb zh178 hS mm)) ER.sb fun a F => ?_
       refine da F ER.sb fun a F => ?_
       refine d_e ?_
       refine o_eff0 F rfl rfl rfl (e_storeN0 (us := [.bool t160.1.Done, .slice A205 t160.1.Key.length C206, .slice A208 t160.1.Value.length C209, .int .i64 t160.1.Rev, .int .i64 t160.1.At]) F rfl rfl sz_32 h27 (nb rfl) (one_all rfl)) ?_
       rintro w232 a ⟨E233, h27, Z234⟩ F
       replace B := B.size Z234
       replace ER := ER.trans E233 (fun x q => by replace q : x = m + 2 := q; show x = m + 2; omega)
       replace h207 := h207.ev E233 ne_zm ne_zm
       replace h210 := h210.ev E233 ne_zm ne_zm
       as_aux_lemma =>
       replace E := E.trans E233 lc1
       replace h27 : AT true (m + 2) c226 w232 qa25 [.bool t160.1.Done, .slice A205 t160.1.Key.length C206, .slice A208 t160.1.Value.length C209, .int .i64 t160.1.Rev, .int .i64 t160.1.At] := h27
       refine ⟨fun _ => ER.sb, ?_⟩
       refine da F ER.sb fun a F => ?_
       refine da F ER.sb fun a F => ?_
       refine d_nil ?_
       refine hK229 _ _ ?_
       replace F : Fr a 111 [(8, .pointer (some ad63)), (9, .pointer (some qa25)), (10, .bool false), (11, .int .i64 0)] := F.sub ⟨rfl, rfl, rfl, rfl, trivial⟩
       refine wp_ret ?_
       refine thenR ?_
       replace H := si H
       subst H
       refine outR4 F rfl rfl ⟨_, rfl, lv_agg (cs := [.bool t160.1.Done, .slice A205 t160.1.Key.length C206, .slice A208 t160.1.Value.length C209, .int .i64 t160.1.Rev, .int .i64 t160.1.At]) ag_32 sz_32 h27⟩ rfl rfl ?_
       exact ⟨cf (fun x_ => if x_ = m + 3 then jr351 else if x_ = m + 4 then jr352 else if x_ < m then x_ else 0) c226, (some ad63), A205, C206, A208, C209, rfl, E.lv B0, cfb, alc_sm rfl, SL.rc h207 cfk cfk, SL.rc h210 cfk cfk⟩
      replace H := im hb228 H
      refine wp_cond_false (fb F (bfalse hb228)) (wp_skip (hK221 _ _ ?_))
      refine wp_seq_k fun K235 hK235 => ?_
      have J326 : ∀ (c327 : Nat → Nat) (w328 : World) (a : Act) (t238 : api_Seat) (cs324 : List Value), Fr a 111 [(9, .pointer (some qa25)), (12, .pointer (some ad151)), (13, .pointer (some qa176))] → Ev (fun x => False ∨ m ≤ x) c0 w0 c327 w328 → CB (m + 6) c327 w328 → AT true (m + 2) c327 w328 qa25 [.bool false, .slice none 0 0, .slice none 0 0, .int .i64 0, .int .i64 0] → AT true (m + 3) c327 w328 ad151 (([.pointer p153] : List Value) ++ (cs324 ++ (([] : List Value)))) → AT true (m + 5) c327 w328 qa176 [.bool t160.1.Done, .slice A205 t160.1.Key.length C206, .slice A208 t160.1.Value.length C209, .int .i64 t160.1.Rev, .int .i64 t160.1.At] → TB (m + 4) c327 w328 p153 t160.2.2 → SL false (Kint .u8) 0 0 c327 w328 A205 C206 t160.1.Key → SL false (Kint .u8) 0 0 c327 w328 A208 C209 t160.1.Value → AR K_api_Seat 0 c327 w328 cs324 16 (ob148.seats.set a6.toNat t238) → shard_Shard_next.j4 k a6 ob148 t160 t238 = some r → K235 a w328 := by
       intro c327 w328 a t238 cs324 F E B h27 hat152 h178 h204 h207 h210 h325 H
       unfold shard_Shard_next.j4 at H
       refine hK235 _ _ ?_
       refine wp_seq_k fun K329 hK329 => ?_
       as_aux_lemma =>
       refine wp_seq_k fun K330 hK330 => reg ?_
       refine qm F fun a F => ?_
       have h331 : SH (m + 3) (m + 4) c327 w328 (some ad151) (some (Sha.mk t160.2.2 (ob148.seats.set a6.toNat t238))) := SH.mk hat152 h204 h325
       obtain ⟨t332, q333, H⟩ := bind_some H
       refine qc F Tryz.func25 (shard_Shard_Size.calls k (m := m + 6) (pl hm0) B h331 lm ⟨lm, mm⟩ _ q333) ?_
       rintro e w335 ⟨c334, rfl, E336, B337⟩
       refine ⟨_, rfl, fun a F => ?_⟩
       have B := B337
       replace h27 := h27.ev E336 nq
       replace hat152 := hat152.ev E336 nq
       replace h178 := h178.ev E336 nq
       replace h204 := h204.ev E336 nq nq
       replace h207 := h207.ev E336 nq nq
       replace h210 := h210.ev E336 nq nq
       replace h325 := h325.ev E336 nq
       replace E := E.trans E336 nx
       refine qv F (r_gtr F rfl rfl) fun a F => ?_
       refine nil (hK330 _ _ ?_)
       by_cases hb339 : 262144 < t332
       ·replace H := ip hb339 H
        refine wp_cond_true (fb F (dt hb339)) ?_
        refine wp_seq_k fun K340 hK340 => reg ?_
        refine qv F (r_build (v := .agg #[.bool false, .slice none 0 0, .slice none 0 0, .int .i64 0, .int .i64 0]) F [] (by exact trivial) (fun w => by kernel_rfl)) fun a F => ?_
        as_aux_lemma =>
        refine qa F fun a F => ?_
        refine q_eff0 F rfl rfl (e_storeN0 (us := [.bool false, .slice none 0 0, .slice none 0 0, .int .i64 0, .int .i64 0]) F rfl rfl sz_32 h27 (nb rfl) (one_all rfl)) ?_
        rintro w341 a ⟨E342, h27, Z343⟩ F
        replace B := B.size Z343
        replace E := E.trans E342 lc1
        replace h27 : AT true (m + 2) c334 w341 qa25 [.bool false, .slice none 0 0, .slice none 0 0, .int .i64 0, .int .i64 0] := h27
        refine qa F fun a F => ?_
        refine qa F fun a F => ?_
        refine nil (hK340 _ _ ?_)
        refine wp_ret ?_
        refine thenR ?_
        replace H := si H
        subst H
        refine outR4 F rfl rfl ⟨_, rfl, lv_agg (cs := [.bool false, .slice none 0 0, .slice none 0 0, .int .i64 0, .int .i64 0]) ag_32 sz_32 h27⟩ rfl rfl ?_
        exact ⟨cf (fun x_ => if x_ = m + 3 then jr351 else if x_ = m + 4 then jr352 else if x_ < m then x_ else 0) c334, none, none, 0, none, 0, rfl, E.lv B0, cfb, alc_mk (SH.nil), SL.nil, SL.nil⟩
       replace H := im hb339 H
       refine wp_cond_false (fb F (dz hb339)) (wp_skip (hK329 _ _ ?_))
       refine wp_seq_k fun K344 hK344 => ?_
       refine regD (SB (fun x => x = m + 2) c334 w335) 6 (.q 0 (.q 1 (.q 2 (.e 3 (.q 4 (.q 5 .nil)))))) Tryz_hm (by decide +kernel) ?_
       intro w345 w1_ w2_ w3_ w4_
       have E346 : Ev No c334 w335 c334 w345 := Ev.same w1_ w2_ w3_ w4_
       replace B := B.same w1_
       have zh178 := h178
       have ER : Ev (fun x => x = m + 2) c334 w335 c334 w345 := Ev.same w1_ w2_ w3_ w4_
       as_aux_lemma =>
       replace h27 := h27.ev E346 nq
       replace hat152 := hat152.ev E346 nq
       replace h204 := h204.ev E346 nq nq
       replace h207 := h207.ev E346 nq nq
       replace h210 := h210.ev E346 nq nq
       replace h325 := h325.ev E346 nq
       replace E := E.trans E346 nx
       refine dm F ER.sb fun a F => ?_
       refine dq F (fun wq hS => r_loads (cs := [.bool t160.1.Done, .slice A205 t160.1.Key.length C206, .slice A208 t160.1.Value.length C209, .int .i64 t160.1.Rev, .int .i64 t160.1.At]) F rfl ag_32 sz_32 (AT.sb zh178 hS mm)) ER.sb fun a F => ?_
       refine da F ER.sb fun a F => ?_
       refine d_e ?_
       refine o_eff0 F rfl rfl rfl (e_storeN0 (us := [.bool t160.1.Done, .slice A205 t160.1.Key.length C206, .slice A208 t160.1.Value.length C209, .int .i64 t160.1.Rev, .int .i64 t160.1.At]) F rfl rfl sz_32 h27 (nb rfl) (one_all rfl)) ?_
       rintro w347 a ⟨E348, h27, Z349⟩ F
       replace B := B.size Z349
       replace ER := ER.trans E348 (fun x q => by replace q : x = m + 2 := q; show x = m + 2; omega)
       replace hat152 := hat152.ev E348 mm
       replace h204 := h204.ev E348 mm ne_zm
       replace h207 := h207.ev E348 ne_zm ne_zm
       replace h210 := h210.ev E348 ne_zm ne_zm
       replace h325 := h325.ev E348 ne_zm
       replace E := E.trans E348 lc1
       replace h27 : AT true (m + 2) c334 w347 qa25 [.bool t160.1.Done, .slice A205 t160.1.Key.length C206, .slice A208 t160.1.Value.length C209, .int .i64 t160.1.Rev, .int .i64 t160.1.At] := h27
       as_aux_lemma =>
       refine ⟨fun _ => ER.sb, ?_⟩
       refine da F ER.sb fun a F => ?_
       refine da F ER.sb fun a F => ?_
       refine d_nil ?_
       refine hK344 _ _ ?_
       refine wp_ret ?_
       have h350 : SH (m + 3) (m + 4) c334 w347 (some ad151) (some (Sha.mk t160.2.2 (ob148.seats.set a6.toNat t238))) := SH.mk hat152 h204 h325
       replace H := si H
       subst H
       refine outR4 F rfl rfl ⟨_, rfl, lv_agg (cs := [.bool t160.1.Done, .slice A205 t160.1.Key.length C206, .slice A208 t160.1.Value.length C209, .int .i64 t160.1.Rev, .int .i64 t160.1.At]) ag_32 sz_32 h27⟩ rfl rfl ?_
       exact ⟨cf (fun x_ => if x_ = m + 3 then jr351 else if x_ = m + 4 then jr352 else if x_ < m then x_ else 0) c334, (some ad151), A205, C206, A208, C209, rfl, E.lv B0, cfb, alc_mk (SH.rc h350 cfk cfk cfk), SL.rc h207 cfk cfk, SL.rc h210 cfk cfk⟩
      refine regD (SB No c226 w227) 10 (.q 0 (.q 1 (.q 2 (.q 3 (.q 4 (.q 5 (.f 6 (.e 7 (.e 8 (.q 9 (.e 10 .nil)))) 7 (.f 6 (.e 8 (.q 9 (.e 10 .nil))) 8 (.e 6 (.q 9 (.e 10 .nil))))))))))) Tryz_hm (by decide +kernel) ?_
      intro w236 w1_ w2_ w3_ w4_
      have E237 : Ev No c226 w227 c226 w236 := Ev.same w1_ w2_ w3_ w4_
      replace B := B.same w1_
      have zhat152 := hat152
      have zh178 := h178
      have zh156 := h156
      have ER : Ev No c226 w227 c226 w236 := Ev.same w1_ w2_ w3_ w4_
      replace h27 := h27.ev E237 nq
      replace hat152 := hat152.ev E237 nq
      replace h178 := h178.ev E237 nq
      as_aux_lemma =>
      replace h204 := h204.ev E237 nq nq
      replace h156 := h156.ev E237 nq
      replace h207 := h207.ev E237 nq nq
      replace h210 := h210.ev E237 nq nq
      replace E := E.trans E237 nx
      refine dm F ER.sb fun a F => ?_
      refine dm F ER.sb fun a F => ?_
      refine dm F ER.sb fun a F => ?_
      refine dm F ER.sb fun a F => ?_
      refine dq F (fun wq hS => r_loads (cs := [.bool t160.1.Done, .slice A205 t160.1.Key.length C206, .slice A208 t160.1.Value.length C209, .int .i64 t160.1.Rev, .int .i64 t160.1.At]) F rfl ag_32 sz_32 (AT.sb zh178 hS nq)) ER.sb fun a F => ?_
      refine d_q F rfl rfl rfl (by decide) (fun wq hS => r_build (v := .agg #[.int .i64 a6, .int .i64 a7, .bool t160.1.Done, .slice A205 t160.1.Key.length C206, .slice A208 t160.1.Value.length C209, .int .i64 t160.1.Rev, .int .i64 t160.1.At]) F [(0, .int .i64 a6), (1, .int .i64 a7), (2, .agg #[.bool t160.1.Done, .slice A205 t160.1.Key.length C206, .slice A208 t160.1.Value.length C209, .int .i64 t160.1.Rev, .int .i64 t160.1.At])] (by exact ⟨rfl, rfl, rfl, rfl, rfl, rfl, trivial⟩) (bd_60_i64_0_i64_1_bssi64i64_2 _ _ _ _ _ _ _ _ _ _ _)) ER.sb fun a F => ?_
      refine d_f ?_ ?_
      ·obtain ⟨t238, q239, H⟩ := bind_some H
       refine oc F Tryz.func85 (shard_own.calls (m := m + 6) (a1 := api_Seat.mk a6 a7 t160.1) (pl hm0) B h207 h210 _ q239) ?_
       rintro e w241 ⟨c240, A244, C245, A247, C248, rfl, E242, B243, h246, h249⟩
       refine ⟨_, rfl, fun a F => ?_⟩
       have B := B243
       replace ER := ER.trans E242 nx
       replace h27 := h27.ev E242 nq
       replace hat152 := hat152.ev E242 nq
       replace h178 := h178.ev E242 nq
       replace h204 := h204.ev E242 nq nq
       replace h156 := h156.ev E242 nq
       as_aux_lemma =>
       replace h207 := h207.ev E242 nq nq
       replace h210 := h210.ev E242 nq nq
       replace E := E.trans E242 nx
       refine ⟨fun _ => ER.sb, ?_⟩
       refine d_e ?_
       refine o_val F rfl rfl rfl (by decide) (r_nil F rfl) fun a F => ?_
       refine ⟨fun _ => ER.sb, ?_⟩
       refine d_e ?_
       refine o_val F rfl rfl rfl (by decide) (r_fieldAddr F rfl ff_80_1) fun a F => ?_
       refine ⟨fun _ => ER.sb, ?_⟩
       replace H := ifN H
       obtain ⟨g251, H⟩ := H
       obtain ⟨cs253, h254, r255⟩ := AR.at (off := 1) zhat152 rfl zh156 a6 g251.1 (by have g_ := g251.2; omega)
       obtain ⟨A257, C258, A260, C261, rfl, h259, h262⟩ := r255
       obtain ⟨qa256, qqa256⟩ : ∃ q, q = (ad151.add (1 + a6.toNat * 7)) := ⟨_, rfl⟩
       have h254 : AT true (m + 3) c226 w227 qa256 [.int .i64 ((rd ob148.seats a6).Client), .int .i64 ((rd ob148.seats a6).Seq), .bool (((rd ob148.seats a6).Answer).Done), .slice A257 (((rd ob148.seats a6).Answer).Key).length C258, .slice A260 (((rd ob148.seats a6).Answer).Value).length C261, .int .i64 (((rd ob148.seats a6).Answer).Rev), .int .i64 (((rd ob148.seats a6).Answer).At)] := by rw [qqa256]; exact h254
       replace h254 := h254.ev ER nq
       refine dq F (fun wq hS => r_indexArr3 F ua_78 sz_60 rfl rfl g251.1 (by have g_ := g251.2; omega) hat152 qqa256) ER.sb fun a F => ?_
       refine d_e ?_
       refine o_eff0 F rfl rfl rfl (e_storearN (us := [.int .i64 t238.Client, .int .i64 t238.Seq, .bool t238.Answer.Done, .slice A244 t238.Answer.Key.length C245, .slice A247 t238.Answer.Value.length C248, .int .i64 t238.Answer.Rev, .int .i64 t238.Answer.At]) F rfl rfl sz_60 hat152 rfl h156 (m := a6.toNat) (by have g_ := g251; omega) qqa256 h254 rfl (nb rfl) (one_all rfl) t238 ⟨A244, C245, A247, C248, rfl, (SL.fl h246 (fun q => q)), (SL.fl h249 (fun q => q))⟩ ne_zm) ?_
       rintro w264 a ⟨cs267, E265, hat152, h156, Z266⟩ F
       replace B := B.size Z266
       as_aux_lemma =>
       replace h27 := h27.ev E265 mm
       replace h178 := h178.ev E265 mm
       replace h204 := h204.ev E265 mm ne_zm
       replace h207 := h207.ev E265 ne_zm ne_zm
       replace h210 := h210.ev E265 ne_zm ne_zm
       replace E := E.trans E265 lc1
       replace hat152 : AT true (m + 3) c240 w264 ad151 (([.pointer p153] : List Value) ++ (cs267 ++ (([] : List Value)))) := hat152
       refine ⟨fun q => absurd rfl q, ?_⟩
       refine d_nil ?_
       exact J326 c240 w264 a t238 cs267 (F.sub ⟨rfl, rfl, rfl, trivial⟩) E B h27 hat152 h178 h204 h207 h210 h156 H
      obtain ⟨t238, q239, H⟩ := bind_some H
      refine o_val F rfl rfl rfl (by decide) (r_nil F rfl) fun a F => ?_
      refine ⟨fun _ => ER.sb, ?_⟩
      refine d_f ?_ ?_
      ·refine oc F Tryz.func85 (shard_own.calls (m := m + 6) (a1 := api_Seat.mk a6 a7 t160.1) (pl hm0) B h207 h210 _ q239) ?_
       rintro e w269 ⟨c268, A272, C273, A275, C276, rfl, E270, B271, h274, h277⟩
       refine ⟨_, rfl, fun a F => ?_⟩
       have B := B271
       replace ER := ER.trans E270 nx
       replace h27 := h27.ev E270 nq
       replace hat152 := hat152.ev E270 nq
       replace h178 := h178.ev E270 nq
       replace h204 := h204.ev E270 nq nq
       as_aux_lemma =>
       replace h156 := h156.ev E270 nq
       replace h207 := h207.ev E270 nq nq
       replace h210 := h210.ev E270 nq nq
       replace E := E.trans E270 nx
       refine ⟨fun _ => ER.sb, ?_⟩
       refine d_e ?_
       refine o_val F rfl rfl rfl (by decide) (r_fieldAddr F rfl ff_80_1) fun a F => ?_
       refine ⟨fun _ => ER.sb, ?_⟩
       replace H := ifN H
       obtain ⟨g279, H⟩ := H
       obtain ⟨cs281, h282, r283⟩ := AR.at (off := 1) zhat152 rfl zh156 a6 g279.1 (by have g_ := g279.2; omega)
       obtain ⟨A285, C286, A288, C289, rfl, h287, h290⟩ := r283
       obtain ⟨qa284, qqa284⟩ : ∃ q, q = (ad151.add (1 + a6.toNat * 7)) := ⟨_, rfl⟩
       have h282 : AT true (m + 3) c226 w227 qa284 [.int .i64 ((rd ob148.seats a6).Client), .int .i64 ((rd ob148.seats a6).Seq), .bool (((rd ob148.seats a6).Answer).Done), .slice A285 (((rd ob148.seats a6).Answer).Key).length C286, .slice A288 (((rd ob148.seats a6).Answer).Value).length C289, .int .i64 (((rd ob148.seats a6).Answer).Rev), .int .i64 (((rd ob148.seats a6).Answer).At)] := by rw [qqa284]; exact h282
       replace h282 := h282.ev ER nq
       refine dq F (fun wq hS => r_indexArr3 F ua_78 sz_60 rfl rfl g279.1 (by have g_ := g279.2; omega) hat152 qqa284) ER.sb fun a F => ?_
       refine d_e ?_
       refine o_eff0 F rfl rfl rfl (e_storearN (us := [.int .i64 t238.Client, .int .i64 t238.Seq, .bool t238.Answer.Done, .slice A272 t238.Answer.Key.length C273, .slice A275 t238.Answer.Value.length C276, .int .i64 t238.Answer.Rev, .int .i64 t238.Answer.At]) F rfl rfl sz_60 hat152 rfl h156 (m := a6.toNat) (by have g_ := g279; omega) qqa284 h282 rfl (nb rfl) (one_all rfl) t238 ⟨A272, C273, A275, C276, rfl, (SL.fl h274 (fun q => q)), (SL.fl h277 (fun q => q))⟩ ne_zm) ?_
       rintro w292 a ⟨cs295, E293, hat152, h156, Z294⟩ F
       replace B := B.size Z294
       replace h27 := h27.ev E293 mm
       replace h178 := h178.ev E293 mm
       as_aux_lemma =>
       replace h204 := h204.ev E293 mm ne_zm
       replace h207 := h207.ev E293 ne_zm ne_zm
       replace h210 := h210.ev E293 ne_zm ne_zm
       replace E := E.trans E293 lc1
       replace hat152 : AT true (m + 3) c268 w292 ad151 (([.pointer p153] : List Value) ++ (cs295 ++ (([] : List Value)))) := hat152
       refine ⟨fun q => absurd rfl q, ?_⟩
       refine d_nil ?_
       exact J326 c268 w292 a t238 cs295 (F.sub ⟨rfl, rfl, rfl, trivial⟩) E B h27 hat152 h178 h204 h207 h210 h156 H
      refine o_val F rfl rfl rfl (by decide) (r_fieldAddr F rfl ff_80_1) fun a F => ?_
      refine ⟨fun _ => ER.sb, ?_⟩
      refine d_e ?_
      refine oc F Tryz.func85 (shard_own.calls (m := m + 6) (a1 := api_Seat.mk a6 a7 t160.1) (pl hm0) B h207 h210 _ q239) ?_
      rintro e w297 ⟨c296, A300, C301, A303, C304, rfl, E298, B299, h302, h305⟩
      refine ⟨_, rfl, fun a F => ?_⟩
      have B := B299
      replace ER := ER.trans E298 nx
      replace h27 := h27.ev E298 nq
      replace hat152 := hat152.ev E298 nq
      replace h178 := h178.ev E298 nq
      replace h204 := h204.ev E298 nq nq
      replace h156 := h156.ev E298 nq
      replace h207 := h207.ev E298 nq nq
      as_aux_lemma =>
      replace h210 := h210.ev E298 nq nq
      replace E := E.trans E298 nx
      refine ⟨fun _ => ER.sb, ?_⟩
      replace H := ifN H
      obtain ⟨g307, H⟩ := H
      obtain ⟨cs309, h310, r311⟩ := AR.at (off := 1) zhat152 rfl zh156 a6 g307.1 (by have g_ := g307.2; omega)
      obtain ⟨A313, C314, A316, C317, rfl, h315, h318⟩ := r311
      obtain ⟨qa312, qqa312⟩ : ∃ q, q = (ad151.add (1 + a6.toNat * 7)) := ⟨_, rfl⟩
      have h310 : AT true (m + 3) c226 w227 qa312 [.int .i64 ((rd ob148.seats a6).Client), .int .i64 ((rd ob148.seats a6).Seq), .bool (((rd ob148.seats a6).Answer).Done), .slice A313 (((rd ob148.seats a6).Answer).Key).length C314, .slice A316 (((rd ob148.seats a6).Answer).Value).length C317, .int .i64 (((rd ob148.seats a6).Answer).Rev), .int .i64 (((rd ob148.seats a6).Answer).At)] := by rw [qqa312]; exact h310
      replace h310 := h310.ev ER nq
      refine dq F (fun wq hS => r_indexArr3 F ua_78 sz_60 rfl rfl g307.1 (by have g_ := g307.2; omega) hat152 qqa312) ER.sb fun a F => ?_
      refine d_e ?_
      refine o_eff0 F rfl rfl rfl (e_storearN (us := [.int .i64 t238.Client, .int .i64 t238.Seq, .bool t238.Answer.Done, .slice A300 t238.Answer.Key.length C301, .slice A303 t238.Answer.Value.length C304, .int .i64 t238.Answer.Rev, .int .i64 t238.Answer.At]) F rfl rfl sz_60 hat152 rfl h156 (m := a6.toNat) (by have g_ := g307; omega) qqa312 h310 rfl (nb rfl) (one_all rfl) t238 ⟨A300, C301, A303, C304, rfl, (SL.fl h302 (fun q => q)), (SL.fl h305 (fun q => q))⟩ ne_zm) ?_
      rintro w320 a ⟨cs323, E321, hat152, h156, Z322⟩ F
      replace B := B.size Z322
      replace h27 := h27.ev E321 mm
      replace h178 := h178.ev E321 mm
      replace h204 := h204.ev E321 mm ne_zm
      replace h207 := h207.ev E321 ne_zm ne_zm
      replace h210 := h210.ev E321 ne_zm ne_zm
      replace E := E.trans E321 lc1
      replace hat152 : AT true (m + 3) c296 w320 ad151 (([.pointer p153] : List Value) ++ (cs323 ++ (([] : List Value)))) := hat152
      as_aux_lemma =>
      refine ⟨fun q => absurd rfl q, ?_⟩
      refine d_nil ?_
      exact J326 c296 w320 a t238 cs323 (F.sub ⟨rfl, rfl, rfl, trivial⟩) E B h27 hat152 h178 h204 h207 h210 h156 H
     refine reg ?_
     refine qf F ff_29_0 fun a F => ?_
     refine qv F (r_load F rfl ag_3 (AT.cell h20 rfl)) fun a F => ?_
     refine qv F (r_eql F rfl rfl) fun a F => ?_
     refine qm F fun a F => ?_
     by_cases hb223 : a8.Kind = 1
     ·replace H := ip hb223 H
      refine qn F (dt hb223) fun a F => ?_
      refine qn F (dt hb223) fun a F => ?_
      refine qn F (dt hb223) fun a F => ?_
      refine qv F (r_pick_t F rfl (dt hb223) rfl) fun a F => ?_
      refine nil ?_
      exact J225 c212 w213 a true (F.sub ⟨rfl, rfl, rfl, rfl, rfl, rfl, rfl, trivial⟩) E B hat64 h27 hat152 h178 h66 h68 h204 h156 h207 h210 H
     replace H := im hb223 H
     refine qy F (dz hb223) ?_
     refine qf F ff_29_0 fun a F => ?_
     refine qy F (dz hb223) ?_
     refine qv F (r_load F rfl ag_3 (AT.cell h20 rfl)) fun a F => ?_
     refine qy F (dz hb223) ?_
     refine qv F (r_eql F rfl rfl) fun a F => ?_
     as_aux_lemma =>
     refine qv F (r_pick_f F rfl (dz hb223) rfl) fun a F => ?_
     refine nil ?_
     exact J225 c212 w213 a (decide (a8.Kind = 5)) (F.sub ⟨rfl, rfl, rfl, rfl, rfl, rfl, rfl, trivial⟩) E B hat64 h27 hat152 h178 h66 h68 h204 h156 h207 h210 H
    replace H := im hb216 H
    refine wp_cond_true (fb F (congrArg not (dz hb216))) ?_
    refine wp_seq_k fun K217 hK217 => reg ?_
    refine qv F (r_build (v := .agg #[.bool false, .slice none 0 0, .slice none 0 0, .int .i64 0, .int .i64 0]) F [] (by exact trivial) (fun w => by kernel_rfl)) fun a F => ?_
    refine qm F fun a F => ?_
    refine qa F fun a F => ?_
    refine q_eff0 F rfl rfl (e_storeN0 (us := [.bool false, .slice none 0 0, .slice none 0 0, .int .i64 0, .int .i64 0]) F rfl rfl sz_32 h27 (nb rfl) (one_all rfl)) ?_
    rintro w218 a ⟨E219, h27, Z220⟩ F
    replace B := B.size Z220
    replace E := E.trans E219 lc1
    replace h27 : AT true (m + 2) c212 w218 qa25 [.bool false, .slice none 0 0, .slice none 0 0, .int .i64 0, .int .i64 0] := h27
    refine qa F fun a F => ?_
    refine qa F fun a F => ?_
    refine nil (hK217 _ _ ?_)
    replace F : Fr a 111 [(8, .pointer none), (9, .pointer (some qa25)), (10, .bool false), (11, .int .i64 t160.2.1)] := F.sub ⟨rfl, rfl, rfl, rfl, trivial⟩
    refine wp_ret ?_
    refine thenR ?_
    replace H := si H
    subst H
    as_aux_lemma =>
    refine outR4 F rfl rfl ⟨_, rfl, lv_agg (cs := [.bool false, .slice none 0 0, .slice none 0 0, .int .i64 0, .int .i64 0]) ag_32 sz_32 h27⟩ rfl rfl ?_
    exact ⟨cf (fun x_ => if x_ = m + 3 then jr351 else if x_ = m + 4 then jr352 else if x_ < m then x_ else 0) c212, none, none, 0, none, 0, rfl, E.lv B0, cfb, alc_mk (SH.nil), SL.nil, SL.nil⟩
   obtain ⟨ob148, e149, H⟩ := bind_some H
   have z150 := h145
   rw [e149] at z150
   obtain ⟨ad151, p153, cs155, rfl, hat152, h154, h156⟩ := SH.some z150
   refine regD (SB (fun x => x = m + 4 ∨ x = m + 5) c140 w141) 12 (.q 0 (.q 1 (.q 2 (.q 3 (.q 4 (.f 5 (.q 6 (.q 7 (.q 8 (.e 9 (.e 10 (.q 11 .nil)))))) 9 (.e 5 (.q 6 (.q 7 (.q 8 (.e 10 (.q 11 .nil)))))))))))) Tryz_hm (by decide +kernel) ?_
   intro w158 w1_ w2_ w3_ w4_
   have E159 : Ev No c140 w141 c140 w158 := Ev.same w1_ w2_ w3_ w4_
   replace B := B.same w1_
   have zh20 := h20
   have zhat152 := hat152
   have ER : Ev (fun x => x = m + 4 ∨ x = m + 5) c140 w141 c140 w158 := Ev.same w1_ w2_ w3_ w4_
   replace h20 := h20.ev E159 nq
   replace h27 := h27.ev E159 nq
   replace h11 := h11.ev E159 nq nq
   replace h14 := h14.ev E159 nq nq
   replace h66 := h66.ev E159 nq nq
   replace h68 := h68.ev E159 nq
   replace hat64 := hat64.ev E159 nq
   replace h154 := h154.ev E159 nq nq
   replace h156 := h156.ev E159 nq
   as_aux_lemma =>
   replace hat152 := hat152.ev E159 nq
   replace E := E.trans E159 nx
   refine dm F ER.sb fun a F => ?_
   refine dq F (fun wq hS => r_nil F rfl) ER.sb fun a F => ?_
   refine df F ff_80_0 ER.sb fun a F => ?_
   refine dq F (fun wq hS => r_load F rfl ag_75 (AT.cell (AT.ev zhat152 hS (nor mm mm)) rfl)) ER.sb fun a F => ?_
   refine dq F (fun wq hS => r_loads (cs := [.int .i64 a8.Kind, .slice A9 a8.Key.length C10, .slice A12 a8.Value.length C13, .int .i64 a8.Rev]) F rfl ag_29 sz_29 (AT.sb zh20 hS (nor mm mm))) ER.sb fun a F => ?_
   refine d_f ?_ ?_
   ·obtain ⟨t160, q161, H⟩ := bind_some H
    refine oc F Tryz.func100 (table_Table_Do.calls k (m := m + 6) (pl hm0) B h154 h11 h14 ⟨(pl hm0), lm⟩ _ q161) ?_
    rintro e w163 ⟨c162, A166, C167, A169, C170, rfl, E164, B165, h168, h171, h172⟩
    refine ⟨_, rfl, fun a F => ?_⟩
    have B := B165
    replace ER := ER.trans E164 (fun x q => by replace q : x = m + 4 := q; show x = m + 4 ∨ x = m + 5; omega)
    replace h20 := h20.ev E164 mm
    replace h27 := h27.ev E164 mm
    replace h11 := h11.ev E164 ne_zm ne_zm
    replace h14 := h14.ev E164 ne_zm ne_zm
    replace h66 := h66.ev E164 (ne_pm bj5.1) ne_zm
    replace h68 := h68.ev E164 ne_zm
    replace hat64 := hat64.ev E164 (ne_pm bj4)
    replace h156 := h156.ev E164 ne_zm
    replace hat152 := hat152.ev E164 mm
    as_aux_lemma =>
    replace E := E.trans E164 lc1
    refine ⟨fun _ => ER.sb, ?_⟩
    refine dm F ER.sb fun a F => ?_
    refine dq F (fun wq hS => r_extract F rfl rfl) ER.sb fun a F => ?_
    refine dq F (fun wq hS => r_extract F rfl rfl) ER.sb fun a F => ?_
    refine d_e ?_
    refine o_eff F rfl rfl rfl (by decide) (e_alloc F zv_32 c162 (m + 5)) ?_
    rintro v w175 a ⟨c174, qa176, rfl, E177, h178, B179⟩ F
    replace B := B179 _ B lm
    replace ER := ER.trans E177 nx
    replace h20 := h20.ev E177 nq
    replace h27 := h27.ev E177 nq
    replace h11 := h11.ev E177 nq nq
    replace h14 := h14.ev E177 nq nq
    replace h66 := h66.ev E177 nq nq
    replace h68 := h68.ev E177 nq
    replace hat64 := hat64.ev E177 nq
    replace h156 := h156.ev E177 nq
    replace hat152 := hat152.ev E177 nq
    replace h168 := h168.ev E177 nq nq
    replace h171 := h171.ev E177 nq nq
    replace h172 := h172.ev E177 nq nq
    as_aux_lemma =>
    replace E := E.trans E177 nx
    replace h178 : AT true (m + 5) c174 w175 qa176 [.bool false, .slice none 0 0, .slice none 0 0, .int .i64 0, .int .i64 0] := h178
    refine ⟨fun _ => ER.sb, ?_⟩
    refine d_e ?_
    refine o_eff0 F rfl rfl rfl (e_storeN0 (us := [.bool t160.1.Done, .slice A166 t160.1.Key.length C167, .slice A169 t160.1.Value.length C170, .int .i64 t160.1.Rev, .int .i64 t160.1.At]) F rfl rfl sz_32 h178 (nb rfl) (one_all rfl)) ?_
    rintro w181 a ⟨E182, h178, Z183⟩ F
    replace B := B.size Z183
    replace ER := ER.trans E182 (fun x q => by replace q : x = m + 5 := q; show x = m + 4 ∨ x = m + 5; omega)
    replace h20 := h20.ev E182 mm
    replace h27 := h27.ev E182 mm
    replace h11 := h11.ev E182 ne_zm ne_zm
    replace h14 := h14.ev E182 ne_zm ne_zm
    replace h66 := h66.ev E182 (ne_pm bj5.1) ne_zm
    replace h68 := h68.ev E182 ne_zm
    replace hat64 := hat64.ev E182 (ne_pm bj4)
    replace h156 := h156.ev E182 ne_zm
    replace hat152 := hat152.ev E182 mm
    replace h168 := h168.ev E182 ne_zm ne_zm
    replace h171 := h171.ev E182 ne_zm ne_zm
    replace h172 := h172.ev E182 mm ne_zm
    replace E := E.trans E182 lc1
    replace h178 : AT true (m + 5) c174 w181 qa176 [.bool t160.1.Done, .slice A166 t160.1.Key.length C167, .slice A169 t160.1.Value.length C170, .int .i64 t160.1.Rev, .int .i64 t160.1.At] := h178
    as_aux_lemma =>
    refine ⟨fun _ => ER.sb, ?_⟩
    refine da F ER.sb fun a F => ?_
    refine d_nil ?_
    exact J211 c174 w181 a ad151 qa176 t160 p153 cs155 ob148 A166 C167 A169 C170 (F.sub ⟨rfl, rfl, rfl, rfl, rfl, rfl, rfl, rfl, trivial⟩) E B hat64 h20 h27 hat152 h178 h66 h68 h11 h14 h156 h172 h168 h171 H
   obtain ⟨t160, q161, H⟩ := bind_some H
   refine o_eff F rfl rfl rfl (by decide) (e_alloc F zv_32 c140 (m + 5)) ?_
   rintro v w185 a ⟨c184, qa176, rfl, E186, h178, B187⟩ F
   replace B := B187 _ B lm
   replace ER := ER.trans E186 nx
   replace h20 := h20.ev E186 nq
   replace h27 := h27.ev E186 nq
   replace h11 := h11.ev E186 nq nq
   replace h14 := h14.ev E186 nq nq
   replace h66 := h66.ev E186 nq nq
   replace h68 := h68.ev E186 nq
   replace hat64 := hat64.ev E186 nq
   replace h154 := h154.ev E186 nq nq
   replace h156 := h156.ev E186 nq
   replace hat152 := hat152.ev E186 nq
   replace E := E.trans E186 nx
   replace h178 : AT true (m + 5) c184 w185 qa176 [.bool false, .slice none 0 0, .slice none 0 0, .int .i64 0, .int .i64 0] := h178
   refine ⟨fun _ => ER.sb, ?_⟩
   as_aux_lemma =>
   refine d_e ?_
   refine oc F Tryz.func100 (table_Table_Do.calls k (m := m + 6) (pl hm0) B h154 h11 h14 ⟨(pl hm0), lm⟩ _ q161) ?_
   rintro e w189 ⟨c188, A192, C193, A195, C196, rfl, E190, B191, h194, h197, h198⟩
   refine ⟨_, rfl, fun a F => ?_⟩
   have B := B191
   replace ER := ER.trans E190 (fun x q => by replace q : x = m + 4 := q; show x = m + 4 ∨ x = m + 5; omega)
   replace h20 := h20.ev E190 mm
   replace h27 := h27.ev E190 mm
   replace h11 := h11.ev E190 ne_zm ne_zm
   replace h14 := h14.ev E190 ne_zm ne_zm
   replace h66 := h66.ev E190 (ne_pm bj5.1) ne_zm
   replace h68 := h68.ev E190 ne_zm
   replace hat64 := hat64.ev E190 (ne_pm bj4)
   replace h156 := h156.ev E190 ne_zm
   replace hat152 := hat152.ev E190 mm
   replace h178 := h178.ev E190 mm
   replace E := E.trans E190 lc1
   refine ⟨fun _ => ER.sb, ?_⟩
   refine dm F ER.sb fun a F => ?_
   refine dq F (fun wq hS => r_extract F rfl rfl) ER.sb fun a F => ?_
   refine dq F (fun wq hS => r_extract F rfl rfl) ER.sb fun a F => ?_
   refine d_e ?_
   as_aux_lemma =>
   refine o_eff0 F rfl rfl rfl (e_storeN0 (us := [.bool t160.1.Done, .slice A192 t160.1.Key.length C193, .slice A195 t160.1.Value.length C196, .int .i64 t160.1.Rev, .int .i64 t160.1.At]) F rfl rfl sz_32 h178 (nb rfl) (one_all rfl)) ?_
   rintro w200 a ⟨E201, h178, Z202⟩ F
   replace B := B.size Z202
   replace ER := ER.trans E201 (fun x q => by replace q : x = m + 5 := q; show x = m + 4 ∨ x = m + 5; omega)
   replace h20 := h20.ev E201 mm
   replace h27 := h27.ev E201 mm
   replace h11 := h11.ev E201 ne_zm ne_zm
   replace h14 := h14.ev E201 ne_zm ne_zm
   replace h66 := h66.ev E201 (ne_pm bj5.1) ne_zm
   replace h68 := h68.ev E201 ne_zm
   replace hat64 := hat64.ev E201 (ne_pm bj4)
   replace h156 := h156.ev E201 ne_zm
   replace hat152 := hat152.ev E201 mm
   replace h194 := h194.ev E201 ne_zm ne_zm
   replace h197 := h197.ev E201 ne_zm ne_zm
   replace h198 := h198.ev E201 mm ne_zm
   replace E := E.trans E201 lc1
   replace h178 : AT true (m + 5) c188 w200 qa176 [.bool t160.1.Done, .slice A192 t160.1.Key.length C193, .slice A195 t160.1.Value.length C196, .int .i64 t160.1.Rev, .int .i64 t160.1.At] := h178
   refine ⟨fun _ => ER.sb, ?_⟩
   refine da F ER.sb fun a F => ?_
   refine d_nil ?_
   exact J211 c188 w200 a ad151 qa176 t160 p153 cs155 ob148 A192 C193 A195 C196 (F.sub ⟨rfl, rfl, rfl, rfl, rfl, rfl, rfl, rfl, trivial⟩) E B hat64 h20 h27 hat152 h178 h66 h68 h11 h14 h156 h198 h194 h197 H
  as_aux_lemma =>
  replace H := im hb58 H
  refine wp_cond_true (fb F (congrArg not (bfalse hb58))) ?_
  refine wp_seq_k fun K133 hK133 => reg ?_
  refine qv F (r_build (v := .agg #[.bool false, .slice none 0 0, .slice none 0 0, .int .i64 0, .int .i64 0]) F [] (by exact trivial) (fun w => by kernel_rfl)) fun a F => ?_
  refine qa F fun a F => ?_
  refine q_eff0 F rfl rfl (e_storeN0 (us := [.bool false, .slice none 0 0, .slice none 0 0, .int .i64 0, .int .i64 0]) F rfl rfl sz_32 h27 (nb rfl) (one_all rfl)) ?_
  rintro w134 a ⟨E135, h27, Z136⟩ F
  replace B := B.size Z136
  replace E := E.trans E135 lc1
  replace h27 : AT true (m + 2) c53 w134 qa25 [.bool false, .slice none 0 0, .slice none 0 0, .int .i64 0, .int .i64 0] := h27
  refine qa F fun a F => ?_
  refine qa F fun a F => ?_
  refine nil (hK133 _ _ ?_)
  replace F : Fr a 111 [(8, .pointer none), (9, .pointer (some qa25)), (10, .bool false), (11, .int .i64 131)] := F.sub ⟨rfl, rfl, rfl, rfl, trivial⟩
  refine wp_ret ?_
  refine inbR ?_
  refine thenR ?_
  replace H := si H
  subst H
  refine outR4 F rfl rfl ⟨_, rfl, lv_agg (cs := [.bool false, .slice none 0 0, .slice none 0 0, .int .i64 0, .int .i64 0]) ag_32 sz_32 h27⟩ rfl rfl ?_
  exact ⟨cf (fun x_ => if x_ = m + 3 then jr351 else if x_ = m + 4 then jr352 else if x_ < m then x_ else 0) c53, none, none, 0, none, 0, rfl, E.lv B0, cfb, alc_mk (SH.nil), SL.nil, SL.nil⟩
 refine reg ?_
 as_aux_lemma =>
 refine qm F fun a F => ?_
 refine qv F (r_lss F rfl rfl) fun a F => ?_
 refine qm F fun a F => ?_
 by_cases hb38 : a6 < 0
 ·replace H := ip hb38 H
  refine qn F (dt hb38) fun a F => ?_
  refine qn F (dt hb38) fun a F => ?_
  refine qv F (r_pick_t F rfl (dt hb38) rfl) fun a F => ?_
  refine qm F fun a F => ?_
  refine qn F rfl fun a F => ?_
  refine qn F rfl fun a F => ?_
  refine qv F (r_pick_t F rfl rfl rfl) fun a F => ?_
  refine qm F fun a F => ?_
  refine qn F rfl fun a F => ?_
  refine qn F rfl fun a F => ?_
  refine qv F (r_pick_t F rfl rfl rfl) fun a F => ?_
  refine qa F fun a F => ?_
  refine nil ?_
  exact J42 c23 w24 a true (F.sub ⟨rfl, rfl, rfl, rfl, rfl, rfl, trivial⟩) E B h20 h27 h3 h11 h14 H
 replace H := im hb38 H
 refine qy F (dz hb38) ?_
 refine qm F fun a F => ?_
 refine qy F (dz hb38) ?_
 as_aux_lemma =>
 refine qv F (r_geq F rfl rfl) fun a F => ?_
 refine qv F (r_pick_f F rfl (dz hb38) rfl) fun a F => ?_
 refine qm F fun a F => ?_
 by_cases hb39 : 16 ≤ a6
 ·replace H := ip hb39 H
  refine qn F (dt hb39) fun a F => ?_
  refine qn F (dt hb39) fun a F => ?_
  refine qv F (r_pick_t F rfl (dt hb39) rfl) fun a F => ?_
  refine qm F fun a F => ?_
  refine qn F rfl fun a F => ?_
  refine qn F rfl fun a F => ?_
  refine qv F (r_pick_t F rfl rfl rfl) fun a F => ?_
  refine qa F fun a F => ?_
  refine nil ?_
  exact J42 c23 w24 a true (F.sub ⟨rfl, rfl, rfl, rfl, rfl, rfl, trivial⟩) E B h20 h27 h3 h11 h14 H
 replace H := im hb39 H
 refine qy F (dz hb39) ?_
 refine qm F fun a F => ?_
 refine qy F (dz hb39) ?_
 refine qv F (r_lss F rfl rfl) fun a F => ?_
 refine qv F (r_pick_f F rfl (dz hb39) rfl) fun a F => ?_
 refine qm F fun a F => ?_
 by_cases hb40 : a7 < 1
 ·replace H := ip hb40 H
  as_aux_lemma =>
  refine qn F (dt hb40) fun a F => ?_
  refine qn F (dt hb40) fun a F => ?_
  refine qv F (r_pick_t F rfl (dt hb40) rfl) fun a F => ?_
  refine qa F fun a F => ?_
  refine nil ?_
  exact J42 c23 w24 a true (F.sub ⟨rfl, rfl, rfl, rfl, rfl, rfl, trivial⟩) E B h20 h27 h3 h11 h14 H
 replace H := im hb40 H
 refine qy F (dz hb40) ?_
 refine qm F fun a F => ?_
 refine qy F (dz hb40) ?_
 refine qv F (r_gtr F rfl rfl) fun a F => ?_
 refine qv F (r_pick_f F rfl (dz hb40) rfl) fun a F => ?_
 refine qa F fun a F => ?_
 refine nil ?_
 exact J42 c23 w24 a (decide (1073741824 < a7)) (F.sub ⟨rfl, rfl, rfl, rfl, rfl, rfl, trivial⟩) E B h20 h27 h3 h11 h14 H
theorem shard_Shard_Do.calls (k : Nat) {m : Nat} {c0 : Nat → Nat} {w0 : World} {j4 : Nat} {j5 : Nat} {p2 : Option Addr} {A9 : Option Addr} {C10 : Nat} {A12 : Option Addr} {C13 : Nat} {a1 : Option Sha} {a6 : Int} {a7 : Int} {a8 : api_Op} (hm0 : 0 < m) (B0 : CB m c0 w0) (h3 : SH j4 j5 c0 w0 p2 a1) (h11 : SL false (Kint .u8) 0 0 c0 w0 A9 C10 a8.Key) (h14 : SL false (Kint .u8) 0 0 c0 w0 A12 C13 a8.Value) (bj4 : 0 < j4 ∧ j4 < m) (bj5 : 0 < j5 ∧ j5 < m ∧ j5 ≠ j4) (r : api_Answer × Bool × Int × (Option Sha)) (H : shard_Shard_Do.f k a1 a6 a7 a8 = some r) : Calls Tryz.prog 11 #[.pointer p2, .int .i64 a6, .int .i64 a7, .agg #[.int .i64 a8.Kind, .slice A9 a8.Key.length C10, .slice A12 a8.Value.length C13, .int .i64 a8.Rev]] w0 (fun e w_ => ∃ (c_ : Nat → Nat) (A0_ : Option Addr) (C0_ : Nat) (A2_ : Option Addr) (C2_ : Nat), e = .returned (.tuple #[.agg #[.bool r.1.Done, .slice A0_ r.1.Key.length C0_, .slice A2_ r.1.Value.length C2_, .int .i64 r.1.Rev, .int .i64 r.1.At], .bool r.2.1, .int .i64 r.2.2.1]) ∧ Ev (fun x => (x = j4 ∨ x = j5)) c0 w0 c_ w_ ∧ CB m c_ w_ ∧ SL false (Kint .u8) 0 0 c_ w_ A0_ C0_ r.1.Key ∧ SL false (Kint .u8) 0 0 c_ w_ A2_ C2_ r.1.Value ∧ SH j4 j5 c_ w_ p2 r.2.2.2) := by
 unfold shard_Shard_Do.f at H
 have B := B0.mono (show m ≤ m + 6 by omega)
 have E : Ev (fun x => (x = j4 ∨ x = j5) ∨ m ≤ x) c0 w0 c0 w0 := Ev.refl
 refine enter (N := 35) (l := [.pointer p2, .int .i64 a6, .int .i64 a7, .agg #[.int .i64 a8.Kind, .slice A9 a8.Key.length C10, .slice A12 a8.Value.length C13, .int .i64 a8.Rev]]) Tryz.func11 rfl rfl (nb rfl) fun a F => ?_
 refine wp_seq_k fun K15 hK15 => reg ?_
 refine q_eff F rfl rfl (by decide) (e_box F (v := .agg #[.int .i64 a8.Kind, .slice A9 a8.Key.length C10, .slice A12 a8.Value.length C13, .int .i64 a8.Rev]) rfl c0 (m + 1)) ?_
 rintro v w17 a ⟨c16, qa18, rfl, E19, h20, B21⟩ F
 replace B := B21 _ B lm
 replace h3 := h3.ev E19 nq nq nq
 replace h11 := h11.ev E19 nq nq
 replace h14 := h14.ev E19 nq nq
 replace E := E.trans E19 nx
 replace h20 : AT true (m + 1) c16 w17 qa18 [.int .i64 a8.Kind, .slice A9 a8.Key.length C10, .slice A12 a8.Value.length C13, .int .i64 a8.Rev] := h20
 refine q_eff F rfl rfl (by decide) (e_alloc F zv_32 c16 (m + 2)) ?_
 rintro v w24 a ⟨c23, qa25, rfl, E26, h27, B28⟩ F
 replace B := B28 _ B lm
 replace h3 := h3.ev E26 nq nq nq
 replace h11 := h11.ev E26 nq nq
 replace h14 := h14.ev E26 nq nq
 replace h20 := h20.ev E26 nq
 replace E := E.trans E26 nx
 replace h27 : AT true (m + 2) c23 w24 qa25 [.bool false, .slice none 0 0, .slice none 0 0, .int .i64 0, .int .i64 0] := h27
 refine qa F fun a F => ?_
 refine qa F fun a F => ?_
 refine nil (hK15 _ _ ?_)
 refine wp_seq_k fun K30 hK30 => reg ?_
 refine qm F fun a F => ?_
 refine qm F fun a F => ?_
 refine qm F fun a F => ?_
 refine qv F (r_loads (cs := [.int .i64 a8.Kind, .slice A9 a8.Key.length C10, .slice A12 a8.Value.length C13, .int .i64 a8.Rev]) F rfl ag_29 sz_29 h20) fun a F => ?_
 obtain ⟨t31, q32, H⟩ := bind_some H
 refine qc F Tryz.func44 (shard_Shard_next.calls k (m := m + 6) (pl hm0) B h3 h11 h14 (Nat.lt_add_right _ bj4.2) ⟨(Nat.lt_add_right _ bj5.2.1), bj5.2.2⟩ (m + 3) lm (m + 4) lm _ q32) ?_
 rintro e w34 ⟨c33, p37, A39, C40, A42, C43, rfl, E35, B36, h38, h41, h44⟩
 refine ⟨_, rfl, fun a F => ?_⟩
 have B := B36
 replace h3 := h3.ev E35 nq nq nq
 replace h27 := h27.ev E35 nq
 replace E := E.trans E35 nx
 rcases hq46 : t31.1 with _ | o47
 ·replace H := (alc_none hq46).symm.trans H
  replace h38 := Eq.mp (alc_none hq46) h38
  replace h38 : p2 = p37 := Eq.symm h38
  subst h38
  refine qm F fun a F => ?_
  refine qv F (r_extract F rfl rfl) fun a F => ?_
  refine qv F (r_extract F rfl rfl) fun a F => ?_
  refine qv F (r_extract F rfl rfl) fun a F => ?_
  refine qv F (r_extract F rfl rfl) fun a F => ?_
  refine q_eff F rfl rfl (by decide) (e_alloc F zv_32 c33 (m + 5)) ?_
  rintro v w49 a ⟨c48, qa50, rfl, E51, h52, B53⟩ F
  replace B := B53 _ B lm
  replace h3 := h3.ev E51 nq nq nq
  replace h27 := h27.ev E51 nq
  replace h41 := h41.ev E51 nq nq
  replace h44 := h44.ev E51 nq nq
  replace E := E.trans E51 nx
  replace h52 : AT true (m + 5) c48 w49 qa50 [.bool false, .slice none 0 0, .slice none 0 0, .int .i64 0, .int .i64 0] := h52
  refine qa F fun a F => ?_
  refine q_eff0 F rfl rfl (e_storeN0 (us := [.bool t31.2.1.Done, .slice A39 t31.2.1.Key.length C40, .slice A42 t31.2.1.Value.length C43, .int .i64 t31.2.1.Rev, .int .i64 t31.2.1.At]) F rfl rfl sz_32 h52 (nb rfl) (one_all rfl)) ?_
  rintro w55 a ⟨E56, h52, Z57⟩ F
  replace B := B.size Z57
  replace h3 := h3.ev E56 (ne_pm bj4.2) (ne_pm bj5.2.1) ne_zm
  replace h27 := h27.ev E56 mm
  replace h41 := h41.ev E56 ne_zm ne_zm
  replace h44 := h44.ev E56 ne_zm ne_zm
  replace E := E.trans E56 lc1
  replace h52 : AT true (m + 5) c48 w55 qa50 [.bool t31.2.1.Done, .slice A39 t31.2.1.Key.length C40, .slice A42 t31.2.1.Value.length C43, .int .i64 t31.2.1.Rev, .int .i64 t31.2.1.At] := h52
  refine qa F fun a F => ?_
  refine qa F fun a F => ?_
  refine nil (hK30 _ _ ?_)
  replace F : Fr a 35 [(0, .pointer p2), (8, .pointer (some qa25)), (11, .pointer p2), (12, .pointer (some qa50)), (13, .bool t31.2.2.1), (14, .int .i64 t31.2.2.2)] := F.sub ⟨rfl, rfl, rfl, rfl, rfl, rfl, trivial⟩
  refine wp_seq_k fun K65 hK65 => ?_
  refine wp_seq_k fun K66 hK66 => reg ?_
  refine qm F fun a F => ?_
  refine qv F (r_eql F rfl rfl) fun a F => ?_
  refine nil (hK66 _ _ ?_)
  by_cases hb67 : t31.2.2.2 = 0
  ·replace H := ip hb67 H
   refine wp_cond_true (fb F (dt hb67)) ?_
   refine reg ?_
   refine qm F fun a F => ?_
   refine qm F fun a F => ?_
   obtain ⟨ob68, e69, H⟩ := bind_some H
   have z70 := h3
   rw [e69] at z70
   obtain ⟨ad71, p73, cs75, rfl, hat72, h74, h76⟩ := SH.some z70
   refine qv F (r_nil F rfl) fun a F => ?_
   refine qv F (r_loadsS (cs := (([.pointer p73] : List Value) ++ (cs75 ++ (([] : List Value))))) F rfl ag_80 sz_80 (by have l0_ : cs75.length = 112 := (h76.1 : cs75.length = 112); simp only [List.length_append, List.length_cons, List.length_nil] <;> omega) hat72) fun a F => ?_
   refine qv F (r_nil F rfl) fun a F => ?_
   refine q_eff0 F rfl rfl (e_storeNS (us := (([.pointer p73] : List Value) ++ (cs75 ++ (([] : List Value))))) F rfl rfl sz_80 (by have l0_ : cs75.length = 112 := (h76.1 : cs75.length = 112); simp only [List.length_append, List.length_cons, List.length_nil] <;> omega) hat72 (by have l0_ : cs75.length = 112 := (h76.1 : cs75.length = 112); have m0_ : cs75.length = 112 := (h76.1 : cs75.length = 112); simp only [List.length_append, List.length_cons, List.length_nil] <;> omega) (all_app (one_all (us := ([.pointer p73] : List Value)) rfl) (all_app (AR.one h76) (one_all (us := ([] : List Value)) rfl)))) ?_
   rintro w78 a ⟨E79, hat72, Z80⟩ F
   replace B := B.size Z80
   replace h27 := h27.ev E79 (ne_mp bj4.2)
   replace h41 := h41.ev E79 (ne_z bj4.1) (ne_z bj4.1)
   replace h44 := h44.ev E79 (ne_z bj4.1) (ne_z bj4.1)
   replace h52 := h52.ev E79 (ne_mp bj4.2)
   replace h74 := h74.ev E79 bj5.2.2 (ne_z bj4.1)
   replace h76 := h76.ev E79 (ne_z bj4.1)
   replace E := E.trans E79 (fun x (q : x = j4) => Or.inl (Or.inl q))
   replace hat72 : AT true j4 c48 w78 ad71 (([.pointer p73] : List Value) ++ (cs75 ++ (([] : List Value)))) := AT.eqv hat72 (lay_all (by have l0_ : cs75.length = 112 := (h76.1 : cs75.length = 112); have m0_ : cs75.length = 112 := (h76.1 : cs75.length = 112); simp only [List.length_append, List.length_cons, List.length_nil] <;> omega))
   refine nil (hK65 _ _ ?_)
   replace F : Fr a 35 [(8, .pointer (some qa25)), (12, .pointer (some qa50)), (13, .bool t31.2.2.1), (14, .int .i64 t31.2.2.2)] := F.sub ⟨rfl, rfl, rfl, rfl, trivial⟩
   refine wp_seq_k fun K81 hK81 => reg ?_
   refine qv F (r_loads (cs := [.bool t31.2.1.Done, .slice A39 t31.2.1.Key.length C40, .slice A42 t31.2.1.Value.length C43, .int .i64 t31.2.1.Rev, .int .i64 t31.2.1.At]) F rfl ag_32 sz_32 h52) fun a F => ?_
   refine qm F fun a F => ?_
   refine qm F fun a F => ?_
   refine q_eff0 F rfl rfl (e_storeN0 (us := [.bool t31.2.1.Done, .slice A39 t31.2.1.Key.length C40, .slice A42 t31.2.1.Value.length C43, .int .i64 t31.2.1.Rev, .int .i64 t31.2.1.At]) F rfl rfl sz_32 h27 (nb rfl) (one_all rfl)) ?_
   rintro w82 a ⟨E83, h27, Z84⟩ F
   replace B := B.size Z84
   replace h41 := h41.ev E83 ne_zm ne_zm
   replace h44 := h44.ev E83 ne_zm ne_zm
   replace h74 := h74.ev E83 (ne_pm bj5.2.1) ne_zm
   replace h76 := h76.ev E83 ne_zm
   replace hat72 := hat72.ev E83 (ne_pm bj4.2)
   replace E := E.trans E83 lc1
   replace h27 : AT true (m + 2) c48 w82 qa25 [.bool t31.2.1.Done, .slice A39 t31.2.1.Key.length C40, .slice A42 t31.2.1.Value.length C43, .int .i64 t31.2.1.Rev, .int .i64 t31.2.1.At] := h27
   refine qa F fun a F => ?_
   refine qa F fun a F => ?_
   refine nil (hK81 _ _ ?_)
   refine wp_ret ?_
   have h85 : SH j4 j5 c48 w82 (some ad71) (some (Sha.mk ob68.Table ob68.seats)) := SH.mk hat72 h74 h76
   replace H := si H
   subst H
   refine outR3 F rfl ⟨_, rfl, lv_agg (cs := [.bool t31.2.1.Done, .slice A39 t31.2.1.Key.length C40, .slice A42 t31.2.1.Value.length C43, .int .i64 t31.2.1.Rev, .int .i64 t31.2.1.At]) ag_32 sz_32 h27⟩ rfl rfl ?_
   exact ⟨cf (fun x_ => if x_ = m + 4 then j5 else if x_ < m then x_ else 0) c48, A39, C40, A42, C43, rfl, E.lv B0, cfb, SL.rc h41 cfk cfk, SL.rc h44 cfk cfk, SH.rc h85 cfk cfk cfk⟩
  replace H := im hb67 H
  refine wp_cond_false (fb F (dz hb67)) (wp_skip (hK65 _ _ ?_))
  refine wp_seq_k fun K86 hK86 => reg ?_
  refine qv F (r_loads (cs := [.bool t31.2.1.Done, .slice A39 t31.2.1.Key.length C40, .slice A42 t31.2.1.Value.length C43, .int .i64 t31.2.1.Rev, .int .i64 t31.2.1.At]) F rfl ag_32 sz_32 h52) fun a F => ?_
  refine qm F fun a F => ?_
  refine qm F fun a F => ?_
  refine q_eff0 F rfl rfl (e_storeN0 (us := [.bool t31.2.1.Done, .slice A39 t31.2.1.Key.length C40, .slice A42 t31.2.1.Value.length C43, .int .i64 t31.2.1.Rev, .int .i64 t31.2.1.At]) F rfl rfl sz_32 h27 (nb rfl) (one_all rfl)) ?_
  rintro w87 a ⟨E88, h27, Z89⟩ F
  replace B := B.size Z89
  replace h3 := h3.ev E88 (ne_pm bj4.2) (ne_pm bj5.2.1) ne_zm
  replace h41 := h41.ev E88 ne_zm ne_zm
  replace h44 := h44.ev E88 ne_zm ne_zm
  replace E := E.trans E88 lc1
  replace h27 : AT true (m + 2) c48 w87 qa25 [.bool t31.2.1.Done, .slice A39 t31.2.1.Key.length C40, .slice A42 t31.2.1.Value.length C43, .int .i64 t31.2.1.Rev, .int .i64 t31.2.1.At] := h27
  refine qa F fun a F => ?_
  refine qa F fun a F => ?_
  refine nil (hK86 _ _ ?_)
  replace F : Fr a 35 [(8, .pointer (some qa25)), (9, .bool t31.2.2.1), (10, .int .i64 t31.2.2.2)] := F.sub ⟨rfl, rfl, rfl, trivial⟩
  refine wp_ret ?_
  replace H := si H
  subst H
  refine outR3 F rfl ⟨_, rfl, lv_agg (cs := [.bool t31.2.1.Done, .slice A39 t31.2.1.Key.length C40, .slice A42 t31.2.1.Value.length C43, .int .i64 t31.2.1.Rev, .int .i64 t31.2.1.At]) ag_32 sz_32 h27⟩ rfl rfl ?_
  exact ⟨cf (fun x_ => if x_ = m + 4 then j5 else if x_ < m then x_ else 0) c48, A39, C40, A42, C43, rfl, E.lv B0, cfb, SL.rc h41 cfk cfk, SL.rc h44 cfk cfk, SH.rc h3 cfk cfk cfk⟩
 replace H := (alc_some hq46).symm.trans H
 replace h38 := Eq.mp (alc_some hq46) h38
 refine qm F fun a F => ?_
 refine qv F (r_extract F rfl rfl) fun a F => ?_
 refine qv F (r_extract F rfl rfl) fun a F => ?_
 refine qv F (r_extract F rfl rfl) fun a F => ?_
 refine qv F (r_extract F rfl rfl) fun a F => ?_
 refine q_eff F rfl rfl (by decide) (e_alloc F zv_32 c33 (m + 5)) ?_
 rintro v w59 a ⟨c58, qa50, rfl, E60, h52, B61⟩ F
 replace B := B61 _ B lm
 replace h3 := h3.ev E60 nq nq nq
 replace h27 := h27.ev E60 nq
 replace h41 := h41.ev E60 nq nq
 replace h44 := h44.ev E60 nq nq
 replace h38 := h38.ev E60 nq nq nq
 replace E := E.trans E60 nx
 replace h52 : AT true (m + 5) c58 w59 qa50 [.bool false, .slice none 0 0, .slice none 0 0, .int .i64 0, .int .i64 0] := h52
 refine qa F fun a F => ?_
 refine q_eff0 F rfl rfl (e_storeN0 (us := [.bool t31.2.1.Done, .slice A39 t31.2.1.Key.length C40, .slice A42 t31.2.1.Value.length C43, .int .i64 t31.2.1.Rev, .int .i64 t31.2.1.At]) F rfl rfl sz_32 h52 (nb rfl) (one_all rfl)) ?_
 rintro w62 a ⟨E63, h52, Z64⟩ F
 replace B := B.size Z64
 replace h3 := h3.ev E63 (ne_pm bj4.2) (ne_pm bj5.2.1) ne_zm
 replace h27 := h27.ev E63 mm
 replace h41 := h41.ev E63 ne_zm ne_zm
 replace h44 := h44.ev E63 ne_zm ne_zm
 replace h38 := h38.ev E63 mm mm ne_zm
 replace E := E.trans E63 lc1
 replace h52 : AT true (m + 5) c58 w62 qa50 [.bool t31.2.1.Done, .slice A39 t31.2.1.Key.length C40, .slice A42 t31.2.1.Value.length C43, .int .i64 t31.2.1.Rev, .int .i64 t31.2.1.At] := h52
 refine qa F fun a F => ?_
 refine qa F fun a F => ?_
 refine nil (hK30 _ _ ?_)
 replace F : Fr a 35 [(0, .pointer p2), (8, .pointer (some qa25)), (11, .pointer p37), (12, .pointer (some qa50)), (13, .bool t31.2.2.1), (14, .int .i64 t31.2.2.2)] := F.sub ⟨rfl, rfl, rfl, rfl, rfl, rfl, trivial⟩
 refine wp_seq_k fun K90 hK90 => ?_
 refine wp_seq_k fun K91 hK91 => reg ?_
 refine qm F fun a F => ?_
 refine qv F (r_eql F rfl rfl) fun a F => ?_
 refine nil (hK91 _ _ ?_)
 by_cases hb92 : t31.2.2.2 = 0
 ·replace H := ip hb92 H
  refine wp_cond_true (fb F (dt hb92)) ?_
  refine reg ?_
  refine qm F fun a F => ?_
  refine qm F fun a F => ?_
  obtain ⟨ob93, e94, H⟩ := bind_some H
  have z95 := h38
  rw [e94] at z95
  obtain ⟨ad96, p98, cs100, rfl, hat97, h99, h101⟩ := SH.some z95
  refine qv F (r_nil F rfl) fun a F => ?_
  refine qv F (r_loadsS (cs := (([.pointer p98] : List Value) ++ (cs100 ++ (([] : List Value))))) F rfl ag_80 sz_80 (by have l0_ : cs100.length = 112 := (h101.1 : cs100.length = 112); simp only [List.length_append, List.length_cons, List.length_nil] <;> omega) hat97) fun a F => ?_
  obtain ⟨ob103, e104, H⟩ := bind_some H
  have z105 := h3
  rw [e104] at z105
  obtain ⟨ad106, p108, cs110, rfl, hat107, h109, h111⟩ := SH.some z105
  refine qv F (r_nil F rfl) fun a F => ?_
  refine q_eff0 F rfl rfl (e_storeNS (us := (([.pointer p98] : List Value) ++ (cs100 ++ (([] : List Value))))) F rfl rfl sz_80 (by have l0_ : cs100.length = 112 := (h101.1 : cs100.length = 112); simp only [List.length_append, List.length_cons, List.length_nil] <;> omega) hat107 (by have l0_ : cs110.length = 112 := (h111.1 : cs110.length = 112); have m0_ : cs100.length = 112 := (h101.1 : cs100.length = 112); simp only [List.length_append, List.length_cons, List.length_nil] <;> omega) (all_app (one_all (us := ([.pointer p98] : List Value)) rfl) (all_app (AR.one h101) (one_all (us := ([] : List Value)) rfl)))) ?_
  rintro w113 a ⟨E114, hat107, Z115⟩ F
  replace B := B.size Z115
  replace h27 := h27.ev E114 (ne_mp bj4.2)
  replace h41 := h41.ev E114 (ne_z bj4.1) (ne_z bj4.1)
  replace h44 := h44.ev E114 (ne_z bj4.1) (ne_z bj4.1)
  replace h52 := h52.ev E114 (ne_mp bj4.2)
  replace h99 := h99.ev E114 (ne_mp bj4.2) (ne_z bj4.1)
  replace h101 := h101.ev E114 (ne_z bj4.1)
  replace h111 := h111.ev E114 (ne_z bj4.1)
  replace E := E.trans E114 (fun x (q : x = j4) => Or.inl (Or.inl q))
  replace hat107 : AT true j4 c58 w113 ad106 (([.pointer p98] : List Value) ++ (cs100 ++ (([] : List Value)))) := AT.eqv hat107 (lay_all (by have l0_ : cs110.length = 112 := (h111.1 : cs110.length = 112); have m0_ : cs100.length = 112 := (h101.1 : cs100.length = 112); simp only [List.length_append, List.length_cons, List.length_nil] <;> omega))
  refine nil (hK90 _ _ ?_)
  replace F : Fr a 35 [(8, .pointer (some qa25)), (12, .pointer (some qa50)), (13, .bool t31.2.2.1), (14, .int .i64 t31.2.2.2)] := F.sub ⟨rfl, rfl, rfl, rfl, trivial⟩
  refine wp_seq_k fun K116 hK116 => reg ?_
  refine qv F (r_loads (cs := [.bool t31.2.1.Done, .slice A39 t31.2.1.Key.length C40, .slice A42 t31.2.1.Value.length C43, .int .i64 t31.2.1.Rev, .int .i64 t31.2.1.At]) F rfl ag_32 sz_32 h52) fun a F => ?_
  refine qm F fun a F => ?_
  refine qm F fun a F => ?_
  refine q_eff0 F rfl rfl (e_storeN0 (us := [.bool t31.2.1.Done, .slice A39 t31.2.1.Key.length C40, .slice A42 t31.2.1.Value.length C43, .int .i64 t31.2.1.Rev, .int .i64 t31.2.1.At]) F rfl rfl sz_32 h27 (nb rfl) (one_all rfl)) ?_
  rintro w117 a ⟨E118, h27, Z119⟩ F
  replace B := B.size Z119
  replace h41 := h41.ev E118 ne_zm ne_zm
  replace h44 := h44.ev E118 ne_zm ne_zm
  replace h99 := h99.ev E118 mm ne_zm
  replace h101 := h101.ev E118 ne_zm
  replace hat107 := hat107.ev E118 (ne_pm bj4.2)
  replace E := E.trans E118 lc1
  replace h27 : AT true (m + 2) c58 w117 qa25 [.bool t31.2.1.Done, .slice A39 t31.2.1.Key.length C40, .slice A42 t31.2.1.Value.length C43, .int .i64 t31.2.1.Rev, .int .i64 t31.2.1.At] := h27
  refine qa F fun a F => ?_
  refine qa F fun a F => ?_
  refine nil (hK116 _ _ ?_)
  refine wp_ret ?_
  have h120 : SH j4 (m + 4) c58 w117 (some ad106) (some (Sha.mk ob93.Table ob93.seats)) := SH.mk hat107 h99 h101
  replace H := si H
  subst H
  refine outR3 F rfl ⟨_, rfl, lv_agg (cs := [.bool t31.2.1.Done, .slice A39 t31.2.1.Key.length C40, .slice A42 t31.2.1.Value.length C43, .int .i64 t31.2.1.Rev, .int .i64 t31.2.1.At]) ag_32 sz_32 h27⟩ rfl rfl ?_
  exact ⟨cf (fun x_ => if x_ = m + 4 then j5 else if x_ < m then x_ else 0) c58, A39, C40, A42, C43, rfl, E.lv B0, cfb, SL.rc h41 cfk cfk, SL.rc h44 cfk cfk, SH.rc h120 cfk cfk cfk⟩
 replace H := im hb92 H
 refine wp_cond_false (fb F (dz hb92)) (wp_skip (hK90 _ _ ?_))
 refine wp_seq_k fun K121 hK121 => reg ?_
 refine qv F (r_loads (cs := [.bool t31.2.1.Done, .slice A39 t31.2.1.Key.length C40, .slice A42 t31.2.1.Value.length C43, .int .i64 t31.2.1.Rev, .int .i64 t31.2.1.At]) F rfl ag_32 sz_32 h52) fun a F => ?_
 refine qm F fun a F => ?_
 refine qm F fun a F => ?_
 refine q_eff0 F rfl rfl (e_storeN0 (us := [.bool t31.2.1.Done, .slice A39 t31.2.1.Key.length C40, .slice A42 t31.2.1.Value.length C43, .int .i64 t31.2.1.Rev, .int .i64 t31.2.1.At]) F rfl rfl sz_32 h27 (nb rfl) (one_all rfl)) ?_
 rintro w122 a ⟨E123, h27, Z124⟩ F
 replace B := B.size Z124
 replace h3 := h3.ev E123 (ne_pm bj4.2) (ne_pm bj5.2.1) ne_zm
 replace h41 := h41.ev E123 ne_zm ne_zm
 replace h44 := h44.ev E123 ne_zm ne_zm
 replace E := E.trans E123 lc1
 replace h27 : AT true (m + 2) c58 w122 qa25 [.bool t31.2.1.Done, .slice A39 t31.2.1.Key.length C40, .slice A42 t31.2.1.Value.length C43, .int .i64 t31.2.1.Rev, .int .i64 t31.2.1.At] := h27
 refine qa F fun a F => ?_
 refine qa F fun a F => ?_
 refine nil (hK121 _ _ ?_)
 replace F : Fr a 35 [(8, .pointer (some qa25)), (9, .bool t31.2.2.1), (10, .int .i64 t31.2.2.2)] := F.sub ⟨rfl, rfl, rfl, trivial⟩
 refine wp_ret ?_
 replace H := si H
 subst H
 refine outR3 F rfl ⟨_, rfl, lv_agg (cs := [.bool t31.2.1.Done, .slice A39 t31.2.1.Key.length C40, .slice A42 t31.2.1.Value.length C43, .int .i64 t31.2.1.Rev, .int .i64 t31.2.1.At]) ag_32 sz_32 h27⟩ rfl rfl ?_
 exact ⟨cf (fun x_ => if x_ = m + 4 then j5 else if x_ < m then x_ else 0) c58, A39, C40, A42, C43, rfl, E.lv B0, cfb, SL.rc h41 cfk cfk, SL.rc h44 cfk cfk, SH.rc h3 cfk cfk cfk⟩
theorem tree_Tree_All.calls {m : Nat} {c0 : Nat → Nat} {w0 : World} {p2 : Option Addr} {a1 : Tr} (hm0 : 0 < m) (B0 : CB m c0 w0) (h3 : TR 0 c0 w0 p2 a1) (jr14 : Nat) (bjr14 : jr14 < m) (r : It) (H : tree_Tree_All.f a1 = some r) : Calls Tryz.prog 128 #[.pointer p2] w0 (fun e w_ => ∃ (c_ : Nat → Nat) (V0_ : Value), e = .returned (V0_) ∧ Ev (fun x => False) c0 w0 c_ w_ ∧ CB m c_ w_ ∧ ITR jr14 c_ w_ V0_ r) := by
 unfold tree_Tree_All.f at H
 have B := B0.mono (show m ≤ m + 2 by omega)
 have E : Ev (fun x => False ∨ m ≤ x) c0 w0 c0 w0 := Ev.refl
 refine enter (N := 4) (l := [.pointer p2]) Tryz.func128 rfl rfl (nb rfl) fun a F => ?_
 refine wp_seq_k fun K4 hK4 => reg ?_
 refine q_eff F rfl rfl (by decide) (e_box F (v := .pointer p2) rfl c0 (m + 1)) ?_
 rintro v w6 a ⟨c5, qa7, rfl, E8, h9, B10⟩ F
 replace B := B10 _ B lm
 replace h3 := h3.ev E8 nq nq
 replace E := E.trans E8 nx
 replace h9 : AT true (m + 1) c5 w6 qa7 [.pointer p2] := h9
 refine qa F fun a F => ?_
 refine nil (hK4 _ _ ?_)
 refine wp_seq_k fun K12 hK12 => reg ?_
 refine qv F (r_makeFunc (vs := [.pointer (some qa7)]) F rfl) fun a F => ?_
 refine qa F fun a F => ?_
 refine nil (hK12 _ _ ?_)
 refine wp_ret ?_
 have h13 : ITR (m + 1) c5 w6 (.func (.func 170) #[] #[.pointer (some qa7)]) (.all a1) := ⟨qa7, p2, rfl, h9, h3⟩
 replace H := si H
 subst H
 refine out1 F rfl rfl ?_
 exact ⟨cf (fun x_ => if x_ = m + 1 then jr14 else if x_ < m then x_ else 0) c5, (.func (.func 170) #[] #[.pointer (some qa7)]), rfl, E.lv B0, cfb, ITR.rc h13 cfk cfk⟩
theorem table_Table_Bytes.calls (k : Nat) {m : Nat} {c0 : Nat → Nat} {w0 : World} {j4 : Nat} {p2 : Option Addr} {a1 : Option Tab} (hm0 : 0 < m) (B0 : CB m c0 w0) (h3 : TB j4 c0 w0 p2 a1) (bj4 : j4 < m) (r : (List Int)) (H : table_Table_Bytes.f k a1 = some r) : Calls Tryz.prog 73 #[.pointer p2] w0 (fun e w_ => ∃ (c_ : Nat → Nat) (A0_ : Option Addr) (C0_ : Nat), e = .returned (.slice A0_ r.length C0_) ∧ Ev (fun x => False) c0 w0 c_ w_ ∧ CB m c_ w_ ∧ SL false (Kint .u8) 0 0 c_ w_ A0_ C0_ r) := by
 unfold table_Table_Bytes.f at H
 have B := B0.mono (show m ≤ m + 8 by omega)
 have E : Ev (fun x => False ∨ m ≤ x) c0 w0 c0 w0 := Ev.refl
 refine enterM (N := 54) (l := [.pointer p2]) Tryz.func73 rfl rfl (nb rfl) fun a F => ?_
 refine wp_seq_k fun K5 hK5 => reg ?_
 refine qa F fun a F => ?_
 refine nil (hK5 _ _ ?_)
 refine wp_seq_k fun K6 hK6 => ?_
 refine wp_seq_k fun K7 hK7 => reg ?_
 refine qm F fun a F => ?_
 refine qv F (r_peqlA F Tryz.underlying75 rfl rfl (TB.isNone h3)) fun a F => ?_
 refine nil (hK7 _ _ ?_)
 by_cases hb8 : (Option.isNone a1) = true
 ·replace H := ip hb8 H
  refine wp_cond_true (fb F hb8) ?_
  refine wp_seq_k fun K9 hK9 => reg ?_
  refine qa F fun a F => ?_
  refine nil (hK9 _ _ ?_)
  refine wp_ret ?_
  refine thenR ?_
  refine outM ?_
  refine endM0 F ?_
  replace H := si H
  subst H
  refine out1 F rfl rfl ?_
  exact ⟨cf (fun x_ => if x_ < m then x_ else 0) c0, none, 0, rfl, E.lv B0, cfb, SL.nil⟩
 replace H := im hb8 H
 refine wp_cond_false (fb F (bfalse hb8)) (wp_skip (hK6 _ _ ?_))
 refine wp_seq_k fun K10 hK10 => reg ?_
 refine qm F fun a F => ?_
 obtain ⟨t11, q12, H⟩ := bind_some H
 refine qc F Tryz.func81 (table_Table_Size.calls k (m := m + 8) (pl hm0) B h3 (Nat.lt_add_right _ bj4) _ q12) ?_
 rintro e w14 ⟨c13, rfl, E15, B16⟩
 refine ⟨_, rfl, fun a F => ?_⟩
 have B := B16
 replace h3 := h3.ev E15 nq nq
 replace E := E.trans E15 nx
 obtain ⟨t18, q19, H⟩ := bind_some H
 refine qc F Tryz.func71 (parcel_New.calls (m := m + 8) (pl hm0) B (m + 1) lm (m + 2) lm _ q19) ?_
 rintro e w21 ⟨c20, p24, rfl, E22, B23, h25⟩
 refine ⟨_, rfl, fun a F => ?_⟩
 have B := B23
 replace h3 := h3.ev E22 nq nq
 replace E := E.trans E22 nx
 refine q_eff F rfl rfl (by decide) (e_alloc F zv_114 c20 (m + 3)) ?_
 rintro v w28 a ⟨c27, qa29, rfl, E30, h31, B32⟩ F
 replace B := B32 _ B lm
 replace h3 := h3.ev E30 nq nq
 replace h25 := h25.ev E30 nq nq nq
 replace E := E.trans E30 nx
 replace h31 : AT true (m + 3) c27 w28 qa29 [.pointer none] := h31
 refine q_eff0 F rfl rfl (e_store0 F rfl rfl sz_114 h31 (nb rfl) rfl) ?_
 rintro w34 a ⟨E35, h31, Z36⟩ F
 replace B := B.size Z36
 replace h3 := h3.ev E35 (ne_pm bj4) ne_zm
 replace h25 := h25.ev E35 mm mm ne_zm
 replace E := E.trans E35 lc1
 replace h31 : AT true (m + 3) c27 w34 qa29 [.pointer p24] := h31
 refine nil (hK10 _ _ ?_)
 refine wp_seq_k fun K37 hK37 => ?_
 obtain ⟨ob38, e39, H⟩ := bind_some H
 have z40 := h3
 rw [e39] at z40
 obtain ⟨ad41, p43, rfl, hat42, h44⟩ := TB.some z40
 refine regD (SB No c27 w34) 6 (.q 0 (.e 1 (.e 2 (.e 3 (.e 4 (.q 5 (.e 6 .nil))))))) Tryz_hm (by decide +kernel) ?_
 intro w46 w1_ w2_ w3_ w4_
 have E47 : Ev No c27 w34 c27 w46 := Ev.same w1_ w2_ w3_ w4_
 replace B := B.same w1_
 have zh31 := h31
 have ER : Ev No c27 w34 c27 w46 := Ev.same w1_ w2_ w3_ w4_
 replace h25 := h25.ev E47 nq nq nq
 replace h31 := h31.ev E47 nq
 replace h44 := h44.ev E47 nq nq
 replace hat42 := hat42.ev E47 nq
 replace E := E.trans E47 nx
 refine dq F (fun wq hS => r_load F rfl ag_114 (AT.cell0 (AT.sb zh31 hS nq) rfl)) ER.sb fun a F => ?_
 refine d_e ?_
 refine o_val F rfl rfl rfl (by decide) (r_move F rfl) fun a F => ?_
 refine ⟨fun _ => ER.sb, ?_⟩
 refine d_e ?_
 refine o_val F rfl rfl rfl (by decide) (r_nil F rfl) fun a F => ?_
 refine ⟨fun _ => ER.sb, ?_⟩
 refine d_e ?_
 refine o_val F rfl rfl rfl (by decide) (r_fieldAddr F rfl ff_135_1) fun a F => ?_
 refine ⟨fun _ => ER.sb, ?_⟩
 refine d_e ?_
 refine o_val F rfl rfl rfl (by decide) (r_load F rfl ag_3 (AT.cell hat42 rfl)) fun a F => ?_
 refine ⟨fun _ => ER.sb, ?_⟩
 refine dq F (fun wq hS => r_convi F Tryz.underlying53 rfl rfl) ER.sb fun a F => ?_
 refine d_e ?_
 obtain ⟨t48, q49, H⟩ := bind_some H
 refine oc F Tryz.func79 (parcel_Writer_Num.calls k (m := m + 8) (pl hm0) B h25 ⟨(pl hm0), lm⟩ ⟨(pl hm0), lm, mm⟩ _ q49) ?_
 rintro e w51 ⟨c50, rfl, E52, B53, h54⟩
 refine ⟨_, rfl, fun a F => ?_⟩
 have B := B53
 replace h31 := h31.ev E52 (nor mm mm)
 replace h44 := h44.ev E52 (nor ne_zm ne_zm) (nor ne_zm ne_zm)
 replace hat42 := hat42.ev E52 (nor (ne_pm bj4) (ne_pm bj4))
 replace E := E.trans E52 lc2
 refine ⟨fun q => absurd rfl q, ?_⟩
 refine d_nil ?_
 refine hK37 _ _ ?_
 replace F : Fr a 54 [(0, .pointer (some ad41)), (3, .pointer (some qa29))] := F.sub ⟨rfl, rfl, trivial⟩
 refine wp_seq_k fun K56 hK56 => ?_
 refine regD (SB No c50 w51) 7 (.q 0 (.e 1 (.e 2 (.e 3 (.e 4 (.e 5 (.q 6 (.e 7 .nil)))))))) Tryz_hm (by decide +kernel) ?_
 intro w57 w1_ w2_ w3_ w4_
 have E58 : Ev No c50 w51 c50 w57 := Ev.same w1_ w2_ w3_ w4_
 replace B := B.same w1_
 have zh31 := h31
 have ER : Ev No c50 w51 c50 w57 := Ev.same w1_ w2_ w3_ w4_
 replace h31 := h31.ev E58 nq
 replace h44 := h44.ev E58 nq nq
 replace hat42 := hat42.ev E58 nq
 replace h54 := h54.ev E58 nq nq nq
 replace E := E.trans E58 nx
 refine dq F (fun wq hS => r_load F rfl ag_114 (AT.cell0 (AT.sb zh31 hS nq) rfl)) ER.sb fun a F => ?_
 refine d_e ?_
 refine o_val F rfl rfl rfl (by decide) (r_move F rfl) fun a F => ?_
 refine ⟨fun _ => ER.sb, ?_⟩
 refine d_e ?_
 refine o_val F rfl rfl rfl (by decide) (r_nil F rfl) fun a F => ?_
 refine ⟨fun _ => ER.sb, ?_⟩
 refine d_e ?_
 refine o_val F rfl rfl rfl (by decide) (r_fieldAddr F rfl ff_135_0) fun a F => ?_
 refine ⟨fun _ => ER.sb, ?_⟩
 refine d_e ?_
 refine o_val F rfl rfl rfl (by decide) (r_load F rfl ag_130 (AT.cell hat42 rfl)) fun a F => ?_
 refine ⟨fun _ => ER.sb, ?_⟩
 refine d_e ?_
 obtain ⟨t59, q60, H⟩ := bind_some H
 refine oc F Tryz.func127 (tree_Tree_Len.calls (m := m + 8) (pl hm0) B h44 _ q60) ?_
 rintro e w62 ⟨c61, rfl, E63, B64⟩
 refine ⟨_, rfl, fun a F => ?_⟩
 have B := B64
 replace ER := ER.trans E63 nx
 replace h31 := h31.ev E63 nq
 replace h44 := h44.ev E63 nq nq
 replace hat42 := hat42.ev E63 nq
 replace h54 := h54.ev E63 nq nq nq
 replace E := E.trans E63 nx
 refine ⟨fun _ => ER.sb, ?_⟩
 refine dq F (fun wq hS => r_convi F Tryz.underlying53 rfl rfl) ER.sb fun a F => ?_
 refine d_e ?_
 obtain ⟨t66, q67, H⟩ := bind_some H
 refine oc F Tryz.func79 (parcel_Writer_Num.calls k (m := m + 8) (pl hm0) B h54 ⟨(pl hm0), lm⟩ ⟨(pl hm0), lm, mm⟩ _ q67) ?_
 rintro e w69 ⟨c68, rfl, E70, B71, h72⟩
 refine ⟨_, rfl, fun a F => ?_⟩
 have B := B71
 replace h31 := h31.ev E70 (nor mm mm)
 replace h44 := h44.ev E70 (nor ne_zm ne_zm) (nor ne_zm ne_zm)
 replace hat42 := hat42.ev E70 (nor (ne_pm bj4) (ne_pm bj4))
 replace E := E.trans E70 lc2
 refine ⟨fun q => absurd rfl q, ?_⟩
 refine d_nil ?_
 refine hK56 _ _ ?_
 replace F : Fr a 54 [(0, .pointer (some ad41)), (3, .pointer (some qa29))] := F.sub ⟨rfl, rfl, trivial⟩
 refine wp_seq_k fun K74 hK74 => ?_
 refine wp_seq_k fun K75 hK75 => reg ?_
 refine qm F fun a F => ?_
 refine qv F (r_nil F rfl) fun a F => ?_
 refine qf F ff_135_0 fun a F => ?_
 refine qv F (r_load F rfl ag_130 (AT.cell hat42 rfl)) fun a F => ?_
 obtain ⟨t76, q77, H⟩ := bind_some H
 refine qc F Tryz.func128 (tree_Tree_All.calls (m := m + 8) (pl hm0) B h44 (m + 4) lm _ q77) ?_
 rintro e w79 ⟨c78, vi82, rfl, E80, B81, h83⟩
 refine ⟨_, rfl, fun a F => ?_⟩
 have B := B81
 replace h31 := h31.ev E80 nq
 replace h72 := h72.ev E80 nq nq nq
 replace E := E.trans E80 nx
 refine nil (hK75 _ _ ?_)
 refine wp_block ?_
 obtain ⟨x158, HL, HR159⟩ := bind_some H
 refine ITR.range h83 (m := m + 8) (y := m + 5) (z := m + 6) (M := fun x => False ∨ m ≤ x) (g := (fun (s_ : (Option Wri)) (k_ : ByteArray) (v_ : table_cell) => table_Table_Bytes.b1 k s_ k_ v_)) (fun (s_ : (Option Wri)) (c_ : Nat → Nat) (w_ : World) => Ev (fun x => False ∨ m ≤ x) c78 w79 c_ w_ ∧ ∃ (o150 : Option Wri), o150 = s_ ∧ AT true (m + 3) c_ w_ qa29 [.pointer p24] ∧ WR (m + 1) (m + 2) c_ w_ p24 o150) (fun (_ : Unit) _ _ => False) F rfl (by decide) (by decide) (by omega) (by omega) (by omega) (by omega) (by intro q; rcases q with q | q <;> first | exact q.elim | (replace q : False := q; omega) | (replace q : m ≤ 0 := q; omega)) B (fun _ _ _ h_ => h_.1) (fun _ _ _ h_ => h_.elim) (fun s_ c1_ w1_ c2_ w2_ ⟨E_, o150, e_, h31, h149⟩ E2_ => ⟨E_.trans E2_ (fun x q => by show False ∨ m ≤ x; replace q : x = m + 5 := q; omega), o150, e_, AT.ev h31 E2_ mm, WR.ev h149 E2_ mm mm ne_zm⟩) (fun _ _ _ _ _ h_ _ => h_.elim) t66 ⟨Ev.refl, t66, rfl, h31, h72⟩ x158 HL ?_ ?_ ?_
 ·intro bd153 lo154 rec155 s_ s161 v162 c151 w152 A163 C164 rr160 ⟨E, o150, e_, h31, h149⟩ B hb156 hl157 h165 Hg a F
  clear HL H
  subst e_
  have H : table_Table_Bytes.b1 k o150 s161 v162 = some rr160 := Hg
  clear Hg
  unfold table_Table_Bytes.b1 at H
  refine wpIn_seq_k fun K166 hK166 => ?_
  refine regR ?_
  refine qa F fun a F => ?_
  refine nil (hK166 _ _ ?_)
  refine regR ?_
  refine q_eff F rfl rfl (by decide) (e_alloc F zv_133 c151 (m + 7)) ?_
  rintro v w168 a ⟨c167, qa103, rfl, E169, h105, B170⟩ F
  replace B := B170 _ B lm
  replace h31 := h31.ev E169 nq
  replace h149 := h149.ev E169 nq nq nq
  replace h165 := h165.ev E169 nq nq
  replace hb156 := hb156.ev E169 nq
  replace hl157 := hl157.ev E169 nq
  replace E := E.trans E169 nx
  replace h105 : AT true (m + 7) c167 w168 qa103 [.slice none 0 0, .int .i64 0] := h105
  refine q_eff0 F rfl rfl (e_storeN0 (us := [.slice A163 v162.value.length C164, .int .i64 v162.rev]) F rfl rfl sz_133 h105 (nb rfl) (one_all rfl)) ?_
  rintro w171 a ⟨E172, h105, Z173⟩ F
  replace B := B.size Z173
  replace h31 := h31.ev E172 mm
  replace h149 := h149.ev E172 mm mm ne_zm
  replace h165 := h165.ev E172 ne_zm ne_zm
  replace hb156 := hb156.ev E172 mm
  replace hl157 := hl157.ev E172 mm
  replace E := E.trans E172 lc1
  replace h105 : AT true (m + 7) c167 w171 qa103 [.slice A163 v162.value.length C164, .int .i64 v162.rev] := h105
  refine nil ?_
  refine thenN ?_
  refine ⟨c167, hl157, fun w174 E175 hl157 Z176 => ?_⟩
  replace B := B.size Z176
  replace h31 := h31.ev E175 mm
  replace h149 := h149.ev E175 mm mm ne_zm
  replace h165 := h165.ev E175 ne_zm ne_zm
  replace hb156 := hb156.ev E175 mm
  replace h105 := h105.ev E175 mm
  replace E := E.trans E175 lc1
  refine wpIn_block ?_
  refine wpIn_seq_k fun K177 hK177 => ?_
  refine regR ?_
  refine qv F (r_load F rfl ag_114 (AT.cell0 h31 rfl)) fun a F => ?_
  refine qm F fun a F => ?_
  replace H := ifN H
  obtain ⟨g115, H⟩ := H
  refine q_eff F rfl rfl (by decide) (e_strBytes F Tryz.underlying9 Tryz.underlying27 Tryz.underlying5 rfl (by unfold maxLen; omega) c167 0 0) ?_
  rintro v w179 a ⟨c178, A180, C181, rfl, E182, h183, B184⟩ F
  replace B := B184 _ B (pl hm0)
  replace h31 := h31.ev E182 nq
  replace h149 := h149.ev E182 nq nq nq
  replace h165 := h165.ev E182 nq nq
  replace hb156 := hb156.ev E182 nq
  replace hl157 := hl157.ev E182 nq
  replace h105 := h105.ev E182 nq
  replace E := E.trans E182 nx
  obtain ⟨t123, q124, H⟩ := bind_some H
  refine qc F Tryz.func72 (parcel_Writer_Text.calls k (m := m + 8) (pl hm0) B h149 h183.r ⟨(pl hm0), lm⟩ ⟨(pl hm0), lm, mm⟩ _ q124) ?_
  rintro e w186 ⟨c185, rfl, E187, B188, h189⟩
  refine ⟨_, rfl, fun a F => ?_⟩
  have B := B188
  replace h31 := h31.ev E187 (nor mm mm)
  replace h165 := h165.ev E187 (nor ne_zm ne_zm) (nor ne_zm ne_zm)
  replace hb156 := hb156.ev E187 (nor mm mm)
  replace hl157 := hl157.ev E187 (nor mm mm)
  replace h105 := h105.ev E187 (nor mm mm)
  replace E := E.trans E187 lc2
  refine nil (hK177 _ _ ?_)
  refine wpIn_seq_k fun K191 hK191 => ?_
  refine regR ?_
  refine qv F (r_load F rfl ag_114 (AT.cell0 h31 rfl)) fun a F => ?_
  refine qf F ff_133_0 fun a F => ?_
  refine qv F (r_load F rfl ag_27 (AT.cell h105 rfl)) fun a F => ?_
  obtain ⟨t132, q133, H⟩ := bind_some H
  refine qc F Tryz.func72 (parcel_Writer_Text.calls k (m := m + 8) (pl hm0) B h189 h165 ⟨(pl hm0), lm⟩ ⟨(pl hm0), lm, mm⟩ _ q133) ?_
  rintro e w193 ⟨c192, rfl, E194, B195, h196⟩
  refine ⟨_, rfl, fun a F => ?_⟩
  have B := B195
  replace h31 := h31.ev E194 (nor mm mm)
  replace hb156 := hb156.ev E194 (nor mm mm)
  replace hl157 := hl157.ev E194 (nor mm mm)
  replace h105 := h105.ev E194 (nor mm mm)
  replace E := E.trans E194 lc2
  refine nil (hK191 _ _ ?_)
  replace F : Fr a 54 [(3, .pointer (some qa29)), (5, .pointer (some qa103))] := F.sub ⟨rfl, rfl, trivial⟩
  refine regR ?_
  refine qv F (r_load F rfl ag_114 (AT.cell0 h31 rfl)) fun a F => ?_
  refine qf F ff_133_1 fun a F => ?_
  refine qv F (r_load F rfl ag_3 (AT.cell h105 rfl)) fun a F => ?_
  refine qv F (r_convi F Tryz.underlying53 rfl rfl) fun a F => ?_
  obtain ⟨t140, q141, H⟩ := bind_some H
  refine qc F Tryz.func79 (parcel_Writer_Num.calls k (m := m + 8) (pl hm0) B h196 ⟨(pl hm0), lm⟩ ⟨(pl hm0), lm, mm⟩ _ q141) ?_
  rintro e w199 ⟨c198, rfl, E200, B201, h202⟩
  refine ⟨_, rfl, fun a F => ?_⟩
  have B := B201
  replace h31 := h31.ev E200 (nor mm mm)
  replace hb156 := hb156.ev E200 (nor mm mm)
  replace hl157 := hl157.ev E200 (nor mm mm)
  replace E := E.trans E200 lc2
  refine nil ?_
  have hr_ := si H
  subst hr_
  first | refine REn c198 hl157 ?_ | refine inbN (REn c198 hl157 ?_) | refine inbN (inbN (REn c198 hl157 ?_))
  exact ⟨⟨E, t140, rfl, h31, h202⟩, B, hb156⟩
 ·intro s_ hx211 c207 w208 bd209 ⟨E212, o150, e_, h31, h149⟩ B hb210 a F
  subst e_
  rw [hx211] at HR159
  have H : table_Table_Bytes.j2 o150 = some r := HR159
  unfold table_Table_Bytes.j2 at H
  replace E := E.trans E212 (fun _ q => q)
  refine hK74 _ _ ?_
  refine wp_seq_k fun K213 hK213 => reg ?_
  refine qv F (r_load F rfl ag_114 (AT.cell0 h31 rfl)) fun a F => ?_
  obtain ⟨t214, q215, H⟩ := bind_some H
  refine qc F Tryz.func75 (parcel_Writer_Done.calls (m := m + 8) (pl hm0) B h149 lm ⟨lm, mm⟩ 0 (pl hm0) _ q215) ?_
  rintro e w217 ⟨c216, A220, C221, rfl, E218, B219, h222⟩
  refine ⟨_, rfl, fun a F => ?_⟩
  have B := B219
  replace hb210 := hb210.ev E218 nq
  replace E := E.trans E218 nx
  refine qm F fun a F => ?_
  refine qv F (r_extract F rfl rfl) fun a F => ?_
  refine qv F (r_extract F rfl rfl) fun a F => ?_
  refine qa F fun a F => ?_
  refine qa F fun a F => ?_
  refine nil (hK213 _ _ ?_)
  refine wp_seq_k fun K224 hK224 => reg ?_
  refine qm F fun a F => ?_
  refine qa F fun a F => ?_
  refine nil (hK224 _ _ ?_)
  replace F : Fr a 54 [(2, .slice A220 t214.1.length C221)] ({ target := .collected bd209, args := #[] } :: []) := F.sub ⟨rfl, trivial⟩
  refine wp_ret ?_
  refine outM ?_
  refine endM F hb210 fun w225 E226 Z227 a F => ?_
  replace B := B.size Z227
  replace h222 := h222.ev E226 ne_zm ne_zm
  replace E := E.trans E226 lc1
  refine endM0 F ?_
  replace H := si H
  subst H
  refine out1 F rfl rfl ?_
  exact ⟨cf (fun x_ => if x_ < m then x_ else 0) c216, A220, C221, rfl, E.lv B0, cfb, SL.rc h222.r cfk cfk⟩
 intro s_ hx_ c_ w_ bd_ h_
 exact h_.elim
end Go.Proofs.YthankpjbfpcldaaGreat.G