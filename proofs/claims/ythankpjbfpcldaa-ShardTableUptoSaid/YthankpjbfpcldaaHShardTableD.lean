/- Words, contracts and plain laws on which the row of 'ShardTable' hangs (its '..UptoSaid': inputs of bulk at most 1048576). -/
import Derived.Test.YthankpjbfpcldaaHShardTableB
import Derived.Test.YthankpjbfpcldaaHShardTableC
namespace Go.Proofs.Ythankpjbfpcldaa.G
open Go Go.RowKit
set_option linter.unusedVariables false
set_option linter.unusedSimpArgs false
set_option maxRecDepth 100000 in
set_option maxHeartbeats 4000000 in
theorem table_Table_told.calls {m : Nat} {c0 : Nat → Nat} {w0 : World} {j4 : Nat} {p2 : Option Addr} {A7 : Option Addr} {C8 : Nat} {a1 : Option Tab} {a5 : ByteArray} {a6 : table_cell} {a10 : Bool} (hm0 : 0 < m) (B0 : CB m c0 w0) (h3 : TB j4 c0 w0 p2 a1) (h9 : SL false (Kint .u8) 0 0 c0 w0 A7 C8 a6.value) (bj4 : j4 < m) (r : api_Answer) (H : table_Table_told.f a1 a5 a6 a10 = some r) : Calls Try.prog 39 #[.pointer p2, .string a5, .agg #[.slice A7 a6.value.length C8, .int .i64 a6.rev], .bool a10] w0 (fun e w_ => ∃ (c_ : Nat → Nat) (A0_ : Option Addr) (C0_ : Nat) (A2_ : Option Addr) (C2_ : Nat), e = .returned (.agg #[.bool r.Done, .slice A0_ r.Key.length C0_, .slice A2_ r.Value.length C2_, .int .i64 r.Rev, .int .i64 r.At]) ∧ Ev (fun x => False) c0 w0 c_ w_ ∧ CB m c_ w_ ∧ SL false (Kint .u8) 0 0 c_ w_ A0_ C0_ r.Key ∧ SL false (Kint .u8) 0 0 c_ w_ A2_ C2_ r.Value) := by
 unfold table_Table_told.f at H
 have B := B0.mono (show m ≤ m + 4 by omega)
 have E : Ev (fun x => False ∨ m ≤ x) c0 w0 c0 w0 := Ev.refl
 refine enter (N := 28) (l := [.pointer p2, .string a5, .agg #[.slice A7 a6.value.length C8, .int .i64 a6.rev], .bool a10]) Try.func39 rfl rfl (Nat.le_of_ble_eq_true rfl) fun a F => ?_
 refine wp_seq_k fun K11 hK11 => ?_
 refine reg ?_
 refine q_eff F rfl rfl (by decide) (e_box F (v := .agg #[.slice A7 a6.value.length C8, .int .i64 a6.rev]) rfl c0 (m + 1)) ?_
 rintro v w13 a ⟨c12, qa14, rfl, E15, h16, B17⟩ F
 replace B := B17 _ B (Nat.add_lt_add_left (by decide) m)
 replace h3 := TB.ev h3 E15 (fun q => q.elim) (fun q => q.elim)
 replace h9 := SL.ev h9 E15 (fun q => q.elim) (fun q => q.elim)
 replace E := E.trans E15 (fun x q => q.elim)
 replace h16 : AT true (m + 1) c12 w13 qa14 [.slice A7 a6.value.length C8, .int .i64 a6.rev] := h16
 refine q_eff F rfl rfl (by decide) (e_alloc F zv_34 c12 (m + 2)) ?_
 rintro v w20 a ⟨c19, qa21, rfl, E22, h23, B24⟩ F
 replace B := B24 _ B (Nat.add_lt_add_left (by decide) m)
 replace h3 := TB.ev h3 E22 (fun q => q.elim) (fun q => q.elim)
 replace h9 := SL.ev h9 E22 (fun q => q.elim) (fun q => q.elim)
 replace h16 := AT.ev h16 E22 (fun q => q.elim)
 replace E := E.trans E22 (fun x q => q.elim)
 replace h23 : AT true (m + 2) c19 w20 qa21 [.bool false, .slice none 0 0, .slice none 0 0, .int .i64 0, .int .i64 0] := h23
 refine nil ?_
 refine hK11 _ _ ?_
 refine wp_seq_k fun K26 hK26 => ?_
 refine reg ?_
 refine q_val F rfl rfl (by decide) (r_move F rfl) fun a F => ?_
 refine q_val F rfl rfl (by decide) (r_move F rfl) fun a F => ?_
 replace H := bind_some H
 obtain ⟨ob27, e28, H⟩ := H
 have z29 := h3
 rw [e28] at z29
 obtain ⟨ad30, p32, rfl, hat31, h33⟩ := TB.some z29
 refine q_val F rfl rfl (by decide) (r_nil F rfl) fun a F => ?_
 refine q_val F rfl rfl (by decide) (r_fieldAddr F rfl ff_82_1) fun a F => ?_
 refine q_val F rfl rfl (by decide) (r_load F rfl ag_3 (AT.cell hat31 rfl)) fun a F => ?_
 refine q_val F rfl rfl (by decide) (r_build (v := .agg #[.bool a10, .slice none 0 0, .slice none 0 0, .int .i64 0, .int .i64 ob27.rev]) F [(0, .bool a10), (4, .int .i64 ob27.rev)] (by exact ⟨rfl, rfl, rfl, rfl, trivial⟩) (fun w => by kernel_rfl)) fun a F => ?_
 refine q_eff F rfl rfl (by decide) (e_alloc F zv_34 c19 (m + 3)) ?_
 rintro v w36 a ⟨c35, qa37, rfl, E38, h39, B40⟩ F
 replace B := B40 _ B (Nat.add_lt_add_left (by decide) m)
 replace h3 := TB.ev h3 E38 (fun q => q.elim) (fun q => q.elim)
 replace h9 := SL.ev h9 E38 (fun q => q.elim) (fun q => q.elim)
 replace h16 := AT.ev h16 E38 (fun q => q.elim)
 replace h23 := AT.ev h23 E38 (fun q => q.elim)
 replace h33 := TR.ev h33 E38 (fun q => q.elim) (fun q => q.elim)
 replace hat31 := AT.ev hat31 E38 (fun q => q.elim)
 replace E := E.trans E38 (fun x q => q.elim)
 replace h39 : AT true (m + 3) c35 w36 qa37 [.bool false, .slice none 0 0, .slice none 0 0, .int .i64 0, .int .i64 0] := h39
 refine q_eff0 F rfl rfl (e_storeN0 (us := [.bool a10, .slice none 0 0, .slice none 0 0, .int .i64 0, .int .i64 ob27.rev]) F rfl rfl sz_34 h39 (Nat.le_of_ble_eq_true rfl) (one_all rfl)) ?_
 rintro w42 a ⟨E43, h39, Z44⟩ F
 replace B := B.size Z44
 replace h3 := TB.ev h3 E43 (ne_pm bj4) ne_zm
 replace h9 := SL.ev h9 E43 ne_zm ne_zm
 replace h16 := AT.ev h16 E43 (ne_mm (by decide))
 replace h23 := AT.ev h23 E43 (ne_mm (by decide))
 replace h33 := TR.ev h33 E43 ne_zm ne_zm
 replace hat31 := AT.ev hat31 E43 (ne_pm bj4)
 replace E := E.trans E43 (fun x (q : x = m + 3) => Or.inr (le_col q))
 replace h39 : AT true (m + 3) c35 w42 qa37 [.bool a10, .slice none 0 0, .slice none 0 0, .int .i64 0, .int .i64 ob27.rev] := h39
 refine nil ?_
 refine hK26 _ _ ?_
 replace F : Fr a 28 [(1, .string a5), (3, .bool a10), (6, .pointer (some qa14)), (8, .pointer (some qa21)), (9, .pointer (some qa37))] := F.sub ⟨rfl, rfl, rfl, rfl, rfl, trivial⟩
 refine wp_seq_k fun K45 hK45 => ?_
 refine wp_seq_k fun K46 hK46 => ?_
 refine reg ?_
 refine q_val F rfl rfl (by decide) (r_move F rfl) fun a F => ?_
 refine nil ?_
 refine hK46 _ _ ?_
 by_cases hb47 : a10 = true
 ·replace H := (if_pos hb47).symm.trans H
  refine wp_cond_true ((F.ev rfl).trans (congrArg Value.bool hb47)) ?_
  refine regD (SB (fun x => x = m + 3) c35 w42) 12 (.q 0 (.q 2 (.q 3 (.q 5 (.q 6 (.f 1 (.q 7 (.e 4 (.e 8 (.q 9 (.e 10 (.q 11 (.e 12 .nil))))))) 4 (.e 1 (.q 7 (.e 8 (.q 9 (.e 10 (.q 11 (.e 12 .nil))))))))))))) Try_hm (by decide +kernel) ?_
  intro w48 w1_ w2_ w3_ w4_
  have E49 : Ev No c35 w42 c35 w48 := Ev.same w1_ w2_ w3_ w4_
  replace B := B.same w1_
  have zh3 := h3
  have zh9 := h9
  have zh16 := h16
  have zh23 := h23
  have zh33 := h33
  have zhat31 := hat31
  have zh39 := h39
  have ER : Ev (fun x => x = m + 3) c35 w42 c35 w48 := Ev.same w1_ w2_ w3_ w4_
  replace h3 := TB.ev h3 E49 (fun q => q.elim) (fun q => q.elim)
  replace h9 := SL.ev h9 E49 (fun q => q.elim) (fun q => q.elim)
  replace h16 := AT.ev h16 E49 (fun q => q.elim)
  replace h23 := AT.ev h23 E49 (fun q => q.elim)
  replace h33 := TR.ev h33 E49 (fun q => q.elim) (fun q => q.elim)
  replace hat31 := AT.ev hat31 E49 (fun q => q.elim)
  replace h39 := AT.ev h39 E49 (fun q => q.elim)
  replace E := E.trans E49 (fun x q => q.elim)
  refine d_q F rfl rfl rfl (by decide) (fun wq hS => r_move F rfl) ER.sb fun a F => ?_
  refine d_q F rfl rfl rfl (by decide) (fun wq hS => r_fieldAddr F rfl ff_80_0) ER.sb fun a F => ?_
  refine d_q F rfl rfl rfl (by decide) (fun wq hS => r_load F rfl ag_28 (AT.cell (AT.sb zh16 hS (ne_mm (by decide))) rfl)) ER.sb fun a F => ?_
  refine d_q F rfl rfl rfl (by decide) (fun wq hS => r_fieldAddr F rfl ff_80_1) ER.sb fun a F => ?_
  refine d_q F rfl rfl rfl (by decide) (fun wq hS => r_load F rfl ag_3 (AT.cell (AT.sb zh16 hS (ne_mm (by decide))) rfl)) ER.sb fun a F => ?_
  refine d_f ?_ ?_
  ·replace H := ifN H
   obtain ⟨g50, H⟩ := H
   refine o_eff F rfl rfl rfl (by decide) (e_strBytes F Try.underlying9 Try.underlying28 Try.underlying5 rfl (by unfold maxLen; omega) c35 0 0) ?_
   rintro v w52 a ⟨c51, A53, C54, rfl, E55, h56, B57⟩ F
   replace B := B57 _ B (Nat.add_pos_left hm0 _)
   replace ER := ER.trans E55 (fun x q => q.elim)
   replace h3 := TB.ev h3 E55 (fun q => q.elim) (fun q => q.elim)
   replace h9 := SL.ev h9 E55 (fun q => q.elim) (fun q => q.elim)
   replace h16 := AT.ev h16 E55 (fun q => q.elim)
   replace h23 := AT.ev h23 E55 (fun q => q.elim)
   replace h33 := TR.ev h33 E55 (fun q => q.elim) (fun q => q.elim)
   replace hat31 := AT.ev hat31 E55 (fun q => q.elim)
   replace h39 := AT.ev h39 E55 (fun q => q.elim)
   replace E := E.trans E55 (fun x q => q.elim)
   refine ⟨fun _ => ER.sb, ?_⟩
   refine d_q F rfl rfl rfl (by decide) (fun wq hS => r_fieldAddr F rfl ff_34_1) ER.sb fun a F => ?_
   refine d_e ?_
   replace H := bind_some H
   obtain ⟨t58, q59, H⟩ := H
   refine o_call F rfl (wanted_none rfl) rfl (by decide) (r_call F Try.func42 rfl (by kernel_rfl) rfl) (bytes_Clone.calls (m := m + 4) (Nat.add_pos_left hm0 _) B h9 (by omega) 0 (Nat.add_pos_left hm0 _) _ q59) ?_
   rintro e w61 ⟨c60, A64, C65, rfl, E62, B63, h66⟩
   refine ⟨_, rfl, fun a F => ?_⟩
   have B := B63
   replace ER := ER.trans E62 (fun x q => q.elim)
   replace h3 := TB.ev h3 E62 (fun q => q.elim) (fun q => q.elim)
   replace h9 := SL.ev h9 E62 (fun q => q.elim) (fun q => q.elim)
   replace h16 := AT.ev h16 E62 (fun q => q.elim)
   replace h23 := AT.ev h23 E62 (fun q => q.elim)
   replace h33 := TR.ev h33 E62 (fun q => q.elim) (fun q => q.elim)
   replace hat31 := AT.ev hat31 E62 (fun q => q.elim)
   replace h39 := AT.ev h39 E62 (fun q => q.elim)
   replace h56 := SL.ev h56 E62 (fun q => q.elim) (fun q => q.elim)
   replace E := E.trans E62 (fun x q => q.elim)
   refine ⟨fun _ => ER.sb, ?_⟩
   refine d_e ?_
   refine o_eff0 F rfl rfl rfl (e_store F rfl rfl sz_28 h39 (Nat.le_of_ble_eq_true rfl) rfl) ?_
   rintro w68 a ⟨E69, h39, Z70⟩ F
   replace B := B.size Z70
   replace ER := ER.trans E69 (fun x q => by replace q : x = m + 3 := q; show x = m + 3; omega)
   replace h3 := TB.ev h3 E69 (ne_pm bj4) ne_zm
   replace h9 := SL.ev h9 E69 ne_zm ne_zm
   replace h16 := AT.ev h16 E69 (ne_mm (by decide))
   replace h23 := AT.ev h23 E69 (ne_mm (by decide))
   replace h33 := TR.ev h33 E69 ne_zm ne_zm
   replace hat31 := AT.ev hat31 E69 (ne_pm bj4)
   replace h56 := SL.ev h56 E69 ne_zm ne_zm
   replace h66 := SL.ev h66 E69 ne_zm ne_zm
   replace E := E.trans E69 (fun x (q : x = m + 3) => Or.inr (le_col q))
   replace h39 : AT true (m + 3) c60 w68 qa37 [.bool a10, .slice A53 (sb a5).length C54, .slice none 0 0, .int .i64 0, .int .i64 ob27.rev] := h39
   refine ⟨fun _ => ER.sb, ?_⟩
   refine d_q F rfl rfl rfl (by decide) (fun wq hS => r_fieldAddr F rfl ff_34_2) ER.sb fun a F => ?_
   refine d_e ?_
   refine o_eff0 F rfl rfl rfl (e_store F rfl rfl sz_28 h39 (Nat.le_of_ble_eq_true rfl) rfl) ?_
   rintro w71 a ⟨E72, h39, Z73⟩ F
   replace B := B.size Z73
   replace ER := ER.trans E72 (fun x q => by replace q : x = m + 3 := q; show x = m + 3; omega)
   replace h3 := TB.ev h3 E72 (ne_pm bj4) ne_zm
   replace h9 := SL.ev h9 E72 ne_zm ne_zm
   replace h16 := AT.ev h16 E72 (ne_mm (by decide))
   replace h23 := AT.ev h23 E72 (ne_mm (by decide))
   replace h33 := TR.ev h33 E72 ne_zm ne_zm
   replace hat31 := AT.ev hat31 E72 (ne_pm bj4)
   replace h56 := SL.ev h56 E72 ne_zm ne_zm
   replace h66 := SL.ev h66 E72 ne_zm ne_zm
   replace E := E.trans E72 (fun x (q : x = m + 3) => Or.inr (le_col q))
   replace h39 : AT true (m + 3) c60 w71 qa37 [.bool a10, .slice A53 (sb a5).length C54, .slice A64 t58.length C65, .int .i64 0, .int .i64 ob27.rev] := h39
   refine ⟨fun _ => ER.sb, ?_⟩
   refine d_q F rfl rfl rfl (by decide) (fun wq hS => r_fieldAddr F rfl ff_34_3) ER.sb fun a F => ?_
   refine d_e ?_
   refine o_eff0 F rfl rfl rfl (e_store F rfl rfl sz_3 h39 (Nat.le_of_ble_eq_true rfl) rfl) ?_
   rintro w74 a ⟨E75, h39, Z76⟩ F
   replace B := B.size Z76
   replace ER := ER.trans E75 (fun x q => by replace q : x = m + 3 := q; show x = m + 3; omega)
   replace h3 := TB.ev h3 E75 (ne_pm bj4) ne_zm
   replace h9 := SL.ev h9 E75 ne_zm ne_zm
   replace h16 := AT.ev h16 E75 (ne_mm (by decide))
   replace h23 := AT.ev h23 E75 (ne_mm (by decide))
   replace h33 := TR.ev h33 E75 ne_zm ne_zm
   replace hat31 := AT.ev hat31 E75 (ne_pm bj4)
   replace h56 := SL.ev h56 E75 ne_zm ne_zm
   replace h66 := SL.ev h66 E75 ne_zm ne_zm
   replace E := E.trans E75 (fun x (q : x = m + 3) => Or.inr (le_col q))
   replace h39 : AT true (m + 3) c60 w74 qa37 [.bool a10, .slice A53 (sb a5).length C54, .slice A64 t58.length C65, .int .i64 a6.rev, .int .i64 ob27.rev] := h39
   refine ⟨fun q => absurd rfl q, ?_⟩
   refine d_nil ?_
   refine hK45 _ _ ?_
   replace F : Fr a 28 [(8, .pointer (some qa21)), (9, .pointer (some qa37))] := F.sub ⟨rfl, rfl, trivial⟩
   refine wp_seq_k fun K101 hK101 => ?_
   refine reg ?_
   refine q_val F rfl rfl (by decide) (r_loads (cs := [.bool a10, .slice A53 (sb a5).length C54, .slice A64 t58.length C65, .int .i64 a6.rev, .int .i64 ob27.rev]) F rfl ag_34 sz_34 h39) fun a F => ?_
   refine q_eff0 F rfl rfl (e_storeN0 (us := [.bool a10, .slice A53 (sb a5).length C54, .slice A64 t58.length C65, .int .i64 a6.rev, .int .i64 ob27.rev]) F rfl rfl sz_34 h23 (Nat.le_of_ble_eq_true rfl) (one_all rfl)) ?_
   rintro w102 a ⟨E103, h23, Z104⟩ F
   replace B := B.size Z104
   replace h3 := TB.ev h3 E103 (ne_pm bj4) ne_zm
   replace h9 := SL.ev h9 E103 ne_zm ne_zm
   replace h16 := AT.ev h16 E103 (ne_mm (by decide))
   replace h33 := TR.ev h33 E103 ne_zm ne_zm
   replace hat31 := AT.ev hat31 E103 (ne_pm bj4)
   replace h39 := AT.ev h39 E103 (ne_mm (by decide))
   replace h56 := SL.ev h56 E103 ne_zm ne_zm
   replace h66 := SL.ev h66 E103 ne_zm ne_zm
   replace E := E.trans E103 (fun x (q : x = m + 2) => Or.inr (le_col q))
   replace h23 : AT true (m + 2) c60 w102 qa21 [.bool a10, .slice A53 (sb a5).length C54, .slice A64 t58.length C65, .int .i64 a6.rev, .int .i64 ob27.rev] := h23
   refine nil ?_
   refine hK101 _ _ ?_
   refine wp_ret ?_
   replace H := Option.some.inj H
   subst H
   refine outR1 F rfl ⟨_, rfl, lv_agg (cs := [.bool a10, .slice A53 (sb a5).length C54, .slice A64 t58.length C65, .int .i64 a6.rev, .int .i64 ob27.rev]) ag_34 sz_34 h23⟩ ?_
   exact ⟨fun b_ => (fun x_ => if x_ < m then x_ else 0) (c60 b_), A53, C54, A64, C65, rfl, E.leave B0 (fun x_ => if x_ < m then x_ else 0) (by intro x_ hx_; show (if x_ < m then x_ else 0) = x_; ((repeat' split) <;> omega)), (fun b_ hb_ => by show (if (c60 b_) < m then (c60 b_) else 0) < m; ((repeat' split) <;> omega)), SL.rc h56.r (fun k_ hk_ => by show (if (c60 k_) < m then (c60 k_) else 0) = _; rw [hk_]; ((repeat' split) <;> omega)) (fun k_ hk_ => by show (if (c60 k_) < m then (c60 k_) else 0) = _; rw [hk_]; ((repeat' split) <;> omega)), SL.rc h66.r (fun k_ hk_ => by show (if (c60 k_) < m then (c60 k_) else 0) = _; rw [hk_]; ((repeat' split) <;> omega)) (fun k_ hk_ => by show (if (c60 k_) < m then (c60 k_) else 0) = _; rw [hk_]; ((repeat' split) <;> omega))⟩
  ·replace H := ifN H
   obtain ⟨g50, H⟩ := H
   replace H := bind_some H
   obtain ⟨t58, q59, H⟩ := H
   refine o_call F rfl (wanted_none rfl) rfl (by decide) (r_call F Try.func42 rfl (by kernel_rfl) rfl) (bytes_Clone.calls (m := m + 4) (Nat.add_pos_left hm0 _) B h9 (by omega) 0 (Nat.add_pos_left hm0 _) _ q59) ?_
   rintro e w78 ⟨c77, A81, C82, rfl, E79, B80, h83⟩
   refine ⟨_, rfl, fun a F => ?_⟩
   have B := B80
   replace ER := ER.trans E79 (fun x q => q.elim)
   replace h3 := TB.ev h3 E79 (fun q => q.elim) (fun q => q.elim)
   replace h9 := SL.ev h9 E79 (fun q => q.elim) (fun q => q.elim)
   replace h16 := AT.ev h16 E79 (fun q => q.elim)
   replace h23 := AT.ev h23 E79 (fun q => q.elim)
   replace h33 := TR.ev h33 E79 (fun q => q.elim) (fun q => q.elim)
   replace hat31 := AT.ev hat31 E79 (fun q => q.elim)
   replace h39 := AT.ev h39 E79 (fun q => q.elim)
   replace E := E.trans E79 (fun x q => q.elim)
   refine ⟨fun _ => ER.sb, ?_⟩
   refine d_e ?_
   refine o_eff F rfl rfl rfl (by decide) (e_strBytes F Try.underlying9 Try.underlying28 Try.underlying5 rfl (by unfold maxLen; omega) c77 0 0) ?_
   rintro v w86 a ⟨c85, A87, C88, rfl, E89, h90, B91⟩ F
   replace B := B91 _ B (Nat.add_pos_left hm0 _)
   replace ER := ER.trans E89 (fun x q => q.elim)
   replace h3 := TB.ev h3 E89 (fun q => q.elim) (fun q => q.elim)
   replace h9 := SL.ev h9 E89 (fun q => q.elim) (fun q => q.elim)
   replace h16 := AT.ev h16 E89 (fun q => q.elim)
   replace h23 := AT.ev h23 E89 (fun q => q.elim)
   replace h33 := TR.ev h33 E89 (fun q => q.elim) (fun q => q.elim)
   replace hat31 := AT.ev hat31 E89 (fun q => q.elim)
   replace h39 := AT.ev h39 E89 (fun q => q.elim)
   replace h83 := SL.ev h83 E89 (fun q => q.elim) (fun q => q.elim)
   replace E := E.trans E89 (fun x q => q.elim)
   refine ⟨fun _ => ER.sb, ?_⟩
   refine d_q F rfl rfl rfl (by decide) (fun wq hS => r_fieldAddr F rfl ff_34_1) ER.sb fun a F => ?_
   refine d_e ?_
   refine o_eff0 F rfl rfl rfl (e_store F rfl rfl sz_28 h39 (Nat.le_of_ble_eq_true rfl) rfl) ?_
   rintro w92 a ⟨E93, h39, Z94⟩ F
   replace B := B.size Z94
   replace ER := ER.trans E93 (fun x q => by replace q : x = m + 3 := q; show x = m + 3; omega)
   replace h3 := TB.ev h3 E93 (ne_pm bj4) ne_zm
   replace h9 := SL.ev h9 E93 ne_zm ne_zm
   replace h16 := AT.ev h16 E93 (ne_mm (by decide))
   replace h23 := AT.ev h23 E93 (ne_mm (by decide))
   replace h33 := TR.ev h33 E93 ne_zm ne_zm
   replace hat31 := AT.ev hat31 E93 (ne_pm bj4)
   replace h83 := SL.ev h83 E93 ne_zm ne_zm
   replace h90 := SL.ev h90 E93 ne_zm ne_zm
   replace E := E.trans E93 (fun x (q : x = m + 3) => Or.inr (le_col q))
   replace h39 : AT true (m + 3) c85 w92 qa37 [.bool a10, .slice A87 (sb a5).length C88, .slice none 0 0, .int .i64 0, .int .i64 ob27.rev] := h39
   refine ⟨fun _ => ER.sb, ?_⟩
   refine d_q F rfl rfl rfl (by decide) (fun wq hS => r_fieldAddr F rfl ff_34_2) ER.sb fun a F => ?_
   refine d_e ?_
   refine o_eff0 F rfl rfl rfl (e_store F rfl rfl sz_28 h39 (Nat.le_of_ble_eq_true rfl) rfl) ?_
   rintro w95 a ⟨E96, h39, Z97⟩ F
   replace B := B.size Z97
   replace ER := ER.trans E96 (fun x q => by replace q : x = m + 3 := q; show x = m + 3; omega)
   replace h3 := TB.ev h3 E96 (ne_pm bj4) ne_zm
   replace h9 := SL.ev h9 E96 ne_zm ne_zm
   replace h16 := AT.ev h16 E96 (ne_mm (by decide))
   replace h23 := AT.ev h23 E96 (ne_mm (by decide))
   replace h33 := TR.ev h33 E96 ne_zm ne_zm
   replace hat31 := AT.ev hat31 E96 (ne_pm bj4)
   replace h83 := SL.ev h83 E96 ne_zm ne_zm
   replace h90 := SL.ev h90 E96 ne_zm ne_zm
   replace E := E.trans E96 (fun x (q : x = m + 3) => Or.inr (le_col q))
   replace h39 : AT true (m + 3) c85 w95 qa37 [.bool a10, .slice A87 (sb a5).length C88, .slice A81 t58.length C82, .int .i64 0, .int .i64 ob27.rev] := h39
   refine ⟨fun _ => ER.sb, ?_⟩
   refine d_q F rfl rfl rfl (by decide) (fun wq hS => r_fieldAddr F rfl ff_34_3) ER.sb fun a F => ?_
   refine d_e ?_
   refine o_eff0 F rfl rfl rfl (e_store F rfl rfl sz_3 h39 (Nat.le_of_ble_eq_true rfl) rfl) ?_
   rintro w98 a ⟨E99, h39, Z100⟩ F
   replace B := B.size Z100
   replace ER := ER.trans E99 (fun x q => by replace q : x = m + 3 := q; show x = m + 3; omega)
   replace h3 := TB.ev h3 E99 (ne_pm bj4) ne_zm
   replace h9 := SL.ev h9 E99 ne_zm ne_zm
   replace h16 := AT.ev h16 E99 (ne_mm (by decide))
   replace h23 := AT.ev h23 E99 (ne_mm (by decide))
   replace h33 := TR.ev h33 E99 ne_zm ne_zm
   replace hat31 := AT.ev hat31 E99 (ne_pm bj4)
   replace h83 := SL.ev h83 E99 ne_zm ne_zm
   replace h90 := SL.ev h90 E99 ne_zm ne_zm
   replace E := E.trans E99 (fun x (q : x = m + 3) => Or.inr (le_col q))
   replace h39 : AT true (m + 3) c85 w98 qa37 [.bool a10, .slice A87 (sb a5).length C88, .slice A81 t58.length C82, .int .i64 a6.rev, .int .i64 ob27.rev] := h39
   refine ⟨fun q => absurd rfl q, ?_⟩
   refine d_nil ?_
   refine hK45 _ _ ?_
   replace F : Fr a 28 [(8, .pointer (some qa21)), (9, .pointer (some qa37))] := F.sub ⟨rfl, rfl, trivial⟩
   refine wp_seq_k fun K105 hK105 => ?_
   refine reg ?_
   refine q_val F rfl rfl (by decide) (r_loads (cs := [.bool a10, .slice A87 (sb a5).length C88, .slice A81 t58.length C82, .int .i64 a6.rev, .int .i64 ob27.rev]) F rfl ag_34 sz_34 h39) fun a F => ?_
   refine q_eff0 F rfl rfl (e_storeN0 (us := [.bool a10, .slice A87 (sb a5).length C88, .slice A81 t58.length C82, .int .i64 a6.rev, .int .i64 ob27.rev]) F rfl rfl sz_34 h23 (Nat.le_of_ble_eq_true rfl) (one_all rfl)) ?_
   rintro w106 a ⟨E107, h23, Z108⟩ F
   replace B := B.size Z108
   replace h3 := TB.ev h3 E107 (ne_pm bj4) ne_zm
   replace h9 := SL.ev h9 E107 ne_zm ne_zm
   replace h16 := AT.ev h16 E107 (ne_mm (by decide))
   replace h33 := TR.ev h33 E107 ne_zm ne_zm
   replace hat31 := AT.ev hat31 E107 (ne_pm bj4)
   replace h39 := AT.ev h39 E107 (ne_mm (by decide))
   replace h83 := SL.ev h83 E107 ne_zm ne_zm
   replace h90 := SL.ev h90 E107 ne_zm ne_zm
   replace E := E.trans E107 (fun x (q : x = m + 2) => Or.inr (le_col q))
   replace h23 : AT true (m + 2) c85 w106 qa21 [.bool a10, .slice A87 (sb a5).length C88, .slice A81 t58.length C82, .int .i64 a6.rev, .int .i64 ob27.rev] := h23
   refine nil ?_
   refine hK105 _ _ ?_
   refine wp_ret ?_
   replace H := Option.some.inj H
   subst H
   refine outR1 F rfl ⟨_, rfl, lv_agg (cs := [.bool a10, .slice A87 (sb a5).length C88, .slice A81 t58.length C82, .int .i64 a6.rev, .int .i64 ob27.rev]) ag_34 sz_34 h23⟩ ?_
   exact ⟨fun b_ => (fun x_ => if x_ < m then x_ else 0) (c85 b_), A87, C88, A81, C82, rfl, E.leave B0 (fun x_ => if x_ < m then x_ else 0) (by intro x_ hx_; show (if x_ < m then x_ else 0) = x_; ((repeat' split) <;> omega)), (fun b_ hb_ => by show (if (c85 b_) < m then (c85 b_) else 0) < m; ((repeat' split) <;> omega)), SL.rc h90.r (fun k_ hk_ => by show (if (c85 k_) < m then (c85 k_) else 0) = _; rw [hk_]; ((repeat' split) <;> omega)) (fun k_ hk_ => by show (if (c85 k_) < m then (c85 k_) else 0) = _; rw [hk_]; ((repeat' split) <;> omega)), SL.rc h83.r (fun k_ hk_ => by show (if (c85 k_) < m then (c85 k_) else 0) = _; rw [hk_]; ((repeat' split) <;> omega)) (fun k_ hk_ => by show (if (c85 k_) < m then (c85 k_) else 0) = _; rw [hk_]; ((repeat' split) <;> omega))⟩
 ·replace H := (if_neg hb47).symm.trans H
  refine wp_cond_false ((F.ev rfl).trans (congrArg Value.bool (bfalse hb47))) ?_
  refine wp_skip ?_
  refine hK45 _ _ ?_
  refine wp_seq_k fun K109 hK109 => ?_
  refine reg ?_
  refine q_val F rfl rfl (by decide) (r_loads (cs := [.bool a10, .slice none 0 0, .slice none 0 0, .int .i64 0, .int .i64 ob27.rev]) F rfl ag_34 sz_34 h39) fun a F => ?_
  refine q_eff0 F rfl rfl (e_storeN0 (us := [.bool a10, .slice none 0 0, .slice none 0 0, .int .i64 0, .int .i64 ob27.rev]) F rfl rfl sz_34 h23 (Nat.le_of_ble_eq_true rfl) (one_all rfl)) ?_
  rintro w110 a ⟨E111, h23, Z112⟩ F
  replace B := B.size Z112
  replace h3 := TB.ev h3 E111 (ne_pm bj4) ne_zm
  replace h9 := SL.ev h9 E111 ne_zm ne_zm
  replace h16 := AT.ev h16 E111 (ne_mm (by decide))
  replace h33 := TR.ev h33 E111 ne_zm ne_zm
  replace hat31 := AT.ev hat31 E111 (ne_pm bj4)
  replace h39 := AT.ev h39 E111 (ne_mm (by decide))
  replace E := E.trans E111 (fun x (q : x = m + 2) => Or.inr (le_col q))
  replace h23 : AT true (m + 2) c35 w110 qa21 [.bool a10, .slice none 0 0, .slice none 0 0, .int .i64 0, .int .i64 ob27.rev] := h23
  refine nil ?_
  refine hK109 _ _ ?_
  refine wp_ret ?_
  replace H := Option.some.inj H
  subst H
  refine outR1 F rfl ⟨_, rfl, lv_agg (cs := [.bool a10, .slice none 0 0, .slice none 0 0, .int .i64 0, .int .i64 ob27.rev]) ag_34 sz_34 h23⟩ ?_
  exact ⟨fun b_ => (fun x_ => if x_ < m then x_ else 0) (c35 b_), none, 0, none, 0, rfl, E.leave B0 (fun x_ => if x_ < m then x_ else 0) (by intro x_ hx_; show (if x_ < m then x_ else 0) = x_; ((repeat' split) <;> omega)), (fun b_ hb_ => by show (if (c35 b_) < m then (c35 b_) else 0) < m; ((repeat' split) <;> omega)), SL.nil, SL.nil⟩
end Go.Proofs.Ythankpjbfpcldaa.G
namespace Go.Proofs.Ythankpjbfpcldaa.G
open Go Go.RowKit
set_option linter.unusedVariables false
set_option linter.unusedSimpArgs false
set_option maxRecDepth 100000 in
set_option maxHeartbeats 4000000 in
theorem table_writes.calls {m : Nat} {c0 : Nat → Nat} {w0 : World} {A2 : Option Addr} {C3 : Nat} {A5 : Option Addr} {C6 : Nat} {a1 : api_Op} (hm0 : 0 < m) (B0 : CB m c0 w0) (h4 : SL false (Kint .u8) 0 0 c0 w0 A2 C3 a1.Key) (h7 : SL false (Kint .u8) 0 0 c0 w0 A5 C6 a1.Value) (r : Bool) (H : table_writes.f a1 = some r) : Calls Try.prog 41 #[.agg #[.int .i64 a1.Kind, .slice A2 a1.Key.length C3, .slice A5 a1.Value.length C6, .int .i64 a1.Rev]] w0 (fun e w_ => ∃ (c_ : Nat → Nat), e = .returned (.bool r) ∧ Ev (fun x => False) c0 w0 c_ w_ ∧ CB m c_ w_) := by
 unfold table_writes.f at H
 have B := B0.mono (show m ≤ m + 2 by omega)
 have E : Ev (fun x => False ∨ m ≤ x) c0 w0 c0 w0 := Ev.refl
 refine enter (N := 16) (l := [.agg #[.int .i64 a1.Kind, .slice A2 a1.Key.length C3, .slice A5 a1.Value.length C6, .int .i64 a1.Rev]]) Try.func41 rfl rfl (Nat.le_of_ble_eq_true rfl) fun a F => ?_
 refine wp_seq_k fun K8 hK8 => ?_
 refine reg ?_
 refine q_eff F rfl rfl (by decide) (e_box F (v := .agg #[.int .i64 a1.Kind, .slice A2 a1.Key.length C3, .slice A5 a1.Value.length C6, .int .i64 a1.Rev]) rfl c0 (m + 1)) ?_
 rintro v w10 a ⟨c9, qa11, rfl, E12, h13, B14⟩ F
 replace B := B14 _ B (Nat.add_lt_add_left (by decide) m)
 replace h4 := SL.ev h4 E12 (fun q => q.elim) (fun q => q.elim)
 replace h7 := SL.ev h7 E12 (fun q => q.elim) (fun q => q.elim)
 replace E := E.trans E12 (fun x q => q.elim)
 replace h13 : AT true (m + 1) c9 w10 qa11 [.int .i64 a1.Kind, .slice A2 a1.Key.length C3, .slice A5 a1.Value.length C6, .int .i64 a1.Rev] := h13
 refine q_val F rfl rfl (by decide) (r_assign F rfl) fun a F => ?_
 refine nil ?_
 refine hK8 _ _ ?_
 refine wp_seq_k fun K16 hK16 => ?_
 refine reg ?_
 refine q_val F rfl rfl (by decide) (r_fieldAddr F rfl ff_30_0) fun a F => ?_
 refine q_val F rfl rfl (by decide) (r_load F rfl ag_3 (AT.cell h13 rfl)) fun a F => ?_
 refine q_val F rfl rfl (by decide) (r_eql F rfl rfl) fun a F => ?_
 refine q_val F rfl rfl (by decide) (r_move F rfl) fun a F => ?_
 by_cases hb17 : a1.Kind = 2
 ·replace H := (if_pos hb17).symm.trans H
  refine q_no F rfl (by decide) rfl (decide_eq_true hb17) (by decide) fun a F => ?_
  refine q_no F rfl (by decide) rfl (decide_eq_true hb17) (by decide) fun a F => ?_
  refine q_no F rfl (by decide) rfl (decide_eq_true hb17) (by decide) fun a F => ?_
  refine q_val F rfl rfl (by decide) (r_pick_t F rfl (decide_eq_true hb17) rfl) fun a F => ?_
  refine q_val F rfl rfl (by decide) (r_move F rfl) fun a F => ?_
  refine q_no F rfl (by decide) rfl rfl (by decide) fun a F => ?_
  refine q_no F rfl (by decide) rfl rfl (by decide) fun a F => ?_
  refine q_no F rfl (by decide) rfl rfl (by decide) fun a F => ?_
  refine q_val F rfl rfl (by decide) (r_pick_t F rfl rfl rfl) fun a F => ?_
  refine q_val F rfl rfl (by decide) (r_assign F rfl) fun a F => ?_
  refine nil ?_
  refine hK16 _ _ ?_
  replace F : Fr a 16 [(2, .bool true)] := F.sub ⟨rfl, trivial⟩
  refine wp_ret ?_
  replace H := Option.some.inj H
  subst H
  refine out1 F rfl rfl ?_
  exact ⟨fun b_ => (fun x_ => if x_ < m then x_ else 0) (c9 b_), rfl, E.leave B0 (fun x_ => if x_ < m then x_ else 0) (by intro x_ hx_; show (if x_ < m then x_ else 0) = x_; ((repeat' split) <;> omega)), (fun b_ hb_ => by show (if (c9 b_) < m then (c9 b_) else 0) < m; ((repeat' split) <;> omega))⟩
 ·replace H := (if_neg hb17).symm.trans H
  refine q_yes F rfl (by decide) rfl (decide_eq_false hb17) ?_
  refine q_val F rfl rfl (by decide) (r_fieldAddr F rfl ff_30_0) fun a F => ?_
  refine q_yes F rfl (by decide) rfl (decide_eq_false hb17) ?_
  refine q_val F rfl rfl (by decide) (r_load F rfl ag_3 (AT.cell h13 rfl)) fun a F => ?_
  refine q_yes F rfl (by decide) rfl (decide_eq_false hb17) ?_
  refine q_val F rfl rfl (by decide) (r_eql F rfl rfl) fun a F => ?_
  refine q_val F rfl rfl (by decide) (r_pick_f F rfl (decide_eq_false hb17) rfl) fun a F => ?_
  refine q_val F rfl rfl (by decide) (r_move F rfl) fun a F => ?_
  by_cases hb18 : a1.Kind = 3
  ·replace H := (if_pos hb18).symm.trans H
   refine q_no F rfl (by decide) rfl (decide_eq_true hb18) (by decide) fun a F => ?_
   refine q_no F rfl (by decide) rfl (decide_eq_true hb18) (by decide) fun a F => ?_
   refine q_no F rfl (by decide) rfl (decide_eq_true hb18) (by decide) fun a F => ?_
   refine q_val F rfl rfl (by decide) (r_pick_t F rfl (decide_eq_true hb18) rfl) fun a F => ?_
   refine q_val F rfl rfl (by decide) (r_assign F rfl) fun a F => ?_
   refine nil ?_
   refine hK16 _ _ ?_
   replace F : Fr a 16 [(2, .bool true)] := F.sub ⟨rfl, trivial⟩
   refine wp_ret ?_
   replace H := Option.some.inj H
   subst H
   refine out1 F rfl rfl ?_
   exact ⟨fun b_ => (fun x_ => if x_ < m then x_ else 0) (c9 b_), rfl, E.leave B0 (fun x_ => if x_ < m then x_ else 0) (by intro x_ hx_; show (if x_ < m then x_ else 0) = x_; ((repeat' split) <;> omega)), (fun b_ hb_ => by show (if (c9 b_) < m then (c9 b_) else 0) < m; ((repeat' split) <;> omega))⟩
  ·replace H := (if_neg hb18).symm.trans H
   refine q_yes F rfl (by decide) rfl (decide_eq_false hb18) ?_
   refine q_val F rfl rfl (by decide) (r_fieldAddr F rfl ff_30_0) fun a F => ?_
   refine q_yes F rfl (by decide) rfl (decide_eq_false hb18) ?_
   refine q_val F rfl rfl (by decide) (r_load F rfl ag_3 (AT.cell h13 rfl)) fun a F => ?_
   refine q_yes F rfl (by decide) rfl (decide_eq_false hb18) ?_
   refine q_val F rfl rfl (by decide) (r_eql F rfl rfl) fun a F => ?_
   refine q_val F rfl rfl (by decide) (r_pick_f F rfl (decide_eq_false hb18) rfl) fun a F => ?_
   refine q_val F rfl rfl (by decide) (r_assign F rfl) fun a F => ?_
   refine nil ?_
   refine hK16 _ _ ?_
   replace F : Fr a 16 [(2, .bool (decide (a1.Kind = 4)))] := F.sub ⟨rfl, trivial⟩
   refine wp_ret ?_
   replace H := Option.some.inj H
   subst H
   refine out1 F rfl rfl ?_
   exact ⟨fun b_ => (fun x_ => if x_ < m then x_ else 0) (c9 b_), rfl, E.leave B0 (fun x_ => if x_ < m then x_ else 0) (by intro x_ hx_; show (if x_ < m then x_ else 0) = x_; ((repeat' split) <;> omega)), (fun b_ hb_ => by show (if (c9 b_) < m then (c9 b_) else 0) < m; ((repeat' split) <;> omega))⟩
end Go.Proofs.Ythankpjbfpcldaa.G
namespace Go.Proofs.Ythankpjbfpcldaa.G
open Go Go.RowKit
set_option linter.unusedVariables false
set_option linter.unusedSimpArgs false
set_option maxRecDepth 100000 in
set_option maxHeartbeats 4000000 in
theorem tree_Tree_up.calls {σ X : Type} {m : Nat} {M : Nat → Prop} {cR : Nat → Nat} {wR : World} {l : Nat} (hm0 : 0 < m) (HM : ¬ M 0) {g : σ → ByteArray → table_cell → Option (Ctl σ X)} {J : σ → (Nat → Nat) → World → Prop} {JX : X → (Nat → Nat) → World → Prop} (HE : ∀ s c w, J s c w → Ev M cR wR c w) (HX : ∀ x c w, JX x c w → Ev M cR wR c w) (HY : ∀ s k (v : table_cell) c w (A20 : Option Addr) (C21 : Nat) r, JS m (J s) c w → SL false (Kint .u8) 0 0 c w A20 C21 v.value → g s k v = some r → YieldAt Fence.wide 0 Try.prog l #[.string k, .agg #[.slice A20 v.value.length C21, .int .i64 v.rev]] w (IP (fun s => JS m (J s)) JX r)) (t : Tr) : ∀ (p : Option Addr) (s : σ) (c : Nat → Nat) (w : World), TR 0 cR wR p t → JS m (J s) c w → ∀ (r : Ctl σ X), Tr.up g t s = some r → Calls Try.prog 67 #[.pointer p, yv l] w (IP (fun s => JS m (J s)) JX r) := by
 induction t with
 | nil =>
  intro p s0 c w ht hJ r H
  have ht : p = none := ht
  subst ht
  have H : some (Ctl.next s0) = some r := H
  refine enter (N := 35) (l := [.pointer none, yv l]) Try.func67 rfl rfl (Nat.le_of_ble_eq_true rfl) fun a F => ?_
  have ER := hJ.ev (HE _)
  refine wp_seq_k fun K1 hK1 => ?_
  refine reg ?_
  refine q_val F rfl rfl (by decide) (r_assign F rfl) fun a F => ?_
  refine nil ?_
  refine hK1 _ _ ?_
  refine wp_seq_k fun K2 hK2 => ?_
  refine regD (SB M cR wR) 31 (.q 0 (.q 1 (.q 2 (.q 3 (.q 4 (.q 5 (.q 6 (.q 7 (.e 8 (.q 9 (.q 10 (.q 11 (.q 12 (.q 13 (.q 14 (.q 15 (.q 16 (.q 17 (.q 18 (.e 19 (.q 20 (.q 21 (.q 22 (.q 23 (.q 24 (.q 25 (.q 26 (.e 27 (.q 28 (.q 29 (.q 30 .nil))))))))))))))))))))))))))))))) Try_hm (by decide +kernel) ?_
  intro w3 w1_ w2_ w3_ w4_
  have hJ := hJ.step (Ev.same w1_ w2_ w3_ w4_) (hJ.1.same w1_)
  have ER := hJ.ev (HE _)
  refine d_q F rfl rfl rfl (by decide) (fun wq hS => r_move F rfl) ER.sb fun a F => ?_
  refine d_q F rfl rfl rfl (by decide) (fun wq hS => r_peql F Try.underlying77 rfl rfl) ER.sb fun a F => ?_
  refine d_q F rfl rfl rfl (by decide) (fun wq hS => r_move F rfl) ER.sb fun a F => ?_
  refine d_qn F rfl rfl rfl (by decide) rfl rfl rfl (by decide) ER.sb fun a F => ?_
  refine d_qn F rfl rfl rfl (by decide) rfl rfl rfl (by decide) ER.sb fun a F => ?_
  refine d_qn F rfl rfl rfl (by decide) rfl rfl rfl (by decide) ER.sb fun a F => ?_
  refine d_qn F rfl rfl rfl (by decide) rfl rfl rfl (by decide) ER.sb fun a F => ?_
  refine d_qn F rfl rfl rfl (by decide) rfl rfl rfl (by decide) ER.sb fun a F => ?_
  refine d_e ?_
  refine o_no F rfl rfl rfl (by decide) rfl rfl rfl (by decide) fun a F => ?_
  refine ⟨fun _ => ER.sb, ?_⟩
  refine d_qn F rfl rfl rfl (by decide) rfl rfl rfl (by decide) ER.sb fun a F => ?_
  refine d_qnu F rfl rfl rfl (by decide) rfl rfl (by decide) ER.sb fun a F => ?_
  refine d_qnu F rfl rfl rfl (by decide) rfl rfl (by decide) ER.sb fun a F => ?_
  refine d_qnu F rfl rfl rfl (by decide) rfl rfl (by decide) ER.sb fun a F => ?_
  refine d_qnu F rfl rfl rfl (by decide) rfl rfl (by decide) ER.sb fun a F => ?_
  refine d_qnu F rfl rfl rfl (by decide) rfl rfl (by decide) ER.sb fun a F => ?_
  refine d_qnu F rfl rfl rfl (by decide) rfl rfl (by decide) ER.sb fun a F => ?_
  refine d_qnu F rfl rfl rfl (by decide) rfl rfl (by decide) ER.sb fun a F => ?_
  refine d_qnu F rfl rfl rfl (by decide) rfl rfl (by decide) ER.sb fun a F => ?_
  refine d_qnu F rfl rfl rfl (by decide) rfl rfl (by decide) ER.sb fun a F => ?_
  refine d_e ?_
  refine o_nu F rfl rfl rfl (by decide) rfl rfl (by decide) fun a F => ?_
  refine ⟨fun _ => ER.sb, ?_⟩
  refine d_qn F rfl rfl rfl (by decide) rfl rfl rfl (by decide) ER.sb fun a F => ?_
  refine d_qn F rfl rfl rfl (by decide) rfl rfl rfl (by decide) ER.sb fun a F => ?_
  refine d_qnu F rfl rfl rfl (by decide) rfl rfl (by decide) ER.sb fun a F => ?_
  refine d_qnu F rfl rfl rfl (by decide) rfl rfl (by decide) ER.sb fun a F => ?_
  refine d_qnu F rfl rfl rfl (by decide) rfl rfl (by decide) ER.sb fun a F => ?_
  refine d_qnu F rfl rfl rfl (by decide) rfl rfl (by decide) ER.sb fun a F => ?_
  refine d_qnu F rfl rfl rfl (by decide) rfl rfl (by decide) ER.sb fun a F => ?_
  refine d_e ?_
  refine o_nu F rfl rfl rfl (by decide) rfl rfl (by decide) fun a F => ?_
  refine ⟨fun _ => ER.sb, ?_⟩
  refine d_qn F rfl rfl rfl (by decide) rfl rfl rfl (by decide) ER.sb fun a F => ?_
  refine d_q F rfl rfl rfl (by decide) (fun wq hS => r_pick_t F rfl rfl rfl) ER.sb fun a F => ?_
  refine d_q F rfl rfl rfl (by decide) (fun wq hS => r_assign F rfl) ER.sb fun a F => ?_
  refine d_nil ?_
  refine hK2 _ _ ?_
  have F : Fr a 35 [(4, .bool true)] := F.sub ⟨rfl, trivial⟩
  refine wp_ret ?_
  have H := Option.some.inj H
  subst H
  refine out1 F rfl rfl ?_
  exact ⟨rfl, _, hJ⟩
 | node tl tr k v s d ihhl ihhr =>
  intro p s0 c w ht hJ r H
  obtain ⟨ad, lp, rp, A1, C2, rfl, hat, h3, hl, hr⟩ := TR.node ht
  have H : (thenC (Tr.up g tl s0) fun s => thenC (g s k v) fun s => Tr.up g tr s) = some r := H
  refine enter (N := 35) (l := [.pointer (some ad), yv l]) Try.func67 rfl rfl (Nat.le_of_ble_eq_true rfl) fun a F => ?_
  have ER := hJ.ev (HE _)
  refine wp_seq_k fun K4 hK4 => ?_
  refine reg ?_
  refine q_val F rfl rfl (by decide) (r_assign F rfl) fun a F => ?_
  refine nil ?_
  refine hK4 _ _ ?_
  refine wp_seq_k fun K5 hK5 => ?_
  refine regD (SB M cR wR) 31 (.q 0 (.q 1 (.q 2 (.q 3 (.q 4 (.q 5 (.q 6 (.q 7 (.e 8 (.q 9 (.q 10 (.q 11 (.q 12 (.q 13 (.q 14 (.q 15 (.q 16 (.q 17 (.q 18 (.e 19 (.q 20 (.q 21 (.q 22 (.q 23 (.q 24 (.q 25 (.q 26 (.e 27 (.q 28 (.q 29 (.q 30 .nil))))))))))))))))))))))))))))))) Try_hm (by decide +kernel) ?_
  intro w6 w1_ w2_ w3_ w4_
  have hJ := hJ.step (Ev.same w1_ w2_ w3_ w4_) (hJ.1.same w1_)
  have ER := hJ.ev (HE _)
  refine d_q F rfl rfl rfl (by decide) (fun wq hS => r_move F rfl) ER.sb fun a F => ?_
  refine d_q F rfl rfl rfl (by decide) (fun wq hS => r_peql F Try.underlying77 rfl rfl) ER.sb fun a F => ?_
  refine d_q F rfl rfl rfl (by decide) (fun wq hS => r_move F rfl) ER.sb fun a F => ?_
  refine d_qy F rfl rfl rfl (by decide) rfl rfl rfl (by decide) (fun wq hS => r_move F rfl) ER.sb fun a F => ?_
  refine d_qy F rfl rfl rfl (by decide) rfl rfl rfl (by decide) (fun wq hS => r_nil F rfl) ER.sb fun a F => ?_
  refine d_qy F rfl rfl rfl (by decide) rfl rfl rfl (by decide) (fun wq hS => r_fieldAddr F rfl ff_112_0) ER.sb fun a F => ?_
  refine d_qy F rfl rfl rfl (by decide) rfl rfl rfl (by decide) (fun wq hS => r_load F rfl ag_77 (AT.cell (AT.sb hat hS HM) rfl)) ER.sb fun a F => ?_
  refine d_qy F rfl rfl rfl (by decide) rfl rfl rfl (by decide) (fun wq hS => r_move F rfl) ER.sb fun a F => ?_
  refine d_e ?_
  obtain ⟨t7, q8, H⟩ := thenC_some H
  refine o_call F rfl (wanted_yes F rfl rfl (by decide) rfl rfl) rfl (by decide) (r_call F Try.func67 rfl (by kernel_rfl) rfl) (ihhl _ _ _ _ hl hJ _ q8) ?_
  rintro e w10 h11
  cases t7 with
  | next s_ =>
   obtain ⟨rfl, c9, hJ⟩ := h11
   refine ⟨_, rfl, fun a F => ?_⟩
   have ER := hJ.ev (HE _)
   have H : _ = some r := H
   refine ⟨fun _ => ER.sb, ?_⟩
   refine d_qy F rfl rfl rfl (by decide) rfl rfl rfl (by decide) (fun wq hS => r_move F rfl) ER.sb fun a F => ?_
   refine d_qy F rfl rfl rfl (by decide) rfl rfl rfl (by decide) (fun wq hS => r_move F rfl) ER.sb fun a F => ?_
   refine d_qy F rfl rfl rfl (by decide) rfl rfl rfl (by decide) (fun wq hS => r_move F rfl) ER.sb fun a F => ?_
   refine d_qy F rfl rfl rfl (by decide) rfl rfl rfl (by decide) (fun wq hS => r_nil F rfl) ER.sb fun a F => ?_
   refine d_qy F rfl rfl rfl (by decide) rfl rfl rfl (by decide) (fun wq hS => r_fieldAddr F rfl ff_112_2) ER.sb fun a F => ?_
   refine d_qy F rfl rfl rfl (by decide) rfl rfl rfl (by decide) (fun wq hS => r_load F rfl ag_9 (AT.cell (AT.sb hat hS HM) rfl)) ER.sb fun a F => ?_
   refine d_qy F rfl rfl rfl (by decide) rfl rfl rfl (by decide) (fun wq hS => r_move F rfl) ER.sb fun a F => ?_
   refine d_qy F rfl rfl rfl (by decide) rfl rfl rfl (by decide) (fun wq hS => r_nil F rfl) ER.sb fun a F => ?_
   refine d_qy F rfl rfl rfl (by decide) rfl rfl rfl (by decide) (fun wq hS => r_fieldAddr F rfl ff_112_3) ER.sb fun a F => ?_
   refine d_qy F rfl rfl rfl (by decide) rfl rfl rfl (by decide) (fun wq hS => r_loads (cs := [.slice A1 v.value.length C2, .int .i64 v.rev]) F rfl ag_80 sz_80 (AT.sub (AT.sb hat hS HM) 3 2 (Nat.le_of_ble_eq_true rfl))) ER.sb fun a F => ?_
   refine d_e ?_
   obtain ⟨t12, q13, H⟩ := thenC_some H
   refine o_yield F rfl (wanted_yes F rfl rfl (by decide) rfl rfl) rfl (by decide) (r_yield F rfl (vs := [.string k, .agg #[.slice A1 v.value.length C2, .int .i64 v.rev]]) rfl) (HY _ _ _ _ _ _ _ _ hJ (SL.ev h3 ER HM HM) q13) ?_
   rintro e w15 h16
   cases t12 with
   | next s_ =>
    obtain ⟨rfl, c14, hJ⟩ := h16
    refine ⟨_, rfl, fun a F => ?_⟩
    have ER := hJ.ev (HE _)
    have H : _ = some r := H
    refine ⟨fun _ => ER.sb, ?_⟩
    refine d_qy F rfl rfl rfl (by decide) rfl rfl rfl (by decide) (fun wq hS => r_pick_t F rfl rfl rfl) ER.sb fun a F => ?_
    refine d_qy F rfl rfl rfl (by decide) rfl rfl rfl (by decide) (fun wq hS => r_move F rfl) ER.sb fun a F => ?_
    refine d_qy F rfl rfl rfl (by decide) rfl rfl rfl (by decide) (fun wq hS => r_move F rfl) ER.sb fun a F => ?_
    refine d_qy F rfl rfl rfl (by decide) rfl rfl rfl (by decide) (fun wq hS => r_nil F rfl) ER.sb fun a F => ?_
    refine d_qy F rfl rfl rfl (by decide) rfl rfl rfl (by decide) (fun wq hS => r_fieldAddr F rfl ff_112_1) ER.sb fun a F => ?_
    refine d_qy F rfl rfl rfl (by decide) rfl rfl rfl (by decide) (fun wq hS => r_load F rfl ag_77 (AT.cell (AT.sb hat hS HM) rfl)) ER.sb fun a F => ?_
    refine d_qy F rfl rfl rfl (by decide) rfl rfl rfl (by decide) (fun wq hS => r_move F rfl) ER.sb fun a F => ?_
    refine d_e ?_
    refine o_call F rfl (wanted_yes F rfl rfl (by decide) rfl rfl) rfl (by decide) (r_call F Try.func67 rfl (by kernel_rfl) rfl) (ihhr _ _ _ _ hr hJ _ H) ?_
    rintro e w18 h19
    cases r with
    | next s_ =>
     obtain ⟨rfl, c17, hJ⟩ := h19
     refine ⟨_, rfl, fun a F => ?_⟩
     have ER := hJ.ev (HE _)
     refine ⟨fun _ => ER.sb, ?_⟩
     refine d_qy F rfl rfl rfl (by decide) rfl rfl rfl (by decide) (fun wq hS => r_pick_t F rfl rfl rfl) ER.sb fun a F => ?_
     refine d_q F rfl rfl rfl (by decide) (fun wq hS => r_pick_f F rfl rfl rfl) ER.sb fun a F => ?_
     refine d_q F rfl rfl rfl (by decide) (fun wq hS => r_assign F rfl) ER.sb fun a F => ?_
     refine d_nil ?_
     refine hK5 _ _ ?_
     have F : Fr a 35 [(4, .bool true)] := F.sub ⟨rfl, trivial⟩
     refine wp_ret ?_
     refine out1 F rfl rfl ?_
     exact ⟨rfl, _, hJ⟩
    | done x_ =>
     obtain ⟨rfl, c17, hX⟩ := h19
     refine ⟨_, rfl, fun a F => ?_⟩
     have ER := HX _ _ _ hX
     refine ⟨fun _ => ER.sb, ?_⟩
     refine d_qy F rfl rfl rfl (by decide) rfl rfl rfl (by decide) (fun wq hS => r_pick_t F rfl rfl rfl) ER.sb fun a F => ?_
     refine d_q F rfl rfl rfl (by decide) (fun wq hS => r_pick_f F rfl rfl rfl) ER.sb fun a F => ?_
     refine d_q F rfl rfl rfl (by decide) (fun wq hS => r_assign F rfl) ER.sb fun a F => ?_
     refine d_nil ?_
     refine hK5 _ _ ?_
     have F : Fr a 35 [(4, .bool false)] := F.sub ⟨rfl, trivial⟩
     refine wp_ret ?_
     refine out1 F rfl rfl ?_
     exact ⟨rfl, _, hX⟩
   | done x_ =>
    obtain ⟨rfl, c14, hX⟩ := h16
    refine ⟨_, rfl, fun a F => ?_⟩
    have ER := HX _ _ _ hX
    have H : Ctl.done _ = r := H
    subst H
    refine ⟨fun _ => ER.sb, ?_⟩
    refine d_qy F rfl rfl rfl (by decide) rfl rfl rfl (by decide) (fun wq hS => r_pick_t F rfl rfl rfl) ER.sb fun a F => ?_
    refine d_qy F rfl rfl rfl (by decide) rfl rfl rfl (by decide) (fun wq hS => r_move F rfl) ER.sb fun a F => ?_
    refine d_qn F rfl rfl rfl (by decide) rfl rfl rfl (by decide) ER.sb fun a F => ?_
    refine d_qn F rfl rfl rfl (by decide) rfl rfl rfl (by decide) ER.sb fun a F => ?_
    refine d_qn F rfl rfl rfl (by decide) rfl rfl rfl (by decide) ER.sb fun a F => ?_
    refine d_qn F rfl rfl rfl (by decide) rfl rfl rfl (by decide) ER.sb fun a F => ?_
    refine d_qn F rfl rfl rfl (by decide) rfl rfl rfl (by decide) ER.sb fun a F => ?_
    refine d_e ?_
    refine o_no F rfl rfl rfl (by decide) rfl rfl rfl (by decide) fun a F => ?_
    refine ⟨fun _ => ER.sb, ?_⟩
    refine d_qy F rfl rfl rfl (by decide) rfl rfl rfl (by decide) (fun wq hS => r_pick_f F rfl rfl rfl) ER.sb fun a F => ?_
    refine d_q F rfl rfl rfl (by decide) (fun wq hS => r_pick_f F rfl rfl rfl) ER.sb fun a F => ?_
    refine d_q F rfl rfl rfl (by decide) (fun wq hS => r_assign F rfl) ER.sb fun a F => ?_
    refine d_nil ?_
    refine hK5 _ _ ?_
    have F : Fr a 35 [(4, .bool false)] := F.sub ⟨rfl, trivial⟩
    refine wp_ret ?_
    refine out1 F rfl rfl ?_
    exact ⟨rfl, _, hX⟩
  | done x_ =>
   obtain ⟨rfl, c9, hX⟩ := h11
   refine ⟨_, rfl, fun a F => ?_⟩
   have ER := HX _ _ _ hX
   have H : Ctl.done _ = r := H
   subst H
   refine ⟨fun _ => ER.sb, ?_⟩
   refine d_qy F rfl rfl rfl (by decide) rfl rfl rfl (by decide) (fun wq hS => r_move F rfl) ER.sb fun a F => ?_
   refine d_qn F rfl rfl rfl (by decide) rfl rfl rfl (by decide) ER.sb fun a F => ?_
   refine d_qn F rfl rfl rfl (by decide) rfl rfl rfl (by decide) ER.sb fun a F => ?_
   refine d_qn F rfl rfl rfl (by decide) rfl rfl rfl (by decide) ER.sb fun a F => ?_
   refine d_qn F rfl rfl rfl (by decide) rfl rfl rfl (by decide) ER.sb fun a F => ?_
   refine d_qn F rfl rfl rfl (by decide) rfl rfl rfl (by decide) ER.sb fun a F => ?_
   refine d_qn F rfl rfl rfl (by decide) rfl rfl rfl (by decide) ER.sb fun a F => ?_
   refine d_qn F rfl rfl rfl (by decide) rfl rfl rfl (by decide) ER.sb fun a F => ?_
   refine d_qn F rfl rfl rfl (by decide) rfl rfl rfl (by decide) ER.sb fun a F => ?_
   refine d_qn F rfl rfl rfl (by decide) rfl rfl rfl (by decide) ER.sb fun a F => ?_
   refine d_e ?_
   refine o_no F rfl rfl rfl (by decide) rfl rfl rfl (by decide) fun a F => ?_
   refine ⟨fun _ => ER.sb, ?_⟩
   refine d_qy F rfl rfl rfl (by decide) rfl rfl rfl (by decide) (fun wq hS => r_pick_f F rfl rfl rfl) ER.sb fun a F => ?_
   refine d_qy F rfl rfl rfl (by decide) rfl rfl rfl (by decide) (fun wq hS => r_move F rfl) ER.sb fun a F => ?_
   refine d_qn F rfl rfl rfl (by decide) rfl rfl rfl (by decide) ER.sb fun a F => ?_
   refine d_qn F rfl rfl rfl (by decide) rfl rfl rfl (by decide) ER.sb fun a F => ?_
   refine d_qn F rfl rfl rfl (by decide) rfl rfl rfl (by decide) ER.sb fun a F => ?_
   refine d_qn F rfl rfl rfl (by decide) rfl rfl rfl (by decide) ER.sb fun a F => ?_
   refine d_qn F rfl rfl rfl (by decide) rfl rfl rfl (by decide) ER.sb fun a F => ?_
   refine d_e ?_
   refine o_no F rfl rfl rfl (by decide) rfl rfl rfl (by decide) fun a F => ?_
   refine ⟨fun _ => ER.sb, ?_⟩
   refine d_qy F rfl rfl rfl (by decide) rfl rfl rfl (by decide) (fun wq hS => r_pick_f F rfl rfl rfl) ER.sb fun a F => ?_
   refine d_q F rfl rfl rfl (by decide) (fun wq hS => r_pick_f F rfl rfl rfl) ER.sb fun a F => ?_
   refine d_q F rfl rfl rfl (by decide) (fun wq hS => r_assign F rfl) ER.sb fun a F => ?_
   refine d_nil ?_
   refine hK5 _ _ ?_
   have F : Fr a 35 [(4, .bool false)] := F.sub ⟨rfl, trivial⟩
   refine wp_ret ?_
   refine out1 F rfl rfl ?_
   exact ⟨rfl, _, hX⟩
end Go.Proofs.Ythankpjbfpcldaa.G
namespace Go.Proofs.Ythankpjbfpcldaa.G
open Go Go.RowKit
set_option linter.unusedVariables false
set_option linter.unusedSimpArgs false
set_option maxRecDepth 100000 in
set_option maxHeartbeats 4000000 in
theorem tree_Tree_All_1.calls {σ X : Type} {m : Nat} {M : Nat → Prop} {cR : Nat → Nat} {wR : World} {l : Nat} (hm0 : 0 < m) (HM : ¬ M 0) {g : σ → ByteArray → table_cell → Option (Ctl σ X)} {J : σ → (Nat → Nat) → World → Prop} {JX : X → (Nat → Nat) → World → Prop} (HE : ∀ s c w, J s c w → Ev M cR wR c w) (HX : ∀ x c w, JX x c w → Ev M cR wR c w) (HY : ∀ s k (v : table_cell) c w (A4 : Option Addr) (C5 : Nat) r, JS m (J s) c w → SL false (Kint .u8) 0 0 c w A4 C5 v.value → g s k v = some r → YieldAt Fence.wide 0 Try.prog l #[.string k, .agg #[.slice A4 v.value.length C5, .int .i64 v.rev]] w (IP (fun s => JS m (J s)) JX r)) (t : Tr) (p : Option Addr) (s : σ) (c : Nat → Nat) (w : World) {own0 : Bool} {jq0 : Nat} {q0 : Addr} (hq0 : AT own0 jq0 c w q0 [.pointer p]) (ht : TR 0 cR wR p t) (hJ : JS m (J s) c w) (r : Ctl σ X) (H : Tr.up g t s = some r) : Calls Try.prog 66 #[yv l, .pointer (some q0)] w (IT (fun s => JS m (J s)) JX r) := by
 refine enter (N := 6) (l := [yv l, .pointer (some q0)]) Try.func66 rfl rfl (Nat.le_of_ble_eq_true rfl) fun a F => ?_
 have ER := hJ.ev (HE _)
 refine reg ?_
 refine q_val F rfl rfl (by decide) (r_load F rfl ag_77 (AT.cell0 hq0 rfl)) fun a F => ?_
 refine q_val F rfl rfl (by decide) (r_move F rfl) fun a F => ?_
 refine q_call F rfl rfl (by decide) (r_call F Try.func67 rfl (by kernel_rfl) rfl) (tree_Tree_up.calls hm0 HM HE HX HY _ _ _ _ _ ht hJ _ H) ?_
 rintro e w2 h3
 cases r with
 | next s_ =>
  obtain ⟨rfl, c1, hJ⟩ := h3
  refine ⟨_, rfl, fun a F => ?_⟩
  have ER := hJ.ev (HE _)
  refine nil ?_
  refine out0n F rfl ?_
  exact ⟨⟨_, rfl⟩, _, hJ⟩
 | done x_ =>
  obtain ⟨rfl, c1, hX⟩ := h3
  refine ⟨_, rfl, fun a F => ?_⟩
  have ER := HX _ _ _ hX
  refine nil ?_
  refine out0n F rfl ?_
  exact ⟨⟨_, rfl⟩, _, hX⟩
end Go.Proofs.Ythankpjbfpcldaa.G
namespace Go.Proofs.Ythankpjbfpcldaa.G
open Go Go.RowKit
set_option linter.unusedVariables false
set_option linter.unusedSimpArgs false
set_option maxRecDepth 100000 in
set_option maxHeartbeats 4000000 in
theorem cmp_Less.calls {m : Nat} {c0 : Nat → Nat} {w0 : World} {a1 : ByteArray} {a2 : ByteArray} (hm0 : 0 < m) (B0 : CB m c0 w0) (r : Bool) (H : cmp_Less.f a1 a2 = some r) : Calls Try.prog 95 #[.string a1, .string a2] w0 (fun e w_ => ∃ (c_ : Nat → Nat), e = .returned (.bool r) ∧ Ev (fun x => False) c0 w0 c_ w_ ∧ CB m c_ w_) := by
 unfold cmp_Less.f at H
 have B := B0.mono (show m ≤ m + 1 by omega)
 have E : Ev (fun x => False ∨ m ≤ x) c0 w0 c0 w0 := Ev.refl
 refine enter (N := 17) (l := [.string a1, .string a2]) Try.func95 rfl rfl (Nat.le_of_ble_eq_true rfl) fun a F => ?_
 refine wp_seq_k fun K3 hK3 => ?_
 refine reg ?_
 refine q_val F rfl rfl (by decide) (r_assign F rfl) fun a F => ?_
 refine nil ?_
 refine hK3 _ _ ?_
 refine wp_seq_k fun K4 hK4 => ?_
 refine reg ?_
 refine q_val F rfl rfl (by decide) (r_move F rfl) fun a F => ?_
 replace H := bind_some H
 obtain ⟨t5, q6, H⟩ := H
 refine q_call F rfl rfl (by decide) (r_call F Try.func86 rfl (by kernel_rfl) rfl) (cmp_isNaN.calls (m := m + 1) (Nat.add_pos_left hm0 _) B _ q6) ?_
 rintro e w8 ⟨c7, rfl, E9, B10⟩
 refine ⟨_, rfl, fun a F => ?_⟩
 have B := B10
 replace E := E.trans E9 (fun x q => q.elim)
 refine q_val F rfl rfl (by decide) (r_move F rfl) fun a F => ?_
 by_cases hb12 : t5 = true
 ·replace H := (if_pos hb12).symm.trans H
  refine q_yes F rfl (by decide) rfl hb12 ?_
  refine q_val F rfl rfl (by decide) (r_move F rfl) fun a F => ?_
  replace H := bind_some H
  obtain ⟨t13, q14, H⟩ := H
  refine q_yes F rfl (by decide) rfl hb12 ?_
  refine q_call F rfl rfl (by decide) (r_call F Try.func86 rfl (by kernel_rfl) rfl) (cmp_isNaN.calls (m := m + 1) (Nat.add_pos_left hm0 _) B _ q14) ?_
  rintro e w16 ⟨c15, rfl, E17, B18⟩
  refine ⟨_, rfl, fun a F => ?_⟩
  have B := B18
  replace E := E.trans E17 (fun x q => q.elim)
  refine q_yes F rfl (by decide) rfl hb12 ?_
  refine q_val F rfl rfl (by decide) (r_not F rfl) fun a F => ?_
  refine q_val F rfl rfl (by decide) (r_pick_t F rfl hb12 rfl) fun a F => ?_
  refine q_val F rfl rfl (by decide) (r_move F rfl) fun a F => ?_
  by_cases hb20 : t13 = true
  ·replace H := (if_pos hb20).symm.trans H
   refine q_yes F rfl (by decide) rfl (congrArg not hb20) ?_
   refine q_val F rfl rfl (by decide) (r_move F rfl) fun a F => ?_
   refine q_yes F rfl (by decide) rfl (congrArg not hb20) ?_
   refine q_val F rfl rfl (by decide) (r_move F rfl) fun a F => ?_
   refine q_yes F rfl (by decide) rfl (congrArg not hb20) ?_
   refine q_val F rfl rfl (by decide) (r_slss F rfl rfl) fun a F => ?_
   refine q_val F rfl rfl (by decide) (r_pick_f F rfl (congrArg not hb20) rfl) fun a F => ?_
   refine q_val F rfl rfl (by decide) (r_assign F rfl) fun a F => ?_
   refine nil ?_
   refine hK4 _ _ ?_
   replace F : Fr a 17 [(4, .bool (Op.bytesLess a1.toList a2.toList))] := F.sub ⟨rfl, trivial⟩
   refine wp_ret ?_
   replace H := Option.some.inj H
   subst H
   refine out1 F rfl rfl ?_
   exact ⟨fun b_ => (fun x_ => if x_ < m then x_ else 0) (c15 b_), rfl, E.leave B0 (fun x_ => if x_ < m then x_ else 0) (by intro x_ hx_; show (if x_ < m then x_ else 0) = x_; ((repeat' split) <;> omega)), (fun b_ hb_ => by show (if (c15 b_) < m then (c15 b_) else 0) < m; ((repeat' split) <;> omega))⟩
  ·replace H := (if_neg hb20).symm.trans H
   refine q_no F rfl (by decide) rfl (congrArg not (bfalse hb20)) (by decide) fun a F => ?_
   refine q_no F rfl (by decide) rfl (congrArg not (bfalse hb20)) (by decide) fun a F => ?_
   refine q_no F rfl (by decide) rfl (congrArg not (bfalse hb20)) (by decide) fun a F => ?_
   refine q_val F rfl rfl (by decide) (r_pick_t F rfl (congrArg not (bfalse hb20)) rfl) fun a F => ?_
   refine q_val F rfl rfl (by decide) (r_assign F rfl) fun a F => ?_
   refine nil ?_
   refine hK4 _ _ ?_
   replace F : Fr a 17 [(4, .bool true)] := F.sub ⟨rfl, trivial⟩
   refine wp_ret ?_
   replace H := Option.some.inj H
   subst H
   refine out1 F rfl rfl ?_
   exact ⟨fun b_ => (fun x_ => if x_ < m then x_ else 0) (c15 b_), rfl, E.leave B0 (fun x_ => if x_ < m then x_ else 0) (by intro x_ hx_; show (if x_ < m then x_ else 0) = x_; ((repeat' split) <;> omega)), (fun b_ hb_ => by show (if (c15 b_) < m then (c15 b_) else 0) < m; ((repeat' split) <;> omega))⟩
 ·replace H := (if_neg hb12).symm.trans H
  refine q_no F rfl (by decide) rfl (bfalse hb12) (by decide) fun a F => ?_
  refine q_no F rfl (by decide) rfl (bfalse hb12) (by decide) fun a F => ?_
  refine q_no F rfl (by decide) rfl (bfalse hb12) (by decide) fun a F => ?_
  refine q_val F rfl rfl (by decide) (r_pick_f F rfl (bfalse hb12) rfl) fun a F => ?_
  refine q_val F rfl rfl (by decide) (r_move F rfl) fun a F => ?_
  refine q_yes F rfl (by decide) rfl rfl ?_
  refine q_val F rfl rfl (by decide) (r_move F rfl) fun a F => ?_
  refine q_yes F rfl (by decide) rfl rfl ?_
  refine q_val F rfl rfl (by decide) (r_move F rfl) fun a F => ?_
  refine q_yes F rfl (by decide) rfl rfl ?_
  refine q_val F rfl rfl (by decide) (r_slss F rfl rfl) fun a F => ?_
  refine q_val F rfl rfl (by decide) (r_pick_f F rfl rfl rfl) fun a F => ?_
  refine q_val F rfl rfl (by decide) (r_assign F rfl) fun a F => ?_
  refine nil ?_
  refine hK4 _ _ ?_
  replace F : Fr a 17 [(4, .bool (Op.bytesLess a1.toList a2.toList))] := F.sub ⟨rfl, trivial⟩
  refine wp_ret ?_
  replace H := Option.some.inj H
  subst H
  refine out1 F rfl rfl ?_
  exact ⟨fun b_ => (fun x_ => if x_ < m then x_ else 0) (c7 b_), rfl, E.leave B0 (fun x_ => if x_ < m then x_ else 0) (by intro x_ hx_; show (if x_ < m then x_ else 0) = x_; ((repeat' split) <;> omega)), (fun b_ hb_ => by show (if (c7 b_) < m then (c7 b_) else 0) < m; ((repeat' split) <;> omega))⟩
end Go.Proofs.Ythankpjbfpcldaa.G
namespace Go.Proofs.Ythankpjbfpcldaa.G
open Go Go.RowKit
set_option linter.unusedVariables false
set_option linter.unusedSimpArgs false
set_option maxRecDepth 100000 in
set_option maxHeartbeats 4000000 in
theorem tree_Tree_from.calls {σ X : Type} {m : Nat} {M : Nat → Prop} {cR : Nat → Nat} {wR : World} {l : Nat} (hm0 : 0 < m) (HM : ¬ M 0) {g : σ → ByteArray → table_cell → Option (Ctl σ X)} {J : σ → (Nat → Nat) → World → Prop} {JX : X → (Nat → Nat) → World → Prop} (HE : ∀ s c w, J s c w → Ev M cR wR c w) (HX : ∀ x c w, JX x c w → Ev M cR wR c w) (HY : ∀ s k (v : table_cell) c w (A35 : Option Addr) (C36 : Nat) r, JS m (J s) c w → SL false (Kint .u8) 0 0 c w A35 C36 v.value → g s k v = some r → YieldAt Fence.wide 0 Try.prog l #[.string k, .agg #[.slice A35 v.value.length C36, .int .i64 v.rev]] w (IP (fun s => JS m (J s)) JX r)) (key : ByteArray) (t : Tr) : ∀ (p : Option Addr) (s : σ) (c : Nat → Nat) (w : World), TR 0 cR wR p t → JS m (J s) c w → ∀ (r : Ctl σ X), Tr.from key g t s = some r → Calls Try.prog 85 #[.pointer p, .string key, yv l] w (IP (fun s => JS m (J s)) JX r) := by
 induction t with
 | nil =>
  intro p s0 c w ht hJ r H
  have ht : p = none := ht
  subst ht
  have H : some (Ctl.next s0) = some r := H
  refine enter (N := 49) (l := [.pointer none, .string key, yv l]) Try.func85 rfl rfl (Nat.le_of_ble_eq_true rfl) fun a F => ?_
  have ER := hJ.ev (HE _)
  refine wp_seq_k fun K1 hK1 => ?_
  refine reg ?_
  refine q_val F rfl rfl (by decide) (r_assign F rfl) fun a F => ?_
  refine nil ?_
  refine hK1 _ _ ?_
  refine wp_seq_k fun K2 hK2 => ?_
  refine wp_seq_k fun K3 hK3 => ?_
  refine reg ?_
  refine q_val F rfl rfl (by decide) (r_move F rfl) fun a F => ?_
  refine q_val F rfl rfl (by decide) (r_peql F Try.underlying77 rfl rfl) fun a F => ?_
  refine nil ?_
  refine hK3 _ _ ?_
  refine wp_cond_true (F.ev rfl) ?_
  refine wp_seq_k fun K4 hK4 => ?_
  refine reg ?_
  refine q_val F rfl rfl (by decide) (r_assign F rfl) fun a F => ?_
  refine nil ?_
  refine hK4 _ _ ?_
  refine wp_ret ?_
  refine thenR ?_
  have H := Option.some.inj H
  subst H
  refine out1 F rfl rfl ?_
  exact ⟨rfl, _, hJ⟩
 | node tl tr k v s d ihhl ihhr =>
  intro p s0 c w ht hJ r H
  obtain ⟨ad, lp, rp, A1, C2, rfl, hat, h3, hl, hr⟩ := TR.node ht
  have H : ((cmp_Less.f k key).bind fun b => if b = true then Tr.from key g tr s0 else thenC (Tr.from key g tl s0) fun s => thenC (g s k v) fun s => Tr.up g tr s) = some r := H
  refine enter (N := 49) (l := [.pointer (some ad), .string key, yv l]) Try.func85 rfl rfl (Nat.le_of_ble_eq_true rfl) fun a F => ?_
  have ER := hJ.ev (HE _)
  refine wp_seq_k fun K4 hK4 => ?_
  refine reg ?_
  refine q_val F rfl rfl (by decide) (r_assign F rfl) fun a F => ?_
  refine nil ?_
  refine hK4 _ _ ?_
  refine wp_seq_k fun K5 hK5 => ?_
  refine wp_seq_k fun K6 hK6 => ?_
  refine reg ?_
  refine q_val F rfl rfl (by decide) (r_move F rfl) fun a F => ?_
  refine q_val F rfl rfl (by decide) (r_peql F Try.underlying77 rfl rfl) fun a F => ?_
  refine nil ?_
  refine hK6 _ _ ?_
  refine wp_cond_false (F.ev rfl) ?_
  refine wp_skip ?_
  refine hK5 _ _ ?_
  refine wp_seq_k fun K7 hK7 => ?_
  refine wp_seq_k fun K8 hK8 => ?_
  refine reg ?_
  refine q_val F rfl rfl (by decide) (r_move F rfl) fun a F => ?_
  refine q_val F rfl rfl (by decide) (r_nil F rfl) fun a F => ?_
  refine q_val F rfl rfl (by decide) (r_fieldAddr F rfl ff_112_2) fun a F => ?_
  refine q_val F rfl rfl (by decide) (r_load F rfl ag_9 (AT.cell (AT.sb hat ER.sb HM) rfl)) fun a F => ?_
  refine q_val F rfl rfl (by decide) (r_move F rfl) fun a F => ?_
  obtain ⟨t9, q10, H⟩ := bind_some H
  refine q_call F rfl rfl (by decide) (r_call F Try.func95 rfl (by kernel_rfl) rfl) (cmp_Less.calls (m := m) hm0 hJ.1 _ q10) ?_
  rintro e w12 ⟨c11, rfl, E13, B14⟩
  refine ⟨_, rfl, fun a F => ?_⟩
  have hJ := hJ.step E13 B14
  have ER := hJ.ev (HE _)
  refine nil ?_
  refine hK8 _ _ ?_
  by_cases hb15 : t9 = true
  ·have H := (if_pos hb15).symm.trans H
   refine wp_cond_true ((F.ev rfl).trans (congrArg Value.bool hb15)) ?_
   refine wp_seq_k fun K16 hK16 => ?_
   refine reg ?_
   refine q_val F rfl rfl (by decide) (r_move F rfl) fun a F => ?_
   refine q_val F rfl rfl (by decide) (r_nil F rfl) fun a F => ?_
   refine q_val F rfl rfl (by decide) (r_fieldAddr F rfl ff_112_1) fun a F => ?_
   refine q_val F rfl rfl (by decide) (r_load F rfl ag_77 (AT.cell (AT.sb hat ER.sb HM) rfl)) fun a F => ?_
   refine q_val F rfl rfl (by decide) (r_move F rfl) fun a F => ?_
   refine q_val F rfl rfl (by decide) (r_move F rfl) fun a F => ?_
   refine q_call F rfl rfl (by decide) (r_call F Try.func85 rfl (by kernel_rfl) rfl) (ihhr _ _ _ _ hr hJ _ H) ?_
   rintro e w18 h19
   cases r with
   | next s_ =>
    obtain ⟨rfl, c17, hJ⟩ := h19
    refine ⟨_, rfl, fun a F => ?_⟩
    have ER := hJ.ev (HE _)
    refine q_val F rfl rfl (by decide) (r_assign F rfl) fun a F => ?_
    refine nil ?_
    refine hK16 _ _ ?_
    have F : Fr a 49 [(6, .bool true)] := F.sub ⟨rfl, trivial⟩
    refine wp_ret ?_
    refine thenR ?_
    refine out1 F rfl rfl ?_
    exact ⟨rfl, _, hJ⟩
   | done x_ =>
    obtain ⟨rfl, c17, hX⟩ := h19
    refine ⟨_, rfl, fun a F => ?_⟩
    have ER := HX _ _ _ hX
    refine q_val F rfl rfl (by decide) (r_assign F rfl) fun a F => ?_
    refine nil ?_
    refine hK16 _ _ ?_
    have F : Fr a 49 [(6, .bool false)] := F.sub ⟨rfl, trivial⟩
    refine wp_ret ?_
    refine thenR ?_
    refine out1 F rfl rfl ?_
    exact ⟨rfl, _, hX⟩
  ·have H := (if_neg hb15).symm.trans H
   refine wp_cond_false ((F.ev rfl).trans (congrArg Value.bool (bfalse hb15))) ?_
   refine wp_skip ?_
   refine hK7 _ _ ?_
   refine wp_seq_k fun K20 hK20 => ?_
   refine regD (SB M cR wR) 28 (.q 0 (.q 1 (.q 2 (.q 3 (.q 4 (.q 5 (.e 6 (.q 7 (.q 8 (.q 9 (.q 10 (.q 11 (.q 12 (.q 13 (.q 14 (.q 15 (.q 16 (.e 17 (.q 18 (.q 19 (.q 20 (.q 21 (.q 22 (.q 23 (.q 24 (.e 25 (.q 26 (.q 27 .nil)))))))))))))))))))))))))))) Try_hm (by decide +kernel) ?_
   intro w21 w1_ w2_ w3_ w4_
   have hJ := hJ.step (Ev.same w1_ w2_ w3_ w4_) (hJ.1.same w1_)
   have ER := hJ.ev (HE _)
   refine d_q F rfl rfl rfl (by decide) (fun wq hS => r_move F rfl) ER.sb fun a F => ?_
   refine d_q F rfl rfl rfl (by decide) (fun wq hS => r_nil F rfl) ER.sb fun a F => ?_
   refine d_q F rfl rfl rfl (by decide) (fun wq hS => r_fieldAddr F rfl ff_112_0) ER.sb fun a F => ?_
   refine d_q F rfl rfl rfl (by decide) (fun wq hS => r_load F rfl ag_77 (AT.cell (AT.sb hat hS HM) rfl)) ER.sb fun a F => ?_
   refine d_q F rfl rfl rfl (by decide) (fun wq hS => r_move F rfl) ER.sb fun a F => ?_
   refine d_q F rfl rfl rfl (by decide) (fun wq hS => r_move F rfl) ER.sb fun a F => ?_
   refine d_e ?_
   obtain ⟨t22, q23, H⟩ := thenC_some H
   refine o_call F rfl (wanted_none rfl) rfl (by decide) (r_call F Try.func85 rfl (by kernel_rfl) rfl) (ihhl _ _ _ _ hl hJ _ q23) ?_
   rintro e w25 h26
   cases t22 with
   | next s_ =>
    obtain ⟨rfl, c24, hJ⟩ := h26
    refine ⟨_, rfl, fun a F => ?_⟩
    have ER := hJ.ev (HE _)
    have H : _ = some r := H
    refine ⟨fun _ => ER.sb, ?_⟩
    refine d_q F rfl rfl rfl (by decide) (fun wq hS => r_move F rfl) ER.sb fun a F => ?_
    refine d_qy F rfl rfl rfl (by decide) rfl rfl rfl (by decide) (fun wq hS => r_move F rfl) ER.sb fun a F => ?_
    refine d_qy F rfl rfl rfl (by decide) rfl rfl rfl (by decide) (fun wq hS => r_move F rfl) ER.sb fun a F => ?_
    refine d_qy F rfl rfl rfl (by decide) rfl rfl rfl (by decide) (fun wq hS => r_nil F rfl) ER.sb fun a F => ?_
    refine d_qy F rfl rfl rfl (by decide) rfl rfl rfl (by decide) (fun wq hS => r_fieldAddr F rfl ff_112_2) ER.sb fun a F => ?_
    refine d_qy F rfl rfl rfl (by decide) rfl rfl rfl (by decide) (fun wq hS => r_load F rfl ag_9 (AT.cell (AT.sb hat hS HM) rfl)) ER.sb fun a F => ?_
    refine d_qy F rfl rfl rfl (by decide) rfl rfl rfl (by decide) (fun wq hS => r_move F rfl) ER.sb fun a F => ?_
    refine d_qy F rfl rfl rfl (by decide) rfl rfl rfl (by decide) (fun wq hS => r_nil F rfl) ER.sb fun a F => ?_
    refine d_qy F rfl rfl rfl (by decide) rfl rfl rfl (by decide) (fun wq hS => r_fieldAddr F rfl ff_112_3) ER.sb fun a F => ?_
    refine d_qy F rfl rfl rfl (by decide) rfl rfl rfl (by decide) (fun wq hS => r_loads (cs := [.slice A1 v.value.length C2, .int .i64 v.rev]) F rfl ag_80 sz_80 (AT.sub (AT.sb hat hS HM) 3 2 (Nat.le_of_ble_eq_true rfl))) ER.sb fun a F => ?_
    refine d_e ?_
    obtain ⟨t27, q28, H⟩ := thenC_some H
    refine o_yield F rfl (wanted_yes F rfl rfl (by decide) rfl rfl) rfl (by decide) (r_yield F rfl (vs := [.string k, .agg #[.slice A1 v.value.length C2, .int .i64 v.rev]]) rfl) (HY _ _ _ _ _ _ _ _ hJ (SL.ev h3 ER HM HM) q28) ?_
    rintro e w30 h31
    cases t27 with
    | next s_ =>
     obtain ⟨rfl, c29, hJ⟩ := h31
     refine ⟨_, rfl, fun a F => ?_⟩
     have ER := hJ.ev (HE _)
     have H : _ = some r := H
     refine ⟨fun _ => ER.sb, ?_⟩
     refine d_q F rfl rfl rfl (by decide) (fun wq hS => r_pick_t F rfl rfl rfl) ER.sb fun a F => ?_
     refine d_q F rfl rfl rfl (by decide) (fun wq hS => r_move F rfl) ER.sb fun a F => ?_
     refine d_qy F rfl rfl rfl (by decide) rfl rfl rfl (by decide) (fun wq hS => r_move F rfl) ER.sb fun a F => ?_
     refine d_qy F rfl rfl rfl (by decide) rfl rfl rfl (by decide) (fun wq hS => r_nil F rfl) ER.sb fun a F => ?_
     refine d_qy F rfl rfl rfl (by decide) rfl rfl rfl (by decide) (fun wq hS => r_fieldAddr F rfl ff_112_1) ER.sb fun a F => ?_
     refine d_qy F rfl rfl rfl (by decide) rfl rfl rfl (by decide) (fun wq hS => r_load F rfl ag_77 (AT.cell (AT.sb hat hS HM) rfl)) ER.sb fun a F => ?_
     refine d_qy F rfl rfl rfl (by decide) rfl rfl rfl (by decide) (fun wq hS => r_move F rfl) ER.sb fun a F => ?_
     refine d_e ?_
     refine o_call F rfl (wanted_yes F rfl rfl (by decide) rfl rfl) rfl (by decide) (r_call F Try.func67 rfl (by kernel_rfl) rfl) (tree_Tree_up.calls hm0 HM HE HX HY _ _ _ _ _ hr hJ _ H) ?_
     rintro e w33 h34
     cases r with
     | next s_ =>
      obtain ⟨rfl, c32, hJ⟩ := h34
      refine ⟨_, rfl, fun a F => ?_⟩
      have ER := hJ.ev (HE _)
      refine ⟨fun _ => ER.sb, ?_⟩
      refine d_q F rfl rfl rfl (by decide) (fun wq hS => r_pick_t F rfl rfl rfl) ER.sb fun a F => ?_
      refine d_q F rfl rfl rfl (by decide) (fun wq hS => r_assign F rfl) ER.sb fun a F => ?_
      refine d_nil ?_
      refine hK20 _ _ ?_
      have F : Fr a 49 [(6, .bool true)] := F.sub ⟨rfl, trivial⟩
      refine wp_ret ?_
      refine out1 F rfl rfl ?_
      exact ⟨rfl, _, hJ⟩
     | done x_ =>
      obtain ⟨rfl, c32, hX⟩ := h34
      refine ⟨_, rfl, fun a F => ?_⟩
      have ER := HX _ _ _ hX
      refine ⟨fun _ => ER.sb, ?_⟩
      refine d_q F rfl rfl rfl (by decide) (fun wq hS => r_pick_t F rfl rfl rfl) ER.sb fun a F => ?_
      refine d_q F rfl rfl rfl (by decide) (fun wq hS => r_assign F rfl) ER.sb fun a F => ?_
      refine d_nil ?_
      refine hK20 _ _ ?_
      have F : Fr a 49 [(6, .bool false)] := F.sub ⟨rfl, trivial⟩
      refine wp_ret ?_
      refine out1 F rfl rfl ?_
      exact ⟨rfl, _, hX⟩
    | done x_ =>
     obtain ⟨rfl, c29, hX⟩ := h31
     refine ⟨_, rfl, fun a F => ?_⟩
     have ER := HX _ _ _ hX
     have H : Ctl.done _ = r := H
     subst H
     refine ⟨fun _ => ER.sb, ?_⟩
     refine d_q F rfl rfl rfl (by decide) (fun wq hS => r_pick_t F rfl rfl rfl) ER.sb fun a F => ?_
     refine d_q F rfl rfl rfl (by decide) (fun wq hS => r_move F rfl) ER.sb fun a F => ?_
     refine d_qn F rfl rfl rfl (by decide) rfl rfl rfl (by decide) ER.sb fun a F => ?_
     refine d_qn F rfl rfl rfl (by decide) rfl rfl rfl (by decide) ER.sb fun a F => ?_
     refine d_qn F rfl rfl rfl (by decide) rfl rfl rfl (by decide) ER.sb fun a F => ?_
     refine d_qn F rfl rfl rfl (by decide) rfl rfl rfl (by decide) ER.sb fun a F => ?_
     refine d_qn F rfl rfl rfl (by decide) rfl rfl rfl (by decide) ER.sb fun a F => ?_
     refine d_e ?_
     refine o_no F rfl rfl rfl (by decide) rfl rfl rfl (by decide) fun a F => ?_
     refine ⟨fun _ => ER.sb, ?_⟩
     refine d_q F rfl rfl rfl (by decide) (fun wq hS => r_pick_f F rfl rfl rfl) ER.sb fun a F => ?_
     refine d_q F rfl rfl rfl (by decide) (fun wq hS => r_assign F rfl) ER.sb fun a F => ?_
     refine d_nil ?_
     refine hK20 _ _ ?_
     have F : Fr a 49 [(6, .bool false)] := F.sub ⟨rfl, trivial⟩
     refine wp_ret ?_
     refine out1 F rfl rfl ?_
     exact ⟨rfl, _, hX⟩
   | done x_ =>
    obtain ⟨rfl, c24, hX⟩ := h26
    refine ⟨_, rfl, fun a F => ?_⟩
    have ER := HX _ _ _ hX
    have H : Ctl.done _ = r := H
    subst H
    refine ⟨fun _ => ER.sb, ?_⟩
    refine d_q F rfl rfl rfl (by decide) (fun wq hS => r_move F rfl) ER.sb fun a F => ?_
    refine d_qn F rfl rfl rfl (by decide) rfl rfl rfl (by decide) ER.sb fun a F => ?_
    refine d_qn F rfl rfl rfl (by decide) rfl rfl rfl (by decide) ER.sb fun a F => ?_
    refine d_qn F rfl rfl rfl (by decide) rfl rfl rfl (by decide) ER.sb fun a F => ?_
    refine d_qn F rfl rfl rfl (by decide) rfl rfl rfl (by decide) ER.sb fun a F => ?_
    refine d_qn F rfl rfl rfl (by decide) rfl rfl rfl (by decide) ER.sb fun a F => ?_
    refine d_qn F rfl rfl rfl (by decide) rfl rfl rfl (by decide) ER.sb fun a F => ?_
    refine d_qn F rfl rfl rfl (by decide) rfl rfl rfl (by decide) ER.sb fun a F => ?_
    refine d_qn F rfl rfl rfl (by decide) rfl rfl rfl (by decide) ER.sb fun a F => ?_
    refine d_qn F rfl rfl rfl (by decide) rfl rfl rfl (by decide) ER.sb fun a F => ?_
    refine d_e ?_
    refine o_no F rfl rfl rfl (by decide) rfl rfl rfl (by decide) fun a F => ?_
    refine ⟨fun _ => ER.sb, ?_⟩
    refine d_q F rfl rfl rfl (by decide) (fun wq hS => r_pick_f F rfl rfl rfl) ER.sb fun a F => ?_
    refine d_q F rfl rfl rfl (by decide) (fun wq hS => r_move F rfl) ER.sb fun a F => ?_
    refine d_qn F rfl rfl rfl (by decide) rfl rfl rfl (by decide) ER.sb fun a F => ?_
    refine d_qn F rfl rfl rfl (by decide) rfl rfl rfl (by decide) ER.sb fun a F => ?_
    refine d_qn F rfl rfl rfl (by decide) rfl rfl rfl (by decide) ER.sb fun a F => ?_
    refine d_qn F rfl rfl rfl (by decide) rfl rfl rfl (by decide) ER.sb fun a F => ?_
    refine d_qn F rfl rfl rfl (by decide) rfl rfl rfl (by decide) ER.sb fun a F => ?_
    refine d_e ?_
    refine o_no F rfl rfl rfl (by decide) rfl rfl rfl (by decide) fun a F => ?_
    refine ⟨fun _ => ER.sb, ?_⟩
    refine d_q F rfl rfl rfl (by decide) (fun wq hS => r_pick_f F rfl rfl rfl) ER.sb fun a F => ?_
    refine d_q F rfl rfl rfl (by decide) (fun wq hS => r_assign F rfl) ER.sb fun a F => ?_
    refine d_nil ?_
    refine hK20 _ _ ?_
    have F : Fr a 49 [(6, .bool false)] := F.sub ⟨rfl, trivial⟩
    refine wp_ret ?_
    refine out1 F rfl rfl ?_
    exact ⟨rfl, _, hX⟩
end Go.Proofs.Ythankpjbfpcldaa.G
namespace Go.Proofs.Ythankpjbfpcldaa.G
open Go Go.RowKit
set_option linter.unusedVariables false
set_option linter.unusedSimpArgs false
set_option maxRecDepth 100000 in
set_option maxHeartbeats 4000000 in
theorem tree_Tree_From_1.calls {σ X : Type} {m : Nat} {M : Nat → Prop} {cR : Nat → Nat} {wR : World} {l : Nat} (hm0 : 0 < m) (HM : ¬ M 0) {g : σ → ByteArray → table_cell → Option (Ctl σ X)} {J : σ → (Nat → Nat) → World → Prop} {JX : X → (Nat → Nat) → World → Prop} (HE : ∀ s c w, J s c w → Ev M cR wR c w) (HX : ∀ x c w, JX x c w → Ev M cR wR c w) (HY : ∀ s k (v : table_cell) c w (A4 : Option Addr) (C5 : Nat) r, JS m (J s) c w → SL false (Kint .u8) 0 0 c w A4 C5 v.value → g s k v = some r → YieldAt Fence.wide 0 Try.prog l #[.string k, .agg #[.slice A4 v.value.length C5, .int .i64 v.rev]] w (IP (fun s => JS m (J s)) JX r)) (t : Tr) (p : Option Addr) (key : ByteArray) (s : σ) (c : Nat → Nat) (w : World) {own0 : Bool} {jq0 : Nat} {q0 : Addr} (hq0 : AT own0 jq0 c w q0 [.pointer p]) {own1 : Bool} {jq1 : Nat} {q1 : Addr} (hq1 : AT own1 jq1 c w q1 [.string key]) (ht : TR 0 cR wR p t) (hJ : JS m (J s) c w) (r : Ctl σ X) (H : Tr.from key g t s = some r) : Calls Try.prog 84 #[yv l, .pointer (some q0), .pointer (some q1)] w (IT (fun s => JS m (J s)) JX r) := by
 refine enter (N := 8) (l := [yv l, .pointer (some q0), .pointer (some q1)]) Try.func84 rfl rfl (Nat.le_of_ble_eq_true rfl) fun a F => ?_
 have ER := hJ.ev (HE _)
 refine reg ?_
 refine q_val F rfl rfl (by decide) (r_load F rfl ag_77 (AT.cell0 hq0 rfl)) fun a F => ?_
 refine q_val F rfl rfl (by decide) (r_load F rfl ag_9 (AT.cell0 hq1 rfl)) fun a F => ?_
 refine q_val F rfl rfl (by decide) (r_move F rfl) fun a F => ?_
 refine q_call F rfl rfl (by decide) (r_call F Try.func85 rfl (by kernel_rfl) rfl) (tree_Tree_from.calls hm0 HM HE HX HY key _ _ _ _ _ ht hJ _ H) ?_
 rintro e w2 h3
 cases r with
 | next s_ =>
  obtain ⟨rfl, c1, hJ⟩ := h3
  refine ⟨_, rfl, fun a F => ?_⟩
  have ER := hJ.ev (HE _)
  refine nil ?_
  refine out0n F rfl ?_
  exact ⟨⟨_, rfl⟩, _, hJ⟩
 | done x_ =>
  obtain ⟨rfl, c1, hX⟩ := h3
  refine ⟨_, rfl, fun a F => ?_⟩
  have ER := HX _ _ _ hX
  refine nil ?_
  refine out0n F rfl ?_
  exact ⟨⟨_, rfl⟩, _, hX⟩
end Go.Proofs.Ythankpjbfpcldaa.G
namespace Go.Proofs.Ythankpjbfpcldaa.G
open Go Go.RowKit
set_option linter.unusedVariables false
set_option linter.unusedSimpArgs false
theorem ITR.go {j : Nat} {cR : Nat → Nat} {wR : World} {v : Value} {i : It} (hi : ITR j cR wR v i) : ∃ gf lb, v = .func (.func gf) #[] lb ∧ (∀ args w, (callFunc gf args).run Try.prog w = .ok (.enter gf args) w) ∧
  ∀ {σ X : Type} {m : Nat} {M : Nat → Prop}  {l : Nat} (hm0 : 0 < m) (HM : ¬ M 0) {g : σ → ByteArray → table_cell → Option (Ctl σ X)} {J : σ → (Nat → Nat) → World → Prop} {JX : X → (Nat → Nat) → World → Prop} (HE : ∀ s c w, J s c w → Ev M cR wR c w) (HX : ∀ x c w, JX x c w → Ev M cR wR c w) (HY : ∀ s k (v : table_cell) c w (A1 : Option Addr) (C2 : Nat) r, JS m (J s) c w → SL false (Kint .u8) 0 0 c w A1 C2 v.value → g s k v = some r → YieldAt Fence.wide 0 Try.prog l #[.string k, .agg #[.slice A1 v.value.length C2, .int .i64 v.rev]] w (IP (fun s => JS m (J s)) JX r)) (c1 : Nat → Nat) (w1 : World) (E1 : Ev No cR wR c1 w1) (s : σ) (hJ : JS m (J s) c1 w1) (r : Ctl σ X) (H : It.run g i s = some r), Calls Try.prog gf (#[yv l] ++ lb) w1 (IT (fun s => JS m (J s)) JX r) := by
 cases i with
 | all t =>
  obtain ⟨q, p, e, h, ht⟩ := hi
  refine ⟨_, _, e, callFunc_go Try.func66 (by kernel_rfl) rfl, ?_⟩
  intro σ X m M l hm0 HM g J JX HE HX HY c1 w1 E1 s hJ r H
  exact tree_Tree_All_1.calls hm0 HM HE HX HY t p s c1 w1 (h.ev E1 (fun q => q)) ht hJ r H
 | «from» t k =>
  obtain ⟨q, q1, p, e, h, h1, ht⟩ := hi
  refine ⟨_, _, e, callFunc_go Try.func84 (by kernel_rfl) rfl, ?_⟩
  intro σ X m M l hm0 HM g J JX HE HX HY c1 w1 E1 s hJ r H
  exact tree_Tree_From_1.calls hm0 HM HE HX HY t p k s c1 w1 (h.ev E1 (fun q => q)) (h1.ev E1 (fun q => q)) ht hJ r H
set_option maxHeartbeats 1000000 in
theorem ITR.range {j : Nat} {c : Nat → Nat} {w : World} {u : Value} {i : It} (hi : ITR j c w u i) {S X : Type} {m y z N : Nat} {M : Nat → Prop} {L : List (Nat × Value)} {D : List Deferred} {a : Act} {g0 : Operand} {p1 p2 : Tmp} {assign body : Code} {Q : Exit → Act → World → Prop} {g : S → ByteArray → table_cell → Option (Ctl S X)} (J : S → (Nat → Nat) → World → Prop) (JX : X → (Nat → Nat) → World → Prop)
  (F : Fr a N L D) (hg : G.ev L g0 = some u) (h1 : p1 < N) (h2 : p2 < N) (hy : y < m) (hz : z < m) (hyz : z ≠ y) (h0y : 0 < m) (HM : ¬ M 0) (B : CB m c w)
  (JE : ∀ s c1 w1, J s c1 w1 → Ev M c w c1 w1) (JXE : ∀ x c1 w1, JX x c1 w1 → Ev M c w c1 w1)
  (Jst : ∀ s c1 w1 c2 w2, J s c1 w1 → Ev (fun x => x = y) c1 w1 c2 w2 → J s c2 w2) (JXst : ∀ x c1 w1 c2 w2, JX x c1 w1 → Ev (fun x => x = y) c1 w1 c2 w2 → JX x c2 w2)
  (s0 : S) (h0 : J s0 c w) (xv : Ctl S X) (HL : It.run g i s0 = some xv)
  (round : ∀ (bd l : Nat) (rec_ : Loop) (s : S) (k : ByteArray) (v : table_cell) (c1 : Nat → Nat) (w1 : World) (A1 : Option Addr) (C2 : Nat) (r : Ctl S X), J s c1 w1 → CB m c1 w1 → OBJ z c1 w1 bd (.deferred (some [])) → OBJ y c1 w1 l (.loop rec_) → SL false (Kint .u8) 0 0 c1 w1 A1 C2 v.value → g s k v = some r → ∀ a1, Fr a1 N ((p2, .agg #[.slice A1 v.value.length C2, .int .i64 v.rev]) :: (p1, .string k) :: L) →
   assign.wpIn (Fw (some l)) 0 Try.prog (Exit.then (fun a2 w2 => ∃ c2, OBJ y c2 w2 l (.loop rec_) ∧ ∀ w3, Ev (fun x => x = y) c2 w2 c2 w3 → OBJ y c2 w3 l (.loop (lbusy rec_)) → w3.heap.size = w2.heap.size →
    body.wpIn (Fw (some l)) 0 Try.prog (RE y l rec_ (fun c4 w4 => r.el (fun s' => J s' c4 w4 ∧ CB m c4 w4 ∧ OBJ z c4 w4 bd (.deferred (some []))) (fun _ => False)) (fun jc c4 w4 => jc = .ret ∧ r.el (fun _ => False) (fun x => JX x c4 w4 ∧ CB m c4 w4 ∧ OBJ z c4 w4 bd (.deferred (some []))))) a2 w3) (fun _ _ _ => False)) a1 w1)
  (normal : ∀ s', xv = .next s' → ∀ c2 w2 bd, J s' c2 w2 → CB m c2 w2 → OBJ z c2 w2 bd (.deferred (some [])) → ∀ a', Fr a' N L ({ target := .collected bd, args := #[] } :: D) → Q .normal a' w2)
  (exit : ∀ x, xv = .done x → ∀ c2 w2 bd, JX x c2 w2 → CB m c2 w2 → OBJ z c2 w2 bd (.deferred (some [])) → ∀ a', Fr a' N L ({ target := .collected bd, args := #[] } :: D) → Q .ret a' w2) :
  (Code.rangeFunc g0 #[p1, p2] assign body).wp Try.prog Q a w := by
 obtain ⟨gf, lb, rfl, eg, hrun⟩ := ITR.go hi
 refine range_wp F hg eg c y z ?_
 intro fn bd l c1 w1 E1 hb hl hB hne
 have B1 := hB m B hy hz
 have no : ∀ x, No x → x = y := fun _ q => q.elim
 refine (hrun (σ := S) (X := X) (m := m) (M := M) (l := l) h0y HM (g := g) (J := fun s c1 w1 => J s c1 w1 ∧ OBJ z c1 w1 bd (.deferred (some [])) ∧ OBJ y c1 w1 l (.loop (lrec fn a.tmps #[p1, p2] assign body bd)))
  (JX := fun x c1 w1 => JX x c1 w1 ∧ CB m c1 w1 ∧ OBJ z c1 w1 bd (.deferred (some [])) ∧ OBJ y c1 w1 l (.loop (ldone (lrec fn a.tmps #[p1, p2] assign body bd) .ret))) (fun s c1 w1 h => JE _ _ _ h.1) (fun x c1 w1 h => JXE _ _ _ h.1) ?_ c1 w1 E1 s0 (JS.mk B1 ⟨Jst _ _ _ _ _ h0 (E1.mono no), hb, hl⟩) xv HL).mono ?_
 ·intro s k v c2 w2 A1 C2 r hjs h3 Hg
  obtain ⟨B2, c3, w3, ⟨hJ, hb3, hl3⟩, E3⟩ := hjs
  have hJ := Jst _ _ _ _ _ hJ (E3.mono no)
  have hb2 := hb3.ev E3 (fun q => q)
  have hl2 := hl3.ev E3 (fun q => q)
  refine YieldAt.mono (round2 F h1 h2 hl2 (G := fun c4 w4 => r.el (fun s' => J s' c4 w4 ∧ CB m c4 w4 ∧ OBJ z c4 w4 bd (.deferred (some []))) (fun _ => False)) (X := fun jc c4 w4 => jc = .ret ∧ r.el (fun _ => False) (fun x => JX x c4 w4 ∧ CB m c4 w4 ∧ OBJ z c4 w4 bd (.deferred (some [])))) (fun a1 F1 => round bd l _ s k v c2 w2 A1 C2 r hJ B2 hb2 hl2 h3 Hg a1 F1)) ?_
  rintro e W (⟨rfl, c4, V, hG, E4, hl4, hz4⟩ | ⟨rfl, jc, c4, V, hX, E4, hl4, hz4⟩)
  ·cases r with
   | next s' =>
    obtain ⟨hJ', B', hb'⟩ := hG
    exact ⟨rfl, c4, JS.mk (B'.size hz4) ⟨Jst _ _ _ _ _ hJ' E4, hb'.ev E4 (fun q => hyz q), hl4⟩⟩
   | done x => exact hG.elim
  ·cases r with
   | next s' => exact hX.2.elim
   | done x =>
    obtain ⟨rfl, hX, B', hb'⟩ := hX
    exact ⟨rfl, c4, JXst _ _ _ _ _ hX E4, B'.size hz4, hb'.ev E4 (fun q => hyz q), hl4⟩
 ·rintro e W ⟨hv, hr⟩
  cases xv with
  | next s' =>
   obtain ⟨c4, B4, c5, w5, ⟨hJ, hb5, hl5⟩, E5⟩ := hr
   refine ⟨hv, c4, none, hl5.ev E5 (fun q => q), fun W' E' Z' _ a' F' => ?_⟩
   exact normal s' rfl c4 W' bd (Jst _ _ _ _ _ (Jst _ _ _ _ _ hJ (E5.mono no)) E') (B4.size Z') ((hb5.ev E5 (fun q => q)).ev E' (fun q => hyz q)) a' F'
  | done x =>
   obtain ⟨c4, hX, B4, hb4, hl4⟩ := hr
   refine ⟨hv, c4, some .ret, hl4, fun W' E' Z' _ a' F' => ?_⟩
   refine wp_ret ?_
   exact exit x rfl c4 W' bd (JXst _ _ _ _ _ hX E') (B4.size Z') (hb4.ev E' (fun q => hyz q)) a' F'
end Go.Proofs.Ythankpjbfpcldaa.G
namespace Go.Proofs.Ythankpjbfpcldaa.G
open Go Go.RowKit
set_option linter.unusedVariables false
set_option linter.unusedSimpArgs false
set_option maxRecDepth 100000 in
set_option maxHeartbeats 4000000 in
theorem tree_Tree_From.calls {m : Nat} {c0 : Nat → Nat} {w0 : World} {p2 : Option Addr} {a1 : Tr} {a4 : ByteArray} (hm0 : 0 < m) (B0 : CB m c0 w0) (h3 : TR 0 c0 w0 p2 a1) (jr22 : Nat) (bjr22 : jr22 < m) (r : It) (H : tree_Tree_From.f a1 a4 = some r) : Calls Try.prog 61 #[.pointer p2, .string a4] w0 (fun e w_ => ∃ (c_ : Nat → Nat) (V0_ : Value), e = .returned (V0_) ∧ Ev (fun x => False) c0 w0 c_ w_ ∧ CB m c_ w_ ∧ ITR jr22 c_ w_ V0_ r) := by
 unfold tree_Tree_From.f at H
 have B := B0.mono (show m ≤ m + 2 by omega)
 have E : Ev (fun x => False ∨ m ≤ x) c0 w0 c0 w0 := Ev.refl
 refine enter (N := 6) (l := [.pointer p2, .string a4]) Try.func61 rfl rfl (Nat.le_of_ble_eq_true rfl) fun a F => ?_
 refine wp_seq_k fun K5 hK5 => ?_
 refine reg ?_
 refine q_eff F rfl rfl (by decide) (e_box F (v := .pointer p2) rfl c0 (m + 1)) ?_
 rintro v w7 a ⟨c6, qa8, rfl, E9, h10, B11⟩ F
 replace B := B11 _ B (Nat.add_lt_add_left (by decide) m)
 replace h3 := TR.ev h3 E9 (fun q => q.elim) (fun q => q.elim)
 replace E := E.trans E9 (fun x q => q.elim)
 replace h10 : AT true (m + 1) c6 w7 qa8 [.pointer p2] := h10
 refine q_eff F rfl rfl (by decide) (e_box F (v := .string a4) rfl c6 (m + 1)) ?_
 rintro v w14 a ⟨c13, qa15, rfl, E16, h17, B18⟩ F
 replace B := B18 _ B (Nat.add_lt_add_left (by decide) m)
 replace h3 := TR.ev h3 E16 (fun q => q.elim) (fun q => q.elim)
 replace h10 := AT.ev h10 E16 (fun q => q.elim)
 replace E := E.trans E16 (fun x q => q.elim)
 replace h17 : AT true (m + 1) c13 w14 qa15 [.string a4] := h17
 refine q_val F rfl rfl (by decide) (r_assign F rfl) fun a F => ?_
 refine nil ?_
 refine hK5 _ _ ?_
 refine wp_seq_k fun K20 hK20 => ?_
 refine reg ?_
 refine q_val F rfl rfl (by decide) (r_makeFunc (vs := [.pointer (some qa8), .pointer (some qa15)]) F rfl) fun a F => ?_
 refine q_val F rfl rfl (by decide) (r_assign F rfl) fun a F => ?_
 refine nil ?_
 refine hK20 _ _ ?_
 refine wp_ret ?_
 have h21 : ITR (m + 1) c13 w14 (.func (.func 84) #[] #[.pointer (some qa8), .pointer (some qa15)]) (.from a1 a4) := ⟨qa8, qa15, p2, rfl, h10, h17, h3⟩
 replace H := Option.some.inj H
 subst H
 refine out1 F rfl rfl ?_
 exact ⟨fun b_ => (fun x_ => if x_ = m + 1 then jr22 else if x_ < m then x_ else 0) (c13 b_), (.func (.func 84) #[] #[.pointer (some qa8), .pointer (some qa15)]), rfl, E.leave B0 (fun x_ => if x_ = m + 1 then jr22 else if x_ < m then x_ else 0) (by intro x_ hx_; show (if x_ = m + 1 then jr22 else if x_ < m then x_ else 0) = x_; ((repeat' split) <;> omega)), (fun b_ hb_ => by show (if (c13 b_) = m + 1 then jr22 else if (c13 b_) < m then (c13 b_) else 0) < m; ((repeat' split) <;> omega)), ITR.rc h21 (fun k_ hk_ => by show (if (c13 k_) = m + 1 then jr22 else if (c13 k_) < m then (c13 k_) else 0) = _; rw [hk_]; ((repeat' split) <;> omega)) (fun k_ hk_ => by show (if (c13 k_) = m + 1 then jr22 else if (c13 k_) < m then (c13 k_) else 0) = _; rw [hk_]; ((repeat' split) <;> omega))⟩
end Go.Proofs.Ythankpjbfpcldaa.G
namespace Go.Proofs.Ythankpjbfpcldaa.G
open Go Go.RowKit
set_option linter.unusedVariables false
set_option linter.unusedSimpArgs false
set_option maxRecDepth 100000 in
set_option maxHeartbeats 4000000 in
theorem tree_Tree_Seek.calls {m : Nat} {c0 : Nat → Nat} {w0 : World} {p2 : Option Addr} {a1 : Tr} {a4 : ByteArray} (hm0 : 0 < m) (B0 : CB m c0 w0) (h3 : TR 0 c0 w0 p2 a1) (r : ByteArray × table_cell × Bool) (H : tree_Tree_Seek.f a1 a4 = some r) : Calls Try.prog 38 #[.pointer p2, .string a4] w0 (fun e w_ => ∃ (c_ : Nat → Nat) (A0_ : Option Addr) (C0_ : Nat), e = .returned (.tuple #[.string r.1, .agg #[.slice A0_ r.2.1.value.length C0_, .int .i64 r.2.1.rev], .bool r.2.2]) ∧ Ev (fun x => False) c0 w0 c_ w_ ∧ CB m c_ w_ ∧ SL false (Kint .u8) 0 0 c_ w_ A0_ C0_ r.2.1.value) := by
 unfold tree_Tree_Seek.f at H
 have B := B0.mono (show m ≤ m + 8 by omega)
 have E : Ev (fun x => False ∨ m ≤ x) c0 w0 c0 w0 := Ev.refl
 refine enterM (N := 18) (l := [.pointer p2, .string a4]) Try.func38 rfl rfl (Nat.le_of_ble_eq_true rfl) fun a F => ?_
 refine wp_seq_k fun K5 hK5 => ?_
 refine reg ?_
 refine q_eff F rfl rfl (by decide) (e_alloc F zv_9 c0 (m + 1)) ?_
 rintro v w7 a ⟨c6, qa8, rfl, E9, h10, B11⟩ F
 replace B := B11 _ B (Nat.add_lt_add_left (by decide) m)
 replace h3 := TR.ev h3 E9 (fun q => q.elim) (fun q => q.elim)
 replace E := E.trans E9 (fun x q => q.elim)
 replace h10 : AT true (m + 1) c6 w7 qa8 [.string .empty] := h10
 refine q_eff F rfl rfl (by decide) (e_alloc F zv_80 c6 (m + 2)) ?_
 rintro v w14 a ⟨c13, qa15, rfl, E16, h17, B18⟩ F
 replace B := B18 _ B (Nat.add_lt_add_left (by decide) m)
 replace h3 := TR.ev h3 E16 (fun q => q.elim) (fun q => q.elim)
 replace h10 := AT.ev h10 E16 (fun q => q.elim)
 replace E := E.trans E16 (fun x q => q.elim)
 replace h17 : AT true (m + 2) c13 w14 qa15 [.slice none 0 0, .int .i64 0] := h17
 refine q_eff F rfl rfl (by decide) (e_alloc F zv_4 c13 (m + 3)) ?_
 rintro v w21 a ⟨c20, qa22, rfl, E23, h24, B25⟩ F
 replace B := B25 _ B (Nat.add_lt_add_left (by decide) m)
 replace h3 := TR.ev h3 E23 (fun q => q.elim) (fun q => q.elim)
 replace h10 := AT.ev h10 E23 (fun q => q.elim)
 replace h17 := AT.ev h17 E23 (fun q => q.elim)
 replace E := E.trans E23 (fun x q => q.elim)
 replace h24 : AT true (m + 3) c20 w21 qa22 [.bool false] := h24
 refine nil ?_
 refine hK5 _ _ ?_
 refine wp_seq_k fun K27 hK27 => ?_
 refine wp_seq_k fun K28 hK28 => ?_
 refine reg ?_
 refine q_val F rfl rfl (by decide) (r_move F rfl) fun a F => ?_
 refine q_val F rfl rfl (by decide) (r_move F rfl) fun a F => ?_
 replace H := bind_some H
 obtain ⟨t29, q30, H⟩ := H
 refine q_call F rfl rfl (by decide) (r_call F Try.func61 rfl (by kernel_rfl) rfl) (tree_Tree_From.calls (m := m + 8) (Nat.add_pos_left hm0 _) B h3 (m + 4) (Nat.add_lt_add_left (by decide) m) _ q30) ?_
 rintro e w32 ⟨c31, vi35, rfl, E33, B34, h36⟩
 refine ⟨_, rfl, fun a F => ?_⟩
 have B := B34
 replace h3 := TR.ev h3 E33 (fun q => q.elim) (fun q => q.elim)
 replace h10 := AT.ev h10 E33 (fun q => q.elim)
 replace h17 := AT.ev h17 E33 (fun q => q.elim)
 replace h24 := AT.ev h24 E33 (fun q => q.elim)
 replace E := E.trans E33 (fun x q => q.elim)
 refine nil ?_
 refine hK28 _ _ ?_
 refine wp_block ?_
 obtain ⟨x45, HL, HR46⟩ := bind_some H
 refine ITR.range h36 (m := m + 8) (y := m + 5) (z := m + 6) (M := fun x => False ∨ m ≤ x) (g := (fun (s_ : Unit) (k_ : ByteArray) (v_ : table_cell) => tree_Tree_Seek.b1 k_ v_)) (fun (s_ : Unit) (c_ : Nat → Nat) (w_ : World) => Ev (fun x => False ∨ m ≤ x) c31 w32 c_ w_ ∧ () = s_ ∧ AT true (m + 1) c_ w_ qa8 [.string .empty] ∧ AT true (m + 2) c_ w_ qa15 [.slice none 0 0, .int .i64 0] ∧ AT true (m + 3) c_ w_ qa22 [.bool false]) (fun (s_ : ByteArray × (List Int) × Int) (c_ : Nat → Nat) (w_ : World) => Ev (fun x => False ∨ m ≤ x) c31 w32 c_ w_ ∧ ∃ (s79 : ByteArray), ∃ (l81 : List Int), ∃ (A82 : Option Addr), ∃ (C83 : Nat), ∃ (i84 : Int), (s79, l81, i84) = s_ ∧ AT true (m + 1) c_ w_ qa8 [.string s79] ∧ AT true (m + 2) c_ w_ qa15 [.slice A82 l81.length C83, .int .i64 i84] ∧ AT true (m + 3) c_ w_ qa22 [.bool true] ∧ SL false (Kint .u8) 0 0 c_ w_ A82 C83 l81) F rfl (by decide) (by decide) (by omega) (by omega) (by omega) (by omega) (by intro q; rcases q with q | q <;> first | exact q.elim | (replace q : False := q; omega) | (replace q : m ≤ 0 := q; omega)) B (fun _ _ _ h_ => h_.1) (fun _ _ _ h_ => h_.1) (fun s_ c1_ w1_ c2_ w2_ ⟨E_, e_, h10, h17, h24⟩ E2_ => ⟨E_.trans E2_ (fun x q => by show False ∨ m ≤ x; replace q : x = m + 5 := q; omega), e_, AT.ev h10 E2_ (ne_mm (by decide)), AT.ev h17 E2_ (ne_mm (by decide)), AT.ev h24 E2_ (ne_mm (by decide))⟩) (fun s_ c1_ w1_ c2_ w2_ ⟨E_, s79, l81, A82, C83, i84, e_, h10, h17, h24, h80⟩ E2_ => ⟨E_.trans E2_ (fun x q => by show False ∨ m ≤ x; replace q : x = m + 5 := q; omega), s79, l81, A82, C83, i84, e_, AT.ev h10 E2_ (ne_mm (by decide)), AT.ev h17 E2_ (ne_mm (by decide)), AT.ev h24 E2_ (ne_mm (by decide)), SL.ev h80 E2_ ne_zm ne_zm⟩) () ⟨Ev.refl, rfl, h10, h17, h24⟩ x45 HL ?_ ?_ ?_
 ·intro bd40 lo41 rec42 s_ s48 v49 c38 w39 A50 C51 rr47 ⟨E, e_, h10, h17, h24⟩ B hb43 hl44 h52 Hg a F
  clear HL H
  subst e_
  have H : tree_Tree_Seek.b1 s48 v49 = some rr47 := Hg
  clear Hg
  unfold tree_Tree_Seek.b1 at H
  refine wpIn_seq_k fun K53 hK53 => ?_
  refine regR ?_
  refine q_val F rfl rfl (by decide) (r_assign F rfl) fun a F => ?_
  refine nil ?_
  refine hK53 _ _ ?_
  refine regR ?_
  refine q_eff F rfl rfl (by decide) (e_alloc F zv_80 c38 (m + 7)) ?_
  rintro v w55 a ⟨c54, qa56, rfl, E57, h58, B59⟩ F
  replace B := B59 _ B (Nat.add_lt_add_left (by decide) m)
  replace h10 := AT.ev h10 E57 (fun q => q.elim)
  replace h17 := AT.ev h17 E57 (fun q => q.elim)
  replace h24 := AT.ev h24 E57 (fun q => q.elim)
  replace h52 := SL.ev h52 E57 (fun q => q.elim) (fun q => q.elim)
  replace hb43 := OBJ.ev hb43 E57 (fun q => q.elim)
  replace hl44 := OBJ.ev hl44 E57 (fun q => q.elim)
  replace E := E.trans E57 (fun x q => q.elim)
  replace h58 : AT true (m + 7) c54 w55 qa56 [.slice none 0 0, .int .i64 0] := h58
  refine q_eff0 F rfl rfl (e_storeN0 (us := [.slice A50 v49.value.length C51, .int .i64 v49.rev]) F rfl rfl sz_80 h58 (Nat.le_of_ble_eq_true rfl) (one_all rfl)) ?_
  rintro w61 a ⟨E62, h58, Z63⟩ F
  replace B := B.size Z63
  replace h10 := AT.ev h10 E62 (ne_mm (by decide))
  replace h17 := AT.ev h17 E62 (ne_mm (by decide))
  replace h24 := AT.ev h24 E62 (ne_mm (by decide))
  replace h52 := SL.ev h52 E62 ne_zm ne_zm
  replace hb43 := OBJ.ev hb43 E62 (ne_mm (by decide))
  replace hl44 := OBJ.ev hl44 E62 (ne_mm (by decide))
  replace E := E.trans E62 (fun x (q : x = m + 7) => Or.inr (le_col q))
  replace h58 : AT true (m + 7) c54 w61 qa56 [.slice A50 v49.value.length C51, .int .i64 v49.rev] := h58
  refine nil ?_
  refine thenN ?_
  refine ⟨c54, hl44, fun w64 E65 hl44 Z66 => ?_⟩
  replace B := B.size Z66
  replace h10 := AT.ev h10 E65 (ne_mm (by decide))
  replace h17 := AT.ev h17 E65 (ne_mm (by decide))
  replace h24 := AT.ev h24 E65 (ne_mm (by decide))
  replace h52 := SL.ev h52 E65 ne_zm ne_zm
  replace hb43 := OBJ.ev hb43 E65 (ne_mm (by decide))
  replace h58 := AT.ev h58 E65 (ne_mm (by decide))
  replace E := E.trans E65 (fun x (q : x = m + 5) => Or.inr (le_col q))
  refine wpIn_block ?_
  refine wpIn_seq_k fun K67 hK67 => ?_
  refine regDR (SB (fun x => x = m + 1 ∨ x = m + 2) c54 w64) 4 (.q 0 (.q 1 (.e 2 (.e 3 (.e 4 .nil))))) Try_hm (by decide +kernel) ?_
  intro w68 w1_ w2_ w3_ w4_
  have E69 : Ev No c54 w64 c54 w68 := Ev.same w1_ w2_ w3_ w4_
  replace B := B.same w1_
  have zh10 := h10
  have zh17 := h17
  have zh24 := h24
  have zh52 := h52
  have zhb43 := hb43
  have zhl44 := hl44
  have zh58 := h58
  have ER : Ev (fun x => x = m + 1 ∨ x = m + 2) c54 w64 c54 w68 := Ev.same w1_ w2_ w3_ w4_
  replace h10 := AT.ev h10 E69 (fun q => q.elim)
  replace h17 := AT.ev h17 E69 (fun q => q.elim)
  replace h24 := AT.ev h24 E69 (fun q => q.elim)
  replace h52 := SL.ev h52 E69 (fun q => q.elim) (fun q => q.elim)
  replace hb43 := OBJ.ev hb43 E69 (fun q => q.elim)
  replace hl44 := OBJ.ev hl44 E69 (fun q => q.elim)
  replace h58 := AT.ev h58 E69 (fun q => q.elim)
  replace E := E.trans E69 (fun x q => q.elim)
  refine d_q F rfl rfl rfl (by decide) (fun wq hS => r_move F rfl) ER.sb fun a F => ?_
  refine d_q F rfl rfl rfl (by decide) (fun wq hS => r_loads (cs := [.slice A50 v49.value.length C51, .int .i64 v49.rev]) F rfl ag_80 sz_80 (AT.sb zh58 hS (nor (ne_mm (by decide)) (ne_mm (by decide))))) ER.sb fun a F => ?_
  refine d_e ?_
  refine o_eff0 F rfl rfl rfl (e_store0 F rfl rfl sz_9 h10 (Nat.le_of_ble_eq_true rfl) rfl) ?_
  rintro w70 a ⟨E71, h10, Z72⟩ F
  replace B := B.size Z72
  replace ER := ER.trans E71 (fun x q => by replace q : x = m + 1 := q; show x = m + 1 ∨ x = m + 2; omega)
  replace h17 := AT.ev h17 E71 (ne_mm (by decide))
  replace h24 := AT.ev h24 E71 (ne_mm (by decide))
  replace h52 := SL.ev h52 E71 ne_zm ne_zm
  replace hb43 := OBJ.ev hb43 E71 (ne_mm (by decide))
  replace hl44 := OBJ.ev hl44 E71 (ne_mm (by decide))
  replace h58 := AT.ev h58 E71 (ne_mm (by decide))
  replace E := E.trans E71 (fun x (q : x = m + 1) => Or.inr (le_col q))
  replace h10 : AT true (m + 1) c54 w70 qa8 [.string s48] := h10
  refine ⟨fun _ => ER.sb, ?_⟩
  refine d_e ?_
  refine o_eff0 F rfl rfl rfl (e_storeN0 (us := [.slice A50 v49.value.length C51, .int .i64 v49.rev]) F rfl rfl sz_80 h17 (Nat.le_of_ble_eq_true rfl) (one_all rfl)) ?_
  rintro w73 a ⟨E74, h17, Z75⟩ F
  replace B := B.size Z75
  replace ER := ER.trans E74 (fun x q => by replace q : x = m + 2 := q; show x = m + 1 ∨ x = m + 2; omega)
  replace h10 := AT.ev h10 E74 (ne_mm (by decide))
  replace h24 := AT.ev h24 E74 (ne_mm (by decide))
  replace h52 := SL.ev h52 E74 ne_zm ne_zm
  replace hb43 := OBJ.ev hb43 E74 (ne_mm (by decide))
  replace hl44 := OBJ.ev hl44 E74 (ne_mm (by decide))
  replace h58 := AT.ev h58 E74 (ne_mm (by decide))
  replace E := E.trans E74 (fun x (q : x = m + 2) => Or.inr (le_col q))
  replace h17 : AT true (m + 2) c54 w73 qa15 [.slice A50 v49.value.length C51, .int .i64 v49.rev] := h17
  refine ⟨fun _ => ER.sb, ?_⟩
  refine d_e ?_
  refine o_eff0 F rfl rfl rfl (e_store0 F rfl rfl sz_4 h24 (Nat.le_of_ble_eq_true rfl) rfl) ?_
  rintro w76 a ⟨E77, h24, Z78⟩ F
  replace B := B.size Z78
  replace h10 := AT.ev h10 E77 (ne_mm (by decide))
  replace h17 := AT.ev h17 E77 (ne_mm (by decide))
  replace h52 := SL.ev h52 E77 ne_zm ne_zm
  replace hb43 := OBJ.ev hb43 E77 (ne_mm (by decide))
  replace hl44 := OBJ.ev hl44 E77 (ne_mm (by decide))
  replace h58 := AT.ev h58 E77 (ne_mm (by decide))
  replace E := E.trans E77 (fun x (q : x = m + 3) => Or.inr (le_col q))
  replace h24 : AT true (m + 3) c54 w76 qa22 [.bool true] := h24
  refine ⟨fun q => absurd rfl q, ?_⟩
  refine d_nil ?_
  refine hK67 _ _ ?_
  refine wpIn_ret ?_
  refine inbR ?_
  have hr_ := Option.some.inj H
  subst hr_
  refine REr c54 hl44 ?_
  exact ⟨rfl, ⟨E, s48, v49.value, A50, C51, v49.rev, rfl, h10, h17, h24, h52⟩, B, hb43⟩
 ·intro s_ hx89 c85 w86 bd87 ⟨E90, e_, h10, h17, h24⟩ B hb88 a F
  subst e_
  rw [hx89] at HR46
  have H : tree_Tree_Seek.j2 = some r := HR46
  unfold tree_Tree_Seek.j2 at H
  replace E := E.trans E90 (fun _ q => q)
  refine hK27 _ _ ?_
  refine wp_seq_k fun K100 hK100 => ?_
  refine regD (SB (fun x => x = m + 1 ∨ x = m + 2) c85 w86) 4 (.f 0 (.f 1 (.e 2 (.e 3 (.e 4 .nil))) 2 (.e 1 (.e 3 (.e 4 .nil)))) 1 (.e 0 (.e 2 (.e 3 (.e 4 .nil))))) Try_hm (by decide +kernel) ?_
  intro w105 w1_ w2_ w3_ w4_
  have E106 : Ev No c85 w86 c85 w105 := Ev.same w1_ w2_ w3_ w4_
  replace B := B.same w1_
  have zh10 := h10
  have zh17 := h17
  have zh24 := h24
  have zhb88 := hb88
  have ER : Ev (fun x => x = m + 1 ∨ x = m + 2) c85 w86 c85 w105 := Ev.same w1_ w2_ w3_ w4_
  replace h10 := AT.ev h10 E106 (fun q => q.elim)
  replace h17 := AT.ev h17 E106 (fun q => q.elim)
  replace h24 := AT.ev h24 E106 (fun q => q.elim)
  replace hb88 := OBJ.ev hb88 E106 (fun q => q.elim)
  replace E := E.trans E106 (fun x q => q.elim)
  refine d_f ?_ ?_
  ·refine o_val F rfl rfl rfl (by decide) (r_load F rfl ag_9 (AT.cell0 h10 rfl)) fun a F => ?_
   refine ⟨fun _ => ER.sb, ?_⟩
   refine d_f ?_ ?_
   ·refine o_val F rfl rfl rfl (by decide) (r_loads (cs := [.slice none 0 0, .int .i64 0]) F rfl ag_80 sz_80 h17) fun a F => ?_
    refine ⟨fun _ => ER.sb, ?_⟩
    refine d_e ?_
    refine o_eff0 F rfl rfl rfl (e_store0 F rfl rfl sz_9 h10 (Nat.le_of_ble_eq_true rfl) rfl) ?_
    rintro w107 a ⟨E108, h10, Z109⟩ F
    replace B := B.size Z109
    replace ER := ER.trans E108 (fun x q => by replace q : x = m + 1 := q; show x = m + 1 ∨ x = m + 2; omega)
    replace h17 := AT.ev h17 E108 (ne_mm (by decide))
    replace h24 := AT.ev h24 E108 (ne_mm (by decide))
    replace hb88 := OBJ.ev hb88 E108 (ne_mm (by decide))
    replace E := E.trans E108 (fun x (q : x = m + 1) => Or.inr (le_col q))
    replace h10 : AT true (m + 1) c85 w107 qa8 [.string .empty] := h10
    refine ⟨fun _ => ER.sb, ?_⟩
    refine d_e ?_
    refine o_eff0 F rfl rfl rfl (e_storeN0 (us := [.slice none 0 0, .int .i64 0]) F rfl rfl sz_80 h17 (Nat.le_of_ble_eq_true rfl) (one_all rfl)) ?_
    rintro w110 a ⟨E111, h17, Z112⟩ F
    replace B := B.size Z112
    replace ER := ER.trans E111 (fun x q => by replace q : x = m + 2 := q; show x = m + 1 ∨ x = m + 2; omega)
    replace h10 := AT.ev h10 E111 (ne_mm (by decide))
    replace h24 := AT.ev h24 E111 (ne_mm (by decide))
    replace hb88 := OBJ.ev hb88 E111 (ne_mm (by decide))
    replace E := E.trans E111 (fun x (q : x = m + 2) => Or.inr (le_col q))
    replace h17 : AT true (m + 2) c85 w110 qa15 [.slice none 0 0, .int .i64 0] := h17
    refine ⟨fun _ => ER.sb, ?_⟩
    refine d_e ?_
    refine o_eff0 F rfl rfl rfl (e_store0 F rfl rfl sz_4 h24 (Nat.le_of_ble_eq_true rfl) rfl) ?_
    rintro w113 a ⟨E114, h24, Z115⟩ F
    replace B := B.size Z115
    replace h10 := AT.ev h10 E114 (ne_mm (by decide))
    replace h17 := AT.ev h17 E114 (ne_mm (by decide))
    replace hb88 := OBJ.ev hb88 E114 (ne_mm (by decide))
    replace E := E.trans E114 (fun x (q : x = m + 3) => Or.inr (le_col q))
    replace h24 : AT true (m + 3) c85 w113 qa22 [.bool false] := h24
    refine ⟨fun q => absurd rfl q, ?_⟩
    refine d_nil ?_
    refine hK100 _ _ ?_
    refine wp_ret ?_
    refine outM ?_
    refine endM F hb88 fun w134 E135 Z136 a F => ?_
    replace B := B.size Z136
    replace h10 := AT.ev h10 E135 (ne_mm (by decide))
    replace h17 := AT.ev h17 E135 (ne_mm (by decide))
    replace h24 := AT.ev h24 E135 (ne_mm (by decide))
    replace E := E.trans E135 (fun x (q : x = m + 6) => Or.inr (le_col q))
    refine endM0 F ?_
    replace H := Option.some.inj H
    subst H
    refine outR3 F rfl ⟨_, rfl, lv_one ag_9 (AT.cell0 h10 rfl)⟩ ⟨_, rfl, lv_agg (cs := [.slice none 0 0, .int .i64 0]) ag_80 sz_80 h17⟩ ⟨_, rfl, lv_one ag_4 (AT.cell0 h24 rfl)⟩ ?_
    exact ⟨fun b_ => (fun x_ => if x_ < m then x_ else 0) (c85 b_), none, 0, rfl, E.leave B0 (fun x_ => if x_ < m then x_ else 0) (by intro x_ hx_; show (if x_ < m then x_ else 0) = x_; ((repeat' split) <;> omega)), (fun b_ hb_ => by show (if (c85 b_) < m then (c85 b_) else 0) < m; ((repeat' split) <;> omega)), SL.nil⟩
   ·refine o_eff0 F rfl rfl rfl (e_store0 F rfl rfl sz_9 h10 (Nat.le_of_ble_eq_true rfl) rfl) ?_
    rintro w116 a ⟨E117, h10, Z118⟩ F
    replace B := B.size Z118
    replace ER := ER.trans E117 (fun x q => by replace q : x = m + 1 := q; show x = m + 1 ∨ x = m + 2; omega)
    replace h17 := AT.ev h17 E117 (ne_mm (by decide))
    replace h24 := AT.ev h24 E117 (ne_mm (by decide))
    replace hb88 := OBJ.ev hb88 E117 (ne_mm (by decide))
    replace E := E.trans E117 (fun x (q : x = m + 1) => Or.inr (le_col q))
    replace h10 : AT true (m + 1) c85 w116 qa8 [.string .empty] := h10
    refine ⟨fun _ => ER.sb, ?_⟩
    refine d_e ?_
    refine o_val F rfl rfl rfl (by decide) (r_loads (cs := [.slice none 0 0, .int .i64 0]) F rfl ag_80 sz_80 h17) fun a F => ?_
    refine ⟨fun _ => ER.sb, ?_⟩
    refine d_e ?_
    refine o_eff0 F rfl rfl rfl (e_storeN0 (us := [.slice none 0 0, .int .i64 0]) F rfl rfl sz_80 h17 (Nat.le_of_ble_eq_true rfl) (one_all rfl)) ?_
    rintro w119 a ⟨E120, h17, Z121⟩ F
    replace B := B.size Z121
    replace ER := ER.trans E120 (fun x q => by replace q : x = m + 2 := q; show x = m + 1 ∨ x = m + 2; omega)
    replace h10 := AT.ev h10 E120 (ne_mm (by decide))
    replace h24 := AT.ev h24 E120 (ne_mm (by decide))
    replace hb88 := OBJ.ev hb88 E120 (ne_mm (by decide))
    replace E := E.trans E120 (fun x (q : x = m + 2) => Or.inr (le_col q))
    replace h17 : AT true (m + 2) c85 w119 qa15 [.slice none 0 0, .int .i64 0] := h17
    refine ⟨fun _ => ER.sb, ?_⟩
    refine d_e ?_
    refine o_eff0 F rfl rfl rfl (e_store0 F rfl rfl sz_4 h24 (Nat.le_of_ble_eq_true rfl) rfl) ?_
    rintro w122 a ⟨E123, h24, Z124⟩ F
    replace B := B.size Z124
    replace h10 := AT.ev h10 E123 (ne_mm (by decide))
    replace h17 := AT.ev h17 E123 (ne_mm (by decide))
    replace hb88 := OBJ.ev hb88 E123 (ne_mm (by decide))
    replace E := E.trans E123 (fun x (q : x = m + 3) => Or.inr (le_col q))
    replace h24 : AT true (m + 3) c85 w122 qa22 [.bool false] := h24
    refine ⟨fun q => absurd rfl q, ?_⟩
    refine d_nil ?_
    refine hK100 _ _ ?_
    refine wp_ret ?_
    refine outM ?_
    refine endM F hb88 fun w137 E138 Z139 a F => ?_
    replace B := B.size Z139
    replace h10 := AT.ev h10 E138 (ne_mm (by decide))
    replace h17 := AT.ev h17 E138 (ne_mm (by decide))
    replace h24 := AT.ev h24 E138 (ne_mm (by decide))
    replace E := E.trans E138 (fun x (q : x = m + 6) => Or.inr (le_col q))
    refine endM0 F ?_
    replace H := Option.some.inj H
    subst H
    refine outR3 F rfl ⟨_, rfl, lv_one ag_9 (AT.cell0 h10 rfl)⟩ ⟨_, rfl, lv_agg (cs := [.slice none 0 0, .int .i64 0]) ag_80 sz_80 h17⟩ ⟨_, rfl, lv_one ag_4 (AT.cell0 h24 rfl)⟩ ?_
    exact ⟨fun b_ => (fun x_ => if x_ < m then x_ else 0) (c85 b_), none, 0, rfl, E.leave B0 (fun x_ => if x_ < m then x_ else 0) (by intro x_ hx_; show (if x_ < m then x_ else 0) = x_; ((repeat' split) <;> omega)), (fun b_ hb_ => by show (if (c85 b_) < m then (c85 b_) else 0) < m; ((repeat' split) <;> omega)), SL.nil⟩
  ·refine o_val F rfl rfl rfl (by decide) (r_loads (cs := [.slice none 0 0, .int .i64 0]) F rfl ag_80 sz_80 h17) fun a F => ?_
   refine ⟨fun _ => ER.sb, ?_⟩
   refine d_e ?_
   refine o_val F rfl rfl rfl (by decide) (r_load F rfl ag_9 (AT.cell0 h10 rfl)) fun a F => ?_
   refine ⟨fun _ => ER.sb, ?_⟩
   refine d_e ?_
   refine o_eff0 F rfl rfl rfl (e_store0 F rfl rfl sz_9 h10 (Nat.le_of_ble_eq_true rfl) rfl) ?_
   rintro w125 a ⟨E126, h10, Z127⟩ F
   replace B := B.size Z127
   replace ER := ER.trans E126 (fun x q => by replace q : x = m + 1 := q; show x = m + 1 ∨ x = m + 2; omega)
   replace h17 := AT.ev h17 E126 (ne_mm (by decide))
   replace h24 := AT.ev h24 E126 (ne_mm (by decide))
   replace hb88 := OBJ.ev hb88 E126 (ne_mm (by decide))
   replace E := E.trans E126 (fun x (q : x = m + 1) => Or.inr (le_col q))
   replace h10 : AT true (m + 1) c85 w125 qa8 [.string .empty] := h10
   refine ⟨fun _ => ER.sb, ?_⟩
   refine d_e ?_
   refine o_eff0 F rfl rfl rfl (e_storeN0 (us := [.slice none 0 0, .int .i64 0]) F rfl rfl sz_80 h17 (Nat.le_of_ble_eq_true rfl) (one_all rfl)) ?_
   rintro w128 a ⟨E129, h17, Z130⟩ F
   replace B := B.size Z130
   replace ER := ER.trans E129 (fun x q => by replace q : x = m + 2 := q; show x = m + 1 ∨ x = m + 2; omega)
   replace h10 := AT.ev h10 E129 (ne_mm (by decide))
   replace h24 := AT.ev h24 E129 (ne_mm (by decide))
   replace hb88 := OBJ.ev hb88 E129 (ne_mm (by decide))
   replace E := E.trans E129 (fun x (q : x = m + 2) => Or.inr (le_col q))
   replace h17 : AT true (m + 2) c85 w128 qa15 [.slice none 0 0, .int .i64 0] := h17
   refine ⟨fun _ => ER.sb, ?_⟩
   refine d_e ?_
   refine o_eff0 F rfl rfl rfl (e_store0 F rfl rfl sz_4 h24 (Nat.le_of_ble_eq_true rfl) rfl) ?_
   rintro w131 a ⟨E132, h24, Z133⟩ F
   replace B := B.size Z133
   replace h10 := AT.ev h10 E132 (ne_mm (by decide))
   replace h17 := AT.ev h17 E132 (ne_mm (by decide))
   replace hb88 := OBJ.ev hb88 E132 (ne_mm (by decide))
   replace E := E.trans E132 (fun x (q : x = m + 3) => Or.inr (le_col q))
   replace h24 : AT true (m + 3) c85 w131 qa22 [.bool false] := h24
   refine ⟨fun q => absurd rfl q, ?_⟩
   refine d_nil ?_
   refine hK100 _ _ ?_
   refine wp_ret ?_
   refine outM ?_
   refine endM F hb88 fun w140 E141 Z142 a F => ?_
   replace B := B.size Z142
   replace h10 := AT.ev h10 E141 (ne_mm (by decide))
   replace h17 := AT.ev h17 E141 (ne_mm (by decide))
   replace h24 := AT.ev h24 E141 (ne_mm (by decide))
   replace E := E.trans E141 (fun x (q : x = m + 6) => Or.inr (le_col q))
   refine endM0 F ?_
   replace H := Option.some.inj H
   subst H
   refine outR3 F rfl ⟨_, rfl, lv_one ag_9 (AT.cell0 h10 rfl)⟩ ⟨_, rfl, lv_agg (cs := [.slice none 0 0, .int .i64 0]) ag_80 sz_80 h17⟩ ⟨_, rfl, lv_one ag_4 (AT.cell0 h24 rfl)⟩ ?_
   exact ⟨fun b_ => (fun x_ => if x_ < m then x_ else 0) (c85 b_), none, 0, rfl, E.leave B0 (fun x_ => if x_ < m then x_ else 0) (by intro x_ hx_; show (if x_ < m then x_ else 0) = x_; ((repeat' split) <;> omega)), (fun b_ hb_ => by show (if (c85 b_) < m then (c85 b_) else 0) < m; ((repeat' split) <;> omega)), SL.nil⟩
 ·intro s_ hx95 c91 w92 bd93 ⟨E96, s79, l81, A82, C83, i84, e_, h10, h17, h24, h80⟩ B hb94 a F
  subst e_
  rw [hx95] at HR46
  have H : tree_Tree_Seek.j3 s79 l81 i84 = some r := HR46
  unfold tree_Tree_Seek.j3 at H
  replace E := E.trans E96 (fun _ q => q)
  refine inbR ?_
  refine thenR ?_
  refine outM ?_
  refine endM F hb94 fun w97 E98 Z99 a F => ?_
  replace B := B.size Z99
  replace h10 := AT.ev h10 E98 (ne_mm (by decide))
  replace h17 := AT.ev h17 E98 (ne_mm (by decide))
  replace h24 := AT.ev h24 E98 (ne_mm (by decide))
  replace h80 := SL.ev h80 E98 ne_zm ne_zm
  replace E := E.trans E98 (fun x (q : x = m + 6) => Or.inr (le_col q))
  refine endM0 F ?_
  replace H := Option.some.inj H
  subst H
  refine outR3 F rfl ⟨_, rfl, lv_one ag_9 (AT.cell0 h10 rfl)⟩ ⟨_, rfl, lv_agg (cs := [.slice A82 l81.length C83, .int .i64 i84]) ag_80 sz_80 h17⟩ ⟨_, rfl, lv_one ag_4 (AT.cell0 h24 rfl)⟩ ?_
  exact ⟨fun b_ => (fun x_ => if x_ < m then x_ else 0) (c91 b_), A82, C83, rfl, E.leave B0 (fun x_ => if x_ < m then x_ else 0) (by intro x_ hx_; show (if x_ < m then x_ else 0) = x_; ((repeat' split) <;> omega)), (fun b_ hb_ => by show (if (c91 b_) < m then (c91 b_) else 0) < m; ((repeat' split) <;> omega)), SL.rc h80 (fun k_ hk_ => by show (if (c91 k_) < m then (c91 k_) else 0) = _; rw [hk_]; ((repeat' split) <;> omega)) (fun k_ hk_ => by show (if (c91 k_) < m then (c91 k_) else 0) = _; rw [hk_]; ((repeat' split) <;> omega))⟩
end Go.Proofs.Ythankpjbfpcldaa.G
namespace Go.Proofs.Ythankpjbfpcldaa.G
open Go Go.RowKit
set_option linter.unusedVariables false
set_option linter.unusedSimpArgs false
set_option maxRecDepth 100000 in
set_option maxHeartbeats 4000000 in
theorem table_Table_Do.calls (k : Nat) {m : Nat} {c0 : Nat → Nat} {w0 : World} {j4 : Nat} {p2 : Option Addr} {A6 : Option Addr} {C7 : Nat} {A9 : Option Addr} {C10 : Nat} {a1 : Option Tab} {a5 : api_Op} (hm0 : 0 < m) (B0 : CB m c0 w0) (h3 : TB j4 c0 w0 p2 a1) (h8 : SL false (Kint .u8) 0 0 c0 w0 A6 C7 a5.Key) (h11 : SL false (Kint .u8) 0 0 c0 w0 A9 C10 a5.Value) (bj4 : 0 < j4 ∧ j4 < m) (r : api_Answer × Int × (Option Tab)) (H : table_Table_Do.f k a1 a5 = some r) : Calls Try.prog 12 #[.pointer p2, .agg #[.int .i64 a5.Kind, .slice A6 a5.Key.length C7, .slice A9 a5.Value.length C10, .int .i64 a5.Rev]] w0 (fun e w_ => ∃ (c_ : Nat → Nat) (A0_ : Option Addr) (C0_ : Nat) (A2_ : Option Addr) (C2_ : Nat), e = .returned (.tuple #[.agg #[.bool r.1.Done, .slice A0_ r.1.Key.length C0_, .slice A2_ r.1.Value.length C2_, .int .i64 r.1.Rev, .int .i64 r.1.At], .int .i64 r.2.1]) ∧ Ev (fun x => (x = j4)) c0 w0 c_ w_ ∧ CB m c_ w_ ∧ SL false (Kint .u8) 0 0 c_ w_ A0_ C0_ r.1.Key ∧ SL false (Kint .u8) 0 0 c_ w_ A2_ C2_ r.1.Value ∧ TB j4 c_ w_ p2 r.2.2) := by
 unfold table_Table_Do.f at H
 have B := B0.mono (show m ≤ m + 7 by omega)
 have E : Ev (fun x => (x = j4) ∨ m ≤ x) c0 w0 c0 w0 := Ev.refl
 refine enter (N := 116) (l := [.pointer p2, .agg #[.int .i64 a5.Kind, .slice A6 a5.Key.length C7, .slice A9 a5.Value.length C10, .int .i64 a5.Rev]]) Try.func12 rfl rfl (Nat.le_of_ble_eq_true rfl) fun a F => ?_
 refine wp_seq_k fun K12 hK12 => ?_
 refine reg ?_
 refine q_eff F rfl rfl (by decide) (e_box F (v := .agg #[.int .i64 a5.Kind, .slice A6 a5.Key.length C7, .slice A9 a5.Value.length C10, .int .i64 a5.Rev]) rfl c0 (m + 1)) ?_
 rintro v w14 a ⟨c13, qa15, rfl, E16, h17, B18⟩ F
 replace B := B18 _ B (Nat.add_lt_add_left (by decide) m)
 replace h3 := TB.ev h3 E16 (fun q => q.elim) (fun q => q.elim)
 replace h8 := SL.ev h8 E16 (fun q => q.elim) (fun q => q.elim)
 replace h11 := SL.ev h11 E16 (fun q => q.elim) (fun q => q.elim)
 replace E := E.trans E16 (fun x q => q.elim)
 replace h17 : AT true (m + 1) c13 w14 qa15 [.int .i64 a5.Kind, .slice A6 a5.Key.length C7, .slice A9 a5.Value.length C10, .int .i64 a5.Rev] := h17
 refine q_eff F rfl rfl (by decide) (e_alloc F zv_34 c13 (m + 2)) ?_
 rintro v w21 a ⟨c20, qa22, rfl, E23, h24, B25⟩ F
 replace B := B25 _ B (Nat.add_lt_add_left (by decide) m)
 replace h3 := TB.ev h3 E23 (fun q => q.elim) (fun q => q.elim)
 replace h8 := SL.ev h8 E23 (fun q => q.elim) (fun q => q.elim)
 replace h11 := SL.ev h11 E23 (fun q => q.elim) (fun q => q.elim)
 replace h17 := AT.ev h17 E23 (fun q => q.elim)
 replace E := E.trans E23 (fun x q => q.elim)
 replace h24 : AT true (m + 2) c20 w21 qa22 [.bool false, .slice none 0 0, .slice none 0 0, .int .i64 0, .int .i64 0] := h24
 refine q_val F rfl rfl (by decide) (r_assign F rfl) fun a F => ?_
 refine nil ?_
 refine hK12 _ _ ?_
 refine wp_seq_k fun K27 hK27 => ?_
 refine wp_block ?_
 refine wp_seq_k fun K28 hK28 => ?_
 refine reg ?_
 refine q_val F rfl rfl (by decide) (r_move F rfl) fun a F => ?_
 refine q_val F rfl rfl (by decide) (r_peqlA F Try.underlying26 rfl rfl (TB.isNone h3)) fun a F => ?_
 refine q_val F rfl rfl (by decide) (r_assign F rfl) fun a F => ?_
 refine nil ?_
 refine hK28 _ _ ?_
 by_cases hb29 : (Option.isNone a1) = true
 ·replace H := (if_pos hb29).symm.trans H
  refine wp_cond_true ((F.ev rfl).trans (congrArg Value.bool hb29)) ?_
  refine wp_seq_k fun K30 hK30 => ?_
  refine reg ?_
  refine q_val F rfl rfl (by decide) (r_build (v := .agg #[.bool false, .slice none 0 0, .slice none 0 0, .int .i64 0, .int .i64 0]) F [] (by exact trivial) (fun w => by kernel_rfl)) fun a F => ?_
  refine q_eff0 F rfl rfl (e_storeN0 (us := [.bool false, .slice none 0 0, .slice none 0 0, .int .i64 0, .int .i64 0]) F rfl rfl sz_34 h24 (Nat.le_of_ble_eq_true rfl) (one_all rfl)) ?_
  rintro w31 a ⟨E32, h24, Z33⟩ F
  replace B := B.size Z33
  replace h3 := TB.ev h3 E32 (ne_pm bj4.2) ne_zm
  replace h8 := SL.ev h8 E32 ne_zm ne_zm
  replace h11 := SL.ev h11 E32 ne_zm ne_zm
  replace h17 := AT.ev h17 E32 (ne_mm (by decide))
  replace E := E.trans E32 (fun x (q : x = m + 2) => Or.inr (le_col q))
  replace h24 : AT true (m + 2) c20 w31 qa22 [.bool false, .slice none 0 0, .slice none 0 0, .int .i64 0, .int .i64 0] := h24
  refine q_val F rfl rfl (by decide) (r_assign F rfl) fun a F => ?_
  refine nil ?_
  refine hK30 _ _ ?_
  refine wp_ret ?_
  refine inbR ?_
  refine thenR ?_
  replace H := Option.some.inj H
  subst H
  refine outR2 F rfl ⟨_, rfl, lv_agg (cs := [.bool false, .slice none 0 0, .slice none 0 0, .int .i64 0, .int .i64 0]) ag_34 sz_34 h24⟩ rfl ?_
  exact ⟨fun b_ => (fun x_ => if x_ < m then x_ else 0) (c20 b_), none, 0, none, 0, rfl, E.leave B0 (fun x_ => if x_ < m then x_ else 0) (by intro x_ hx_; show (if x_ < m then x_ else 0) = x_; ((repeat' split) <;> omega)), (fun b_ hb_ => by show (if (c20 b_) < m then (c20 b_) else 0) < m; ((repeat' split) <;> omega)), SL.nil, SL.nil, TB.rc h3 (fun k_ hk_ => by show (if (c20 k_) < m then (c20 k_) else 0) = _; rw [hk_]; ((repeat' split) <;> omega)) (fun k_ hk_ => by show (if (c20 k_) < m then (c20 k_) else 0) = _; rw [hk_]; ((repeat' split) <;> omega))⟩
 ·replace H := (if_neg hb29).symm.trans H
  refine wp_cond_false ((F.ev rfl).trans (congrArg Value.bool (bfalse hb29))) ?_
  refine wp_seq_k fun K34 hK34 => ?_
  refine reg ?_
  refine q_val F rfl rfl (by decide) (r_loads (cs := [.int .i64 a5.Kind, .slice A6 a5.Key.length C7, .slice A9 a5.Value.length C10, .int .i64 a5.Rev]) F rfl ag_30 sz_30 h17) fun a F => ?_
  replace H := bind_some H
  obtain ⟨t35, q36, H⟩ := H
  refine q_call F rfl rfl (by decide) (r_call F Try.func24 rfl (by kernel_rfl) rfl) (table_Right.calls (m := m + 7) (Nat.add_pos_left hm0 _) B h8 h11 _ q36) ?_
  rintro e w38 ⟨c37, rfl, E39, B40⟩
  refine ⟨_, rfl, fun a F => ?_⟩
  have B := B40
  replace h3 := TB.ev h3 E39 (fun q => q.elim) (fun q => q.elim)
  replace h8 := SL.ev h8 E39 (fun q => q.elim) (fun q => q.elim)
  replace h11 := SL.ev h11 E39 (fun q => q.elim) (fun q => q.elim)
  replace h17 := AT.ev h17 E39 (fun q => q.elim)
  replace h24 := AT.ev h24 E39 (fun q => q.elim)
  replace E := E.trans E39 (fun x q => q.elim)
  refine q_val F rfl rfl (by decide) (r_not F rfl) fun a F => ?_
  refine q_val F rfl rfl (by decide) (r_assign F rfl) fun a F => ?_
  refine nil ?_
  refine hK34 _ _ ?_
  replace F : Fr a 116 [(0, .pointer p2), (3, .pointer (some qa15)), (4, .pointer (some qa22)), (18, .bool (!t35))] := F.sub ⟨rfl, rfl, rfl, rfl, trivial⟩
  by_cases hb42 : t35 = true
  ·replace H := (if_pos hb42).symm.trans H
   refine wp_cond_false ((F.ev rfl).trans (congrArg Value.bool (congrArg not hb42))) ?_
   refine wp_seq_k fun K43 hK43 => ?_
   refine reg ?_
   refine q_val F rfl rfl (by decide) (r_fieldAddr F rfl ff_30_0) fun a F => ?_
   refine q_val F rfl rfl (by decide) (r_load F rfl ag_3 (AT.cell h17 rfl)) fun a F => ?_
   refine q_val F rfl rfl (by decide) (r_eql F rfl rfl) fun a F => ?_
   refine q_val F rfl rfl (by decide) (r_assign F rfl) fun a F => ?_
   refine nil ?_
   refine hK43 _ _ ?_
   by_cases hb44 : a5.Kind = 5
   ·replace H := (if_pos hb44).symm.trans H
    refine wp_cond_true ((F.ev rfl).trans (congrArg Value.bool (decide_eq_true hb44))) ?_
    refine wp_seq_k fun K45 hK45 => ?_
    have J94 : ∀ (c95 : Nat → Nat) (w96 : World) (a : Act) (ad49 : Addr) (t56 : ByteArray × table_cell × Bool) (qa68 : Addr) (p51 : Option Addr) (ob46 : Tab) (A91 : Option Addr) (C92 : Nat), p2 = some ad49 → Fr a 116 [(0, .pointer (some ad49)), (4, .pointer (some qa22)), (6, .string t56.1), (7, .pointer (some qa68)), (8, .bool t56.2.2)] → Ev (fun x => (x = j4) ∨ m ≤ x) c0 w0 c95 w96 → CB (m + 7) c95 w96 → AT true j4 c95 w96 ad49 [.pointer p51, .int .i64 ob46.rev, .int .i64 ob46.size] → AT true (m + 2) c95 w96 qa22 [.bool false, .slice none 0 0, .slice none 0 0, .int .i64 0, .int .i64 0] → AT true (m + 3) c95 w96 qa68 [.slice A91 t56.2.1.value.length C92, .int .i64 t56.2.1.rev] → TR 0 c95 w96 p51 ob46.rows → SL false (Kint .u8) 0 0 c95 w96 A91 C92 t56.2.1.value → table_Table_Do.j1 ob46 t56 = some r → K45 a w96 := by
     intro c95 w96 a ad49 t56 qa68 p51 ob46 A91 C92 qe97 F E B hat50 h24 h70 h52 h93 H
     unfold table_Table_Do.j1 at H
     refine hK45 _ _ ?_
     refine wp_seq_k fun K98 hK98 => ?_
     refine reg ?_
     refine q_val F rfl rfl (by decide) (r_move F rfl) fun a F => ?_
     refine q_val F rfl rfl (by decide) (r_move F rfl) fun a F => ?_
     refine q_val F rfl rfl (by decide) (r_loads (cs := [.slice A91 t56.2.1.value.length C92, .int .i64 t56.2.1.rev]) F rfl ag_80 sz_80 h70) fun a F => ?_
     refine q_val F rfl rfl (by decide) (r_move F rfl) fun a F => ?_
     have h99 : TB j4 c95 w96 (some ad49) (some (Tab.mk ob46.rows ob46.rev ob46.size)) := TB.mk hat50 h52
     replace H := bind_some H
     obtain ⟨t100, q101, H⟩ := H
     refine q_call F rfl rfl (by decide) (r_call F Try.func39 rfl (by kernel_rfl) rfl) (table_Table_told.calls (m := m + 7) (Nat.add_pos_left hm0 _) B h99 h93 (Nat.lt_add_right _ bj4.2) _ q101) ?_
     rintro e w103 ⟨c102, A106, C107, A109, C110, rfl, E104, B105, h108, h111⟩
     refine ⟨_, rfl, fun a F => ?_⟩
     have B := B105
     replace hat50 := AT.ev hat50 E104 (fun q => q.elim)
     replace h24 := AT.ev h24 E104 (fun q => q.elim)
     replace h70 := AT.ev h70 E104 (fun q => q.elim)
     replace h52 := TR.ev h52 E104 (fun q => q.elim) (fun q => q.elim)
     replace h93 := SL.ev h93 E104 (fun q => q.elim) (fun q => q.elim)
     replace h99 := TB.ev h99 E104 (fun q => q.elim) (fun q => q.elim)
     replace E := E.trans E104 (fun x q => q.elim)
     refine q_eff0 F rfl rfl (e_storeN0 (us := [.bool t100.Done, .slice A106 t100.Key.length C107, .slice A109 t100.Value.length C110, .int .i64 t100.Rev, .int .i64 t100.At]) F rfl rfl sz_34 h24 (Nat.le_of_ble_eq_true rfl) (one_all rfl)) ?_
     rintro w113 a ⟨E114, h24, Z115⟩ F
     replace B := B.size Z115
     replace hat50 := AT.ev hat50 E114 (ne_pm bj4.2)
     replace h70 := AT.ev h70 E114 (ne_mm (by decide))
     replace h52 := TR.ev h52 E114 ne_zm ne_zm
     replace h93 := SL.ev h93 E114 ne_zm ne_zm
     replace h99 := TB.ev h99 E114 (ne_pm bj4.2) ne_zm
     replace h108 := SL.ev h108 E114 ne_zm ne_zm
     replace h111 := SL.ev h111 E114 ne_zm ne_zm
     replace E := E.trans E114 (fun x (q : x = m + 2) => Or.inr (le_col q))
     replace h24 : AT true (m + 2) c102 w113 qa22 [.bool t100.Done, .slice A106 t100.Key.length C107, .slice A109 t100.Value.length C110, .int .i64 t100.Rev, .int .i64 t100.At] := h24
     refine q_val F rfl rfl (by decide) (r_assign F rfl) fun a F => ?_
     refine nil ?_
     refine hK98 _ _ ?_
     replace F : Fr a 116 [(4, .pointer (some qa22)), (5, .int .i64 0)] := F.sub ⟨rfl, rfl, trivial⟩
     refine wp_ret ?_
     refine inbR ?_
     refine thenR ?_
     have h116 : TB j4 c102 w113 (some ad49) (some (Tab.mk ob46.rows ob46.rev ob46.size)) := TB.mk hat50 h52
     replace H := Option.some.inj H
     subst H
     refine outR2 F rfl ⟨_, rfl, lv_agg (cs := [.bool t100.Done, .slice A106 t100.Key.length C107, .slice A109 t100.Value.length C110, .int .i64 t100.Rev, .int .i64 t100.At]) ag_34 sz_34 h24⟩ rfl ?_
     exact ⟨fun b_ => (fun x_ => if x_ < m then x_ else 0) (c102 b_), A106, C107, A109, C110, rfl, E.leave B0 (fun x_ => if x_ < m then x_ else 0) (by intro x_ hx_; show (if x_ < m then x_ else 0) = x_; ((repeat' split) <;> omega)), (fun b_ hb_ => by show (if (c102 b_) < m then (c102 b_) else 0) < m; ((repeat' split) <;> omega)), SL.rc h108 (fun k_ hk_ => by show (if (c102 k_) < m then (c102 k_) else 0) = _; rw [hk_]; ((repeat' split) <;> omega)) (fun k_ hk_ => by show (if (c102 k_) < m then (c102 k_) else 0) = _; rw [hk_]; ((repeat' split) <;> omega)), SL.rc h111 (fun k_ hk_ => by show (if (c102 k_) < m then (c102 k_) else 0) = _; rw [hk_]; ((repeat' split) <;> omega)) (fun k_ hk_ => by show (if (c102 k_) < m then (c102 k_) else 0) = _; rw [hk_]; ((repeat' split) <;> omega)), (by rw [qe97]; exact TB.rc h116 (fun k_ hk_ => by show (if (c102 k_) < m then (c102 k_) else 0) = _; rw [hk_]; ((repeat' split) <;> omega)) (fun k_ hk_ => by show (if (c102 k_) < m then (c102 k_) else 0) = _; rw [hk_]; ((repeat' split) <;> omega)))⟩
    replace H := bind_some H
    obtain ⟨ob46, e47, H⟩ := H
    have z48 := h3
    rw [e47] at z48
    obtain ⟨ad49, p51, rfl, hat50, h52⟩ := TB.some z48
    refine regD (SB (fun x => x = m + 3) c37 w38) 16 (.q 0 (.q 1 (.q 2 (.q 3 (.q 4 (.q 5 (.q 6 (.f 7 (.q 8 (.q 9 (.q 10 (.q 11 (.e 12 (.q 13 (.e 14 (.q 15 .nil)))))))) 12 (.e 7 (.q 8 (.q 9 (.q 10 (.q 11 (.q 13 (.e 14 (.q 15 .nil)))))))))))))))) Try_hm (by decide +kernel) ?_
    intro w54 w1_ w2_ w3_ w4_
    have E55 : Ev No c37 w38 c37 w54 := Ev.same w1_ w2_ w3_ w4_
    replace B := B.same w1_
    have zh3 := h3
    have zh8 := h8
    have zh11 := h11
    have zh17 := h17
    have zh24 := h24
    have zh52 := h52
    have zhat50 := hat50
    have ER : Ev (fun x => x = m + 3) c37 w38 c37 w54 := Ev.same w1_ w2_ w3_ w4_
    replace h3 := TB.ev h3 E55 (fun q => q.elim) (fun q => q.elim)
    replace h8 := SL.ev h8 E55 (fun q => q.elim) (fun q => q.elim)
    replace h11 := SL.ev h11 E55 (fun q => q.elim) (fun q => q.elim)
    replace h17 := AT.ev h17 E55 (fun q => q.elim)
    replace h24 := AT.ev h24 E55 (fun q => q.elim)
    replace h52 := TR.ev h52 E55 (fun q => q.elim) (fun q => q.elim)
    replace hat50 := AT.ev hat50 E55 (fun q => q.elim)
    replace E := E.trans E55 (fun x q => q.elim)
    refine d_q F rfl rfl rfl (by decide) (fun wq hS => r_move F rfl) ER.sb fun a F => ?_
    refine d_q F rfl rfl rfl (by decide) (fun wq hS => r_nil F rfl) ER.sb fun a F => ?_
    refine d_q F rfl rfl rfl (by decide) (fun wq hS => r_fieldAddr F rfl ff_82_0) ER.sb fun a F => ?_
    refine d_q F rfl rfl rfl (by decide) (fun wq hS => r_load F rfl ag_77 (AT.cell (AT.sb zhat50 hS (ne_pm bj4.2)) rfl)) ER.sb fun a F => ?_
    refine d_q F rfl rfl rfl (by decide) (fun wq hS => r_fieldAddr F rfl ff_30_1) ER.sb fun a F => ?_
    refine d_q F rfl rfl rfl (by decide) (fun wq hS => r_load F rfl ag_28 (AT.cell (AT.sb zh17 hS (ne_mm (by decide))) rfl)) ER.sb fun a F => ?_
    refine d_q F rfl rfl rfl (by decide) (fun wq hS => r_bytesStr F Try.underlying28 Try.underlying5 Try.underlying9 rfl (SL.sb zh8 hS ne_zm ne_zm)) ER.sb fun a F => ?_
    refine d_f ?_ ?_
    ·replace H := bind_some H
     obtain ⟨t56, q57, H⟩ := H
     refine o_call F rfl (wanted_none rfl) rfl (by decide) (r_call F Try.func38 rfl (by kernel_rfl) rfl) (tree_Tree_Seek.calls (m := m + 7) (Nat.add_pos_left hm0 _) B h52 _ q57) ?_
     rintro e w59 ⟨c58, A62, C63, rfl, E60, B61, h64⟩
     refine ⟨_, rfl, fun a F => ?_⟩
     have B := B61
     replace ER := ER.trans E60 (fun x q => q.elim)
     replace h3 := TB.ev h3 E60 (fun q => q.elim) (fun q => q.elim)
     replace h8 := SL.ev h8 E60 (fun q => q.elim) (fun q => q.elim)
     replace h11 := SL.ev h11 E60 (fun q => q.elim) (fun q => q.elim)
     replace h17 := AT.ev h17 E60 (fun q => q.elim)
     replace h24 := AT.ev h24 E60 (fun q => q.elim)
     replace h52 := TR.ev h52 E60 (fun q => q.elim) (fun q => q.elim)
     replace hat50 := AT.ev hat50 E60 (fun q => q.elim)
     replace E := E.trans E60 (fun x q => q.elim)
     refine ⟨fun _ => ER.sb, ?_⟩
     refine d_q F rfl rfl rfl (by decide) (fun wq hS => r_move F rfl) ER.sb fun a F => ?_
     refine d_q F rfl rfl rfl (by decide) (fun wq hS => r_extract F rfl rfl) ER.sb fun a F => ?_
     refine d_q F rfl rfl rfl (by decide) (fun wq hS => r_extract F rfl rfl) ER.sb fun a F => ?_
     refine d_q F rfl rfl rfl (by decide) (fun wq hS => r_extract F rfl rfl) ER.sb fun a F => ?_
     refine d_e ?_
     refine o_eff F rfl rfl rfl (by decide) (e_alloc F zv_80 c58 (m + 3)) ?_
     rintro v w67 a ⟨c66, qa68, rfl, E69, h70, B71⟩ F
     replace B := B71 _ B (Nat.add_lt_add_left (by decide) m)
     replace ER := ER.trans E69 (fun x q => q.elim)
     replace h3 := TB.ev h3 E69 (fun q => q.elim) (fun q => q.elim)
     replace h8 := SL.ev h8 E69 (fun q => q.elim) (fun q => q.elim)
     replace h11 := SL.ev h11 E69 (fun q => q.elim) (fun q => q.elim)
     replace h17 := AT.ev h17 E69 (fun q => q.elim)
     replace h24 := AT.ev h24 E69 (fun q => q.elim)
     replace h52 := TR.ev h52 E69 (fun q => q.elim) (fun q => q.elim)
     replace hat50 := AT.ev hat50 E69 (fun q => q.elim)
     replace h64 := SL.ev h64 E69 (fun q => q.elim) (fun q => q.elim)
     replace E := E.trans E69 (fun x q => q.elim)
     replace h70 : AT true (m + 3) c66 w67 qa68 [.slice none 0 0, .int .i64 0] := h70
     refine ⟨fun _ => ER.sb, ?_⟩
     refine d_q F rfl rfl rfl (by decide) (fun wq hS => r_assign F rfl) ER.sb fun a F => ?_
     refine d_e ?_
     refine o_eff0 F rfl rfl rfl (e_storeN0 (us := [.slice A62 t56.2.1.value.length C63, .int .i64 t56.2.1.rev]) F rfl rfl sz_80 h70 (Nat.le_of_ble_eq_true rfl) (one_all rfl)) ?_
     rintro w73 a ⟨E74, h70, Z75⟩ F
     replace B := B.size Z75
     replace ER := ER.trans E74 (fun x q => by replace q : x = m + 3 := q; show x = m + 3; omega)
     replace h3 := TB.ev h3 E74 (ne_pm bj4.2) ne_zm
     replace h8 := SL.ev h8 E74 ne_zm ne_zm
     replace h11 := SL.ev h11 E74 ne_zm ne_zm
     replace h17 := AT.ev h17 E74 (ne_mm (by decide))
     replace h24 := AT.ev h24 E74 (ne_mm (by decide))
     replace h52 := TR.ev h52 E74 ne_zm ne_zm
     replace hat50 := AT.ev hat50 E74 (ne_pm bj4.2)
     replace h64 := SL.ev h64 E74 ne_zm ne_zm
     replace E := E.trans E74 (fun x (q : x = m + 3) => Or.inr (le_col q))
     replace h70 : AT true (m + 3) c66 w73 qa68 [.slice A62 t56.2.1.value.length C63, .int .i64 t56.2.1.rev] := h70
     refine ⟨fun _ => ER.sb, ?_⟩
     refine d_q F rfl rfl rfl (by decide) (fun wq hS => r_assign F rfl) ER.sb fun a F => ?_
     refine d_nil ?_
     exact J94 c66 w73 a ad49 t56 qa68 p51 ob46 A62 C63 rfl (F.sub ⟨rfl, rfl, rfl, rfl, rfl, trivial⟩) E B hat50 h24 h70 h52 h64 H
    ·replace H := bind_some H
     obtain ⟨t56, q57, H⟩ := H
     refine o_eff F rfl rfl rfl (by decide) (e_alloc F zv_80 c37 (m + 3)) ?_
     rintro v w77 a ⟨c76, qa68, rfl, E78, h70, B79⟩ F
     replace B := B79 _ B (Nat.add_lt_add_left (by decide) m)
     replace ER := ER.trans E78 (fun x q => q.elim)
     replace h3 := TB.ev h3 E78 (fun q => q.elim) (fun q => q.elim)
     replace h8 := SL.ev h8 E78 (fun q => q.elim) (fun q => q.elim)
     replace h11 := SL.ev h11 E78 (fun q => q.elim) (fun q => q.elim)
     replace h17 := AT.ev h17 E78 (fun q => q.elim)
     replace h24 := AT.ev h24 E78 (fun q => q.elim)
     replace h52 := TR.ev h52 E78 (fun q => q.elim) (fun q => q.elim)
     replace hat50 := AT.ev hat50 E78 (fun q => q.elim)
     replace E := E.trans E78 (fun x q => q.elim)
     replace h70 : AT true (m + 3) c76 w77 qa68 [.slice none 0 0, .int .i64 0] := h70
     refine ⟨fun _ => ER.sb, ?_⟩
     refine d_e ?_
     refine o_call F rfl (wanted_none rfl) rfl (by decide) (r_call F Try.func38 rfl (by kernel_rfl) rfl) (tree_Tree_Seek.calls (m := m + 7) (Nat.add_pos_left hm0 _) B h52 _ q57) ?_
     rintro e w81 ⟨c80, A84, C85, rfl, E82, B83, h86⟩
     refine ⟨_, rfl, fun a F => ?_⟩
     have B := B83
     replace ER := ER.trans E82 (fun x q => q.elim)
     replace h3 := TB.ev h3 E82 (fun q => q.elim) (fun q => q.elim)
     replace h8 := SL.ev h8 E82 (fun q => q.elim) (fun q => q.elim)
     replace h11 := SL.ev h11 E82 (fun q => q.elim) (fun q => q.elim)
     replace h17 := AT.ev h17 E82 (fun q => q.elim)
     replace h24 := AT.ev h24 E82 (fun q => q.elim)
     replace h52 := TR.ev h52 E82 (fun q => q.elim) (fun q => q.elim)
     replace hat50 := AT.ev hat50 E82 (fun q => q.elim)
     replace h70 := AT.ev h70 E82 (fun q => q.elim)
     replace E := E.trans E82 (fun x q => q.elim)
     refine ⟨fun _ => ER.sb, ?_⟩
     refine d_q F rfl rfl rfl (by decide) (fun wq hS => r_move F rfl) ER.sb fun a F => ?_
     refine d_q F rfl rfl rfl (by decide) (fun wq hS => r_extract F rfl rfl) ER.sb fun a F => ?_
     refine d_q F rfl rfl rfl (by decide) (fun wq hS => r_extract F rfl rfl) ER.sb fun a F => ?_
     refine d_q F rfl rfl rfl (by decide) (fun wq hS => r_extract F rfl rfl) ER.sb fun a F => ?_
     refine d_q F rfl rfl rfl (by decide) (fun wq hS => r_assign F rfl) ER.sb fun a F => ?_
     refine d_e ?_
     refine o_eff0 F rfl rfl rfl (e_storeN0 (us := [.slice A84 t56.2.1.value.length C85, .int .i64 t56.2.1.rev]) F rfl rfl sz_80 h70 (Nat.le_of_ble_eq_true rfl) (one_all rfl)) ?_
     rintro w88 a ⟨E89, h70, Z90⟩ F
     replace B := B.size Z90
     replace ER := ER.trans E89 (fun x q => by replace q : x = m + 3 := q; show x = m + 3; omega)
     replace h3 := TB.ev h3 E89 (ne_pm bj4.2) ne_zm
     replace h8 := SL.ev h8 E89 ne_zm ne_zm
     replace h11 := SL.ev h11 E89 ne_zm ne_zm
     replace h17 := AT.ev h17 E89 (ne_mm (by decide))
     replace h24 := AT.ev h24 E89 (ne_mm (by decide))
     replace h52 := TR.ev h52 E89 ne_zm ne_zm
     replace hat50 := AT.ev hat50 E89 (ne_pm bj4.2)
     replace h86 := SL.ev h86 E89 ne_zm ne_zm
     replace E := E.trans E89 (fun x (q : x = m + 3) => Or.inr (le_col q))
     replace h70 : AT true (m + 3) c80 w88 qa68 [.slice A84 t56.2.1.value.length C85, .int .i64 t56.2.1.rev] := h70
     refine ⟨fun _ => ER.sb, ?_⟩
     refine d_q F rfl rfl rfl (by decide) (fun wq hS => r_assign F rfl) ER.sb fun a F => ?_
     refine d_nil ?_
     exact J94 c80 w88 a ad49 t56 qa68 p51 ob46 A84 C85 rfl (F.sub ⟨rfl, rfl, rfl, rfl, rfl, trivial⟩) E B hat50 h24 h70 h52 h86 H
   ·replace H := (if_neg hb44).symm.trans H
    refine wp_cond_false ((F.ev rfl).trans (congrArg Value.bool (decide_eq_false hb44))) ?_
    refine wp_skip ?_
    refine hK27 _ _ ?_
    refine wp_seq_k fun K121 hK121 => ?_
    refine reg ?_
    refine q_val F rfl rfl (by decide) (r_fieldAddr F rfl ff_30_1) fun a F => ?_
    refine q_val F rfl rfl (by decide) (r_load F rfl ag_28 (AT.cell h17 rfl)) fun a F => ?_
    refine q_val F rfl rfl (by decide) (r_bytesStr F Try.underlying28 Try.underlying5 Try.underlying9 rfl h8) fun a F => ?_
    refine q_val F rfl rfl (by decide) (r_assign F rfl) fun a F => ?_
    refine nil ?_
    refine hK121 _ _ ?_
    replace F : Fr a 116 [(0, .pointer p2), (3, .pointer (some qa15)), (4, .pointer (some qa22)), (9, .string (bs a5.Key))] := F.sub ⟨rfl, rfl, rfl, rfl, trivial⟩
    refine wp_seq_k fun K122 hK122 => ?_
    refine reg ?_
    refine q_val F rfl rfl (by decide) (r_move F rfl) fun a F => ?_
    replace H := bind_some H
    obtain ⟨ob123, e124, H⟩ := H
    have z125 := h3
    rw [e124] at z125
    obtain ⟨ad126, p128, rfl, hat127, h129⟩ := TB.some z125
    refine q_val F rfl rfl (by decide) (r_nil F rfl) fun a F => ?_
    refine q_val F rfl rfl (by decide) (r_fieldAddr F rfl ff_82_0) fun a F => ?_
    refine q_val F rfl rfl (by decide) (r_load F rfl ag_77 (AT.cell hat127 rfl)) fun a F => ?_
    refine q_val F rfl rfl (by decide) (r_move F rfl) fun a F => ?_
    replace H := bind_some H
    obtain ⟨t131, q132, H⟩ := H
    refine q_call F rfl rfl (by decide) (r_call F Try.func40 rfl (by kernel_rfl) rfl) (tree_Tree_Get.calls k (m := m + 7) (Nat.add_pos_left hm0 _) B h129 _ q132) ?_
    rintro e w134 ⟨c133, A137, C138, rfl, E135, B136, h139⟩
    refine ⟨_, rfl, fun a F => ?_⟩
    have B := B136
    replace h3 := TB.ev h3 E135 (fun q => q.elim) (fun q => q.elim)
    replace h8 := SL.ev h8 E135 (fun q => q.elim) (fun q => q.elim)
    replace h11 := SL.ev h11 E135 (fun q => q.elim) (fun q => q.elim)
    replace h17 := AT.ev h17 E135 (fun q => q.elim)
    replace h24 := AT.ev h24 E135 (fun q => q.elim)
    replace h129 := TR.ev h129 E135 (fun q => q.elim) (fun q => q.elim)
    replace hat127 := AT.ev hat127 E135 (fun q => q.elim)
    replace E := E.trans E135 (fun x q => q.elim)
    refine q_val F rfl rfl (by decide) (r_move F rfl) fun a F => ?_
    refine q_val F rfl rfl (by decide) (r_extract F rfl rfl) fun a F => ?_
    refine q_val F rfl rfl (by decide) (r_extract F rfl rfl) fun a F => ?_
    refine q_eff F rfl rfl (by decide) (e_alloc F zv_80 c133 (m + 4)) ?_
    rintro v w142 a ⟨c141, qa143, rfl, E144, h145, B146⟩ F
    replace B := B146 _ B (Nat.add_lt_add_left (by decide) m)
    replace h3 := TB.ev h3 E144 (fun q => q.elim) (fun q => q.elim)
    replace h8 := SL.ev h8 E144 (fun q => q.elim) (fun q => q.elim)
    replace h11 := SL.ev h11 E144 (fun q => q.elim) (fun q => q.elim)
    replace h17 := AT.ev h17 E144 (fun q => q.elim)
    replace h24 := AT.ev h24 E144 (fun q => q.elim)
    replace h129 := TR.ev h129 E144 (fun q => q.elim) (fun q => q.elim)
    replace hat127 := AT.ev hat127 E144 (fun q => q.elim)
    replace h139 := SL.ev h139 E144 (fun q => q.elim) (fun q => q.elim)
    replace E := E.trans E144 (fun x q => q.elim)
    replace h145 : AT true (m + 4) c141 w142 qa143 [.slice none 0 0, .int .i64 0] := h145
    refine q_eff0 F rfl rfl (e_storeN0 (us := [.slice A137 t131.1.value.length C138, .int .i64 t131.1.rev]) F rfl rfl sz_80 h145 (Nat.le_of_ble_eq_true rfl) (one_all rfl)) ?_
    rintro w148 a ⟨E149, h145, Z150⟩ F
    replace B := B.size Z150
    replace h3 := TB.ev h3 E149 (ne_pm bj4.2) ne_zm
    replace h8 := SL.ev h8 E149 ne_zm ne_zm
    replace h11 := SL.ev h11 E149 ne_zm ne_zm
    replace h17 := AT.ev h17 E149 (ne_mm (by decide))
    replace h24 := AT.ev h24 E149 (ne_mm (by decide))
    replace h129 := TR.ev h129 E149 ne_zm ne_zm
    replace hat127 := AT.ev hat127 E149 (ne_pm bj4.2)
    replace h139 := SL.ev h139 E149 ne_zm ne_zm
    replace E := E.trans E149 (fun x (q : x = m + 4) => Or.inr (le_col q))
    replace h145 : AT true (m + 4) c141 w148 qa143 [.slice A137 t131.1.value.length C138, .int .i64 t131.1.rev] := h145
    refine q_val F rfl rfl (by decide) (r_assign F rfl) fun a F => ?_
    refine nil ?_
    refine hK122 _ _ ?_
    replace F : Fr a 116 [(0, .pointer (some ad126)), (3, .pointer (some qa15)), (4, .pointer (some qa22)), (9, .string (bs a5.Key)), (10, .pointer (some qa143)), (11, .bool t131.2)] := F.sub ⟨rfl, rfl, rfl, rfl, rfl, rfl, trivial⟩
    refine wp_seq_k fun K151 hK151 => ?_
    refine wp_seq_k fun K152 hK152 => ?_
    refine reg ?_
    refine q_val F rfl rfl (by decide) (r_loads (cs := [.int .i64 a5.Kind, .slice A6 a5.Key.length C7, .slice A9 a5.Value.length C10, .int .i64 a5.Rev]) F rfl ag_30 sz_30 h17) fun a F => ?_
    replace H := bind_some H
    obtain ⟨t153, q154, H⟩ := H
    refine q_call F rfl rfl (by decide) (r_call F Try.func41 rfl (by kernel_rfl) rfl) (table_writes.calls (m := m + 7) (Nat.add_pos_left hm0 _) B h8 h11 _ q154) ?_
    rintro e w156 ⟨c155, rfl, E157, B158⟩
    refine ⟨_, rfl, fun a F => ?_⟩
    have B := B158
    replace h3 := TB.ev h3 E157 (fun q => q.elim) (fun q => q.elim)
    replace h8 := SL.ev h8 E157 (fun q => q.elim) (fun q => q.elim)
    replace h11 := SL.ev h11 E157 (fun q => q.elim) (fun q => q.elim)
    replace h17 := AT.ev h17 E157 (fun q => q.elim)
    replace h24 := AT.ev h24 E157 (fun q => q.elim)
    replace h129 := TR.ev h129 E157 (fun q => q.elim) (fun q => q.elim)
    replace hat127 := AT.ev hat127 E157 (fun q => q.elim)
    replace h139 := SL.ev h139 E157 (fun q => q.elim) (fun q => q.elim)
    replace h145 := AT.ev h145 E157 (fun q => q.elim)
    replace E := E.trans E157 (fun x q => q.elim)
    refine q_val F rfl rfl (by decide) (r_not F rfl) fun a F => ?_
    refine nil ?_
    refine hK152 _ _ ?_
    by_cases hb160 : t153 = true
    ·replace H := (if_pos hb160).symm.trans H
     refine wp_cond_false ((F.ev rfl).trans (congrArg Value.bool (congrArg not hb160))) ?_
     refine wp_skip ?_
     refine hK151 _ _ ?_
     refine wp_seq_k fun K178 hK178 => ?_
     refine wp_seq_k fun K179 hK179 => ?_
     refine reg ?_
     refine q_val F rfl rfl (by decide) (r_move F rfl) fun a F => ?_
     refine q_val F rfl rfl (by decide) (r_nil F rfl) fun a F => ?_
     refine q_val F rfl rfl (by decide) (r_fieldAddr F rfl ff_82_1) fun a F => ?_
     refine q_val F rfl rfl (by decide) (r_load F rfl ag_3 (AT.cell hat127 rfl)) fun a F => ?_
     refine q_val F rfl rfl (by decide) (r_eql F rfl rfl) fun a F => ?_
     refine nil ?_
     refine hK179 _ _ ?_
     by_cases hb180 : ob123.rev = 1099511627776
     ·replace H := (if_pos hb180).symm.trans H
      refine wp_cond_true ((F.ev rfl).trans (congrArg Value.bool (decide_eq_true hb180))) ?_
      refine wp_seq_k fun K181 hK181 => ?_
      refine reg ?_
      refine q_val F rfl rfl (by decide) (r_build (v := .agg #[.bool false, .slice none 0 0, .slice none 0 0, .int .i64 0, .int .i64 0]) F [] (by exact trivial) (fun w => by kernel_rfl)) fun a F => ?_
      refine q_eff0 F rfl rfl (e_storeN0 (us := [.bool false, .slice none 0 0, .slice none 0 0, .int .i64 0, .int .i64 0]) F rfl rfl sz_34 h24 (Nat.le_of_ble_eq_true rfl) (one_all rfl)) ?_
      rintro w182 a ⟨E183, h24, Z184⟩ F
      replace B := B.size Z184
      replace h3 := TB.ev h3 E183 (ne_pm bj4.2) ne_zm
      replace h8 := SL.ev h8 E183 ne_zm ne_zm
      replace h11 := SL.ev h11 E183 ne_zm ne_zm
      replace h17 := AT.ev h17 E183 (ne_mm (by decide))
      replace h129 := TR.ev h129 E183 ne_zm ne_zm
      replace hat127 := AT.ev hat127 E183 (ne_pm bj4.2)
      replace h139 := SL.ev h139 E183 ne_zm ne_zm
      replace h145 := AT.ev h145 E183 (ne_mm (by decide))
      replace E := E.trans E183 (fun x (q : x = m + 2) => Or.inr (le_col q))
      replace h24 : AT true (m + 2) c155 w182 qa22 [.bool false, .slice none 0 0, .slice none 0 0, .int .i64 0, .int .i64 0] := h24
      refine q_val F rfl rfl (by decide) (r_assign F rfl) fun a F => ?_
      refine nil ?_
      refine hK181 _ _ ?_
      replace F : Fr a 116 [(4, .pointer (some qa22)), (5, .int .i64 132)] := F.sub ⟨rfl, rfl, trivial⟩
      refine wp_ret ?_
      refine thenR ?_
      replace H := Option.some.inj H
      subst H
      refine outR2 F rfl ⟨_, rfl, lv_agg (cs := [.bool false, .slice none 0 0, .slice none 0 0, .int .i64 0, .int .i64 0]) ag_34 sz_34 h24⟩ rfl ?_
      exact ⟨fun b_ => (fun x_ => if x_ < m then x_ else 0) (c155 b_), none, 0, none, 0, rfl, E.leave B0 (fun x_ => if x_ < m then x_ else 0) (by intro x_ hx_; show (if x_ < m then x_ else 0) = x_; ((repeat' split) <;> omega)), (fun b_ hb_ => by show (if (c155 b_) < m then (c155 b_) else 0) < m; ((repeat' split) <;> omega)), SL.nil, SL.nil, TB.rc h3 (fun k_ hk_ => by show (if (c155 k_) < m then (c155 k_) else 0) = _; rw [hk_]; ((repeat' split) <;> omega)) (fun k_ hk_ => by show (if (c155 k_) < m then (c155 k_) else 0) = _; rw [hk_]; ((repeat' split) <;> omega))⟩
     ·replace H := (if_neg hb180).symm.trans H
      refine wp_cond_false ((F.ev rfl).trans (congrArg Value.bool (decide_eq_false hb180))) ?_
      refine wp_skip ?_
      refine hK178 _ _ ?_
      replace F : Fr a 116 [(0, .pointer (some ad126)), (3, .pointer (some qa15)), (4, .pointer (some qa22)), (9, .string (bs a5.Key)), (10, .pointer (some qa143)), (11, .bool t131.2)] := F.sub ⟨rfl, rfl, rfl, rfl, rfl, rfl, trivial⟩
      refine wp_seq_k fun K185 hK185 => ?_
      refine reg ?_
      refine q_val F rfl rfl (by decide) (r_move F rfl) fun a F => ?_
      refine q_val F rfl rfl (by decide) (r_nil F rfl) fun a F => ?_
      refine q_val F rfl rfl (by decide) (r_fieldAddr F rfl ff_82_1) fun a F => ?_
      refine q_val F rfl rfl (by decide) (r_load F rfl ag_3 (AT.cell hat127 rfl)) fun a F => ?_
      refine q_val F rfl rfl (by decide) (r_add F rfl rfl) fun a F => ?_
      refine q_val F rfl rfl (by decide) (r_nil F rfl) fun a F => ?_
      refine q_val F rfl rfl (by decide) (r_fieldAddr F rfl ff_82_1) fun a F => ?_
      refine q_eff0 F rfl rfl (e_store F rfl rfl sz_3 hat127 (Nat.le_of_ble_eq_true rfl) rfl) ?_
      rintro w186 a ⟨E187, hat127, Z188⟩ F
      replace B := B.size Z188
      replace h8 := SL.ev h8 E187 (ne_z bj4.1) (ne_z bj4.1)
      replace h11 := SL.ev h11 E187 (ne_z bj4.1) (ne_z bj4.1)
      replace h17 := AT.ev h17 E187 (ne_mp bj4.2)
      replace h24 := AT.ev h24 E187 (ne_mp bj4.2)
      replace h129 := TR.ev h129 E187 (ne_z bj4.1) (ne_z bj4.1)
      replace h139 := SL.ev h139 E187 (ne_z bj4.1) (ne_z bj4.1)
      replace h145 := AT.ev h145 E187 (ne_mp bj4.2)
      replace E := E.trans E187 (fun x (q : x = j4) => Or.inl (q))
      replace hat127 : AT true j4 c155 w186 ad126 [.pointer p128, .int .i64 (IntKind.i64.wrap (ob123.rev + 1)), .int .i64 ob123.size] := hat127
      refine nil ?_
      refine hK185 _ _ ?_
      refine wp_seq_k fun K189 hK189 => ?_
      refine reg ?_
      refine q_val F rfl rfl (by decide) (r_move F rfl) fun a F => ?_
      refine q_val F rfl rfl (by decide) (r_move F rfl) fun a F => ?_
      refine q_val F rfl rfl (by decide) (r_loads (cs := [.slice A137 t131.1.value.length C138, .int .i64 t131.1.rev]) F rfl ag_80 sz_80 h145) fun a F => ?_
      refine q_val F rfl rfl (by decide) (r_move F rfl) fun a F => ?_
      have h190 : TB j4 c155 w186 (some ad126) (some (Tab.mk ob123.rows (IntKind.i64.wrap (ob123.rev + 1)) ob123.size)) := TB.mk hat127 h129
      replace H := bind_some H
      obtain ⟨t191, q192, H⟩ := H
      refine q_call F rfl rfl (by decide) (r_call F Try.func39 rfl (by kernel_rfl) rfl) (table_Table_told.calls (m := m + 7) (Nat.add_pos_left hm0 _) B h190 h139 (Nat.lt_add_right _ bj4.2) _ q192) ?_
      rintro e w194 ⟨c193, A197, C198, A200, C201, rfl, E195, B196, h199, h202⟩
      refine ⟨_, rfl, fun a F => ?_⟩
      have B := B196
      replace h8 := SL.ev h8 E195 (fun q => q.elim) (fun q => q.elim)
      replace h11 := SL.ev h11 E195 (fun q => q.elim) (fun q => q.elim)
      replace h17 := AT.ev h17 E195 (fun q => q.elim)
      replace h24 := AT.ev h24 E195 (fun q => q.elim)
      replace h129 := TR.ev h129 E195 (fun q => q.elim) (fun q => q.elim)
      replace hat127 := AT.ev hat127 E195 (fun q => q.elim)
      replace h139 := SL.ev h139 E195 (fun q => q.elim) (fun q => q.elim)
      replace h145 := AT.ev h145 E195 (fun q => q.elim)
      replace h190 := TB.ev h190 E195 (fun q => q.elim) (fun q => q.elim)
      replace E := E.trans E195 (fun x q => q.elim)
      refine q_eff F rfl rfl (by decide) (e_alloc F zv_34 c193 (m + 5)) ?_
      rintro v w205 a ⟨c204, qa206, rfl, E207, h208, B209⟩ F
      replace B := B209 _ B (Nat.add_lt_add_left (by decide) m)
      replace h8 := SL.ev h8 E207 (fun q => q.elim) (fun q => q.elim)
      replace h11 := SL.ev h11 E207 (fun q => q.elim) (fun q => q.elim)
      replace h17 := AT.ev h17 E207 (fun q => q.elim)
      replace h24 := AT.ev h24 E207 (fun q => q.elim)
      replace h129 := TR.ev h129 E207 (fun q => q.elim) (fun q => q.elim)
      replace hat127 := AT.ev hat127 E207 (fun q => q.elim)
      replace h139 := SL.ev h139 E207 (fun q => q.elim) (fun q => q.elim)
      replace h145 := AT.ev h145 E207 (fun q => q.elim)
      replace h190 := TB.ev h190 E207 (fun q => q.elim) (fun q => q.elim)
      replace h199 := SL.ev h199 E207 (fun q => q.elim) (fun q => q.elim)
      replace h202 := SL.ev h202 E207 (fun q => q.elim) (fun q => q.elim)
      replace E := E.trans E207 (fun x q => q.elim)
      replace h208 : AT true (m + 5) c204 w205 qa206 [.bool false, .slice none 0 0, .slice none 0 0, .int .i64 0, .int .i64 0] := h208
      refine q_eff0 F rfl rfl (e_storeN0 (us := [.bool t191.Done, .slice A197 t191.Key.length C198, .slice A200 t191.Value.length C201, .int .i64 t191.Rev, .int .i64 t191.At]) F rfl rfl sz_34 h208 (Nat.le_of_ble_eq_true rfl) (one_all rfl)) ?_
      rintro w211 a ⟨E212, h208, Z213⟩ F
      replace B := B.size Z213
      replace h8 := SL.ev h8 E212 ne_zm ne_zm
      replace h11 := SL.ev h11 E212 ne_zm ne_zm
      replace h17 := AT.ev h17 E212 (ne_mm (by decide))
      replace h24 := AT.ev h24 E212 (ne_mm (by decide))
      replace h129 := TR.ev h129 E212 ne_zm ne_zm
      replace hat127 := AT.ev hat127 E212 (ne_pm bj4.2)
      replace h139 := SL.ev h139 E212 ne_zm ne_zm
      replace h145 := AT.ev h145 E212 (ne_mm (by decide))
      replace h190 := TB.ev h190 E212 (ne_pm bj4.2) ne_zm
      replace h199 := SL.ev h199 E212 ne_zm ne_zm
      replace h202 := SL.ev h202 E212 ne_zm ne_zm
      replace E := E.trans E212 (fun x (q : x = m + 5) => Or.inr (le_col q))
      replace h208 : AT true (m + 5) c204 w211 qa206 [.bool t191.Done, .slice A197 t191.Key.length C198, .slice A200 t191.Value.length C201, .int .i64 t191.Rev, .int .i64 t191.At] := h208
      refine nil ?_
      refine hK189 _ _ ?_
      replace F : Fr a 116 [(0, .pointer (some ad126)), (3, .pointer (some qa15)), (4, .pointer (some qa22)), (9, .string (bs a5.Key)), (10, .pointer (some qa143)), (12, .pointer (some qa206))] := F.sub ⟨rfl, rfl, rfl, rfl, rfl, rfl, trivial⟩
      refine wp_seq_k fun K214 hK214 => ?_
      refine wp_seq_k fun K215 hK215 => ?_
      have J256 : ∀ (c257 : Nat → Nat) (w258 : World) (a : Act) (qa230 : Addr) (t218 : List Int) (A253 : Option Addr) (C254 : Nat), Fr a 116 [(0, .pointer (some ad126)), (3, .pointer (some qa15)), (4, .pointer (some qa22)), (9, .string (bs a5.Key)), (10, .pointer (some qa143)), (12, .pointer (some qa206)), (13, .pointer (some qa230))] → Ev (fun x => (x = j4) ∨ m ≤ x) c0 w0 c257 w258 → CB (m + 7) c257 w258 → AT true j4 c257 w258 ad126 [.pointer p128, .int .i64 (IntKind.i64.wrap (ob123.rev + 1)), .int .i64 ob123.size] → AT true (m + 1) c257 w258 qa15 [.int .i64 a5.Kind, .slice A6 a5.Key.length C7, .slice A9 a5.Value.length C10, .int .i64 a5.Rev] → AT true (m + 2) c257 w258 qa22 [.bool false, .slice none 0 0, .slice none 0 0, .int .i64 0, .int .i64 0] → AT true (m + 4) c257 w258 qa143 [.slice A137 t131.1.value.length C138, .int .i64 t131.1.rev] → AT true (m + 5) c257 w258 qa206 [.bool t191.Done, .slice A197 t191.Key.length C198, .slice A200 t191.Value.length C201, .int .i64 t191.Rev, .int .i64 t191.At] → AT true (m + 6) c257 w258 qa230 [.slice A253 t218.length C254, .int .i64 (IntKind.i64.wrap (ob123.rev + 1))] → TR 0 c257 w258 p128 ob123.rows → SL false (Kint .u8) 0 0 c257 w258 A6 C7 a5.Key → SL false (Kint .u8) 0 0 c257 w258 A9 C10 a5.Value → SL false (Kint .u8) 0 0 c257 w258 A137 C138 t131.1.value → SL false (Kint .u8) 0 0 c257 w258 A197 C198 t191.Key → SL false (Kint .u8) 0 0 c257 w258 A200 C201 t191.Value → SL true (Kint .u8) 0 0 c257 w258 A253 C254 t218 → table_Table_Do.j2 k a5 ob123 t131 t191 t218 = some r → K215 a w258 := by
       intro c257 w258 a qa230 t218 A253 C254 F E B hat127 h17 h24 h145 h208 h232 h129 h8 h11 h139 h199 h202 h255 H
       unfold table_Table_Do.j2 at H
       refine hK215 _ _ ?_
       refine wp_block ?_
       refine wp_seq_k fun K259 hK259 => ?_
       refine reg ?_
       refine q_val F rfl rfl (by decide) (r_fieldAddr F rfl ff_30_0) fun a F => ?_
       refine q_val F rfl rfl (by decide) (r_load F rfl ag_3 (AT.cell h17 rfl)) fun a F => ?_
       refine q_val F rfl rfl (by decide) (r_eql F rfl rfl) fun a F => ?_
       refine q_val F rfl rfl (by decide) (r_assign F rfl) fun a F => ?_
       refine nil ?_
       refine hK259 _ _ ?_
       by_cases hb260 : a5.Kind = 3
       ·replace H := (if_pos hb260).symm.trans H
        refine wp_cond_true ((F.ev rfl).trans (congrArg Value.bool (decide_eq_true hb260))) ?_
        refine reg ?_
        refine q_val F rfl rfl (by decide) (r_move F rfl) fun a F => ?_
        refine q_val F rfl rfl (by decide) (r_move F rfl) fun a F => ?_
        refine q_val F rfl rfl (by decide) (r_loads (cs := [.slice A253 t218.length C254, .int .i64 (IntKind.i64.wrap (ob123.rev + 1))]) F rfl ag_80 sz_80 h232) fun a F => ?_
        have h261 : TB j4 c257 w258 (some ad126) (some (Tab.mk ob123.rows (IntKind.i64.wrap (ob123.rev + 1)) ob123.size)) := TB.mk hat127 h129
        replace H := bind_some H
        obtain ⟨t262, q263, H⟩ := H
        refine q_call F rfl rfl (by decide) (r_call F Try.func43 rfl (by kernel_rfl) rfl) (table_Table_set.calls k (m := m + 7) (a6 := table_cell.mk t218 (IntKind.i64.wrap (ob123.rev + 1))) (Nat.add_pos_left hm0 _) B h261 h255.r ⟨bj4.1, (Nat.lt_add_right _ bj4.2)⟩ _ q263) ?_
        rintro e w265 ⟨c264, rfl, E266, B267, h268⟩
        refine ⟨_, rfl, fun a F => ?_⟩
        have B := B267
        replace h17 := AT.ev h17 E266 (ne_mp bj4.2)
        replace h24 := AT.ev h24 E266 (ne_mp bj4.2)
        replace h145 := AT.ev h145 E266 (ne_mp bj4.2)
        replace h208 := AT.ev h208 E266 (ne_mp bj4.2)
        replace h232 := AT.ev h232 E266 (ne_mp bj4.2)
        replace h129 := TR.ev h129 E266 (ne_z bj4.1) (ne_z bj4.1)
        replace h8 := SL.ev h8 E266 (ne_z bj4.1) (ne_z bj4.1)
        replace h11 := SL.ev h11 E266 (ne_z bj4.1) (ne_z bj4.1)
        replace h139 := SL.ev h139 E266 (ne_z bj4.1) (ne_z bj4.1)
        replace h199 := SL.ev h199 E266 (ne_z bj4.1) (ne_z bj4.1)
        replace h202 := SL.ev h202 E266 (ne_z bj4.1) (ne_z bj4.1)
        replace h255 := SL.ev h255 E266 (ne_z bj4.1) (ne_z bj4.1)
        replace E := E.trans E266 (fun x (q : x = j4) => Or.inl (q))
        refine nil ?_
        refine hK214 _ _ ?_
        replace F : Fr a 116 [(4, .pointer (some qa22)), (12, .pointer (some qa206))] := F.sub ⟨rfl, rfl, trivial⟩
        refine wp_seq_k fun K293 hK293 => ?_
        refine reg ?_
        refine q_val F rfl rfl (by decide) (r_loads (cs := [.bool t191.Done, .slice A197 t191.Key.length C198, .slice A200 t191.Value.length C201, .int .i64 t191.Rev, .int .i64 t191.At]) F rfl ag_34 sz_34 h208) fun a F => ?_
        refine q_eff0 F rfl rfl (e_storeN0 (us := [.bool t191.Done, .slice A197 t191.Key.length C198, .slice A200 t191.Value.length C201, .int .i64 t191.Rev, .int .i64 t191.At]) F rfl rfl sz_34 h24 (Nat.le_of_ble_eq_true rfl) (one_all rfl)) ?_
        rintro w294 a ⟨E295, h24, Z296⟩ F
        replace B := B.size Z296
        replace h17 := AT.ev h17 E295 (ne_mm (by decide))
        replace h145 := AT.ev h145 E295 (ne_mm (by decide))
        replace h208 := AT.ev h208 E295 (ne_mm (by decide))
        replace h232 := AT.ev h232 E295 (ne_mm (by decide))
        replace h129 := TR.ev h129 E295 ne_zm ne_zm
        replace h8 := SL.ev h8 E295 ne_zm ne_zm
        replace h11 := SL.ev h11 E295 ne_zm ne_zm
        replace h139 := SL.ev h139 E295 ne_zm ne_zm
        replace h199 := SL.ev h199 E295 ne_zm ne_zm
        replace h202 := SL.ev h202 E295 ne_zm ne_zm
        replace h255 := SL.ev h255 E295 ne_zm ne_zm
        replace h268 := TB.ev h268 E295 (ne_pm bj4.2) ne_zm
        replace E := E.trans E295 (fun x (q : x = m + 2) => Or.inr (le_col q))
        replace h24 : AT true (m + 2) c264 w294 qa22 [.bool t191.Done, .slice A197 t191.Key.length C198, .slice A200 t191.Value.length C201, .int .i64 t191.Rev, .int .i64 t191.At] := h24
        refine q_val F rfl rfl (by decide) (r_assign F rfl) fun a F => ?_
        refine nil ?_
        refine hK293 _ _ ?_
        refine wp_ret ?_
        replace H := Option.some.inj H
        subst H
        refine outR2 F rfl ⟨_, rfl, lv_agg (cs := [.bool t191.Done, .slice A197 t191.Key.length C198, .slice A200 t191.Value.length C201, .int .i64 t191.Rev, .int .i64 t191.At]) ag_34 sz_34 h24⟩ rfl ?_
        exact ⟨fun b_ => (fun x_ => if x_ < m then x_ else 0) (c264 b_), A197, C198, A200, C201, rfl, E.leave B0 (fun x_ => if x_ < m then x_ else 0) (by intro x_ hx_; show (if x_ < m then x_ else 0) = x_; ((repeat' split) <;> omega)), (fun b_ hb_ => by show (if (c264 b_) < m then (c264 b_) else 0) < m; ((repeat' split) <;> omega)), SL.rc h199 (fun k_ hk_ => by show (if (c264 k_) < m then (c264 k_) else 0) = _; rw [hk_]; ((repeat' split) <;> omega)) (fun k_ hk_ => by show (if (c264 k_) < m then (c264 k_) else 0) = _; rw [hk_]; ((repeat' split) <;> omega)), SL.rc h202 (fun k_ hk_ => by show (if (c264 k_) < m then (c264 k_) else 0) = _; rw [hk_]; ((repeat' split) <;> omega)) (fun k_ hk_ => by show (if (c264 k_) < m then (c264 k_) else 0) = _; rw [hk_]; ((repeat' split) <;> omega)), TB.rc h268 (fun k_ hk_ => by show (if (c264 k_) < m then (c264 k_) else 0) = _; rw [hk_]; ((repeat' split) <;> omega)) (fun k_ hk_ => by show (if (c264 k_) < m then (c264 k_) else 0) = _; rw [hk_]; ((repeat' split) <;> omega))⟩
       ·replace H := (if_neg hb260).symm.trans H
        refine wp_cond_false ((F.ev rfl).trans (congrArg Value.bool (decide_eq_false hb260))) ?_
        refine wp_seq_k fun K270 hK270 => ?_
        have J273 : ∀ (c274 : Nat → Nat) (w275 : World) (a : Act) (b272 : Bool), Fr a 116 [(0, .pointer (some ad126)), (4, .pointer (some qa22)), (9, .string (bs a5.Key)), (12, .pointer (some qa206)), (13, .pointer (some qa230)), (99, .bool b272)] → Ev (fun x => (x = j4) ∨ m ≤ x) c0 w0 c274 w275 → CB (m + 7) c274 w275 → AT true j4 c274 w275 ad126 [.pointer p128, .int .i64 (IntKind.i64.wrap (ob123.rev + 1)), .int .i64 ob123.size] → AT true (m + 2) c274 w275 qa22 [.bool false, .slice none 0 0, .slice none 0 0, .int .i64 0, .int .i64 0] → AT true (m + 5) c274 w275 qa206 [.bool t191.Done, .slice A197 t191.Key.length C198, .slice A200 t191.Value.length C201, .int .i64 t191.Rev, .int .i64 t191.At] → AT true (m + 6) c274 w275 qa230 [.slice A253 t218.length C254, .int .i64 (IntKind.i64.wrap (ob123.rev + 1))] → TR 0 c274 w275 p128 ob123.rows → SL false (Kint .u8) 0 0 c274 w275 A197 C198 t191.Key → SL false (Kint .u8) 0 0 c274 w275 A200 C201 t191.Value → SL true (Kint .u8) 0 0 c274 w275 A253 C254 t218 → table_Table_Do.j3 k a5 ob123 t191 t218 b272 = some r → K270 a w275 := by
         intro c274 w275 a b272 F E B hat127 h24 h208 h232 h129 h199 h202 h255 H
         unfold table_Table_Do.j3 at H
         refine hK270 _ _ ?_
         by_cases hb276 : b272 = true
         ·replace H := (if_pos hb276).symm.trans H
          refine wp_cond_true ((F.ev rfl).trans (congrArg Value.bool hb276)) ?_
          refine wp_seq_k fun K277 hK277 => ?_
          refine reg ?_
          refine q_val F rfl rfl (by decide) (r_fieldAddr F rfl ff_34_0) fun a F => ?_
          refine q_eff0 F rfl rfl (e_store F rfl rfl sz_4 h208 (Nat.le_of_ble_eq_true rfl) rfl) ?_
          rintro w278 a ⟨E279, h208, Z280⟩ F
          replace B := B.size Z280
          replace hat127 := AT.ev hat127 E279 (ne_pm bj4.2)
          replace h24 := AT.ev h24 E279 (ne_mm (by decide))
          replace h232 := AT.ev h232 E279 (ne_mm (by decide))
          replace h129 := TR.ev h129 E279 ne_zm ne_zm
          replace h199 := SL.ev h199 E279 ne_zm ne_zm
          replace h202 := SL.ev h202 E279 ne_zm ne_zm
          replace h255 := SL.ev h255 E279 ne_zm ne_zm
          replace E := E.trans E279 (fun x (q : x = m + 5) => Or.inr (le_col q))
          replace h208 : AT true (m + 5) c274 w278 qa206 [.bool true, .slice A197 t191.Key.length C198, .slice A200 t191.Value.length C201, .int .i64 t191.Rev, .int .i64 t191.At] := h208
          refine nil ?_
          refine hK277 _ _ ?_
          refine reg ?_
          refine q_val F rfl rfl (by decide) (r_move F rfl) fun a F => ?_
          refine q_val F rfl rfl (by decide) (r_move F rfl) fun a F => ?_
          refine q_val F rfl rfl (by decide) (r_loads (cs := [.slice A253 t218.length C254, .int .i64 (IntKind.i64.wrap (ob123.rev + 1))]) F rfl ag_80 sz_80 h232) fun a F => ?_
          have h281 : TB j4 c274 w278 (some ad126) (some (Tab.mk ob123.rows (IntKind.i64.wrap (ob123.rev + 1)) ob123.size)) := TB.mk hat127 h129
          replace H := bind_some H
          obtain ⟨t282, q283, H⟩ := H
          refine q_call F rfl rfl (by decide) (r_call F Try.func43 rfl (by kernel_rfl) rfl) (table_Table_set.calls k (m := m + 7) (a6 := table_cell.mk t218 (IntKind.i64.wrap (ob123.rev + 1))) (Nat.add_pos_left hm0 _) B h281 h255.r ⟨bj4.1, (Nat.lt_add_right _ bj4.2)⟩ _ q283) ?_
          rintro e w285 ⟨c284, rfl, E286, B287, h288⟩
          refine ⟨_, rfl, fun a F => ?_⟩
          have B := B287
          replace h24 := AT.ev h24 E286 (ne_mp bj4.2)
          replace h208 := AT.ev h208 E286 (ne_mp bj4.2)
          replace h232 := AT.ev h232 E286 (ne_mp bj4.2)
          replace h129 := TR.ev h129 E286 (ne_z bj4.1) (ne_z bj4.1)
          replace h199 := SL.ev h199 E286 (ne_z bj4.1) (ne_z bj4.1)
          replace h202 := SL.ev h202 E286 (ne_z bj4.1) (ne_z bj4.1)
          replace h255 := SL.ev h255 E286 (ne_z bj4.1) (ne_z bj4.1)
          replace E := E.trans E286 (fun x (q : x = j4) => Or.inl (q))
          refine nil ?_
          refine hK214 _ _ ?_
          replace F : Fr a 116 [(4, .pointer (some qa22)), (12, .pointer (some qa206))] := F.sub ⟨rfl, rfl, trivial⟩
          refine wp_seq_k fun K297 hK297 => ?_
          refine reg ?_
          refine q_val F rfl rfl (by decide) (r_loads (cs := [.bool true, .slice A197 t191.Key.length C198, .slice A200 t191.Value.length C201, .int .i64 t191.Rev, .int .i64 t191.At]) F rfl ag_34 sz_34 h208) fun a F => ?_
          refine q_eff0 F rfl rfl (e_storeN0 (us := [.bool true, .slice A197 t191.Key.length C198, .slice A200 t191.Value.length C201, .int .i64 t191.Rev, .int .i64 t191.At]) F rfl rfl sz_34 h24 (Nat.le_of_ble_eq_true rfl) (one_all rfl)) ?_
          rintro w298 a ⟨E299, h24, Z300⟩ F
          replace B := B.size Z300
          replace h208 := AT.ev h208 E299 (ne_mm (by decide))
          replace h232 := AT.ev h232 E299 (ne_mm (by decide))
          replace h129 := TR.ev h129 E299 ne_zm ne_zm
          replace h199 := SL.ev h199 E299 ne_zm ne_zm
          replace h202 := SL.ev h202 E299 ne_zm ne_zm
          replace h255 := SL.ev h255 E299 ne_zm ne_zm
          replace h288 := TB.ev h288 E299 (ne_pm bj4.2) ne_zm
          replace E := E.trans E299 (fun x (q : x = m + 2) => Or.inr (le_col q))
          replace h24 : AT true (m + 2) c284 w298 qa22 [.bool true, .slice A197 t191.Key.length C198, .slice A200 t191.Value.length C201, .int .i64 t191.Rev, .int .i64 t191.At] := h24
          refine q_val F rfl rfl (by decide) (r_assign F rfl) fun a F => ?_
          refine nil ?_
          refine hK297 _ _ ?_
          refine wp_ret ?_
          replace H := Option.some.inj H
          subst H
          refine outR2 F rfl ⟨_, rfl, lv_agg (cs := [.bool true, .slice A197 t191.Key.length C198, .slice A200 t191.Value.length C201, .int .i64 t191.Rev, .int .i64 t191.At]) ag_34 sz_34 h24⟩ rfl ?_
          exact ⟨fun b_ => (fun x_ => if x_ < m then x_ else 0) (c284 b_), A197, C198, A200, C201, rfl, E.leave B0 (fun x_ => if x_ < m then x_ else 0) (by intro x_ hx_; show (if x_ < m then x_ else 0) = x_; ((repeat' split) <;> omega)), (fun b_ hb_ => by show (if (c284 b_) < m then (c284 b_) else 0) < m; ((repeat' split) <;> omega)), SL.rc h199 (fun k_ hk_ => by show (if (c284 k_) < m then (c284 k_) else 0) = _; rw [hk_]; ((repeat' split) <;> omega)) (fun k_ hk_ => by show (if (c284 k_) < m then (c284 k_) else 0) = _; rw [hk_]; ((repeat' split) <;> omega)), SL.rc h202 (fun k_ hk_ => by show (if (c284 k_) < m then (c284 k_) else 0) = _; rw [hk_]; ((repeat' split) <;> omega)) (fun k_ hk_ => by show (if (c284 k_) < m then (c284 k_) else 0) = _; rw [hk_]; ((repeat' split) <;> omega)), TB.rc h288 (fun k_ hk_ => by show (if (c284 k_) < m then (c284 k_) else 0) = _; rw [hk_]; ((repeat' split) <;> omega)) (fun k_ hk_ => by show (if (c284 k_) < m then (c284 k_) else 0) = _; rw [hk_]; ((repeat' split) <;> omega))⟩
         ·replace H := (if_neg hb276).symm.trans H
          refine wp_cond_false ((F.ev rfl).trans (congrArg Value.bool (bfalse hb276))) ?_
          refine reg ?_
          refine q_val F rfl rfl (by decide) (r_fieldAddr F rfl ff_34_0) fun a F => ?_
          refine q_eff0 F rfl rfl (e_store F rfl rfl sz_4 h208 (Nat.le_of_ble_eq_true rfl) rfl) ?_
          rintro w290 a ⟨E291, h208, Z292⟩ F
          replace B := B.size Z292
          replace hat127 := AT.ev hat127 E291 (ne_pm bj4.2)
          replace h24 := AT.ev h24 E291 (ne_mm (by decide))
          replace h232 := AT.ev h232 E291 (ne_mm (by decide))
          replace h129 := TR.ev h129 E291 ne_zm ne_zm
          replace h199 := SL.ev h199 E291 ne_zm ne_zm
          replace h202 := SL.ev h202 E291 ne_zm ne_zm
          replace h255 := SL.ev h255 E291 ne_zm ne_zm
          replace E := E.trans E291 (fun x (q : x = m + 5) => Or.inr (le_col q))
          replace h208 : AT true (m + 5) c274 w290 qa206 [.bool false, .slice A197 t191.Key.length C198, .slice A200 t191.Value.length C201, .int .i64 t191.Rev, .int .i64 t191.At] := h208
          refine nil ?_
          refine hK214 _ _ ?_
          refine wp_seq_k fun K301 hK301 => ?_
          refine reg ?_
          refine q_val F rfl rfl (by decide) (r_loads (cs := [.bool false, .slice A197 t191.Key.length C198, .slice A200 t191.Value.length C201, .int .i64 t191.Rev, .int .i64 t191.At]) F rfl ag_34 sz_34 h208) fun a F => ?_
          refine q_eff0 F rfl rfl (e_storeN0 (us := [.bool false, .slice A197 t191.Key.length C198, .slice A200 t191.Value.length C201, .int .i64 t191.Rev, .int .i64 t191.At]) F rfl rfl sz_34 h24 (Nat.le_of_ble_eq_true rfl) (one_all rfl)) ?_
          rintro w302 a ⟨E303, h24, Z304⟩ F
          replace B := B.size Z304
          replace hat127 := AT.ev hat127 E303 (ne_pm bj4.2)
          replace h208 := AT.ev h208 E303 (ne_mm (by decide))
          replace h232 := AT.ev h232 E303 (ne_mm (by decide))
          replace h129 := TR.ev h129 E303 ne_zm ne_zm
          replace h199 := SL.ev h199 E303 ne_zm ne_zm
          replace h202 := SL.ev h202 E303 ne_zm ne_zm
          replace h255 := SL.ev h255 E303 ne_zm ne_zm
          replace E := E.trans E303 (fun x (q : x = m + 2) => Or.inr (le_col q))
          replace h24 : AT true (m + 2) c274 w302 qa22 [.bool false, .slice A197 t191.Key.length C198, .slice A200 t191.Value.length C201, .int .i64 t191.Rev, .int .i64 t191.At] := h24
          refine q_val F rfl rfl (by decide) (r_assign F rfl) fun a F => ?_
          refine nil ?_
          refine hK301 _ _ ?_
          refine wp_ret ?_
          have h305 : TB j4 c274 w302 (some ad126) (some (Tab.mk ob123.rows (IntKind.i64.wrap (ob123.rev + 1)) ob123.size)) := TB.mk hat127 h129
          replace H := Option.some.inj H
          subst H
          refine outR2 F rfl ⟨_, rfl, lv_agg (cs := [.bool false, .slice A197 t191.Key.length C198, .slice A200 t191.Value.length C201, .int .i64 t191.Rev, .int .i64 t191.At]) ag_34 sz_34 h24⟩ rfl ?_
          exact ⟨fun b_ => (fun x_ => if x_ < m then x_ else 0) (c274 b_), A197, C198, A200, C201, rfl, E.leave B0 (fun x_ => if x_ < m then x_ else 0) (by intro x_ hx_; show (if x_ < m then x_ else 0) = x_; ((repeat' split) <;> omega)), (fun b_ hb_ => by show (if (c274 b_) < m then (c274 b_) else 0) < m; ((repeat' split) <;> omega)), SL.rc h199 (fun k_ hk_ => by show (if (c274 k_) < m then (c274 k_) else 0) = _; rw [hk_]; ((repeat' split) <;> omega)) (fun k_ hk_ => by show (if (c274 k_) < m then (c274 k_) else 0) = _; rw [hk_]; ((repeat' split) <;> omega)), SL.rc h202 (fun k_ hk_ => by show (if (c274 k_) < m then (c274 k_) else 0) = _; rw [hk_]; ((repeat' split) <;> omega)) (fun k_ hk_ => by show (if (c274 k_) < m then (c274 k_) else 0) = _; rw [hk_]; ((repeat' split) <;> omega)), TB.rc h305 (fun k_ hk_ => by show (if (c274 k_) < m then (c274 k_) else 0) = _; rw [hk_]; ((repeat' split) <;> omega)) (fun k_ hk_ => by show (if (c274 k_) < m then (c274 k_) else 0) = _; rw [hk_]; ((repeat' split) <;> omega))⟩
        refine reg ?_
        refine q_val F rfl rfl (by decide) (r_fieldAddr F rfl ff_30_0) fun a F => ?_
        refine q_val F rfl rfl (by decide) (r_load F rfl ag_3 (AT.cell h17 rfl)) fun a F => ?_
        refine q_val F rfl rfl (by decide) (r_eql F rfl rfl) fun a F => ?_
        refine q_val F rfl rfl (by decide) (r_move F rfl) fun a F => ?_
        by_cases hb271 : a5.Kind = 2
        ·replace H := (if_pos hb271).symm.trans H
         refine q_no F rfl (by decide) rfl (decide_eq_true hb271) (by decide) fun a F => ?_
         refine q_no F rfl (by decide) rfl (decide_eq_true hb271) (by decide) fun a F => ?_
         refine q_no F rfl (by decide) rfl (decide_eq_true hb271) (by decide) fun a F => ?_
         refine q_no F rfl (by decide) rfl (decide_eq_true hb271) (by decide) fun a F => ?_
         refine q_no F rfl (by decide) rfl (decide_eq_true hb271) (by decide) fun a F => ?_
         refine q_val F rfl rfl (by decide) (r_pick_t F rfl (decide_eq_true hb271) rfl) fun a F => ?_
         refine q_val F rfl rfl (by decide) (r_assign F rfl) fun a F => ?_
         refine nil ?_
         exact J273 c257 w258 a true (F.sub ⟨rfl, rfl, rfl, rfl, rfl, rfl, trivial⟩) E B hat127 h24 h208 h232 h129 h199 h202 h255 H
        ·replace H := (if_neg hb271).symm.trans H
         refine q_yes F rfl (by decide) rfl (decide_eq_false hb271) ?_
         refine q_val F rfl rfl (by decide) (r_fieldAddr F rfl ff_80_1) fun a F => ?_
         refine q_yes F rfl (by decide) rfl (decide_eq_false hb271) ?_
         refine q_val F rfl rfl (by decide) (r_load F rfl ag_3 (AT.cell h145 rfl)) fun a F => ?_
         refine q_yes F rfl (by decide) rfl (decide_eq_false hb271) ?_
         refine q_val F rfl rfl (by decide) (r_fieldAddr F rfl ff_30_3) fun a F => ?_
         refine q_yes F rfl (by decide) rfl (decide_eq_false hb271) ?_
         refine q_val F rfl rfl (by decide) (r_load F rfl ag_3 (AT.cell h17 rfl)) fun a F => ?_
         refine q_yes F rfl (by decide) rfl (decide_eq_false hb271) ?_
         refine q_val F rfl rfl (by decide) (r_eql F rfl rfl) fun a F => ?_
         refine q_val F rfl rfl (by decide) (r_pick_f F rfl (decide_eq_false hb271) rfl) fun a F => ?_
         refine q_val F rfl rfl (by decide) (r_assign F rfl) fun a F => ?_
         refine nil ?_
         exact J273 c257 w258 a (decide (t131.1.rev = a5.Rev)) (F.sub ⟨rfl, rfl, rfl, rfl, rfl, rfl, trivial⟩) E B hat127 h24 h208 h232 h129 h199 h202 h255 H
      refine regD (SB No c204 w211) 9 (.q 0 (.q 1 (.q 3 (.q 4 (.q 5 (.q 6 (.f 2 (.q 7 (.e 8 (.e 9 .nil))) 8 (.e 2 (.q 7 (.e 9 .nil)))))))))) Try_hm (by decide +kernel) ?_
      intro w216 w1_ w2_ w3_ w4_
      have E217 : Ev No c204 w211 c204 w216 := Ev.same w1_ w2_ w3_ w4_
      replace B := B.same w1_
      have zh8 := h8
      have zh11 := h11
      have zh17 := h17
      have zh24 := h24
      have zh129 := h129
      have zhat127 := hat127
      have zh139 := h139
      have zh145 := h145
      have zh190 := h190
      have zh199 := h199
      have zh202 := h202
      have zh208 := h208
      have ER : Ev No c204 w211 c204 w216 := Ev.same w1_ w2_ w3_ w4_
      replace h8 := SL.ev h8 E217 (fun q => q.elim) (fun q => q.elim)
      replace h11 := SL.ev h11 E217 (fun q => q.elim) (fun q => q.elim)
      replace h17 := AT.ev h17 E217 (fun q => q.elim)
      replace h24 := AT.ev h24 E217 (fun q => q.elim)
      replace h129 := TR.ev h129 E217 (fun q => q.elim) (fun q => q.elim)
      replace hat127 := AT.ev hat127 E217 (fun q => q.elim)
      replace h139 := SL.ev h139 E217 (fun q => q.elim) (fun q => q.elim)
      replace h145 := AT.ev h145 E217 (fun q => q.elim)
      replace h190 := TB.ev h190 E217 (fun q => q.elim) (fun q => q.elim)
      replace h199 := SL.ev h199 E217 (fun q => q.elim) (fun q => q.elim)
      replace h202 := SL.ev h202 E217 (fun q => q.elim) (fun q => q.elim)
      replace h208 := AT.ev h208 E217 (fun q => q.elim)
      replace E := E.trans E217 (fun x q => q.elim)
      refine d_q F rfl rfl rfl (by decide) (fun wq hS => r_fieldAddr F rfl ff_30_2) ER.sb fun a F => ?_
      refine d_q F rfl rfl rfl (by decide) (fun wq hS => r_load F rfl ag_28 (AT.cell (AT.sb zh17 hS (fun q => q.elim)) rfl)) ER.sb fun a F => ?_
      refine d_q F rfl rfl rfl (by decide) (fun wq hS => r_move F rfl) ER.sb fun a F => ?_
      refine d_q F rfl rfl rfl (by decide) (fun wq hS => r_nil F rfl) ER.sb fun a F => ?_
      refine d_q F rfl rfl rfl (by decide) (fun wq hS => r_fieldAddr F rfl ff_82_1) ER.sb fun a F => ?_
      refine d_q F rfl rfl rfl (by decide) (fun wq hS => r_load F rfl ag_3 (AT.cell (AT.sb zhat127 hS (fun q => q.elim)) rfl)) ER.sb fun a F => ?_
      refine d_f ?_ ?_
      ·replace H := bind_some H
       obtain ⟨t218, q219, H⟩ := H
       refine o_call F rfl (wanted_none rfl) rfl (by decide) (r_call F Try.func42 rfl (by kernel_rfl) rfl) (bytes_Clone.calls (m := m + 7) (Nat.add_pos_left hm0 _) B h11 (by omega) 0 (Nat.add_pos_left hm0 _) _ q219) ?_
       rintro e w221 ⟨c220, A224, C225, rfl, E222, B223, h226⟩
       refine ⟨_, rfl, fun a F => ?_⟩
       have B := B223
       replace ER := ER.trans E222 (fun x q => q.elim)
       replace h8 := SL.ev h8 E222 (fun q => q.elim) (fun q => q.elim)
       replace h11 := SL.ev h11 E222 (fun q => q.elim) (fun q => q.elim)
       replace h17 := AT.ev h17 E222 (fun q => q.elim)
       replace h24 := AT.ev h24 E222 (fun q => q.elim)
       replace h129 := TR.ev h129 E222 (fun q => q.elim) (fun q => q.elim)
       replace hat127 := AT.ev hat127 E222 (fun q => q.elim)
       replace h139 := SL.ev h139 E222 (fun q => q.elim) (fun q => q.elim)
       replace h145 := AT.ev h145 E222 (fun q => q.elim)
       replace h190 := TB.ev h190 E222 (fun q => q.elim) (fun q => q.elim)
       replace h199 := SL.ev h199 E222 (fun q => q.elim) (fun q => q.elim)
       replace h202 := SL.ev h202 E222 (fun q => q.elim) (fun q => q.elim)
       replace h208 := AT.ev h208 E222 (fun q => q.elim)
       replace E := E.trans E222 (fun x q => q.elim)
       refine ⟨fun _ => ER.sb, ?_⟩
       refine d_q F rfl rfl rfl (by decide) (fun wq hS => r_build (v := .agg #[.slice A224 t218.length C225, .int .i64 (IntKind.i64.wrap (ob123.rev + 1))]) F [(0, .slice A224 t218.length C225), (1, .int .i64 (IntKind.i64.wrap (ob123.rev + 1)))] (by exact ⟨rfl, rfl, rfl, rfl, trivial⟩) (fun w => by kernel_rfl)) ER.sb fun a F => ?_
       refine d_e ?_
       refine o_eff F rfl rfl rfl (by decide) (e_alloc F zv_80 c220 (m + 6)) ?_
       rintro v w229 a ⟨c228, qa230, rfl, E231, h232, B233⟩ F
       replace B := B233 _ B (Nat.add_lt_add_left (by decide) m)
       replace ER := ER.trans E231 (fun x q => q.elim)
       replace h8 := SL.ev h8 E231 (fun q => q.elim) (fun q => q.elim)
       replace h11 := SL.ev h11 E231 (fun q => q.elim) (fun q => q.elim)
       replace h17 := AT.ev h17 E231 (fun q => q.elim)
       replace h24 := AT.ev h24 E231 (fun q => q.elim)
       replace h129 := TR.ev h129 E231 (fun q => q.elim) (fun q => q.elim)
       replace hat127 := AT.ev hat127 E231 (fun q => q.elim)
       replace h139 := SL.ev h139 E231 (fun q => q.elim) (fun q => q.elim)
       replace h145 := AT.ev h145 E231 (fun q => q.elim)
       replace h190 := TB.ev h190 E231 (fun q => q.elim) (fun q => q.elim)
       replace h199 := SL.ev h199 E231 (fun q => q.elim) (fun q => q.elim)
       replace h202 := SL.ev h202 E231 (fun q => q.elim) (fun q => q.elim)
       replace h208 := AT.ev h208 E231 (fun q => q.elim)
       replace h226 := SL.ev h226 E231 (fun q => q.elim) (fun q => q.elim)
       replace E := E.trans E231 (fun x q => q.elim)
       replace h232 : AT true (m + 6) c228 w229 qa230 [.slice none 0 0, .int .i64 0] := h232
       refine ⟨fun _ => ER.sb, ?_⟩
       refine d_e ?_
       refine o_eff0 F rfl rfl rfl (e_storeN0 (us := [.slice A224 t218.length C225, .int .i64 (IntKind.i64.wrap (ob123.rev + 1))]) F rfl rfl sz_80 h232 (Nat.le_of_ble_eq_true rfl) (one_all rfl)) ?_
       rintro w235 a ⟨E236, h232, Z237⟩ F
       replace B := B.size Z237
       replace h8 := SL.ev h8 E236 ne_zm ne_zm
       replace h11 := SL.ev h11 E236 ne_zm ne_zm
       replace h17 := AT.ev h17 E236 (ne_mm (by decide))
       replace h24 := AT.ev h24 E236 (ne_mm (by decide))
       replace h129 := TR.ev h129 E236 ne_zm ne_zm
       replace hat127 := AT.ev hat127 E236 (ne_pm bj4.2)
       replace h139 := SL.ev h139 E236 ne_zm ne_zm
       replace h145 := AT.ev h145 E236 (ne_mm (by decide))
       replace h190 := TB.ev h190 E236 (ne_pm bj4.2) ne_zm
       replace h199 := SL.ev h199 E236 ne_zm ne_zm
       replace h202 := SL.ev h202 E236 ne_zm ne_zm
       replace h208 := AT.ev h208 E236 (ne_mm (by decide))
       replace h226 := SL.ev h226 E236 ne_zm ne_zm
       replace E := E.trans E236 (fun x (q : x = m + 6) => Or.inr (le_col q))
       replace h232 : AT true (m + 6) c228 w235 qa230 [.slice A224 t218.length C225, .int .i64 (IntKind.i64.wrap (ob123.rev + 1))] := h232
       refine ⟨fun q => absurd rfl q, ?_⟩
       refine d_nil ?_
       exact J256 c228 w235 a qa230 t218 A224 C225 (F.sub ⟨rfl, rfl, rfl, rfl, rfl, rfl, rfl, trivial⟩) E B hat127 h17 h24 h145 h208 h232 h129 h8 h11 h139 h199 h202 h226 H
      ·replace H := bind_some H
       obtain ⟨t218, q219, H⟩ := H
       refine o_eff F rfl rfl rfl (by decide) (e_alloc F zv_80 c204 (m + 6)) ?_
       rintro v w239 a ⟨c238, qa230, rfl, E240, h232, B241⟩ F
       replace B := B241 _ B (Nat.add_lt_add_left (by decide) m)
       replace ER := ER.trans E240 (fun x q => q.elim)
       replace h8 := SL.ev h8 E240 (fun q => q.elim) (fun q => q.elim)
       replace h11 := SL.ev h11 E240 (fun q => q.elim) (fun q => q.elim)
       replace h17 := AT.ev h17 E240 (fun q => q.elim)
       replace h24 := AT.ev h24 E240 (fun q => q.elim)
       replace h129 := TR.ev h129 E240 (fun q => q.elim) (fun q => q.elim)
       replace hat127 := AT.ev hat127 E240 (fun q => q.elim)
       replace h139 := SL.ev h139 E240 (fun q => q.elim) (fun q => q.elim)
       replace h145 := AT.ev h145 E240 (fun q => q.elim)
       replace h190 := TB.ev h190 E240 (fun q => q.elim) (fun q => q.elim)
       replace h199 := SL.ev h199 E240 (fun q => q.elim) (fun q => q.elim)
       replace h202 := SL.ev h202 E240 (fun q => q.elim) (fun q => q.elim)
       replace h208 := AT.ev h208 E240 (fun q => q.elim)
       replace E := E.trans E240 (fun x q => q.elim)
       replace h232 : AT true (m + 6) c238 w239 qa230 [.slice none 0 0, .int .i64 0] := h232
       refine ⟨fun _ => ER.sb, ?_⟩
       refine d_e ?_
       refine o_call F rfl (wanted_none rfl) rfl (by decide) (r_call F Try.func42 rfl (by kernel_rfl) rfl) (bytes_Clone.calls (m := m + 7) (Nat.add_pos_left hm0 _) B h11 (by omega) 0 (Nat.add_pos_left hm0 _) _ q219) ?_
       rintro e w243 ⟨c242, A246, C247, rfl, E244, B245, h248⟩
       refine ⟨_, rfl, fun a F => ?_⟩
       have B := B245
       replace ER := ER.trans E244 (fun x q => q.elim)
       replace h8 := SL.ev h8 E244 (fun q => q.elim) (fun q => q.elim)
       replace h11 := SL.ev h11 E244 (fun q => q.elim) (fun q => q.elim)
       replace h17 := AT.ev h17 E244 (fun q => q.elim)
       replace h24 := AT.ev h24 E244 (fun q => q.elim)
       replace h129 := TR.ev h129 E244 (fun q => q.elim) (fun q => q.elim)
       replace hat127 := AT.ev hat127 E244 (fun q => q.elim)
       replace h139 := SL.ev h139 E244 (fun q => q.elim) (fun q => q.elim)
       replace h145 := AT.ev h145 E244 (fun q => q.elim)
       replace h190 := TB.ev h190 E244 (fun q => q.elim) (fun q => q.elim)
       replace h199 := SL.ev h199 E244 (fun q => q.elim) (fun q => q.elim)
       replace h202 := SL.ev h202 E244 (fun q => q.elim) (fun q => q.elim)
       replace h208 := AT.ev h208 E244 (fun q => q.elim)
       replace h232 := AT.ev h232 E244 (fun q => q.elim)
       replace E := E.trans E244 (fun x q => q.elim)
       refine ⟨fun _ => ER.sb, ?_⟩
       refine d_q F rfl rfl rfl (by decide) (fun wq hS => r_build (v := .agg #[.slice A246 t218.length C247, .int .i64 (IntKind.i64.wrap (ob123.rev + 1))]) F [(0, .slice A246 t218.length C247), (1, .int .i64 (IntKind.i64.wrap (ob123.rev + 1)))] (by exact ⟨rfl, rfl, rfl, rfl, trivial⟩) (fun w => by kernel_rfl)) ER.sb fun a F => ?_
       refine d_e ?_
       refine o_eff0 F rfl rfl rfl (e_storeN0 (us := [.slice A246 t218.length C247, .int .i64 (IntKind.i64.wrap (ob123.rev + 1))]) F rfl rfl sz_80 h232 (Nat.le_of_ble_eq_true rfl) (one_all rfl)) ?_
       rintro w250 a ⟨E251, h232, Z252⟩ F
       replace B := B.size Z252
       replace h8 := SL.ev h8 E251 ne_zm ne_zm
       replace h11 := SL.ev h11 E251 ne_zm ne_zm
       replace h17 := AT.ev h17 E251 (ne_mm (by decide))
       replace h24 := AT.ev h24 E251 (ne_mm (by decide))
       replace h129 := TR.ev h129 E251 ne_zm ne_zm
       replace hat127 := AT.ev hat127 E251 (ne_pm bj4.2)
       replace h139 := SL.ev h139 E251 ne_zm ne_zm
       replace h145 := AT.ev h145 E251 (ne_mm (by decide))
       replace h190 := TB.ev h190 E251 (ne_pm bj4.2) ne_zm
       replace h199 := SL.ev h199 E251 ne_zm ne_zm
       replace h202 := SL.ev h202 E251 ne_zm ne_zm
       replace h208 := AT.ev h208 E251 (ne_mm (by decide))
       replace h248 := SL.ev h248 E251 ne_zm ne_zm
       replace E := E.trans E251 (fun x (q : x = m + 6) => Or.inr (le_col q))
       replace h232 : AT true (m + 6) c242 w250 qa230 [.slice A246 t218.length C247, .int .i64 (IntKind.i64.wrap (ob123.rev + 1))] := h232
       refine ⟨fun q => absurd rfl q, ?_⟩
       refine d_nil ?_
       exact J256 c242 w250 a qa230 t218 A246 C247 (F.sub ⟨rfl, rfl, rfl, rfl, rfl, rfl, rfl, trivial⟩) E B hat127 h17 h24 h145 h208 h232 h129 h8 h11 h139 h199 h202 h248 H
    ·replace H := (if_neg hb160).symm.trans H
     refine wp_cond_true ((F.ev rfl).trans (congrArg Value.bool (congrArg not (bfalse hb160)))) ?_
     refine wp_seq_k fun K161 hK161 => ?_
     refine reg ?_
     refine q_val F rfl rfl (by decide) (r_move F rfl) fun a F => ?_
     refine q_val F rfl rfl (by decide) (r_move F rfl) fun a F => ?_
     refine q_val F rfl rfl (by decide) (r_loads (cs := [.slice A137 t131.1.value.length C138, .int .i64 t131.1.rev]) F rfl ag_80 sz_80 h145) fun a F => ?_
     refine q_val F rfl rfl (by decide) (r_move F rfl) fun a F => ?_
     replace H := bind_some H
     obtain ⟨t162, q163, H⟩ := H
     refine q_call F rfl rfl (by decide) (r_call F Try.func39 rfl (by kernel_rfl) rfl) (table_Table_told.calls (m := m + 7) (Nat.add_pos_left hm0 _) B h3 h139 (Nat.lt_add_right _ bj4.2) _ q163) ?_
     rintro e w165 ⟨c164, A168, C169, A171, C172, rfl, E166, B167, h170, h173⟩
     refine ⟨_, rfl, fun a F => ?_⟩
     have B := B167
     replace h3 := TB.ev h3 E166 (fun q => q.elim) (fun q => q.elim)
     replace h8 := SL.ev h8 E166 (fun q => q.elim) (fun q => q.elim)
     replace h11 := SL.ev h11 E166 (fun q => q.elim) (fun q => q.elim)
     replace h17 := AT.ev h17 E166 (fun q => q.elim)
     replace h24 := AT.ev h24 E166 (fun q => q.elim)
     replace h129 := TR.ev h129 E166 (fun q => q.elim) (fun q => q.elim)
     replace hat127 := AT.ev hat127 E166 (fun q => q.elim)
     replace h139 := SL.ev h139 E166 (fun q => q.elim) (fun q => q.elim)
     replace h145 := AT.ev h145 E166 (fun q => q.elim)
     replace E := E.trans E166 (fun x q => q.elim)
     refine q_eff0 F rfl rfl (e_storeN0 (us := [.bool t162.Done, .slice A168 t162.Key.length C169, .slice A171 t162.Value.length C172, .int .i64 t162.Rev, .int .i64 t162.At]) F rfl rfl sz_34 h24 (Nat.le_of_ble_eq_true rfl) (one_all rfl)) ?_
     rintro w175 a ⟨E176, h24, Z177⟩ F
     replace B := B.size Z177
     replace h3 := TB.ev h3 E176 (ne_pm bj4.2) ne_zm
     replace h8 := SL.ev h8 E176 ne_zm ne_zm
     replace h11 := SL.ev h11 E176 ne_zm ne_zm
     replace h17 := AT.ev h17 E176 (ne_mm (by decide))
     replace h129 := TR.ev h129 E176 ne_zm ne_zm
     replace hat127 := AT.ev hat127 E176 (ne_pm bj4.2)
     replace h139 := SL.ev h139 E176 ne_zm ne_zm
     replace h145 := AT.ev h145 E176 (ne_mm (by decide))
     replace h170 := SL.ev h170 E176 ne_zm ne_zm
     replace h173 := SL.ev h173 E176 ne_zm ne_zm
     replace E := E.trans E176 (fun x (q : x = m + 2) => Or.inr (le_col q))
     replace h24 : AT true (m + 2) c164 w175 qa22 [.bool t162.Done, .slice A168 t162.Key.length C169, .slice A171 t162.Value.length C172, .int .i64 t162.Rev, .int .i64 t162.At] := h24
     refine q_val F rfl rfl (by decide) (r_assign F rfl) fun a F => ?_
     refine nil ?_
     refine hK161 _ _ ?_
     replace F : Fr a 116 [(4, .pointer (some qa22)), (5, .int .i64 0)] := F.sub ⟨rfl, rfl, trivial⟩
     refine wp_ret ?_
     refine thenR ?_
     replace H := Option.some.inj H
     subst H
     refine outR2 F rfl ⟨_, rfl, lv_agg (cs := [.bool t162.Done, .slice A168 t162.Key.length C169, .slice A171 t162.Value.length C172, .int .i64 t162.Rev, .int .i64 t162.At]) ag_34 sz_34 h24⟩ rfl ?_
     exact ⟨fun b_ => (fun x_ => if x_ < m then x_ else 0) (c164 b_), A168, C169, A171, C172, rfl, E.leave B0 (fun x_ => if x_ < m then x_ else 0) (by intro x_ hx_; show (if x_ < m then x_ else 0) = x_; ((repeat' split) <;> omega)), (fun b_ hb_ => by show (if (c164 b_) < m then (c164 b_) else 0) < m; ((repeat' split) <;> omega)), SL.rc h170 (fun k_ hk_ => by show (if (c164 k_) < m then (c164 k_) else 0) = _; rw [hk_]; ((repeat' split) <;> omega)) (fun k_ hk_ => by show (if (c164 k_) < m then (c164 k_) else 0) = _; rw [hk_]; ((repeat' split) <;> omega)), SL.rc h173 (fun k_ hk_ => by show (if (c164 k_) < m then (c164 k_) else 0) = _; rw [hk_]; ((repeat' split) <;> omega)) (fun k_ hk_ => by show (if (c164 k_) < m then (c164 k_) else 0) = _; rw [hk_]; ((repeat' split) <;> omega)), TB.rc h3 (fun k_ hk_ => by show (if (c164 k_) < m then (c164 k_) else 0) = _; rw [hk_]; ((repeat' split) <;> omega)) (fun k_ hk_ => by show (if (c164 k_) < m then (c164 k_) else 0) = _; rw [hk_]; ((repeat' split) <;> omega))⟩
  ·replace H := (if_neg hb42).symm.trans H
   refine wp_cond_true ((F.ev rfl).trans (congrArg Value.bool (congrArg not (bfalse hb42)))) ?_
   refine wp_seq_k fun K117 hK117 => ?_
   refine reg ?_
   refine q_val F rfl rfl (by decide) (r_build (v := .agg #[.bool false, .slice none 0 0, .slice none 0 0, .int .i64 0, .int .i64 0]) F [] (by exact trivial) (fun w => by kernel_rfl)) fun a F => ?_
   refine q_eff0 F rfl rfl (e_storeN0 (us := [.bool false, .slice none 0 0, .slice none 0 0, .int .i64 0, .int .i64 0]) F rfl rfl sz_34 h24 (Nat.le_of_ble_eq_true rfl) (one_all rfl)) ?_
   rintro w118 a ⟨E119, h24, Z120⟩ F
   replace B := B.size Z120
   replace h3 := TB.ev h3 E119 (ne_pm bj4.2) ne_zm
   replace h8 := SL.ev h8 E119 ne_zm ne_zm
   replace h11 := SL.ev h11 E119 ne_zm ne_zm
   replace h17 := AT.ev h17 E119 (ne_mm (by decide))
   replace E := E.trans E119 (fun x (q : x = m + 2) => Or.inr (le_col q))
   replace h24 : AT true (m + 2) c37 w118 qa22 [.bool false, .slice none 0 0, .slice none 0 0, .int .i64 0, .int .i64 0] := h24
   refine q_val F rfl rfl (by decide) (r_assign F rfl) fun a F => ?_
   refine nil ?_
   refine hK117 _ _ ?_
   refine wp_ret ?_
   refine inbR ?_
   refine thenR ?_
   replace H := Option.some.inj H
   subst H
   refine outR2 F rfl ⟨_, rfl, lv_agg (cs := [.bool false, .slice none 0 0, .slice none 0 0, .int .i64 0, .int .i64 0]) ag_34 sz_34 h24⟩ rfl ?_
   exact ⟨fun b_ => (fun x_ => if x_ < m then x_ else 0) (c37 b_), none, 0, none, 0, rfl, E.leave B0 (fun x_ => if x_ < m then x_ else 0) (by intro x_ hx_; show (if x_ < m then x_ else 0) = x_; ((repeat' split) <;> omega)), (fun b_ hb_ => by show (if (c37 b_) < m then (c37 b_) else 0) < m; ((repeat' split) <;> omega)), SL.nil, SL.nil, TB.rc h3 (fun k_ hk_ => by show (if (c37 k_) < m then (c37 k_) else 0) = _; rw [hk_]; ((repeat' split) <;> omega)) (fun k_ hk_ => by show (if (c37 k_) < m then (c37 k_) else 0) = _; rw [hk_]; ((repeat' split) <;> omega))⟩
end Go.Proofs.Ythankpjbfpcldaa.G
