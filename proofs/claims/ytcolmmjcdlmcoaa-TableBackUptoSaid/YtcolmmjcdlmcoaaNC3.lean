/- Walks: each function of the program answers as its plain function says: tableTableCopy, tableTableset, tableTabletold, tableTableRev, tableTableSize, tableTableDo, tableTableAfter. -/
import Derived.Test.YtcolmmjcdlmcoaaNB
import Derived.Test.YtcolmmjcdlmcoaaNC2
import Derived.Test.YtcolmmjcdlmcoaaNC1
namespace Go.Proofs.Ytcolmmjcdlmcoaa.G
open Go Go.RowKit
set_option linter.unusedVariables false
set_option linter.unusedSimpArgs false
set_option maxRecDepth 100000 in
set_option maxHeartbeats 4000000 in
theorem table_Table_Copy.calls {m : Nat} {c0 : Nat → Nat} {w0 : World} {j4 : Nat} {p2 : Option Addr} {a1 : Option Tab} (hm0 : 0 < m) (B0 : CB m c0 w0) (h3 : TB j4 c0 w0 p2 a1) (bj4 : j4 < m) (jr31 : Nat) (bjr31 : jr31 < m) (r : (Option Tab)) (H : table_Table_Copy.f a1 = some r) : Calls Try.prog 19 #[.pointer p2] w0 (fun e w_ => ∃ (c_ : Nat → Nat) (P0_ : Option Addr), e = .returned (.pointer P0_) ∧ Ev (fun x => False) c0 w0 c_ w_ ∧ CB m c_ w_ ∧ TB jr31 c_ w_ P0_ r) := by
 unfold table_Table_Copy.f at H
 have B := B0.mono (show m ≤ m + 2 by omega)
 have E : Ev (fun x => False ∨ m ≤ x) c0 w0 c0 w0 := Ev.refl
 refine enter (N := 9) (l := [.pointer p2]) Try.func19 rfl rfl (Nat.le_of_ble_eq_true rfl) fun a F => ?_
 refine wp_seq_k fun K5 hK5 => ?_
 refine reg ?_
 refine q_val F rfl rfl (by decide) (r_assign F rfl) fun a F => ?_
 refine nil ?_
 refine hK5 _ _ ?_
 refine wp_seq_k fun K6 hK6 => ?_
 refine wp_seq_k fun K7 hK7 => ?_
 refine reg ?_
 refine q_val F rfl rfl (by decide) (r_move F rfl) fun a F => ?_
 refine q_val F rfl rfl (by decide) (r_peqlA F Try.underlying25 rfl rfl (TB.isNone h3)) fun a F => ?_
 refine nil ?_
 refine hK7 _ _ ?_
 by_cases hb8 : (Option.isNone a1) = true
 ·have H := (if_pos hb8).symm.trans H
  refine wp_cond_true ((F.ev rfl).trans (congrArg Value.bool hb8)) ?_
  refine wp_seq_k fun K9 hK9 => ?_
  refine reg ?_
  refine q_val F rfl rfl (by decide) (r_assign F rfl) fun a F => ?_
  refine nil ?_
  refine hK9 _ _ ?_
  refine wp_ret ?_
  refine thenR ?_
  have H := Option.some.inj H
  subst H
  refine out1 F rfl rfl ?_
  exact ⟨fun b_ => (fun x_ => if x_ = m + 1 then jr31 else if x_ < m then x_ else 0) (c0 b_), none, rfl, E.leave B0 (fun x_ => if x_ = m + 1 then jr31 else if x_ < m then x_ else 0) (by intro x_ hx_; show (if x_ = m + 1 then jr31 else if x_ < m then x_ else 0) = x_; ((repeat' split) <;> omega)), (fun b_ hb_ => by show (if (c0 b_) = m + 1 then jr31 else if (c0 b_) < m then (c0 b_) else 0) < m; ((repeat' split) <;> omega)), TB.nil⟩
 ·have H := (if_neg hb8).symm.trans H
  refine wp_cond_false ((F.ev rfl).trans (congrArg Value.bool (bfalse hb8))) ?_
  refine wp_skip ?_
  refine hK6 _ _ ?_
  refine wp_seq_k fun K10 hK10 => ?_
  refine reg ?_
  refine q_val F rfl rfl (by decide) (r_move F rfl) fun a F => ?_
  obtain ⟨ob11, e12, H⟩ := bind_some H
  have z13 := h3
  rw [e12] at z13
  obtain ⟨ad14, p16, rfl, hat15, h17⟩ := TB.some z13
  refine q_val F rfl rfl (by decide) (r_nil F rfl) fun a F => ?_
  refine q_val F rfl rfl (by decide) (r_loads (cs := [.pointer p16, .int .i64 ob11.rev, .int .i64 ob11.size]) F rfl ag_70 sz_70 hat15) fun a F => ?_
  refine q_eff F rfl rfl (by decide) (e_alloc F zv_70 c0 (m + 1)) ?_
  rintro v w20 a ⟨c19, qa21, rfl, E22, h23, B24⟩ F
  have B := B24 _ B (by omega)
  have h3 := TB.ev h3 E22 (fun q => q.elim) (fun q => q.elim)
  have h17 := TR.ev h17 E22 (fun q => q.elim) (fun q => q.elim)
  have hat15 := AT.ev hat15 E22 (fun q => q.elim)
  have E := E.trans E22 (fun x q => q.elim)
  have h23 : AT true (m + 1) c19 w20 qa21 [.pointer none, .int .i64 0, .int .i64 0] := h23
  refine q_eff0 F rfl rfl (e_storeN0 (us := [.pointer p16, .int .i64 ob11.rev, .int .i64 ob11.size]) F rfl rfl sz_70 h23 (Nat.le_of_ble_eq_true rfl) (one_all rfl)) ?_
  rintro w26 a ⟨E27, h23, Z28⟩ F
  have B := B.size Z28
  have h3 := TB.ev h3 E27 (by show ¬ (j4 = m + 1); omega) (by show ¬ (0 = m + 1); omega)
  have h17 := TR.ev h17 E27 (by show ¬ (0 = m + 1); omega) (by show ¬ (0 = m + 1); omega)
  have hat15 := AT.ev hat15 E27 (by show ¬ (j4 = m + 1); omega)
  have E := E.trans E27 (fun x q => by replace q : x = m + 1 := q; show False ∨ m ≤ x; omega)
  have h23 : AT true (m + 1) c19 w26 qa21 [.pointer p16, .int .i64 ob11.rev, .int .i64 ob11.size] := h23
  refine nil ?_
  refine hK10 _ _ ?_
  refine wp_seq_k fun K29 hK29 => ?_
  refine reg ?_
  refine q_val F rfl rfl (by decide) (r_assign F rfl) fun a F => ?_
  refine nil ?_
  refine hK29 _ _ ?_
  refine wp_ret ?_
  have h30 : TB (m + 1) c19 w26 (some qa21) (some (Tab.mk ob11.rows ob11.rev ob11.size)) := TB.mk h23 h17
  have H := Option.some.inj H
  subst H
  refine out1 F rfl rfl ?_
  exact ⟨fun b_ => (fun x_ => if x_ = m + 1 then jr31 else if x_ < m then x_ else 0) (c19 b_), (some qa21), rfl, E.leave B0 (fun x_ => if x_ = m + 1 then jr31 else if x_ < m then x_ else 0) (by intro x_ hx_; show (if x_ = m + 1 then jr31 else if x_ < m then x_ else 0) = x_; ((repeat' split) <;> omega)), (fun b_ hb_ => by show (if (c19 b_) = m + 1 then jr31 else if (c19 b_) < m then (c19 b_) else 0) < m; ((repeat' split) <;> omega)), TB.rc h30 (fun k_ hk_ => by show (if (c19 k_) = m + 1 then jr31 else if (c19 k_) < m then (c19 k_) else 0) = _; rw [hk_]; ((repeat' split) <;> omega)) (fun k_ hk_ => by show (if (c19 k_) = m + 1 then jr31 else if (c19 k_) < m then (c19 k_) else 0) = _; rw [hk_]; ((repeat' split) <;> omega))⟩
end Go.Proofs.Ytcolmmjcdlmcoaa.G
namespace Go.Proofs.Ytcolmmjcdlmcoaa.G
open Go Go.RowKit
set_option linter.unusedVariables false
set_option linter.unusedSimpArgs false
set_option maxRecDepth 100000 in
set_option maxHeartbeats 4000000 in
theorem table_Table_set.calls (k : Nat) {m : Nat} {c0 : Nat → Nat} {w0 : World} {j4 : Nat} {p2 : Option Addr} {A7 : Option Addr} {C8 : Nat} {a1 : Option Tab} {a5 : ByteArray} {a6 : table_cell} {a10 : Bool} (hm0 : 0 < m) (B0 : CB m c0 w0) (h3 : TB j4 c0 w0 p2 a1) (h9 : SL false (Kint .u8) 0 0 c0 w0 A7 C8 a6.value) (bj4 : 0 < j4 ∧ j4 < m) (r : (Option Tab)) (H : table_Table_set.f k a1 a5 a6 a10 = some r) : Calls Try.prog 43 #[.pointer p2, .string a5, .agg #[.slice A7 a6.value.length C8, .int .i64 a6.rev], .bool a10] w0 (fun e w_ => ∃ (c_ : Nat → Nat), e = .returned (.tuple #[]) ∧ Ev (fun x => (x = j4)) c0 w0 c_ w_ ∧ CB m c_ w_ ∧ TB j4 c_ w_ p2 r) := by
 unfold table_Table_set.f at H
 have B := B0.mono (show m ≤ m + 3 by omega)
 have E : Ev (fun x => (x = j4) ∨ m ≤ x) c0 w0 c0 w0 := Ev.refl
 refine enter (N := 64) (l := [.pointer p2, .string a5, .agg #[.slice A7 a6.value.length C8, .int .i64 a6.rev], .bool a10]) Try.func43 rfl rfl (Nat.le_of_ble_eq_true rfl) fun a F => ?_
 refine wp_seq_k fun K11 hK11 => ?_
 refine reg ?_
 refine q_eff F rfl rfl (by decide) (e_box F (v := .agg #[.slice A7 a6.value.length C8, .int .i64 a6.rev]) rfl c0 (m + 1)) ?_
 rintro v w13 a ⟨c12, qa14, rfl, E15, h16, B17⟩ F
 have B := B17 _ B (by omega)
 have h3 := TB.ev h3 E15 (fun q => q.elim) (fun q => q.elim)
 have h9 := SL.ev h9 E15 (fun q => q.elim) (fun q => q.elim)
 have E := E.trans E15 (fun x q => q.elim)
 have h16 : AT true (m + 1) c12 w13 qa14 [.slice A7 a6.value.length C8, .int .i64 a6.rev] := h16
 refine nil ?_
 refine hK11 _ _ ?_
 refine wp_seq_k fun K19 hK19 => ?_
 have J64 : ∀ (c65 : Nat → Nat) (w66 : World) (a : Act) (ad24 : Addr) (p26 : Option Addr) (ob21 : Tab) (i63 : Int), p2 = some ad24 → Fr a 64 [(0, .pointer (some ad24)), (1, .string a5), (3, .bool a10), (6, .pointer (some qa14))] → Ev (fun x => (x = j4) ∨ m ≤ x) c0 w0 c65 w66 → CB (m + 3) c65 w66 → AT true j4 c65 w66 ad24 [.pointer p26, .int .i64 ob21.rev, .int .i64 i63] → AT true (m + 1) c65 w66 qa14 [.slice A7 a6.value.length C8, .int .i64 a6.rev] → TR 0 c65 w66 p26 ob21.rows → SL false (Kint .u8) 0 0 c65 w66 A7 C8 a6.value → table_Table_set.j1 k a5 a6 a10 ob21 i63 = some r → K19 a w66 := by
  intro c65 w66 a ad24 p26 ob21 i63 qe67 F E B hat25 h16 h27 h9 H
  unfold table_Table_set.j1 at H
  refine hK19 _ _ ?_
  refine wp_seq_k fun K68 hK68 => ?_
  refine wp_seq_k fun K69 hK69 => ?_
  refine reg ?_
  refine q_val F rfl rfl (by decide) (r_move F rfl) fun a F => ?_
  refine q_val F rfl rfl (by decide) (r_not F rfl) fun a F => ?_
  refine nil ?_
  refine hK69 _ _ ?_
  by_cases hb70 : a10 = true
  ·have H := (if_pos hb70).symm.trans H
   refine wp_cond_false ((F.ev rfl).trans (congrArg Value.bool (congrArg not hb70))) ?_
   refine wp_skip ?_
   refine hK68 _ _ ?_
   refine wp_seq_k fun K85 hK85 => ?_
   refine regD (SB No c65 w66) 10 (.q 0 (.q 1 (.q 2 (.q 3 (.q 4 (.q 5 (.q 6 (.e 7 (.e 8 (.q 9 (.e 10 .nil))))))))))) Try_hm (by decide +kernel) ?_
   intro w86 w1_ w2_ w3_ w4_
   have E87 : Ev No c65 w66 c65 w86 := Ev.same w1_ w2_ w3_ w4_
   have B := B.same w1_
   have zhat25 := hat25
   have zh16 := h16
   have zh27 := h27
   have zh9 := h9
   have ER : Ev No c65 w66 c65 w86 := Ev.same w1_ w2_ w3_ w4_
   have hat25 := AT.ev hat25 E87 (fun q => q.elim)
   have h16 := AT.ev h16 E87 (fun q => q.elim)
   have h27 := TR.ev h27 E87 (fun q => q.elim) (fun q => q.elim)
   have h9 := SL.ev h9 E87 (fun q => q.elim) (fun q => q.elim)
   have E := E.trans E87 (fun x q => q.elim)
   refine d_q F rfl rfl rfl (by decide) (fun wq hS => r_move F rfl) ER.sb fun a F => ?_
   refine d_q F rfl rfl rfl (by decide) (fun wq hS => r_move F rfl) ER.sb fun a F => ?_
   refine d_q F rfl rfl rfl (by decide) (fun wq hS => r_nil F rfl) ER.sb fun a F => ?_
   refine d_q F rfl rfl rfl (by decide) (fun wq hS => r_fieldAddr F rfl ff_70_0) ER.sb fun a F => ?_
   refine d_q F rfl rfl rfl (by decide) (fun wq hS => r_load F rfl ag_68 (AT.cell (AT.sb zhat25 hS (fun q => q.elim)) rfl)) ER.sb fun a F => ?_
   refine d_q F rfl rfl rfl (by decide) (fun wq hS => r_move F rfl) ER.sb fun a F => ?_
   refine d_q F rfl rfl rfl (by decide) (fun wq hS => r_loads (cs := [.slice A7 a6.value.length C8, .int .i64 a6.rev]) F rfl ag_66 sz_66 (AT.sb zh16 hS (fun q => q.elim))) ER.sb fun a F => ?_
   refine d_e ?_
   obtain ⟨t88, q89, H⟩ := bind_some H
   refine o_call F rfl (wanted_none rfl) rfl (by decide) (r_call F Try.func61 rfl (by kernel_rfl) rfl) (tree_Tree_Put.calls k (m := m + 3) (by omega) B h27 h9 _ q89) ?_
   rintro e w91 ⟨c90, p94, rfl, E92, B93, h95⟩
   refine ⟨_, rfl, fun a F => ?_⟩
   have B := B93
   have ER := ER.trans E92 (fun x q => q.elim)
   have hat25 := AT.ev hat25 E92 (fun q => q.elim)
   have h16 := AT.ev h16 E92 (fun q => q.elim)
   have h27 := TR.ev h27 E92 (fun q => q.elim) (fun q => q.elim)
   have h9 := SL.ev h9 E92 (fun q => q.elim) (fun q => q.elim)
   have E := E.trans E92 (fun x q => q.elim)
   refine ⟨fun _ => ER.sb, ?_⟩
   refine d_e ?_
   refine o_val F rfl rfl rfl (by decide) (r_nil F rfl) fun a F => ?_
   refine ⟨fun _ => ER.sb, ?_⟩
   refine d_q F rfl rfl rfl (by decide) (fun wq hS => r_fieldAddr F rfl ff_70_0) ER.sb fun a F => ?_
   refine d_e ?_
   refine o_eff0 F rfl rfl rfl (e_store F rfl rfl sz_68 hat25 (Nat.le_of_ble_eq_true rfl) rfl) ?_
   rintro w97 a ⟨E98, hat25, Z99⟩ F
   have B := B.size Z99
   have h16 := AT.ev h16 E98 (by show ¬ (m + 1 = j4); omega)
   have h27 := TR.ev h27 E98 (by show ¬ (0 = j4); omega) (by show ¬ (0 = j4); omega)
   have h9 := SL.ev h9 E98 (by show ¬ (0 = j4); omega) (by show ¬ (0 = j4); omega)
   have h95 := TR.ev h95 E98 (by show ¬ (0 = j4); omega) (by show ¬ (0 = j4); omega)
   have E := E.trans E98 (fun x q => by replace q : x = j4 := q; show (x = j4) ∨ m ≤ x; omega)
   have hat25 : AT true j4 c90 w97 ad24 [.pointer p94, .int .i64 ob21.rev, .int .i64 i63] := hat25
   refine ⟨fun q => absurd rfl q, ?_⟩
   refine d_nil ?_
   refine hK85 _ _ ?_
   refine regD (SB No c90 w97) 10 (.q 0 (.q 1 (.q 2 (.q 3 (.q 4 (.q 5 (.e 6 (.q 7 (.e 8 (.q 9 (.e 10 .nil))))))))))) Try_hm (by decide +kernel) ?_
   intro w100 w1_ w2_ w3_ w4_
   have E101 : Ev No c90 w97 c90 w100 := Ev.same w1_ w2_ w3_ w4_
   have B := B.same w1_
   have zhat25 := hat25
   have zh16 := h16
   have zh27 := h27
   have zh9 := h9
   have zh95 := h95
   have ER : Ev No c90 w97 c90 w100 := Ev.same w1_ w2_ w3_ w4_
   have hat25 := AT.ev hat25 E101 (fun q => q.elim)
   have h16 := AT.ev h16 E101 (fun q => q.elim)
   have h27 := TR.ev h27 E101 (fun q => q.elim) (fun q => q.elim)
   have h9 := SL.ev h9 E101 (fun q => q.elim) (fun q => q.elim)
   have h95 := TR.ev h95 E101 (fun q => q.elim) (fun q => q.elim)
   have E := E.trans E101 (fun x q => q.elim)
   refine d_q F rfl rfl rfl (by decide) (fun wq hS => r_move F rfl) ER.sb fun a F => ?_
   refine d_q F rfl rfl rfl (by decide) (fun wq hS => r_nil F rfl) ER.sb fun a F => ?_
   refine d_q F rfl rfl rfl (by decide) (fun wq hS => r_fieldAddr F rfl ff_70_2) ER.sb fun a F => ?_
   refine d_q F rfl rfl rfl (by decide) (fun wq hS => r_load F rfl ag_3 (AT.cell (AT.sb zhat25 hS (fun q => q.elim)) rfl)) ER.sb fun a F => ?_
   refine d_q F rfl rfl rfl (by decide) (fun wq hS => r_move F rfl) ER.sb fun a F => ?_
   refine d_q F rfl rfl rfl (by decide) (fun wq hS => r_loads (cs := [.slice A7 a6.value.length C8, .int .i64 a6.rev]) F rfl ag_66 sz_66 (AT.sb zh16 hS (fun q => q.elim))) ER.sb fun a F => ?_
   refine d_e ?_
   obtain ⟨t102, q103, H⟩ := bind_some H
   refine o_call F rfl (wanted_none rfl) rfl (by decide) (r_call F Try.func59 rfl (by kernel_rfl) rfl) (table_long.calls k (m := m + 3) (by omega) B h9 _ q103) ?_
   rintro e w105 ⟨c104, rfl, E106, B107⟩
   refine ⟨_, rfl, fun a F => ?_⟩
   have B := B107
   have ER := ER.trans E106 (fun x q => q.elim)
   have hat25 := AT.ev hat25 E106 (fun q => q.elim)
   have h16 := AT.ev h16 E106 (fun q => q.elim)
   have h27 := TR.ev h27 E106 (fun q => q.elim) (fun q => q.elim)
   have h9 := SL.ev h9 E106 (fun q => q.elim) (fun q => q.elim)
   have h95 := TR.ev h95 E106 (fun q => q.elim) (fun q => q.elim)
   have E := E.trans E106 (fun x q => q.elim)
   refine ⟨fun _ => ER.sb, ?_⟩
   refine d_q F rfl rfl rfl (by decide) (fun wq hS => r_add F rfl rfl) ER.sb fun a F => ?_
   refine d_e ?_
   refine o_val F rfl rfl rfl (by decide) (r_nil F rfl) fun a F => ?_
   refine ⟨fun _ => ER.sb, ?_⟩
   refine d_q F rfl rfl rfl (by decide) (fun wq hS => r_fieldAddr F rfl ff_70_2) ER.sb fun a F => ?_
   refine d_e ?_
   refine o_eff0 F rfl rfl rfl (e_store F rfl rfl sz_3 hat25 (Nat.le_of_ble_eq_true rfl) rfl) ?_
   rintro w109 a ⟨E110, hat25, Z111⟩ F
   have B := B.size Z111
   have h16 := AT.ev h16 E110 (by show ¬ (m + 1 = j4); omega)
   have h27 := TR.ev h27 E110 (by show ¬ (0 = j4); omega) (by show ¬ (0 = j4); omega)
   have h9 := SL.ev h9 E110 (by show ¬ (0 = j4); omega) (by show ¬ (0 = j4); omega)
   have h95 := TR.ev h95 E110 (by show ¬ (0 = j4); omega) (by show ¬ (0 = j4); omega)
   have E := E.trans E110 (fun x q => by replace q : x = j4 := q; show (x = j4) ∨ m ≤ x; omega)
   have hat25 : AT true j4 c104 w109 ad24 [.pointer p94, .int .i64 ob21.rev, .int .i64 (IntKind.i64.wrap (i63 + t102))] := hat25
   refine ⟨fun q => absurd rfl q, ?_⟩
   refine d_nil ?_
   have h112 : TB j4 c104 w109 (some ad24) (some (Tab.mk t88 ob21.rev (IntKind.i64.wrap (i63 + t102)))) := TB.mk hat25 h95
   have H := Option.some.inj H
   subst H
   first | refine out0n F rfl ?_ | refine inbN (out0n F rfl ?_) | refine inbN (inbN (out0n F rfl ?_)) | refine inbN (inbN (inbN (out0n F rfl ?_)))
   exact ⟨fun b_ => (fun x_ => if x_ < m then x_ else 0) (c104 b_), rfl, E.leave B0 (fun x_ => if x_ < m then x_ else 0) (by intro x_ hx_; show (if x_ < m then x_ else 0) = x_; ((repeat' split) <;> omega)), (fun b_ hb_ => by show (if (c104 b_) < m then (c104 b_) else 0) < m; ((repeat' split) <;> omega)), (by rw [qe67]; exact TB.rc h112 (fun k_ hk_ => by show (if (c104 k_) < m then (c104 k_) else 0) = _; rw [hk_]; ((repeat' split) <;> omega)) (fun k_ hk_ => by show (if (c104 k_) < m then (c104 k_) else 0) = _; rw [hk_]; ((repeat' split) <;> omega)))⟩
  ·have H := (if_neg hb70).symm.trans H
   refine wp_cond_true ((F.ev rfl).trans (congrArg Value.bool (congrArg not (bfalse hb70)))) ?_
   refine wp_seq_k fun K71 hK71 => ?_
   refine reg ?_
   refine q_val F rfl rfl (by decide) (r_move F rfl) fun a F => ?_
   refine q_val F rfl rfl (by decide) (r_move F rfl) fun a F => ?_
   refine q_val F rfl rfl (by decide) (r_nil F rfl) fun a F => ?_
   refine q_val F rfl rfl (by decide) (r_fieldAddr F rfl ff_70_0) fun a F => ?_
   refine q_val F rfl rfl (by decide) (r_load F rfl ag_68 (AT.cell hat25 rfl)) fun a F => ?_
   refine q_val F rfl rfl (by decide) (r_move F rfl) fun a F => ?_
   obtain ⟨t72, q73, H⟩ := bind_some H
   refine q_call F rfl rfl (by decide) (r_call F Try.func60 rfl (by kernel_rfl) rfl) (tree_Tree_Delete.calls k (m := m + 3) (by omega) B h27 _ q73) ?_
   rintro e w75 ⟨c74, p78, rfl, E76, B77, h79⟩
   refine ⟨_, rfl, fun a F => ?_⟩
   have B := B77
   have hat25 := AT.ev hat25 E76 (fun q => q.elim)
   have h16 := AT.ev h16 E76 (fun q => q.elim)
   have h27 := TR.ev h27 E76 (fun q => q.elim) (fun q => q.elim)
   have h9 := SL.ev h9 E76 (fun q => q.elim) (fun q => q.elim)
   have E := E.trans E76 (fun x q => q.elim)
   refine q_val F rfl rfl (by decide) (r_move F rfl) fun a F => ?_
   refine q_val F rfl rfl (by decide) (r_extract F rfl rfl) fun a F => ?_
   refine q_val F rfl rfl (by decide) (r_extract F rfl rfl) fun a F => ?_
   refine q_val F rfl rfl (by decide) (r_nil F rfl) fun a F => ?_
   refine q_val F rfl rfl (by decide) (r_fieldAddr F rfl ff_70_0) fun a F => ?_
   refine q_eff0 F rfl rfl (e_store F rfl rfl sz_68 hat25 (Nat.le_of_ble_eq_true rfl) rfl) ?_
   rintro w81 a ⟨E82, hat25, Z83⟩ F
   have B := B.size Z83
   have h16 := AT.ev h16 E82 (by show ¬ (m + 1 = j4); omega)
   have h27 := TR.ev h27 E82 (by show ¬ (0 = j4); omega) (by show ¬ (0 = j4); omega)
   have h9 := SL.ev h9 E82 (by show ¬ (0 = j4); omega) (by show ¬ (0 = j4); omega)
   have h79 := TR.ev h79 E82 (by show ¬ (0 = j4); omega) (by show ¬ (0 = j4); omega)
   have E := E.trans E82 (fun x q => by replace q : x = j4 := q; show (x = j4) ∨ m ≤ x; omega)
   have hat25 : AT true j4 c74 w81 ad24 [.pointer p78, .int .i64 ob21.rev, .int .i64 i63] := hat25
   refine nil ?_
   refine hK71 _ _ ?_
   refine wp_ret ?_
   refine thenR ?_
   have h84 : TB j4 c74 w81 (some ad24) (some (Tab.mk t72.1 ob21.rev i63)) := TB.mk hat25 h79
   have H := Option.some.inj H
   subst H
   refine out0 F rfl ?_
   exact ⟨fun b_ => (fun x_ => if x_ < m then x_ else 0) (c74 b_), rfl, E.leave B0 (fun x_ => if x_ < m then x_ else 0) (by intro x_ hx_; show (if x_ < m then x_ else 0) = x_; ((repeat' split) <;> omega)), (fun b_ hb_ => by show (if (c74 b_) < m then (c74 b_) else 0) < m; ((repeat' split) <;> omega)), (by rw [qe67]; exact TB.rc h84 (fun k_ hk_ => by show (if (c74 k_) < m then (c74 k_) else 0) = _; rw [hk_]; ((repeat' split) <;> omega)) (fun k_ hk_ => by show (if (c74 k_) < m then (c74 k_) else 0) = _; rw [hk_]; ((repeat' split) <;> omega)))⟩
 refine wp_seq_k fun K20 hK20 => ?_
 refine reg ?_
 refine q_val F rfl rfl (by decide) (r_move F rfl) fun a F => ?_
 obtain ⟨ob21, e22, H⟩ := bind_some H
 have z23 := h3
 rw [e22] at z23
 obtain ⟨ad24, p26, rfl, hat25, h27⟩ := TB.some z23
 refine q_val F rfl rfl (by decide) (r_nil F rfl) fun a F => ?_
 refine q_val F rfl rfl (by decide) (r_fieldAddr F rfl ff_70_0) fun a F => ?_
 refine q_val F rfl rfl (by decide) (r_load F rfl ag_68 (AT.cell hat25 rfl)) fun a F => ?_
 refine q_val F rfl rfl (by decide) (r_move F rfl) fun a F => ?_
 obtain ⟨t29, q30, H⟩ := bind_some H
 refine q_call F rfl rfl (by decide) (r_call F Try.func40 rfl (by kernel_rfl) rfl) (tree_Tree_Get.calls k (m := m + 3) (by omega) B h27 _ q30) ?_
 rintro e w32 ⟨c31, A35, C36, rfl, E33, B34, h37⟩
 refine ⟨_, rfl, fun a F => ?_⟩
 have B := B34
 have h3 := TB.ev h3 E33 (fun q => q.elim) (fun q => q.elim)
 have h9 := SL.ev h9 E33 (fun q => q.elim) (fun q => q.elim)
 have h16 := AT.ev h16 E33 (fun q => q.elim)
 have h27 := TR.ev h27 E33 (fun q => q.elim) (fun q => q.elim)
 have hat25 := AT.ev hat25 E33 (fun q => q.elim)
 have E := E.trans E33 (fun x q => q.elim)
 refine q_val F rfl rfl (by decide) (r_move F rfl) fun a F => ?_
 refine q_val F rfl rfl (by decide) (r_extract F rfl rfl) fun a F => ?_
 refine q_val F rfl rfl (by decide) (r_extract F rfl rfl) fun a F => ?_
 refine q_eff F rfl rfl (by decide) (e_alloc F zv_66 c31 (m + 2)) ?_
 rintro v w40 a ⟨c39, qa41, rfl, E42, h43, B44⟩ F
 have B := B44 _ B (by omega)
 have h3 := TB.ev h3 E42 (fun q => q.elim) (fun q => q.elim)
 have h9 := SL.ev h9 E42 (fun q => q.elim) (fun q => q.elim)
 have h16 := AT.ev h16 E42 (fun q => q.elim)
 have h27 := TR.ev h27 E42 (fun q => q.elim) (fun q => q.elim)
 have hat25 := AT.ev hat25 E42 (fun q => q.elim)
 have h37 := SL.ev h37 E42 (fun q => q.elim) (fun q => q.elim)
 have E := E.trans E42 (fun x q => q.elim)
 have h43 : AT true (m + 2) c39 w40 qa41 [.slice none 0 0, .int .i64 0] := h43
 refine q_eff0 F rfl rfl (e_storeN0 (us := [.slice A35 t29.1.value.length C36, .int .i64 t29.1.rev]) F rfl rfl sz_66 h43 (Nat.le_of_ble_eq_true rfl) (one_all rfl)) ?_
 rintro w46 a ⟨E47, h43, Z48⟩ F
 have B := B.size Z48
 have h3 := TB.ev h3 E47 (by show ¬ (j4 = m + 2); omega) (by show ¬ (0 = m + 2); omega)
 have h9 := SL.ev h9 E47 (by show ¬ (0 = m + 2); omega) (by show ¬ (0 = m + 2); omega)
 have h16 := AT.ev h16 E47 (by show ¬ (m + 1 = m + 2); omega)
 have h27 := TR.ev h27 E47 (by show ¬ (0 = m + 2); omega) (by show ¬ (0 = m + 2); omega)
 have hat25 := AT.ev hat25 E47 (by show ¬ (j4 = m + 2); omega)
 have h37 := SL.ev h37 E47 (by show ¬ (0 = m + 2); omega) (by show ¬ (0 = m + 2); omega)
 have E := E.trans E47 (fun x q => by replace q : x = m + 2 := q; show (x = j4) ∨ m ≤ x; omega)
 have h43 : AT true (m + 2) c39 w46 qa41 [.slice A35 t29.1.value.length C36, .int .i64 t29.1.rev] := h43
 refine q_val F rfl rfl (by decide) (r_assign F rfl) fun a F => ?_
 refine nil ?_
 refine hK20 _ _ ?_
 refine wp_seq_k fun K49 hK49 => ?_
 refine reg ?_
 refine q_val F rfl rfl (by decide) (r_move F rfl) fun a F => ?_
 refine nil ?_
 refine hK49 _ _ ?_
 by_cases hb50 : t29.2 = true
 ·have H := (if_pos hb50).symm.trans H
  refine wp_cond_true ((F.ev rfl).trans (congrArg Value.bool hb50)) ?_
  refine regD (SB No c39 w46) 10 (.q 0 (.q 1 (.q 2 (.q 3 (.q 4 (.q 5 (.e 6 (.q 7 (.e 8 (.q 9 (.e 10 .nil))))))))))) Try_hm (by decide +kernel) ?_
  intro w51 w1_ w2_ w3_ w4_
  have E52 : Ev No c39 w46 c39 w51 := Ev.same w1_ w2_ w3_ w4_
  have B := B.same w1_
  have zh3 := h3
  have zh9 := h9
  have zh16 := h16
  have zh27 := h27
  have zhat25 := hat25
  have zh37 := h37
  have zh43 := h43
  have ER : Ev No c39 w46 c39 w51 := Ev.same w1_ w2_ w3_ w4_
  have h3 := TB.ev h3 E52 (fun q => q.elim) (fun q => q.elim)
  have h9 := SL.ev h9 E52 (fun q => q.elim) (fun q => q.elim)
  have h16 := AT.ev h16 E52 (fun q => q.elim)
  have h27 := TR.ev h27 E52 (fun q => q.elim) (fun q => q.elim)
  have hat25 := AT.ev hat25 E52 (fun q => q.elim)
  have h37 := SL.ev h37 E52 (fun q => q.elim) (fun q => q.elim)
  have h43 := AT.ev h43 E52 (fun q => q.elim)
  have E := E.trans E52 (fun x q => q.elim)
  refine d_q F rfl rfl rfl (by decide) (fun wq hS => r_move F rfl) ER.sb fun a F => ?_
  refine d_q F rfl rfl rfl (by decide) (fun wq hS => r_nil F rfl) ER.sb fun a F => ?_
  refine d_q F rfl rfl rfl (by decide) (fun wq hS => r_fieldAddr F rfl ff_70_2) ER.sb fun a F => ?_
  refine d_q F rfl rfl rfl (by decide) (fun wq hS => r_load F rfl ag_3 (AT.cell (AT.sb zhat25 hS (fun q => q.elim)) rfl)) ER.sb fun a F => ?_
  refine d_q F rfl rfl rfl (by decide) (fun wq hS => r_move F rfl) ER.sb fun a F => ?_
  refine d_q F rfl rfl rfl (by decide) (fun wq hS => r_loads (cs := [.slice A35 t29.1.value.length C36, .int .i64 t29.1.rev]) F rfl ag_66 sz_66 (AT.sb zh43 hS (fun q => q.elim))) ER.sb fun a F => ?_
  refine d_e ?_
  obtain ⟨t53, q54, H⟩ := bind_some H
  refine o_call F rfl (wanted_none rfl) rfl (by decide) (r_call F Try.func59 rfl (by kernel_rfl) rfl) (table_long.calls k (m := m + 3) (by omega) B h37 _ q54) ?_
  rintro e w56 ⟨c55, rfl, E57, B58⟩
  refine ⟨_, rfl, fun a F => ?_⟩
  have B := B58
  have ER := ER.trans E57 (fun x q => q.elim)
  have h3 := TB.ev h3 E57 (fun q => q.elim) (fun q => q.elim)
  have h9 := SL.ev h9 E57 (fun q => q.elim) (fun q => q.elim)
  have h16 := AT.ev h16 E57 (fun q => q.elim)
  have h27 := TR.ev h27 E57 (fun q => q.elim) (fun q => q.elim)
  have hat25 := AT.ev hat25 E57 (fun q => q.elim)
  have h37 := SL.ev h37 E57 (fun q => q.elim) (fun q => q.elim)
  have h43 := AT.ev h43 E57 (fun q => q.elim)
  have E := E.trans E57 (fun x q => q.elim)
  refine ⟨fun _ => ER.sb, ?_⟩
  refine d_q F rfl rfl rfl (by decide) (fun wq hS => r_sub F rfl rfl) ER.sb fun a F => ?_
  refine d_e ?_
  refine o_val F rfl rfl rfl (by decide) (r_nil F rfl) fun a F => ?_
  refine ⟨fun _ => ER.sb, ?_⟩
  refine d_q F rfl rfl rfl (by decide) (fun wq hS => r_fieldAddr F rfl ff_70_2) ER.sb fun a F => ?_
  refine d_e ?_
  refine o_eff0 F rfl rfl rfl (e_store F rfl rfl sz_3 hat25 (Nat.le_of_ble_eq_true rfl) rfl) ?_
  rintro w60 a ⟨E61, hat25, Z62⟩ F
  have B := B.size Z62
  have h9 := SL.ev h9 E61 (by show ¬ (0 = j4); omega) (by show ¬ (0 = j4); omega)
  have h16 := AT.ev h16 E61 (by show ¬ (m + 1 = j4); omega)
  have h27 := TR.ev h27 E61 (by show ¬ (0 = j4); omega) (by show ¬ (0 = j4); omega)
  have h37 := SL.ev h37 E61 (by show ¬ (0 = j4); omega) (by show ¬ (0 = j4); omega)
  have h43 := AT.ev h43 E61 (by show ¬ (m + 2 = j4); omega)
  have E := E.trans E61 (fun x q => by replace q : x = j4 := q; show (x = j4) ∨ m ≤ x; omega)
  have hat25 : AT true j4 c55 w60 ad24 [.pointer p26, .int .i64 ob21.rev, .int .i64 (IntKind.i64.wrap (ob21.size - t53))] := hat25
  refine ⟨fun q => absurd rfl q, ?_⟩
  refine d_nil ?_
  exact J64 c55 w60 a ad24 p26 ob21 (IntKind.i64.wrap (ob21.size - t53)) rfl (F.sub ⟨rfl, rfl, rfl, rfl, trivial⟩) E B hat25 h16 h27 h9 H
 ·have H := (if_neg hb50).symm.trans H
  refine wp_cond_false ((F.ev rfl).trans (congrArg Value.bool (bfalse hb50))) ?_
  refine wp_skip ?_
  exact J64 c39 w46 a ad24 p26 ob21 ob21.size rfl (F.sub ⟨rfl, rfl, rfl, rfl, trivial⟩) E B hat25 h16 h27 h9 H
end Go.Proofs.Ytcolmmjcdlmcoaa.G
namespace Go.Proofs.Ytcolmmjcdlmcoaa.G
open Go Go.RowKit
set_option linter.unusedVariables false
set_option linter.unusedSimpArgs false
set_option maxRecDepth 100000 in
set_option maxHeartbeats 4000000 in
theorem table_Table_told.calls {m : Nat} {c0 : Nat → Nat} {w0 : World} {j4 : Nat} {p2 : Option Addr} {A7 : Option Addr} {C8 : Nat} {a1 : Option Tab} {a5 : ByteArray} {a6 : table_cell} {a10 : Bool} (hm0 : 0 < m) (B0 : CB m c0 w0) (h3 : TB j4 c0 w0 p2 a1) (h9 : SL false (Kint .u8) 0 0 c0 w0 A7 C8 a6.value) (bj4 : j4 < m) (r : api_Answer) (H : table_Table_told.f a1 a5 a6 a10 = some r) : Calls Try.prog 39 #[.pointer p2, .string a5, .agg #[.slice A7 a6.value.length C8, .int .i64 a6.rev], .bool a10] w0 (fun e w_ => ∃ (c_ : Nat → Nat) (A0_ : Option Addr) (C0_ : Nat) (A2_ : Option Addr) (C2_ : Nat), e = .returned (.agg #[.bool r.Done, .slice A0_ r.Key.length C0_, .slice A2_ r.Value.length C2_, .int .i64 r.Rev, .int .i64 r.At]) ∧ Ev (fun x => False) c0 w0 c_ w_ ∧ CB m c_ w_ ∧ SL false (Kint .u8) 0 0 c_ w_ A0_ C0_ r.Key ∧ SL false (Kint .u8) 0 0 c_ w_ A2_ C2_ r.Value) := by
 unfold table_Table_told.f at H
 have B := B0.mono (show m ≤ m + 4 by omega)
 have E : Ev (fun x => False ∨ m ≤ x) c0 w0 c0 w0 := Ev.refl
 refine enter (N := 28) (l := [.pointer p2, .string a5, .agg #[.slice A7 a6.value.length C8, .int .i64 a6.rev], .bool a10]) Try.func39 rfl rfl (Nat.le_of_ble_eq_true rfl) fun a F => ?_
 refine wp_seq_k fun K11 hK11 => ?_
 refine reg ?_
 refine q_eff F rfl rfl (by decide) (e_box F (v := .agg #[.slice A7 a6.value.length C8, .int .i64 a6.rev]) rfl c0 (m + 1)) ?_
 rintro v w13 a ⟨c12, qa14, rfl, E15, h16, B17⟩ F
 have B := B17 _ B (by omega)
 have h3 := TB.ev h3 E15 (fun q => q.elim) (fun q => q.elim)
 have h9 := SL.ev h9 E15 (fun q => q.elim) (fun q => q.elim)
 have E := E.trans E15 (fun x q => q.elim)
 have h16 : AT true (m + 1) c12 w13 qa14 [.slice A7 a6.value.length C8, .int .i64 a6.rev] := h16
 refine q_eff F rfl rfl (by decide) (e_alloc F zv_28 c12 (m + 2)) ?_
 rintro v w20 a ⟨c19, qa21, rfl, E22, h23, B24⟩ F
 have B := B24 _ B (by omega)
 have h3 := TB.ev h3 E22 (fun q => q.elim) (fun q => q.elim)
 have h9 := SL.ev h9 E22 (fun q => q.elim) (fun q => q.elim)
 have h16 := AT.ev h16 E22 (fun q => q.elim)
 have E := E.trans E22 (fun x q => q.elim)
 have h23 : AT true (m + 2) c19 w20 qa21 [.bool false, .slice none 0 0, .slice none 0 0, .int .i64 0, .int .i64 0] := h23
 refine nil ?_
 refine hK11 _ _ ?_
 refine wp_seq_k fun K26 hK26 => ?_
 refine reg ?_
 refine q_val F rfl rfl (by decide) (r_move F rfl) fun a F => ?_
 refine q_val F rfl rfl (by decide) (r_move F rfl) fun a F => ?_
 obtain ⟨ob27, e28, H⟩ := bind_some H
 have z29 := h3
 rw [e28] at z29
 obtain ⟨ad30, p32, rfl, hat31, h33⟩ := TB.some z29
 refine q_val F rfl rfl (by decide) (r_nil F rfl) fun a F => ?_
 refine q_val F rfl rfl (by decide) (r_fieldAddr F rfl ff_70_1) fun a F => ?_
 refine q_val F rfl rfl (by decide) (r_load F rfl ag_3 (AT.cell hat31 rfl)) fun a F => ?_
 refine q_val F rfl rfl (by decide) (r_build (v := .agg #[.bool a10, .slice none 0 0, .slice none 0 0, .int .i64 0, .int .i64 ob27.rev]) F [(0, .bool a10), (4, .int .i64 ob27.rev)] (by exact ⟨rfl, rfl, rfl, rfl, trivial⟩) (fun w => by kernel_rfl)) fun a F => ?_
 refine q_eff F rfl rfl (by decide) (e_alloc F zv_28 c19 (m + 3)) ?_
 rintro v w36 a ⟨c35, qa37, rfl, E38, h39, B40⟩ F
 have B := B40 _ B (by omega)
 have h3 := TB.ev h3 E38 (fun q => q.elim) (fun q => q.elim)
 have h9 := SL.ev h9 E38 (fun q => q.elim) (fun q => q.elim)
 have h16 := AT.ev h16 E38 (fun q => q.elim)
 have h23 := AT.ev h23 E38 (fun q => q.elim)
 have h33 := TR.ev h33 E38 (fun q => q.elim) (fun q => q.elim)
 have hat31 := AT.ev hat31 E38 (fun q => q.elim)
 have E := E.trans E38 (fun x q => q.elim)
 have h39 : AT true (m + 3) c35 w36 qa37 [.bool false, .slice none 0 0, .slice none 0 0, .int .i64 0, .int .i64 0] := h39
 refine q_eff0 F rfl rfl (e_storeN0 (us := [.bool a10, .slice none 0 0, .slice none 0 0, .int .i64 0, .int .i64 ob27.rev]) F rfl rfl sz_28 h39 (Nat.le_of_ble_eq_true rfl) (one_all rfl)) ?_
 rintro w42 a ⟨E43, h39, Z44⟩ F
 have B := B.size Z44
 have h3 := TB.ev h3 E43 (by show ¬ (j4 = m + 3); omega) (by show ¬ (0 = m + 3); omega)
 have h9 := SL.ev h9 E43 (by show ¬ (0 = m + 3); omega) (by show ¬ (0 = m + 3); omega)
 have h16 := AT.ev h16 E43 (by show ¬ (m + 1 = m + 3); omega)
 have h23 := AT.ev h23 E43 (by show ¬ (m + 2 = m + 3); omega)
 have h33 := TR.ev h33 E43 (by show ¬ (0 = m + 3); omega) (by show ¬ (0 = m + 3); omega)
 have hat31 := AT.ev hat31 E43 (by show ¬ (j4 = m + 3); omega)
 have E := E.trans E43 (fun x q => by replace q : x = m + 3 := q; show False ∨ m ≤ x; omega)
 have h39 : AT true (m + 3) c35 w42 qa37 [.bool a10, .slice none 0 0, .slice none 0 0, .int .i64 0, .int .i64 ob27.rev] := h39
 refine nil ?_
 refine hK26 _ _ ?_
 refine wp_seq_k fun K45 hK45 => ?_
 refine wp_seq_k fun K46 hK46 => ?_
 refine reg ?_
 refine q_val F rfl rfl (by decide) (r_move F rfl) fun a F => ?_
 refine nil ?_
 refine hK46 _ _ ?_
 by_cases hb47 : a10 = true
 ·have H := (if_pos hb47).symm.trans H
  refine wp_cond_true ((F.ev rfl).trans (congrArg Value.bool hb47)) ?_
  refine regD (SB (fun x => x = m + 3) c35 w42) 12 (.q 0 (.q 2 (.q 3 (.q 5 (.q 6 (.f 1 (.q 7 (.e 4 (.e 8 (.q 9 (.e 10 (.q 11 (.e 12 .nil))))))) 4 (.e 1 (.q 7 (.e 8 (.q 9 (.e 10 (.q 11 (.e 12 .nil))))))))))))) Try_hm (by decide +kernel) ?_
  intro w48 w1_ w2_ w3_ w4_
  have E49 : Ev No c35 w42 c35 w48 := Ev.same w1_ w2_ w3_ w4_
  have B := B.same w1_
  have zh3 := h3
  have zh9 := h9
  have zh16 := h16
  have zh23 := h23
  have zh33 := h33
  have zhat31 := hat31
  have zh39 := h39
  have ER : Ev (fun x => x = m + 3) c35 w42 c35 w48 := Ev.same w1_ w2_ w3_ w4_
  have h3 := TB.ev h3 E49 (fun q => q.elim) (fun q => q.elim)
  have h9 := SL.ev h9 E49 (fun q => q.elim) (fun q => q.elim)
  have h16 := AT.ev h16 E49 (fun q => q.elim)
  have h23 := AT.ev h23 E49 (fun q => q.elim)
  have h33 := TR.ev h33 E49 (fun q => q.elim) (fun q => q.elim)
  have hat31 := AT.ev hat31 E49 (fun q => q.elim)
  have h39 := AT.ev h39 E49 (fun q => q.elim)
  have E := E.trans E49 (fun x q => q.elim)
  refine d_q F rfl rfl rfl (by decide) (fun wq hS => r_move F rfl) ER.sb fun a F => ?_
  refine d_q F rfl rfl rfl (by decide) (fun wq hS => r_fieldAddr F rfl ff_66_0) ER.sb fun a F => ?_
  refine d_q F rfl rfl rfl (by decide) (fun wq hS => r_load F rfl ag_23 (AT.cell (AT.sb zh16 hS (by show ¬ (m + 1 = m + 3); omega)) rfl)) ER.sb fun a F => ?_
  refine d_q F rfl rfl rfl (by decide) (fun wq hS => r_fieldAddr F rfl ff_66_1) ER.sb fun a F => ?_
  refine d_q F rfl rfl rfl (by decide) (fun wq hS => r_load F rfl ag_3 (AT.cell (AT.sb zh16 hS (by show ¬ (m + 1 = m + 3); omega)) rfl)) ER.sb fun a F => ?_
  refine d_f ?_ ?_
  ·obtain ⟨g50, H⟩ := ifN H
   refine o_eff F rfl rfl rfl (by decide) (e_strBytes F Try.underlying9 Try.underlying23 Try.underlying5 rfl (by unfold maxLen; omega) c35 0 0) ?_
   rintro v w52 a ⟨c51, A53, C54, rfl, E55, h56, B57⟩ F
   have B := B57 _ B (by omega)
   have ER := ER.trans E55 (fun x q => q.elim)
   have h3 := TB.ev h3 E55 (fun q => q.elim) (fun q => q.elim)
   have h9 := SL.ev h9 E55 (fun q => q.elim) (fun q => q.elim)
   have h16 := AT.ev h16 E55 (fun q => q.elim)
   have h23 := AT.ev h23 E55 (fun q => q.elim)
   have h33 := TR.ev h33 E55 (fun q => q.elim) (fun q => q.elim)
   have hat31 := AT.ev hat31 E55 (fun q => q.elim)
   have h39 := AT.ev h39 E55 (fun q => q.elim)
   have E := E.trans E55 (fun x q => q.elim)
   refine ⟨fun _ => ER.sb, ?_⟩
   refine d_q F rfl rfl rfl (by decide) (fun wq hS => r_fieldAddr F rfl ff_28_1) ER.sb fun a F => ?_
   refine d_e ?_
   obtain ⟨t58, q59, H⟩ := bind_some H
   refine o_call F rfl (wanted_none rfl) rfl (by decide) (r_call F Try.func42 rfl (by kernel_rfl) rfl) (bytes_Clone.calls (m := m + 4) (by omega) B h9 (by omega) 0 (by omega) _ q59) ?_
   rintro e w61 ⟨c60, A64, C65, rfl, E62, B63, h66⟩
   refine ⟨_, rfl, fun a F => ?_⟩
   have B := B63
   have ER := ER.trans E62 (fun x q => q.elim)
   have h3 := TB.ev h3 E62 (fun q => q.elim) (fun q => q.elim)
   have h9 := SL.ev h9 E62 (fun q => q.elim) (fun q => q.elim)
   have h16 := AT.ev h16 E62 (fun q => q.elim)
   have h23 := AT.ev h23 E62 (fun q => q.elim)
   have h33 := TR.ev h33 E62 (fun q => q.elim) (fun q => q.elim)
   have hat31 := AT.ev hat31 E62 (fun q => q.elim)
   have h39 := AT.ev h39 E62 (fun q => q.elim)
   have h56 := SL.ev h56 E62 (fun q => q.elim) (fun q => q.elim)
   have E := E.trans E62 (fun x q => q.elim)
   refine ⟨fun _ => ER.sb, ?_⟩
   refine d_e ?_
   refine o_eff0 F rfl rfl rfl (e_store F rfl rfl sz_23 h39 (Nat.le_of_ble_eq_true rfl) rfl) ?_
   rintro w68 a ⟨E69, h39, Z70⟩ F
   have B := B.size Z70
   have ER := ER.trans E69 (fun x q => by replace q : x = m + 3 := q; show x = m + 3; omega)
   have h3 := TB.ev h3 E69 (by show ¬ (j4 = m + 3); omega) (by show ¬ (0 = m + 3); omega)
   have h9 := SL.ev h9 E69 (by show ¬ (0 = m + 3); omega) (by show ¬ (0 = m + 3); omega)
   have h16 := AT.ev h16 E69 (by show ¬ (m + 1 = m + 3); omega)
   have h23 := AT.ev h23 E69 (by show ¬ (m + 2 = m + 3); omega)
   have h33 := TR.ev h33 E69 (by show ¬ (0 = m + 3); omega) (by show ¬ (0 = m + 3); omega)
   have hat31 := AT.ev hat31 E69 (by show ¬ (j4 = m + 3); omega)
   have h56 := SL.ev h56 E69 (by show ¬ (0 = m + 3); omega) (by show ¬ (0 = m + 3); omega)
   have h66 := SL.ev h66 E69 (by show ¬ (0 = m + 3); omega) (by show ¬ (0 = m + 3); omega)
   have E := E.trans E69 (fun x q => by replace q : x = m + 3 := q; show False ∨ m ≤ x; omega)
   have h39 : AT true (m + 3) c60 w68 qa37 [.bool a10, .slice A53 (sb a5).length C54, .slice none 0 0, .int .i64 0, .int .i64 ob27.rev] := h39
   refine ⟨fun _ => ER.sb, ?_⟩
   refine d_q F rfl rfl rfl (by decide) (fun wq hS => r_fieldAddr F rfl ff_28_2) ER.sb fun a F => ?_
   refine d_e ?_
   refine o_eff0 F rfl rfl rfl (e_store F rfl rfl sz_23 h39 (Nat.le_of_ble_eq_true rfl) rfl) ?_
   rintro w71 a ⟨E72, h39, Z73⟩ F
   have B := B.size Z73
   have ER := ER.trans E72 (fun x q => by replace q : x = m + 3 := q; show x = m + 3; omega)
   have h3 := TB.ev h3 E72 (by show ¬ (j4 = m + 3); omega) (by show ¬ (0 = m + 3); omega)
   have h9 := SL.ev h9 E72 (by show ¬ (0 = m + 3); omega) (by show ¬ (0 = m + 3); omega)
   have h16 := AT.ev h16 E72 (by show ¬ (m + 1 = m + 3); omega)
   have h23 := AT.ev h23 E72 (by show ¬ (m + 2 = m + 3); omega)
   have h33 := TR.ev h33 E72 (by show ¬ (0 = m + 3); omega) (by show ¬ (0 = m + 3); omega)
   have hat31 := AT.ev hat31 E72 (by show ¬ (j4 = m + 3); omega)
   have h56 := SL.ev h56 E72 (by show ¬ (0 = m + 3); omega) (by show ¬ (0 = m + 3); omega)
   have h66 := SL.ev h66 E72 (by show ¬ (0 = m + 3); omega) (by show ¬ (0 = m + 3); omega)
   have E := E.trans E72 (fun x q => by replace q : x = m + 3 := q; show False ∨ m ≤ x; omega)
   have h39 : AT true (m + 3) c60 w71 qa37 [.bool a10, .slice A53 (sb a5).length C54, .slice A64 t58.length C65, .int .i64 0, .int .i64 ob27.rev] := h39
   refine ⟨fun _ => ER.sb, ?_⟩
   refine d_q F rfl rfl rfl (by decide) (fun wq hS => r_fieldAddr F rfl ff_28_3) ER.sb fun a F => ?_
   refine d_e ?_
   refine o_eff0 F rfl rfl rfl (e_store F rfl rfl sz_3 h39 (Nat.le_of_ble_eq_true rfl) rfl) ?_
   rintro w74 a ⟨E75, h39, Z76⟩ F
   have B := B.size Z76
   have ER := ER.trans E75 (fun x q => by replace q : x = m + 3 := q; show x = m + 3; omega)
   have h3 := TB.ev h3 E75 (by show ¬ (j4 = m + 3); omega) (by show ¬ (0 = m + 3); omega)
   have h9 := SL.ev h9 E75 (by show ¬ (0 = m + 3); omega) (by show ¬ (0 = m + 3); omega)
   have h16 := AT.ev h16 E75 (by show ¬ (m + 1 = m + 3); omega)
   have h23 := AT.ev h23 E75 (by show ¬ (m + 2 = m + 3); omega)
   have h33 := TR.ev h33 E75 (by show ¬ (0 = m + 3); omega) (by show ¬ (0 = m + 3); omega)
   have hat31 := AT.ev hat31 E75 (by show ¬ (j4 = m + 3); omega)
   have h56 := SL.ev h56 E75 (by show ¬ (0 = m + 3); omega) (by show ¬ (0 = m + 3); omega)
   have h66 := SL.ev h66 E75 (by show ¬ (0 = m + 3); omega) (by show ¬ (0 = m + 3); omega)
   have E := E.trans E75 (fun x q => by replace q : x = m + 3 := q; show False ∨ m ≤ x; omega)
   have h39 : AT true (m + 3) c60 w74 qa37 [.bool a10, .slice A53 (sb a5).length C54, .slice A64 t58.length C65, .int .i64 a6.rev, .int .i64 ob27.rev] := h39
   refine ⟨fun q => absurd rfl q, ?_⟩
   refine d_nil ?_
   refine hK45 _ _ ?_
   refine wp_seq_k fun K101 hK101 => ?_
   refine reg ?_
   refine q_val F rfl rfl (by decide) (r_loads (cs := [.bool a10, .slice A53 (sb a5).length C54, .slice A64 t58.length C65, .int .i64 a6.rev, .int .i64 ob27.rev]) F rfl ag_28 sz_28 h39) fun a F => ?_
   refine q_eff0 F rfl rfl (e_storeN0 (us := [.bool a10, .slice A53 (sb a5).length C54, .slice A64 t58.length C65, .int .i64 a6.rev, .int .i64 ob27.rev]) F rfl rfl sz_28 h23 (Nat.le_of_ble_eq_true rfl) (one_all rfl)) ?_
   rintro w102 a ⟨E103, h23, Z104⟩ F
   have B := B.size Z104
   have h3 := TB.ev h3 E103 (by show ¬ (j4 = m + 2); omega) (by show ¬ (0 = m + 2); omega)
   have h9 := SL.ev h9 E103 (by show ¬ (0 = m + 2); omega) (by show ¬ (0 = m + 2); omega)
   have h16 := AT.ev h16 E103 (by show ¬ (m + 1 = m + 2); omega)
   have h33 := TR.ev h33 E103 (by show ¬ (0 = m + 2); omega) (by show ¬ (0 = m + 2); omega)
   have hat31 := AT.ev hat31 E103 (by show ¬ (j4 = m + 2); omega)
   have h39 := AT.ev h39 E103 (by show ¬ (m + 3 = m + 2); omega)
   have h56 := SL.ev h56 E103 (by show ¬ (0 = m + 2); omega) (by show ¬ (0 = m + 2); omega)
   have h66 := SL.ev h66 E103 (by show ¬ (0 = m + 2); omega) (by show ¬ (0 = m + 2); omega)
   have E := E.trans E103 (fun x q => by replace q : x = m + 2 := q; show False ∨ m ≤ x; omega)
   have h23 : AT true (m + 2) c60 w102 qa21 [.bool a10, .slice A53 (sb a5).length C54, .slice A64 t58.length C65, .int .i64 a6.rev, .int .i64 ob27.rev] := h23
   refine nil ?_
   refine hK101 _ _ ?_
   refine wp_ret ?_
   have H := Option.some.inj H
   subst H
   refine outR1 F rfl ⟨_, rfl, lv_agg (cs := [.bool a10, .slice A53 (sb a5).length C54, .slice A64 t58.length C65, .int .i64 a6.rev, .int .i64 ob27.rev]) ag_28 sz_28 h23⟩ ?_
   exact ⟨fun b_ => (fun x_ => if x_ < m then x_ else 0) (c60 b_), A53, C54, A64, C65, rfl, E.leave B0 (fun x_ => if x_ < m then x_ else 0) (by intro x_ hx_; show (if x_ < m then x_ else 0) = x_; ((repeat' split) <;> omega)), (fun b_ hb_ => by show (if (c60 b_) < m then (c60 b_) else 0) < m; ((repeat' split) <;> omega)), SL.rc h56.r (fun k_ hk_ => by show (if (c60 k_) < m then (c60 k_) else 0) = _; rw [hk_]; ((repeat' split) <;> omega)) (fun k_ hk_ => by show (if (c60 k_) < m then (c60 k_) else 0) = _; rw [hk_]; ((repeat' split) <;> omega)), SL.rc h66.r (fun k_ hk_ => by show (if (c60 k_) < m then (c60 k_) else 0) = _; rw [hk_]; ((repeat' split) <;> omega)) (fun k_ hk_ => by show (if (c60 k_) < m then (c60 k_) else 0) = _; rw [hk_]; ((repeat' split) <;> omega))⟩
  ·obtain ⟨g50, H⟩ := ifN H
   obtain ⟨t58, q59, H⟩ := bind_some H
   refine o_call F rfl (wanted_none rfl) rfl (by decide) (r_call F Try.func42 rfl (by kernel_rfl) rfl) (bytes_Clone.calls (m := m + 4) (by omega) B h9 (by omega) 0 (by omega) _ q59) ?_
   rintro e w78 ⟨c77, A81, C82, rfl, E79, B80, h83⟩
   refine ⟨_, rfl, fun a F => ?_⟩
   have B := B80
   have ER := ER.trans E79 (fun x q => q.elim)
   have h3 := TB.ev h3 E79 (fun q => q.elim) (fun q => q.elim)
   have h9 := SL.ev h9 E79 (fun q => q.elim) (fun q => q.elim)
   have h16 := AT.ev h16 E79 (fun q => q.elim)
   have h23 := AT.ev h23 E79 (fun q => q.elim)
   have h33 := TR.ev h33 E79 (fun q => q.elim) (fun q => q.elim)
   have hat31 := AT.ev hat31 E79 (fun q => q.elim)
   have h39 := AT.ev h39 E79 (fun q => q.elim)
   have E := E.trans E79 (fun x q => q.elim)
   refine ⟨fun _ => ER.sb, ?_⟩
   refine d_e ?_
   refine o_eff F rfl rfl rfl (by decide) (e_strBytes F Try.underlying9 Try.underlying23 Try.underlying5 rfl (by unfold maxLen; omega) c77 0 0) ?_
   rintro v w86 a ⟨c85, A87, C88, rfl, E89, h90, B91⟩ F
   have B := B91 _ B (by omega)
   have ER := ER.trans E89 (fun x q => q.elim)
   have h3 := TB.ev h3 E89 (fun q => q.elim) (fun q => q.elim)
   have h9 := SL.ev h9 E89 (fun q => q.elim) (fun q => q.elim)
   have h16 := AT.ev h16 E89 (fun q => q.elim)
   have h23 := AT.ev h23 E89 (fun q => q.elim)
   have h33 := TR.ev h33 E89 (fun q => q.elim) (fun q => q.elim)
   have hat31 := AT.ev hat31 E89 (fun q => q.elim)
   have h39 := AT.ev h39 E89 (fun q => q.elim)
   have h83 := SL.ev h83 E89 (fun q => q.elim) (fun q => q.elim)
   have E := E.trans E89 (fun x q => q.elim)
   refine ⟨fun _ => ER.sb, ?_⟩
   refine d_q F rfl rfl rfl (by decide) (fun wq hS => r_fieldAddr F rfl ff_28_1) ER.sb fun a F => ?_
   refine d_e ?_
   refine o_eff0 F rfl rfl rfl (e_store F rfl rfl sz_23 h39 (Nat.le_of_ble_eq_true rfl) rfl) ?_
   rintro w92 a ⟨E93, h39, Z94⟩ F
   have B := B.size Z94
   have ER := ER.trans E93 (fun x q => by replace q : x = m + 3 := q; show x = m + 3; omega)
   have h3 := TB.ev h3 E93 (by show ¬ (j4 = m + 3); omega) (by show ¬ (0 = m + 3); omega)
   have h9 := SL.ev h9 E93 (by show ¬ (0 = m + 3); omega) (by show ¬ (0 = m + 3); omega)
   have h16 := AT.ev h16 E93 (by show ¬ (m + 1 = m + 3); omega)
   have h23 := AT.ev h23 E93 (by show ¬ (m + 2 = m + 3); omega)
   have h33 := TR.ev h33 E93 (by show ¬ (0 = m + 3); omega) (by show ¬ (0 = m + 3); omega)
   have hat31 := AT.ev hat31 E93 (by show ¬ (j4 = m + 3); omega)
   have h83 := SL.ev h83 E93 (by show ¬ (0 = m + 3); omega) (by show ¬ (0 = m + 3); omega)
   have h90 := SL.ev h90 E93 (by show ¬ (0 = m + 3); omega) (by show ¬ (0 = m + 3); omega)
   have E := E.trans E93 (fun x q => by replace q : x = m + 3 := q; show False ∨ m ≤ x; omega)
   have h39 : AT true (m + 3) c85 w92 qa37 [.bool a10, .slice A87 (sb a5).length C88, .slice none 0 0, .int .i64 0, .int .i64 ob27.rev] := h39
   refine ⟨fun _ => ER.sb, ?_⟩
   refine d_q F rfl rfl rfl (by decide) (fun wq hS => r_fieldAddr F rfl ff_28_2) ER.sb fun a F => ?_
   refine d_e ?_
   refine o_eff0 F rfl rfl rfl (e_store F rfl rfl sz_23 h39 (Nat.le_of_ble_eq_true rfl) rfl) ?_
   rintro w95 a ⟨E96, h39, Z97⟩ F
   have B := B.size Z97
   have ER := ER.trans E96 (fun x q => by replace q : x = m + 3 := q; show x = m + 3; omega)
   have h3 := TB.ev h3 E96 (by show ¬ (j4 = m + 3); omega) (by show ¬ (0 = m + 3); omega)
   have h9 := SL.ev h9 E96 (by show ¬ (0 = m + 3); omega) (by show ¬ (0 = m + 3); omega)
   have h16 := AT.ev h16 E96 (by show ¬ (m + 1 = m + 3); omega)
   have h23 := AT.ev h23 E96 (by show ¬ (m + 2 = m + 3); omega)
   have h33 := TR.ev h33 E96 (by show ¬ (0 = m + 3); omega) (by show ¬ (0 = m + 3); omega)
   have hat31 := AT.ev hat31 E96 (by show ¬ (j4 = m + 3); omega)
   have h83 := SL.ev h83 E96 (by show ¬ (0 = m + 3); omega) (by show ¬ (0 = m + 3); omega)
   have h90 := SL.ev h90 E96 (by show ¬ (0 = m + 3); omega) (by show ¬ (0 = m + 3); omega)
   have E := E.trans E96 (fun x q => by replace q : x = m + 3 := q; show False ∨ m ≤ x; omega)
   have h39 : AT true (m + 3) c85 w95 qa37 [.bool a10, .slice A87 (sb a5).length C88, .slice A81 t58.length C82, .int .i64 0, .int .i64 ob27.rev] := h39
   refine ⟨fun _ => ER.sb, ?_⟩
   refine d_q F rfl rfl rfl (by decide) (fun wq hS => r_fieldAddr F rfl ff_28_3) ER.sb fun a F => ?_
   refine d_e ?_
   refine o_eff0 F rfl rfl rfl (e_store F rfl rfl sz_3 h39 (Nat.le_of_ble_eq_true rfl) rfl) ?_
   rintro w98 a ⟨E99, h39, Z100⟩ F
   have B := B.size Z100
   have ER := ER.trans E99 (fun x q => by replace q : x = m + 3 := q; show x = m + 3; omega)
   have h3 := TB.ev h3 E99 (by show ¬ (j4 = m + 3); omega) (by show ¬ (0 = m + 3); omega)
   have h9 := SL.ev h9 E99 (by show ¬ (0 = m + 3); omega) (by show ¬ (0 = m + 3); omega)
   have h16 := AT.ev h16 E99 (by show ¬ (m + 1 = m + 3); omega)
   have h23 := AT.ev h23 E99 (by show ¬ (m + 2 = m + 3); omega)
   have h33 := TR.ev h33 E99 (by show ¬ (0 = m + 3); omega) (by show ¬ (0 = m + 3); omega)
   have hat31 := AT.ev hat31 E99 (by show ¬ (j4 = m + 3); omega)
   have h83 := SL.ev h83 E99 (by show ¬ (0 = m + 3); omega) (by show ¬ (0 = m + 3); omega)
   have h90 := SL.ev h90 E99 (by show ¬ (0 = m + 3); omega) (by show ¬ (0 = m + 3); omega)
   have E := E.trans E99 (fun x q => by replace q : x = m + 3 := q; show False ∨ m ≤ x; omega)
   have h39 : AT true (m + 3) c85 w98 qa37 [.bool a10, .slice A87 (sb a5).length C88, .slice A81 t58.length C82, .int .i64 a6.rev, .int .i64 ob27.rev] := h39
   refine ⟨fun q => absurd rfl q, ?_⟩
   refine d_nil ?_
   refine hK45 _ _ ?_
   refine wp_seq_k fun K105 hK105 => ?_
   refine reg ?_
   refine q_val F rfl rfl (by decide) (r_loads (cs := [.bool a10, .slice A87 (sb a5).length C88, .slice A81 t58.length C82, .int .i64 a6.rev, .int .i64 ob27.rev]) F rfl ag_28 sz_28 h39) fun a F => ?_
   refine q_eff0 F rfl rfl (e_storeN0 (us := [.bool a10, .slice A87 (sb a5).length C88, .slice A81 t58.length C82, .int .i64 a6.rev, .int .i64 ob27.rev]) F rfl rfl sz_28 h23 (Nat.le_of_ble_eq_true rfl) (one_all rfl)) ?_
   rintro w106 a ⟨E107, h23, Z108⟩ F
   have B := B.size Z108
   have h3 := TB.ev h3 E107 (by show ¬ (j4 = m + 2); omega) (by show ¬ (0 = m + 2); omega)
   have h9 := SL.ev h9 E107 (by show ¬ (0 = m + 2); omega) (by show ¬ (0 = m + 2); omega)
   have h16 := AT.ev h16 E107 (by show ¬ (m + 1 = m + 2); omega)
   have h33 := TR.ev h33 E107 (by show ¬ (0 = m + 2); omega) (by show ¬ (0 = m + 2); omega)
   have hat31 := AT.ev hat31 E107 (by show ¬ (j4 = m + 2); omega)
   have h39 := AT.ev h39 E107 (by show ¬ (m + 3 = m + 2); omega)
   have h83 := SL.ev h83 E107 (by show ¬ (0 = m + 2); omega) (by show ¬ (0 = m + 2); omega)
   have h90 := SL.ev h90 E107 (by show ¬ (0 = m + 2); omega) (by show ¬ (0 = m + 2); omega)
   have E := E.trans E107 (fun x q => by replace q : x = m + 2 := q; show False ∨ m ≤ x; omega)
   have h23 : AT true (m + 2) c85 w106 qa21 [.bool a10, .slice A87 (sb a5).length C88, .slice A81 t58.length C82, .int .i64 a6.rev, .int .i64 ob27.rev] := h23
   refine nil ?_
   refine hK105 _ _ ?_
   refine wp_ret ?_
   have H := Option.some.inj H
   subst H
   refine outR1 F rfl ⟨_, rfl, lv_agg (cs := [.bool a10, .slice A87 (sb a5).length C88, .slice A81 t58.length C82, .int .i64 a6.rev, .int .i64 ob27.rev]) ag_28 sz_28 h23⟩ ?_
   exact ⟨fun b_ => (fun x_ => if x_ < m then x_ else 0) (c85 b_), A87, C88, A81, C82, rfl, E.leave B0 (fun x_ => if x_ < m then x_ else 0) (by intro x_ hx_; show (if x_ < m then x_ else 0) = x_; ((repeat' split) <;> omega)), (fun b_ hb_ => by show (if (c85 b_) < m then (c85 b_) else 0) < m; ((repeat' split) <;> omega)), SL.rc h90.r (fun k_ hk_ => by show (if (c85 k_) < m then (c85 k_) else 0) = _; rw [hk_]; ((repeat' split) <;> omega)) (fun k_ hk_ => by show (if (c85 k_) < m then (c85 k_) else 0) = _; rw [hk_]; ((repeat' split) <;> omega)), SL.rc h83.r (fun k_ hk_ => by show (if (c85 k_) < m then (c85 k_) else 0) = _; rw [hk_]; ((repeat' split) <;> omega)) (fun k_ hk_ => by show (if (c85 k_) < m then (c85 k_) else 0) = _; rw [hk_]; ((repeat' split) <;> omega))⟩
 ·have H := (if_neg hb47).symm.trans H
  refine wp_cond_false ((F.ev rfl).trans (congrArg Value.bool (bfalse hb47))) ?_
  refine wp_skip ?_
  refine hK45 _ _ ?_
  refine wp_seq_k fun K109 hK109 => ?_
  refine reg ?_
  refine q_val F rfl rfl (by decide) (r_loads (cs := [.bool a10, .slice none 0 0, .slice none 0 0, .int .i64 0, .int .i64 ob27.rev]) F rfl ag_28 sz_28 h39) fun a F => ?_
  refine q_eff0 F rfl rfl (e_storeN0 (us := [.bool a10, .slice none 0 0, .slice none 0 0, .int .i64 0, .int .i64 ob27.rev]) F rfl rfl sz_28 h23 (Nat.le_of_ble_eq_true rfl) (one_all rfl)) ?_
  rintro w110 a ⟨E111, h23, Z112⟩ F
  have B := B.size Z112
  have h3 := TB.ev h3 E111 (by show ¬ (j4 = m + 2); omega) (by show ¬ (0 = m + 2); omega)
  have h9 := SL.ev h9 E111 (by show ¬ (0 = m + 2); omega) (by show ¬ (0 = m + 2); omega)
  have h16 := AT.ev h16 E111 (by show ¬ (m + 1 = m + 2); omega)
  have h33 := TR.ev h33 E111 (by show ¬ (0 = m + 2); omega) (by show ¬ (0 = m + 2); omega)
  have hat31 := AT.ev hat31 E111 (by show ¬ (j4 = m + 2); omega)
  have h39 := AT.ev h39 E111 (by show ¬ (m + 3 = m + 2); omega)
  have E := E.trans E111 (fun x q => by replace q : x = m + 2 := q; show False ∨ m ≤ x; omega)
  have h23 : AT true (m + 2) c35 w110 qa21 [.bool a10, .slice none 0 0, .slice none 0 0, .int .i64 0, .int .i64 ob27.rev] := h23
  refine nil ?_
  refine hK109 _ _ ?_
  refine wp_ret ?_
  have H := Option.some.inj H
  subst H
  refine outR1 F rfl ⟨_, rfl, lv_agg (cs := [.bool a10, .slice none 0 0, .slice none 0 0, .int .i64 0, .int .i64 ob27.rev]) ag_28 sz_28 h23⟩ ?_
  exact ⟨fun b_ => (fun x_ => if x_ < m then x_ else 0) (c35 b_), none, 0, none, 0, rfl, E.leave B0 (fun x_ => if x_ < m then x_ else 0) (by intro x_ hx_; show (if x_ < m then x_ else 0) = x_; ((repeat' split) <;> omega)), (fun b_ hb_ => by show (if (c35 b_) < m then (c35 b_) else 0) < m; ((repeat' split) <;> omega)), SL.nil, SL.nil⟩
end Go.Proofs.Ytcolmmjcdlmcoaa.G
namespace Go.Proofs.Ytcolmmjcdlmcoaa.G
open Go Go.RowKit
set_option linter.unusedVariables false
set_option linter.unusedSimpArgs false
set_option maxRecDepth 100000 in
set_option maxHeartbeats 4000000 in
theorem table_Table_Rev.calls {m : Nat} {c0 : Nat → Nat} {w0 : World} {j4 : Nat} {p2 : Option Addr} {a1 : Option Tab} (hm0 : 0 < m) (B0 : CB m c0 w0) (h3 : TB j4 c0 w0 p2 a1) (bj4 : j4 < m) (r : Int) (H : table_Table_Rev.f a1 = some r) : Calls Try.prog 23 #[.pointer p2] w0 (fun e w_ => ∃ (c_ : Nat → Nat), e = .returned (.int .i64 r) ∧ Ev (fun x => False) c0 w0 c_ w_ ∧ CB m c_ w_) := by
 unfold table_Table_Rev.f at H
 have B := B0.mono (show m ≤ m + 1 by omega)
 have E : Ev (fun x => False ∨ m ≤ x) c0 w0 c0 w0 := Ev.refl
 refine enter (N := 9) (l := [.pointer p2]) Try.func23 rfl rfl (Nat.le_of_ble_eq_true rfl) fun a F => ?_
 refine wp_seq_k fun K5 hK5 => ?_
 refine reg ?_
 refine q_val F rfl rfl (by decide) (r_assign F rfl) fun a F => ?_
 refine nil ?_
 refine hK5 _ _ ?_
 refine wp_seq_k fun K6 hK6 => ?_
 refine wp_seq_k fun K7 hK7 => ?_
 refine reg ?_
 refine q_val F rfl rfl (by decide) (r_move F rfl) fun a F => ?_
 refine q_val F rfl rfl (by decide) (r_peqlA F Try.underlying25 rfl rfl (TB.isNone h3)) fun a F => ?_
 refine nil ?_
 refine hK7 _ _ ?_
 by_cases hb8 : (Option.isNone a1) = true
 ·have H := (if_pos hb8).symm.trans H
  refine wp_cond_true ((F.ev rfl).trans (congrArg Value.bool hb8)) ?_
  refine wp_seq_k fun K9 hK9 => ?_
  refine reg ?_
  refine q_val F rfl rfl (by decide) (r_assign F rfl) fun a F => ?_
  refine nil ?_
  refine hK9 _ _ ?_
  refine wp_ret ?_
  refine thenR ?_
  have H := Option.some.inj H
  subst H
  refine out1 F rfl rfl ?_
  exact ⟨fun b_ => (fun x_ => if x_ < m then x_ else 0) (c0 b_), rfl, E.leave B0 (fun x_ => if x_ < m then x_ else 0) (by intro x_ hx_; show (if x_ < m then x_ else 0) = x_; ((repeat' split) <;> omega)), (fun b_ hb_ => by show (if (c0 b_) < m then (c0 b_) else 0) < m; ((repeat' split) <;> omega))⟩
 ·have H := (if_neg hb8).symm.trans H
  refine wp_cond_false ((F.ev rfl).trans (congrArg Value.bool (bfalse hb8))) ?_
  refine wp_skip ?_
  refine hK6 _ _ ?_
  refine wp_seq_k fun K10 hK10 => ?_
  refine reg ?_
  refine q_val F rfl rfl (by decide) (r_move F rfl) fun a F => ?_
  obtain ⟨ob11, e12, H⟩ := bind_some H
  have z13 := h3
  rw [e12] at z13
  obtain ⟨ad14, p16, rfl, hat15, h17⟩ := TB.some z13
  refine q_val F rfl rfl (by decide) (r_nil F rfl) fun a F => ?_
  refine q_val F rfl rfl (by decide) (r_fieldAddr F rfl ff_70_1) fun a F => ?_
  refine q_val F rfl rfl (by decide) (r_load F rfl ag_3 (AT.cell hat15 rfl)) fun a F => ?_
  refine q_val F rfl rfl (by decide) (r_assign F rfl) fun a F => ?_
  refine nil ?_
  refine hK10 _ _ ?_
  refine wp_ret ?_
  have H := Option.some.inj H
  subst H
  refine out1 F rfl rfl ?_
  exact ⟨fun b_ => (fun x_ => if x_ < m then x_ else 0) (c0 b_), rfl, E.leave B0 (fun x_ => if x_ < m then x_ else 0) (by intro x_ hx_; show (if x_ < m then x_ else 0) = x_; ((repeat' split) <;> omega)), (fun b_ hb_ => by show (if (c0 b_) < m then (c0 b_) else 0) < m; ((repeat' split) <;> omega))⟩
end Go.Proofs.Ytcolmmjcdlmcoaa.G
namespace Go.Proofs.Ytcolmmjcdlmcoaa.G
open Go Go.RowKit
set_option linter.unusedVariables false
set_option linter.unusedSimpArgs false
set_option maxRecDepth 100000 in
set_option maxHeartbeats 4000000 in
theorem table_Table_Size.calls (k : Nat) {m : Nat} {c0 : Nat → Nat} {w0 : World} {j4 : Nat} {p2 : Option Addr} {a1 : Option Tab} (hm0 : 0 < m) (B0 : CB m c0 w0) (h3 : TB j4 c0 w0 p2 a1) (bj4 : j4 < m) (r : Int) (H : table_Table_Size.f k a1 = some r) : Calls Try.prog 30 #[.pointer p2] w0 (fun e w_ => ∃ (c_ : Nat → Nat), e = .returned (.int .i64 r) ∧ Ev (fun x => False) c0 w0 c_ w_ ∧ CB m c_ w_) := by
 unfold table_Table_Size.f at H
 have B := B0.mono (show m ≤ m + 1 by omega)
 have E : Ev (fun x => False ∨ m ≤ x) c0 w0 c0 w0 := Ev.refl
 refine enter (N := 22) (l := [.pointer p2]) Try.func30 rfl rfl (Nat.le_of_ble_eq_true rfl) fun a F => ?_
 refine wp_seq_k fun K5 hK5 => ?_
 refine reg ?_
 refine q_val F rfl rfl (by decide) (r_assign F rfl) fun a F => ?_
 refine nil ?_
 refine hK5 _ _ ?_
 refine wp_seq_k fun K6 hK6 => ?_
 refine wp_seq_k fun K7 hK7 => ?_
 refine reg ?_
 refine q_val F rfl rfl (by decide) (r_move F rfl) fun a F => ?_
 refine q_val F rfl rfl (by decide) (r_peqlA F Try.underlying25 rfl rfl (TB.isNone h3)) fun a F => ?_
 refine nil ?_
 refine hK7 _ _ ?_
 by_cases hb8 : (Option.isNone a1) = true
 ·have H := (if_pos hb8).symm.trans H
  refine wp_cond_true ((F.ev rfl).trans (congrArg Value.bool hb8)) ?_
  refine wp_seq_k fun K9 hK9 => ?_
  refine reg ?_
  refine q_val F rfl rfl (by decide) (r_assign F rfl) fun a F => ?_
  refine nil ?_
  refine hK9 _ _ ?_
  refine wp_ret ?_
  refine thenR ?_
  have H := Option.some.inj H
  subst H
  refine out1 F rfl rfl ?_
  exact ⟨fun b_ => (fun x_ => if x_ < m then x_ else 0) (c0 b_), rfl, E.leave B0 (fun x_ => if x_ < m then x_ else 0) (by intro x_ hx_; show (if x_ < m then x_ else 0) = x_; ((repeat' split) <;> omega)), (fun b_ hb_ => by show (if (c0 b_) < m then (c0 b_) else 0) < m; ((repeat' split) <;> omega))⟩
 ·have H := (if_neg hb8).symm.trans H
  refine wp_cond_false ((F.ev rfl).trans (congrArg Value.bool (bfalse hb8))) ?_
  refine wp_skip ?_
  refine hK6 _ _ ?_
  refine wp_seq_k fun K10 hK10 => ?_
  refine regD (SB No c0 w0) 18 (.q 0 (.q 1 (.q 2 (.q 3 (.q 5 (.q 6 (.q 7 (.q 8 (.q 12 (.q 13 (.q 14 (.q 15 (.e 4 (.e 9 (.e 10 (.q 11 (.q 16 (.q 17 .nil)))))))))))))))))) Try_hm (by decide +kernel) ?_
  intro w11 w1_ w2_ w3_ w4_
  have E12 : Ev No c0 w0 c0 w11 := Ev.same w1_ w2_ w3_ w4_
  have B := B.same w1_
  have zh3 := h3
  have ER : Ev No c0 w0 c0 w11 := Ev.same w1_ w2_ w3_ w4_
  have h3 := TB.ev h3 E12 (fun q => q.elim) (fun q => q.elim)
  have E := E.trans E12 (fun x q => q.elim)
  refine d_q F rfl rfl rfl (by decide) (fun wq hS => r_move F rfl) ER.sb fun a F => ?_
  obtain ⟨ob13, e14, H⟩ := bind_some H
  have z15 := zh3
  rw [e14] at z15
  obtain ⟨ad16, p18, rfl, hat17, h19⟩ := TB.some z15
  have zh19 := h19
  have h19 := TR.ev h19 ER (fun q => q.elim) (fun q => q.elim)
  have zhat17 := hat17
  have hat17 := AT.ev hat17 ER (fun q => q.elim)
  refine d_q F rfl rfl rfl (by decide) (fun wq hS => r_nil F rfl) ER.sb fun a F => ?_
  refine d_q F rfl rfl rfl (by decide) (fun wq hS => r_fieldAddr F rfl ff_70_1) ER.sb fun a F => ?_
  refine d_q F rfl rfl rfl (by decide) (fun wq hS => r_load F rfl ag_3 (AT.cell (AT.sb zhat17 hS (fun q => q.elim)) rfl)) ER.sb fun a F => ?_
  refine d_q F rfl rfl rfl (by decide) (fun wq hS => r_move F rfl) ER.sb fun a F => ?_
  refine d_q F rfl rfl rfl (by decide) (fun wq hS => r_nil F rfl) ER.sb fun a F => ?_
  refine d_q F rfl rfl rfl (by decide) (fun wq hS => r_fieldAddr F rfl ff_70_0) ER.sb fun a F => ?_
  refine d_q F rfl rfl rfl (by decide) (fun wq hS => r_load F rfl ag_68 (AT.cell (AT.sb zhat17 hS (fun q => q.elim)) rfl)) ER.sb fun a F => ?_
  refine d_q F rfl rfl rfl (by decide) (fun wq hS => r_move F rfl) ER.sb fun a F => ?_
  refine d_q F rfl rfl rfl (by decide) (fun wq hS => r_nil F rfl) ER.sb fun a F => ?_
  refine d_q F rfl rfl rfl (by decide) (fun wq hS => r_fieldAddr F rfl ff_70_2) ER.sb fun a F => ?_
  refine d_q F rfl rfl rfl (by decide) (fun wq hS => r_load F rfl ag_3 (AT.cell (AT.sb zhat17 hS (fun q => q.elim)) rfl)) ER.sb fun a F => ?_
  refine d_e ?_
  obtain ⟨t21, q22, H⟩ := bind_some H
  refine o_call F rfl (wanted_none rfl) rfl (by decide) (r_call F Try.func55 rfl (by kernel_rfl) rfl) (table_num.calls k (m := m + 1) (by omega) B _ q22) ?_
  rintro e w24 ⟨c23, rfl, E25, B26⟩
  refine ⟨_, rfl, fun a F => ?_⟩
  have B := B26
  have ER := ER.trans E25 (fun x q => q.elim)
  have h3 := TB.ev h3 E25 (fun q => q.elim) (fun q => q.elim)
  have h19 := TR.ev h19 E25 (fun q => q.elim) (fun q => q.elim)
  have hat17 := AT.ev hat17 E25 (fun q => q.elim)
  have E := E.trans E25 (fun x q => q.elim)
  refine ⟨fun _ => ER.sb, ?_⟩
  refine d_e ?_
  obtain ⟨t28, q29, H⟩ := bind_some H
  refine o_call F rfl (wanted_none rfl) rfl (by decide) (r_call F Try.func46 rfl (by kernel_rfl) rfl) (tree_Tree_Len.calls (m := m + 1) (by omega) B h19 _ q29) ?_
  rintro e w31 ⟨c30, rfl, E32, B33⟩
  refine ⟨_, rfl, fun a F => ?_⟩
  have B := B33
  have ER := ER.trans E32 (fun x q => q.elim)
  have h3 := TB.ev h3 E32 (fun q => q.elim) (fun q => q.elim)
  have h19 := TR.ev h19 E32 (fun q => q.elim) (fun q => q.elim)
  have hat17 := AT.ev hat17 E32 (fun q => q.elim)
  have E := E.trans E32 (fun x q => q.elim)
  refine ⟨fun _ => ER.sb, ?_⟩
  refine d_e ?_
  obtain ⟨t35, q36, H⟩ := bind_some H
  refine o_call F rfl (wanted_none rfl) rfl (by decide) (r_call F Try.func55 rfl (by kernel_rfl) rfl) (table_num.calls k (m := m + 1) (by omega) B _ q36) ?_
  rintro e w38 ⟨c37, rfl, E39, B40⟩
  refine ⟨_, rfl, fun a F => ?_⟩
  have B := B40
  have ER := ER.trans E39 (fun x q => q.elim)
  have h3 := TB.ev h3 E39 (fun q => q.elim) (fun q => q.elim)
  have h19 := TR.ev h19 E39 (fun q => q.elim) (fun q => q.elim)
  have hat17 := AT.ev hat17 E39 (fun q => q.elim)
  have E := E.trans E39 (fun x q => q.elim)
  refine ⟨fun _ => ER.sb, ?_⟩
  refine d_q F rfl rfl rfl (by decide) (fun wq hS => r_add F rfl rfl) ER.sb fun a F => ?_
  refine d_q F rfl rfl rfl (by decide) (fun wq hS => r_add F rfl rfl) ER.sb fun a F => ?_
  refine d_q F rfl rfl rfl (by decide) (fun wq hS => r_assign F rfl) ER.sb fun a F => ?_
  refine d_nil ?_
  refine hK10 _ _ ?_
  refine wp_ret ?_
  have H := Option.some.inj H
  subst H
  refine out1 F rfl rfl ?_
  exact ⟨fun b_ => (fun x_ => if x_ < m then x_ else 0) (c37 b_), rfl, E.leave B0 (fun x_ => if x_ < m then x_ else 0) (by intro x_ hx_; show (if x_ < m then x_ else 0) = x_; ((repeat' split) <;> omega)), (fun b_ hb_ => by show (if (c37 b_) < m then (c37 b_) else 0) < m; ((repeat' split) <;> omega))⟩
end Go.Proofs.Ytcolmmjcdlmcoaa.G
namespace Go.Proofs.Ytcolmmjcdlmcoaa.G
open Go Go.RowKit
set_option linter.unusedVariables false
set_option linter.unusedSimpArgs false
set_option maxRecDepth 100000 in
set_option maxHeartbeats 4000000 in
theorem table_Table_Do.calls (k : Nat) {m : Nat} {c0 : Nat → Nat} {w0 : World} {j4 : Nat} {p2 : Option Addr} {A6 : Option Addr} {C7 : Nat} {A9 : Option Addr} {C10 : Nat} {a1 : Option Tab} {a5 : api_Op} (hm0 : 0 < m) (B0 : CB m c0 w0) (h3 : TB j4 c0 w0 p2 a1) (h8 : SL false (Kint .u8) 0 0 c0 w0 A6 C7 a5.Key) (h11 : SL false (Kint .u8) 0 0 c0 w0 A9 C10 a5.Value) (bj4 : 0 < j4 ∧ j4 < m) (r : api_Answer × Int × (Option Tab)) (H : table_Table_Do.f k a1 a5 = some r) : Calls Try.prog 14 #[.pointer p2, .agg #[.int .i64 a5.Kind, .slice A6 a5.Key.length C7, .slice A9 a5.Value.length C10, .int .i64 a5.Rev]] w0 (fun e w_ => ∃ (c_ : Nat → Nat) (A0_ : Option Addr) (C0_ : Nat) (A2_ : Option Addr) (C2_ : Nat), e = .returned (.tuple #[.agg #[.bool r.1.Done, .slice A0_ r.1.Key.length C0_, .slice A2_ r.1.Value.length C2_, .int .i64 r.1.Rev, .int .i64 r.1.At], .int .i64 r.2.1]) ∧ Ev (fun x => (x = j4)) c0 w0 c_ w_ ∧ CB m c_ w_ ∧ SL false (Kint .u8) 0 0 c_ w_ A0_ C0_ r.1.Key ∧ SL false (Kint .u8) 0 0 c_ w_ A2_ C2_ r.1.Value ∧ TB j4 c_ w_ p2 r.2.2) := by
 unfold table_Table_Do.f at H
 have B := B0.mono (show m ≤ m + 7 by omega)
 have E : Ev (fun x => (x = j4) ∨ m ≤ x) c0 w0 c0 w0 := Ev.refl
 refine enter (N := 116) (l := [.pointer p2, .agg #[.int .i64 a5.Kind, .slice A6 a5.Key.length C7, .slice A9 a5.Value.length C10, .int .i64 a5.Rev]]) Try.func14 rfl rfl (Nat.le_of_ble_eq_true rfl) fun a F => ?_
 refine wp_seq_k fun K12 hK12 => ?_
 refine reg ?_
 refine q_eff F rfl rfl (by decide) (e_box F (v := .agg #[.int .i64 a5.Kind, .slice A6 a5.Key.length C7, .slice A9 a5.Value.length C10, .int .i64 a5.Rev]) rfl c0 (m + 1)) ?_
 rintro v w14 a ⟨c13, qa15, rfl, E16, h17, B18⟩ F
 have B := B18 _ B (by omega)
 have h3 := TB.ev h3 E16 (fun q => q.elim) (fun q => q.elim)
 have h8 := SL.ev h8 E16 (fun q => q.elim) (fun q => q.elim)
 have h11 := SL.ev h11 E16 (fun q => q.elim) (fun q => q.elim)
 have E := E.trans E16 (fun x q => q.elim)
 have h17 : AT true (m + 1) c13 w14 qa15 [.int .i64 a5.Kind, .slice A6 a5.Key.length C7, .slice A9 a5.Value.length C10, .int .i64 a5.Rev] := h17
 refine q_eff F rfl rfl (by decide) (e_alloc F zv_28 c13 (m + 2)) ?_
 rintro v w21 a ⟨c20, qa22, rfl, E23, h24, B25⟩ F
 have B := B25 _ B (by omega)
 have h3 := TB.ev h3 E23 (fun q => q.elim) (fun q => q.elim)
 have h8 := SL.ev h8 E23 (fun q => q.elim) (fun q => q.elim)
 have h11 := SL.ev h11 E23 (fun q => q.elim) (fun q => q.elim)
 have h17 := AT.ev h17 E23 (fun q => q.elim)
 have E := E.trans E23 (fun x q => q.elim)
 have h24 : AT true (m + 2) c20 w21 qa22 [.bool false, .slice none 0 0, .slice none 0 0, .int .i64 0, .int .i64 0] := h24
 refine q_val F rfl rfl (by decide) (r_assign F rfl) fun a F => ?_
 refine nil ?_
 refine hK12 _ _ ?_
 refine wp_seq_k fun K27 hK27 => ?_
 refine wp_block ?_
 refine wp_seq_k fun K28 hK28 => ?_
 refine reg ?_
 refine q_val F rfl rfl (by decide) (r_move F rfl) fun a F => ?_
 refine q_val F rfl rfl (by decide) (r_peqlA F Try.underlying25 rfl rfl (TB.isNone h3)) fun a F => ?_
 refine q_val F rfl rfl (by decide) (r_assign F rfl) fun a F => ?_
 refine nil ?_
 refine hK28 _ _ ?_
 by_cases hb29 : (Option.isNone a1) = true
 ·have H := (if_pos hb29).symm.trans H
  refine wp_cond_true ((F.ev rfl).trans (congrArg Value.bool hb29)) ?_
  refine wp_seq_k fun K30 hK30 => ?_
  refine reg ?_
  refine q_val F rfl rfl (by decide) (r_build (v := .agg #[.bool false, .slice none 0 0, .slice none 0 0, .int .i64 0, .int .i64 0]) F [] (by exact trivial) (fun w => by kernel_rfl)) fun a F => ?_
  refine q_eff0 F rfl rfl (e_storeN0 (us := [.bool false, .slice none 0 0, .slice none 0 0, .int .i64 0, .int .i64 0]) F rfl rfl sz_28 h24 (Nat.le_of_ble_eq_true rfl) (one_all rfl)) ?_
  rintro w31 a ⟨E32, h24, Z33⟩ F
  have B := B.size Z33
  have h3 := TB.ev h3 E32 (by show ¬ (j4 = m + 2); omega) (by show ¬ (0 = m + 2); omega)
  have h8 := SL.ev h8 E32 (by show ¬ (0 = m + 2); omega) (by show ¬ (0 = m + 2); omega)
  have h11 := SL.ev h11 E32 (by show ¬ (0 = m + 2); omega) (by show ¬ (0 = m + 2); omega)
  have h17 := AT.ev h17 E32 (by show ¬ (m + 1 = m + 2); omega)
  have E := E.trans E32 (fun x q => by replace q : x = m + 2 := q; show (x = j4) ∨ m ≤ x; omega)
  have h24 : AT true (m + 2) c20 w31 qa22 [.bool false, .slice none 0 0, .slice none 0 0, .int .i64 0, .int .i64 0] := h24
  refine q_val F rfl rfl (by decide) (r_assign F rfl) fun a F => ?_
  refine nil ?_
  refine hK30 _ _ ?_
  refine wp_ret ?_
  refine inbR ?_
  refine thenR ?_
  have H := Option.some.inj H
  subst H
  refine outR2 F rfl ⟨_, rfl, lv_agg (cs := [.bool false, .slice none 0 0, .slice none 0 0, .int .i64 0, .int .i64 0]) ag_28 sz_28 h24⟩ rfl ?_
  exact ⟨fun b_ => (fun x_ => if x_ < m then x_ else 0) (c20 b_), none, 0, none, 0, rfl, E.leave B0 (fun x_ => if x_ < m then x_ else 0) (by intro x_ hx_; show (if x_ < m then x_ else 0) = x_; ((repeat' split) <;> omega)), (fun b_ hb_ => by show (if (c20 b_) < m then (c20 b_) else 0) < m; ((repeat' split) <;> omega)), SL.nil, SL.nil, TB.rc h3 (fun k_ hk_ => by show (if (c20 k_) < m then (c20 k_) else 0) = _; rw [hk_]; ((repeat' split) <;> omega)) (fun k_ hk_ => by show (if (c20 k_) < m then (c20 k_) else 0) = _; rw [hk_]; ((repeat' split) <;> omega))⟩
 ·have H := (if_neg hb29).symm.trans H
  refine wp_cond_false ((F.ev rfl).trans (congrArg Value.bool (bfalse hb29))) ?_
  refine wp_seq_k fun K34 hK34 => ?_
  refine reg ?_
  refine q_val F rfl rfl (by decide) (r_loads (cs := [.int .i64 a5.Kind, .slice A6 a5.Key.length C7, .slice A9 a5.Value.length C10, .int .i64 a5.Rev]) F rfl ag_33 sz_33 h17) fun a F => ?_
  obtain ⟨t35, q36, H⟩ := bind_some H
  refine q_call F rfl rfl (by decide) (r_call F Try.func16 rfl (by kernel_rfl) rfl) (table_Right.calls (m := m + 7) (by omega) B h8 h11 _ q36) ?_
  rintro e w38 ⟨c37, rfl, E39, B40⟩
  refine ⟨_, rfl, fun a F => ?_⟩
  have B := B40
  have h3 := TB.ev h3 E39 (fun q => q.elim) (fun q => q.elim)
  have h8 := SL.ev h8 E39 (fun q => q.elim) (fun q => q.elim)
  have h11 := SL.ev h11 E39 (fun q => q.elim) (fun q => q.elim)
  have h17 := AT.ev h17 E39 (fun q => q.elim)
  have h24 := AT.ev h24 E39 (fun q => q.elim)
  have E := E.trans E39 (fun x q => q.elim)
  refine q_val F rfl rfl (by decide) (r_not F rfl) fun a F => ?_
  refine q_val F rfl rfl (by decide) (r_assign F rfl) fun a F => ?_
  refine nil ?_
  refine hK34 _ _ ?_
  by_cases hb42 : t35 = true
  ·have H := (if_pos hb42).symm.trans H
   refine wp_cond_false ((F.ev rfl).trans (congrArg Value.bool (congrArg not hb42))) ?_
   refine wp_seq_k fun K43 hK43 => ?_
   refine reg ?_
   refine q_val F rfl rfl (by decide) (r_fieldAddr F rfl ff_33_0) fun a F => ?_
   refine q_val F rfl rfl (by decide) (r_load F rfl ag_3 (AT.cell h17 rfl)) fun a F => ?_
   refine q_val F rfl rfl (by decide) (r_eql F rfl rfl) fun a F => ?_
   refine q_val F rfl rfl (by decide) (r_assign F rfl) fun a F => ?_
   refine nil ?_
   refine hK43 _ _ ?_
   by_cases hb44 : a5.Kind = 5
   ·have H := (if_pos hb44).symm.trans H
    refine wp_cond_true ((F.ev rfl).trans (congrArg Value.bool (decide_eq_true hb44))) ?_
    refine wp_seq_k fun K45 hK45 => ?_
    have J94 : ∀ (c95 : Nat → Nat) (w96 : World) (a : Act) (ad51 : Addr) (t56 : ByteArray × table_cell × Bool) (qa68 : Addr) (p53 : Option Addr) (ob48 : Tab) (A91 : Option Addr) (C92 : Nat), p2 = some ad51 → Fr a 116 [(0, .pointer (some ad51)), (4, .pointer (some qa22)), (6, .string t56.1), (7, .pointer (some qa68)), (8, .bool t56.2.2)] → Ev (fun x => (x = j4) ∨ m ≤ x) c0 w0 c95 w96 → CB (m + 7) c95 w96 → AT true j4 c95 w96 ad51 [.pointer p53, .int .i64 ob48.rev, .int .i64 ob48.size] → AT true (m + 2) c95 w96 qa22 [.bool false, .slice none 0 0, .slice none 0 0, .int .i64 0, .int .i64 0] → AT true (m + 3) c95 w96 qa68 [.slice A91 t56.2.1.value.length C92, .int .i64 t56.2.1.rev] → TR 0 c95 w96 p53 ob48.rows → SL false (Kint .u8) 0 0 c95 w96 A91 C92 t56.2.1.value → table_Table_Do.j1 ob48 t56 = some r → K45 a w96 := by
     intro c95 w96 a ad51 t56 qa68 p53 ob48 A91 C92 qe97 F E B hat52 h24 h70 h54 h93 H
     unfold table_Table_Do.j1 at H
     refine hK45 _ _ ?_
     refine wp_seq_k fun K98 hK98 => ?_
     refine reg ?_
     refine q_val F rfl rfl (by decide) (r_move F rfl) fun a F => ?_
     refine q_val F rfl rfl (by decide) (r_move F rfl) fun a F => ?_
     refine q_val F rfl rfl (by decide) (r_loads (cs := [.slice A91 t56.2.1.value.length C92, .int .i64 t56.2.1.rev]) F rfl ag_66 sz_66 h70) fun a F => ?_
     refine q_val F rfl rfl (by decide) (r_move F rfl) fun a F => ?_
     have h99 : TB j4 c95 w96 (some ad51) (some (Tab.mk ob48.rows ob48.rev ob48.size)) := TB.mk hat52 h54
     obtain ⟨t100, q101, H⟩ := bind_some H
     refine q_call F rfl rfl (by decide) (r_call F Try.func39 rfl (by kernel_rfl) rfl) (table_Table_told.calls (m := m + 7) (by omega) B h99 h93 (by omega) _ q101) ?_
     rintro e w103 ⟨c102, A106, C107, A109, C110, rfl, E104, B105, h108, h111⟩
     refine ⟨_, rfl, fun a F => ?_⟩
     have B := B105
     have hat52 := AT.ev hat52 E104 (fun q => q.elim)
     have h24 := AT.ev h24 E104 (fun q => q.elim)
     have h70 := AT.ev h70 E104 (fun q => q.elim)
     have h54 := TR.ev h54 E104 (fun q => q.elim) (fun q => q.elim)
     have h93 := SL.ev h93 E104 (fun q => q.elim) (fun q => q.elim)
     have h99 := TB.ev h99 E104 (fun q => q.elim) (fun q => q.elim)
     have E := E.trans E104 (fun x q => q.elim)
     refine q_eff0 F rfl rfl (e_storeN0 (us := [.bool t100.Done, .slice A106 t100.Key.length C107, .slice A109 t100.Value.length C110, .int .i64 t100.Rev, .int .i64 t100.At]) F rfl rfl sz_28 h24 (Nat.le_of_ble_eq_true rfl) (one_all rfl)) ?_
     rintro w113 a ⟨E114, h24, Z115⟩ F
     have B := B.size Z115
     have hat52 := AT.ev hat52 E114 (by show ¬ (j4 = m + 2); omega)
     have h70 := AT.ev h70 E114 (by show ¬ (m + 3 = m + 2); omega)
     have h54 := TR.ev h54 E114 (by show ¬ (0 = m + 2); omega) (by show ¬ (0 = m + 2); omega)
     have h93 := SL.ev h93 E114 (by show ¬ (0 = m + 2); omega) (by show ¬ (0 = m + 2); omega)
     have h99 := TB.ev h99 E114 (by show ¬ (j4 = m + 2); omega) (by show ¬ (0 = m + 2); omega)
     have h108 := SL.ev h108 E114 (by show ¬ (0 = m + 2); omega) (by show ¬ (0 = m + 2); omega)
     have h111 := SL.ev h111 E114 (by show ¬ (0 = m + 2); omega) (by show ¬ (0 = m + 2); omega)
     have E := E.trans E114 (fun x q => by replace q : x = m + 2 := q; show (x = j4) ∨ m ≤ x; omega)
     have h24 : AT true (m + 2) c102 w113 qa22 [.bool t100.Done, .slice A106 t100.Key.length C107, .slice A109 t100.Value.length C110, .int .i64 t100.Rev, .int .i64 t100.At] := h24
     refine q_val F rfl rfl (by decide) (r_assign F rfl) fun a F => ?_
     refine nil ?_
     refine hK98 _ _ ?_
     refine wp_ret ?_
     refine inbR ?_
     refine thenR ?_
     have h116 : TB j4 c102 w113 (some ad51) (some (Tab.mk ob48.rows ob48.rev ob48.size)) := TB.mk hat52 h54
     have H := Option.some.inj H
     subst H
     refine outR2 F rfl ⟨_, rfl, lv_agg (cs := [.bool t100.Done, .slice A106 t100.Key.length C107, .slice A109 t100.Value.length C110, .int .i64 t100.Rev, .int .i64 t100.At]) ag_28 sz_28 h24⟩ rfl ?_
     exact ⟨fun b_ => (fun x_ => if x_ < m then x_ else 0) (c102 b_), A106, C107, A109, C110, rfl, E.leave B0 (fun x_ => if x_ < m then x_ else 0) (by intro x_ hx_; show (if x_ < m then x_ else 0) = x_; ((repeat' split) <;> omega)), (fun b_ hb_ => by show (if (c102 b_) < m then (c102 b_) else 0) < m; ((repeat' split) <;> omega)), SL.rc h108 (fun k_ hk_ => by show (if (c102 k_) < m then (c102 k_) else 0) = _; rw [hk_]; ((repeat' split) <;> omega)) (fun k_ hk_ => by show (if (c102 k_) < m then (c102 k_) else 0) = _; rw [hk_]; ((repeat' split) <;> omega)), SL.rc h111 (fun k_ hk_ => by show (if (c102 k_) < m then (c102 k_) else 0) = _; rw [hk_]; ((repeat' split) <;> omega)) (fun k_ hk_ => by show (if (c102 k_) < m then (c102 k_) else 0) = _; rw [hk_]; ((repeat' split) <;> omega)), (by rw [qe97]; exact TB.rc h116 (fun k_ hk_ => by show (if (c102 k_) < m then (c102 k_) else 0) = _; rw [hk_]; ((repeat' split) <;> omega)) (fun k_ hk_ => by show (if (c102 k_) < m then (c102 k_) else 0) = _; rw [hk_]; ((repeat' split) <;> omega)))⟩
    refine regD (SB (fun x => x = m + 3) c37 w38) 16 (.q 0 (.q 1 (.q 2 (.q 3 (.q 4 (.q 5 (.q 6 (.f 7 (.q 8 (.q 9 (.q 10 (.q 11 (.e 12 (.q 13 (.e 14 (.q 15 .nil)))))))) 12 (.e 7 (.q 8 (.q 9 (.q 10 (.q 11 (.q 13 (.e 14 (.q 15 .nil)))))))))))))))) Try_hm (by decide +kernel) ?_
    intro w46 w1_ w2_ w3_ w4_
    have E47 : Ev No c37 w38 c37 w46 := Ev.same w1_ w2_ w3_ w4_
    have B := B.same w1_
    have zh3 := h3
    have zh8 := h8
    have zh11 := h11
    have zh17 := h17
    have zh24 := h24
    have ER : Ev (fun x => x = m + 3) c37 w38 c37 w46 := Ev.same w1_ w2_ w3_ w4_
    have h3 := TB.ev h3 E47 (fun q => q.elim) (fun q => q.elim)
    have h8 := SL.ev h8 E47 (fun q => q.elim) (fun q => q.elim)
    have h11 := SL.ev h11 E47 (fun q => q.elim) (fun q => q.elim)
    have h17 := AT.ev h17 E47 (fun q => q.elim)
    have h24 := AT.ev h24 E47 (fun q => q.elim)
    have E := E.trans E47 (fun x q => q.elim)
    refine d_q F rfl rfl rfl (by decide) (fun wq hS => r_move F rfl) ER.sb fun a F => ?_
    obtain ⟨ob48, e49, H⟩ := bind_some H
    have z50 := zh3
    rw [e49] at z50
    obtain ⟨ad51, p53, rfl, hat52, h54⟩ := TB.some z50
    have zh54 := h54
    have h54 := TR.ev h54 ER (by show ¬ (0 = m + 3); omega) (by show ¬ (0 = m + 3); omega)
    have zhat52 := hat52
    have hat52 := AT.ev hat52 ER (by show ¬ (j4 = m + 3); omega)
    refine d_q F rfl rfl rfl (by decide) (fun wq hS => r_nil F rfl) ER.sb fun a F => ?_
    refine d_q F rfl rfl rfl (by decide) (fun wq hS => r_fieldAddr F rfl ff_70_0) ER.sb fun a F => ?_
    refine d_q F rfl rfl rfl (by decide) (fun wq hS => r_load F rfl ag_68 (AT.cell (AT.sb zhat52 hS (by show ¬ (j4 = m + 3); omega)) rfl)) ER.sb fun a F => ?_
    refine d_q F rfl rfl rfl (by decide) (fun wq hS => r_fieldAddr F rfl ff_33_1) ER.sb fun a F => ?_
    refine d_q F rfl rfl rfl (by decide) (fun wq hS => r_load F rfl ag_23 (AT.cell (AT.sb zh17 hS (by show ¬ (m + 1 = m + 3); omega)) rfl)) ER.sb fun a F => ?_
    refine d_q F rfl rfl rfl (by decide) (fun wq hS => r_bytesStr F Try.underlying23 Try.underlying5 Try.underlying9 rfl (SL.sb zh8 hS (by show ¬ (0 = m + 3); omega) (by show ¬ (0 = m + 3); omega))) ER.sb fun a F => ?_
    refine d_f ?_ ?_
    ·obtain ⟨t56, q57, H⟩ := bind_some H
     refine o_call F rfl (wanted_none rfl) rfl (by decide) (r_call F Try.func38 rfl (by kernel_rfl) rfl) (tree_Tree_Seek.calls (m := m + 7) (by omega) B h54 _ q57) ?_
     rintro e w59 ⟨c58, A62, C63, rfl, E60, B61, h64⟩
     refine ⟨_, rfl, fun a F => ?_⟩
     have B := B61
     have ER := ER.trans E60 (fun x q => q.elim)
     have h3 := TB.ev h3 E60 (fun q => q.elim) (fun q => q.elim)
     have h8 := SL.ev h8 E60 (fun q => q.elim) (fun q => q.elim)
     have h11 := SL.ev h11 E60 (fun q => q.elim) (fun q => q.elim)
     have h17 := AT.ev h17 E60 (fun q => q.elim)
     have h24 := AT.ev h24 E60 (fun q => q.elim)
     have h54 := TR.ev h54 E60 (fun q => q.elim) (fun q => q.elim)
     have hat52 := AT.ev hat52 E60 (fun q => q.elim)
     have E := E.trans E60 (fun x q => q.elim)
     refine ⟨fun _ => ER.sb, ?_⟩
     refine d_q F rfl rfl rfl (by decide) (fun wq hS => r_move F rfl) ER.sb fun a F => ?_
     refine d_q F rfl rfl rfl (by decide) (fun wq hS => r_extract F rfl rfl) ER.sb fun a F => ?_
     refine d_q F rfl rfl rfl (by decide) (fun wq hS => r_extract F rfl rfl) ER.sb fun a F => ?_
     refine d_q F rfl rfl rfl (by decide) (fun wq hS => r_extract F rfl rfl) ER.sb fun a F => ?_
     refine d_e ?_
     refine o_eff F rfl rfl rfl (by decide) (e_alloc F zv_66 c58 (m + 3)) ?_
     rintro v w67 a ⟨c66, qa68, rfl, E69, h70, B71⟩ F
     have B := B71 _ B (by omega)
     have ER := ER.trans E69 (fun x q => q.elim)
     have h3 := TB.ev h3 E69 (fun q => q.elim) (fun q => q.elim)
     have h8 := SL.ev h8 E69 (fun q => q.elim) (fun q => q.elim)
     have h11 := SL.ev h11 E69 (fun q => q.elim) (fun q => q.elim)
     have h17 := AT.ev h17 E69 (fun q => q.elim)
     have h24 := AT.ev h24 E69 (fun q => q.elim)
     have h54 := TR.ev h54 E69 (fun q => q.elim) (fun q => q.elim)
     have hat52 := AT.ev hat52 E69 (fun q => q.elim)
     have h64 := SL.ev h64 E69 (fun q => q.elim) (fun q => q.elim)
     have E := E.trans E69 (fun x q => q.elim)
     have h70 : AT true (m + 3) c66 w67 qa68 [.slice none 0 0, .int .i64 0] := h70
     refine ⟨fun _ => ER.sb, ?_⟩
     refine d_q F rfl rfl rfl (by decide) (fun wq hS => r_assign F rfl) ER.sb fun a F => ?_
     refine d_e ?_
     refine o_eff0 F rfl rfl rfl (e_storeN0 (us := [.slice A62 t56.2.1.value.length C63, .int .i64 t56.2.1.rev]) F rfl rfl sz_66 h70 (Nat.le_of_ble_eq_true rfl) (one_all rfl)) ?_
     rintro w73 a ⟨E74, h70, Z75⟩ F
     have B := B.size Z75
     have ER := ER.trans E74 (fun x q => by replace q : x = m + 3 := q; show x = m + 3; omega)
     have h3 := TB.ev h3 E74 (by show ¬ (j4 = m + 3); omega) (by show ¬ (0 = m + 3); omega)
     have h8 := SL.ev h8 E74 (by show ¬ (0 = m + 3); omega) (by show ¬ (0 = m + 3); omega)
     have h11 := SL.ev h11 E74 (by show ¬ (0 = m + 3); omega) (by show ¬ (0 = m + 3); omega)
     have h17 := AT.ev h17 E74 (by show ¬ (m + 1 = m + 3); omega)
     have h24 := AT.ev h24 E74 (by show ¬ (m + 2 = m + 3); omega)
     have h54 := TR.ev h54 E74 (by show ¬ (0 = m + 3); omega) (by show ¬ (0 = m + 3); omega)
     have hat52 := AT.ev hat52 E74 (by show ¬ (j4 = m + 3); omega)
     have h64 := SL.ev h64 E74 (by show ¬ (0 = m + 3); omega) (by show ¬ (0 = m + 3); omega)
     have E := E.trans E74 (fun x q => by replace q : x = m + 3 := q; show (x = j4) ∨ m ≤ x; omega)
     have h70 : AT true (m + 3) c66 w73 qa68 [.slice A62 t56.2.1.value.length C63, .int .i64 t56.2.1.rev] := h70
     refine ⟨fun _ => ER.sb, ?_⟩
     refine d_q F rfl rfl rfl (by decide) (fun wq hS => r_assign F rfl) ER.sb fun a F => ?_
     refine d_nil ?_
     exact J94 c66 w73 a ad51 t56 qa68 p53 ob48 A62 C63 rfl (F.sub ⟨rfl, rfl, rfl, rfl, rfl, trivial⟩) E B hat52 h24 h70 h54 h64 H
    ·obtain ⟨t56, q57, H⟩ := bind_some H
     refine o_eff F rfl rfl rfl (by decide) (e_alloc F zv_66 c37 (m + 3)) ?_
     rintro v w77 a ⟨c76, qa68, rfl, E78, h70, B79⟩ F
     have B := B79 _ B (by omega)
     have ER := ER.trans E78 (fun x q => q.elim)
     have h3 := TB.ev h3 E78 (fun q => q.elim) (fun q => q.elim)
     have h8 := SL.ev h8 E78 (fun q => q.elim) (fun q => q.elim)
     have h11 := SL.ev h11 E78 (fun q => q.elim) (fun q => q.elim)
     have h17 := AT.ev h17 E78 (fun q => q.elim)
     have h24 := AT.ev h24 E78 (fun q => q.elim)
     have h54 := TR.ev h54 E78 (fun q => q.elim) (fun q => q.elim)
     have hat52 := AT.ev hat52 E78 (fun q => q.elim)
     have E := E.trans E78 (fun x q => q.elim)
     have h70 : AT true (m + 3) c76 w77 qa68 [.slice none 0 0, .int .i64 0] := h70
     refine ⟨fun _ => ER.sb, ?_⟩
     refine d_e ?_
     refine o_call F rfl (wanted_none rfl) rfl (by decide) (r_call F Try.func38 rfl (by kernel_rfl) rfl) (tree_Tree_Seek.calls (m := m + 7) (by omega) B h54 _ q57) ?_
     rintro e w81 ⟨c80, A84, C85, rfl, E82, B83, h86⟩
     refine ⟨_, rfl, fun a F => ?_⟩
     have B := B83
     have ER := ER.trans E82 (fun x q => q.elim)
     have h3 := TB.ev h3 E82 (fun q => q.elim) (fun q => q.elim)
     have h8 := SL.ev h8 E82 (fun q => q.elim) (fun q => q.elim)
     have h11 := SL.ev h11 E82 (fun q => q.elim) (fun q => q.elim)
     have h17 := AT.ev h17 E82 (fun q => q.elim)
     have h24 := AT.ev h24 E82 (fun q => q.elim)
     have h54 := TR.ev h54 E82 (fun q => q.elim) (fun q => q.elim)
     have hat52 := AT.ev hat52 E82 (fun q => q.elim)
     have h70 := AT.ev h70 E82 (fun q => q.elim)
     have E := E.trans E82 (fun x q => q.elim)
     refine ⟨fun _ => ER.sb, ?_⟩
     refine d_q F rfl rfl rfl (by decide) (fun wq hS => r_move F rfl) ER.sb fun a F => ?_
     refine d_q F rfl rfl rfl (by decide) (fun wq hS => r_extract F rfl rfl) ER.sb fun a F => ?_
     refine d_q F rfl rfl rfl (by decide) (fun wq hS => r_extract F rfl rfl) ER.sb fun a F => ?_
     refine d_q F rfl rfl rfl (by decide) (fun wq hS => r_extract F rfl rfl) ER.sb fun a F => ?_
     refine d_q F rfl rfl rfl (by decide) (fun wq hS => r_assign F rfl) ER.sb fun a F => ?_
     refine d_e ?_
     refine o_eff0 F rfl rfl rfl (e_storeN0 (us := [.slice A84 t56.2.1.value.length C85, .int .i64 t56.2.1.rev]) F rfl rfl sz_66 h70 (Nat.le_of_ble_eq_true rfl) (one_all rfl)) ?_
     rintro w88 a ⟨E89, h70, Z90⟩ F
     have B := B.size Z90
     have ER := ER.trans E89 (fun x q => by replace q : x = m + 3 := q; show x = m + 3; omega)
     have h3 := TB.ev h3 E89 (by show ¬ (j4 = m + 3); omega) (by show ¬ (0 = m + 3); omega)
     have h8 := SL.ev h8 E89 (by show ¬ (0 = m + 3); omega) (by show ¬ (0 = m + 3); omega)
     have h11 := SL.ev h11 E89 (by show ¬ (0 = m + 3); omega) (by show ¬ (0 = m + 3); omega)
     have h17 := AT.ev h17 E89 (by show ¬ (m + 1 = m + 3); omega)
     have h24 := AT.ev h24 E89 (by show ¬ (m + 2 = m + 3); omega)
     have h54 := TR.ev h54 E89 (by show ¬ (0 = m + 3); omega) (by show ¬ (0 = m + 3); omega)
     have hat52 := AT.ev hat52 E89 (by show ¬ (j4 = m + 3); omega)
     have h86 := SL.ev h86 E89 (by show ¬ (0 = m + 3); omega) (by show ¬ (0 = m + 3); omega)
     have E := E.trans E89 (fun x q => by replace q : x = m + 3 := q; show (x = j4) ∨ m ≤ x; omega)
     have h70 : AT true (m + 3) c80 w88 qa68 [.slice A84 t56.2.1.value.length C85, .int .i64 t56.2.1.rev] := h70
     refine ⟨fun _ => ER.sb, ?_⟩
     refine d_q F rfl rfl rfl (by decide) (fun wq hS => r_assign F rfl) ER.sb fun a F => ?_
     refine d_nil ?_
     exact J94 c80 w88 a ad51 t56 qa68 p53 ob48 A84 C85 rfl (F.sub ⟨rfl, rfl, rfl, rfl, rfl, trivial⟩) E B hat52 h24 h70 h54 h86 H
   ·have H := (if_neg hb44).symm.trans H
    refine wp_cond_false ((F.ev rfl).trans (congrArg Value.bool (decide_eq_false hb44))) ?_
    refine wp_skip ?_
    refine hK27 _ _ ?_
    refine wp_seq_k fun K121 hK121 => ?_
    refine reg ?_
    refine q_val F rfl rfl (by decide) (r_fieldAddr F rfl ff_33_1) fun a F => ?_
    refine q_val F rfl rfl (by decide) (r_load F rfl ag_23 (AT.cell h17 rfl)) fun a F => ?_
    refine q_val F rfl rfl (by decide) (r_bytesStr F Try.underlying23 Try.underlying5 Try.underlying9 rfl h8) fun a F => ?_
    refine q_val F rfl rfl (by decide) (r_assign F rfl) fun a F => ?_
    refine nil ?_
    refine hK121 _ _ ?_
    refine wp_seq_k fun K122 hK122 => ?_
    refine reg ?_
    refine q_val F rfl rfl (by decide) (r_move F rfl) fun a F => ?_
    obtain ⟨ob123, e124, H⟩ := bind_some H
    have z125 := h3
    rw [e124] at z125
    obtain ⟨ad126, p128, rfl, hat127, h129⟩ := TB.some z125
    refine q_val F rfl rfl (by decide) (r_nil F rfl) fun a F => ?_
    refine q_val F rfl rfl (by decide) (r_fieldAddr F rfl ff_70_0) fun a F => ?_
    refine q_val F rfl rfl (by decide) (r_load F rfl ag_68 (AT.cell hat127 rfl)) fun a F => ?_
    refine q_val F rfl rfl (by decide) (r_move F rfl) fun a F => ?_
    obtain ⟨t131, q132, H⟩ := bind_some H
    refine q_call F rfl rfl (by decide) (r_call F Try.func40 rfl (by kernel_rfl) rfl) (tree_Tree_Get.calls k (m := m + 7) (by omega) B h129 _ q132) ?_
    rintro e w134 ⟨c133, A137, C138, rfl, E135, B136, h139⟩
    refine ⟨_, rfl, fun a F => ?_⟩
    have B := B136
    have h3 := TB.ev h3 E135 (fun q => q.elim) (fun q => q.elim)
    have h8 := SL.ev h8 E135 (fun q => q.elim) (fun q => q.elim)
    have h11 := SL.ev h11 E135 (fun q => q.elim) (fun q => q.elim)
    have h17 := AT.ev h17 E135 (fun q => q.elim)
    have h24 := AT.ev h24 E135 (fun q => q.elim)
    have h129 := TR.ev h129 E135 (fun q => q.elim) (fun q => q.elim)
    have hat127 := AT.ev hat127 E135 (fun q => q.elim)
    have E := E.trans E135 (fun x q => q.elim)
    refine q_val F rfl rfl (by decide) (r_move F rfl) fun a F => ?_
    refine q_val F rfl rfl (by decide) (r_extract F rfl rfl) fun a F => ?_
    refine q_val F rfl rfl (by decide) (r_extract F rfl rfl) fun a F => ?_
    refine q_eff F rfl rfl (by decide) (e_alloc F zv_66 c133 (m + 4)) ?_
    rintro v w142 a ⟨c141, qa143, rfl, E144, h145, B146⟩ F
    have B := B146 _ B (by omega)
    have h3 := TB.ev h3 E144 (fun q => q.elim) (fun q => q.elim)
    have h8 := SL.ev h8 E144 (fun q => q.elim) (fun q => q.elim)
    have h11 := SL.ev h11 E144 (fun q => q.elim) (fun q => q.elim)
    have h17 := AT.ev h17 E144 (fun q => q.elim)
    have h24 := AT.ev h24 E144 (fun q => q.elim)
    have h129 := TR.ev h129 E144 (fun q => q.elim) (fun q => q.elim)
    have hat127 := AT.ev hat127 E144 (fun q => q.elim)
    have h139 := SL.ev h139 E144 (fun q => q.elim) (fun q => q.elim)
    have E := E.trans E144 (fun x q => q.elim)
    have h145 : AT true (m + 4) c141 w142 qa143 [.slice none 0 0, .int .i64 0] := h145
    refine q_eff0 F rfl rfl (e_storeN0 (us := [.slice A137 t131.1.value.length C138, .int .i64 t131.1.rev]) F rfl rfl sz_66 h145 (Nat.le_of_ble_eq_true rfl) (one_all rfl)) ?_
    rintro w148 a ⟨E149, h145, Z150⟩ F
    have B := B.size Z150
    have h3 := TB.ev h3 E149 (by show ¬ (j4 = m + 4); omega) (by show ¬ (0 = m + 4); omega)
    have h8 := SL.ev h8 E149 (by show ¬ (0 = m + 4); omega) (by show ¬ (0 = m + 4); omega)
    have h11 := SL.ev h11 E149 (by show ¬ (0 = m + 4); omega) (by show ¬ (0 = m + 4); omega)
    have h17 := AT.ev h17 E149 (by show ¬ (m + 1 = m + 4); omega)
    have h24 := AT.ev h24 E149 (by show ¬ (m + 2 = m + 4); omega)
    have h129 := TR.ev h129 E149 (by show ¬ (0 = m + 4); omega) (by show ¬ (0 = m + 4); omega)
    have hat127 := AT.ev hat127 E149 (by show ¬ (j4 = m + 4); omega)
    have h139 := SL.ev h139 E149 (by show ¬ (0 = m + 4); omega) (by show ¬ (0 = m + 4); omega)
    have E := E.trans E149 (fun x q => by replace q : x = m + 4 := q; show (x = j4) ∨ m ≤ x; omega)
    have h145 : AT true (m + 4) c141 w148 qa143 [.slice A137 t131.1.value.length C138, .int .i64 t131.1.rev] := h145
    refine q_val F rfl rfl (by decide) (r_assign F rfl) fun a F => ?_
    refine nil ?_
    refine hK122 _ _ ?_
    refine wp_seq_k fun K151 hK151 => ?_
    refine wp_seq_k fun K152 hK152 => ?_
    refine reg ?_
    refine q_val F rfl rfl (by decide) (r_loads (cs := [.int .i64 a5.Kind, .slice A6 a5.Key.length C7, .slice A9 a5.Value.length C10, .int .i64 a5.Rev]) F rfl ag_33 sz_33 h17) fun a F => ?_
    obtain ⟨t153, q154, H⟩ := bind_some H
    refine q_call F rfl rfl (by decide) (r_call F Try.func41 rfl (by kernel_rfl) rfl) (table_writes.calls (m := m + 7) (by omega) B h8 h11 _ q154) ?_
    rintro e w156 ⟨c155, rfl, E157, B158⟩
    refine ⟨_, rfl, fun a F => ?_⟩
    have B := B158
    have h3 := TB.ev h3 E157 (fun q => q.elim) (fun q => q.elim)
    have h8 := SL.ev h8 E157 (fun q => q.elim) (fun q => q.elim)
    have h11 := SL.ev h11 E157 (fun q => q.elim) (fun q => q.elim)
    have h17 := AT.ev h17 E157 (fun q => q.elim)
    have h24 := AT.ev h24 E157 (fun q => q.elim)
    have h129 := TR.ev h129 E157 (fun q => q.elim) (fun q => q.elim)
    have hat127 := AT.ev hat127 E157 (fun q => q.elim)
    have h139 := SL.ev h139 E157 (fun q => q.elim) (fun q => q.elim)
    have h145 := AT.ev h145 E157 (fun q => q.elim)
    have E := E.trans E157 (fun x q => q.elim)
    refine q_val F rfl rfl (by decide) (r_not F rfl) fun a F => ?_
    refine nil ?_
    refine hK152 _ _ ?_
    by_cases hb160 : t153 = true
    ·have H := (if_pos hb160).symm.trans H
     refine wp_cond_false ((F.ev rfl).trans (congrArg Value.bool (congrArg not hb160))) ?_
     refine wp_skip ?_
     refine hK151 _ _ ?_
     refine wp_seq_k fun K178 hK178 => ?_
     refine wp_seq_k fun K179 hK179 => ?_
     refine reg ?_
     refine q_val F rfl rfl (by decide) (r_move F rfl) fun a F => ?_
     refine q_val F rfl rfl (by decide) (r_nil F rfl) fun a F => ?_
     refine q_val F rfl rfl (by decide) (r_fieldAddr F rfl ff_70_1) fun a F => ?_
     refine q_val F rfl rfl (by decide) (r_load F rfl ag_3 (AT.cell hat127 rfl)) fun a F => ?_
     refine q_val F rfl rfl (by decide) (r_eql F rfl rfl) fun a F => ?_
     refine nil ?_
     refine hK179 _ _ ?_
     by_cases hb180 : ob123.rev = 1099511627776
     ·have H := (if_pos hb180).symm.trans H
      refine wp_cond_true ((F.ev rfl).trans (congrArg Value.bool (decide_eq_true hb180))) ?_
      refine wp_seq_k fun K181 hK181 => ?_
      refine reg ?_
      refine q_val F rfl rfl (by decide) (r_build (v := .agg #[.bool false, .slice none 0 0, .slice none 0 0, .int .i64 0, .int .i64 0]) F [] (by exact trivial) (fun w => by kernel_rfl)) fun a F => ?_
      refine q_eff0 F rfl rfl (e_storeN0 (us := [.bool false, .slice none 0 0, .slice none 0 0, .int .i64 0, .int .i64 0]) F rfl rfl sz_28 h24 (Nat.le_of_ble_eq_true rfl) (one_all rfl)) ?_
      rintro w182 a ⟨E183, h24, Z184⟩ F
      have B := B.size Z184
      have h3 := TB.ev h3 E183 (by show ¬ (j4 = m + 2); omega) (by show ¬ (0 = m + 2); omega)
      have h8 := SL.ev h8 E183 (by show ¬ (0 = m + 2); omega) (by show ¬ (0 = m + 2); omega)
      have h11 := SL.ev h11 E183 (by show ¬ (0 = m + 2); omega) (by show ¬ (0 = m + 2); omega)
      have h17 := AT.ev h17 E183 (by show ¬ (m + 1 = m + 2); omega)
      have h129 := TR.ev h129 E183 (by show ¬ (0 = m + 2); omega) (by show ¬ (0 = m + 2); omega)
      have hat127 := AT.ev hat127 E183 (by show ¬ (j4 = m + 2); omega)
      have h139 := SL.ev h139 E183 (by show ¬ (0 = m + 2); omega) (by show ¬ (0 = m + 2); omega)
      have h145 := AT.ev h145 E183 (by show ¬ (m + 4 = m + 2); omega)
      have E := E.trans E183 (fun x q => by replace q : x = m + 2 := q; show (x = j4) ∨ m ≤ x; omega)
      have h24 : AT true (m + 2) c155 w182 qa22 [.bool false, .slice none 0 0, .slice none 0 0, .int .i64 0, .int .i64 0] := h24
      refine q_val F rfl rfl (by decide) (r_assign F rfl) fun a F => ?_
      refine nil ?_
      refine hK181 _ _ ?_
      refine wp_ret ?_
      refine thenR ?_
      have H := Option.some.inj H
      subst H
      refine outR2 F rfl ⟨_, rfl, lv_agg (cs := [.bool false, .slice none 0 0, .slice none 0 0, .int .i64 0, .int .i64 0]) ag_28 sz_28 h24⟩ rfl ?_
      exact ⟨fun b_ => (fun x_ => if x_ < m then x_ else 0) (c155 b_), none, 0, none, 0, rfl, E.leave B0 (fun x_ => if x_ < m then x_ else 0) (by intro x_ hx_; show (if x_ < m then x_ else 0) = x_; ((repeat' split) <;> omega)), (fun b_ hb_ => by show (if (c155 b_) < m then (c155 b_) else 0) < m; ((repeat' split) <;> omega)), SL.nil, SL.nil, TB.rc h3 (fun k_ hk_ => by show (if (c155 k_) < m then (c155 k_) else 0) = _; rw [hk_]; ((repeat' split) <;> omega)) (fun k_ hk_ => by show (if (c155 k_) < m then (c155 k_) else 0) = _; rw [hk_]; ((repeat' split) <;> omega))⟩
     ·have H := (if_neg hb180).symm.trans H
      refine wp_cond_false ((F.ev rfl).trans (congrArg Value.bool (decide_eq_false hb180))) ?_
      refine wp_skip ?_
      refine hK178 _ _ ?_
      refine wp_seq_k fun K185 hK185 => ?_
      refine reg ?_
      refine q_val F rfl rfl (by decide) (r_move F rfl) fun a F => ?_
      refine q_val F rfl rfl (by decide) (r_nil F rfl) fun a F => ?_
      refine q_val F rfl rfl (by decide) (r_fieldAddr F rfl ff_70_1) fun a F => ?_
      refine q_val F rfl rfl (by decide) (r_load F rfl ag_3 (AT.cell hat127 rfl)) fun a F => ?_
      refine q_val F rfl rfl (by decide) (r_add F rfl rfl) fun a F => ?_
      refine q_val F rfl rfl (by decide) (r_nil F rfl) fun a F => ?_
      refine q_val F rfl rfl (by decide) (r_fieldAddr F rfl ff_70_1) fun a F => ?_
      refine q_eff0 F rfl rfl (e_store F rfl rfl sz_3 hat127 (Nat.le_of_ble_eq_true rfl) rfl) ?_
      rintro w186 a ⟨E187, hat127, Z188⟩ F
      have B := B.size Z188
      have h8 := SL.ev h8 E187 (by show ¬ (0 = j4); omega) (by show ¬ (0 = j4); omega)
      have h11 := SL.ev h11 E187 (by show ¬ (0 = j4); omega) (by show ¬ (0 = j4); omega)
      have h17 := AT.ev h17 E187 (by show ¬ (m + 1 = j4); omega)
      have h24 := AT.ev h24 E187 (by show ¬ (m + 2 = j4); omega)
      have h129 := TR.ev h129 E187 (by show ¬ (0 = j4); omega) (by show ¬ (0 = j4); omega)
      have h139 := SL.ev h139 E187 (by show ¬ (0 = j4); omega) (by show ¬ (0 = j4); omega)
      have h145 := AT.ev h145 E187 (by show ¬ (m + 4 = j4); omega)
      have E := E.trans E187 (fun x q => by replace q : x = j4 := q; show (x = j4) ∨ m ≤ x; omega)
      have hat127 : AT true j4 c155 w186 ad126 [.pointer p128, .int .i64 (IntKind.i64.wrap (ob123.rev + 1)), .int .i64 ob123.size] := hat127
      refine nil ?_
      refine hK185 _ _ ?_
      refine wp_seq_k fun K189 hK189 => ?_
      refine reg ?_
      refine q_val F rfl rfl (by decide) (r_move F rfl) fun a F => ?_
      refine q_val F rfl rfl (by decide) (r_move F rfl) fun a F => ?_
      refine q_val F rfl rfl (by decide) (r_loads (cs := [.slice A137 t131.1.value.length C138, .int .i64 t131.1.rev]) F rfl ag_66 sz_66 h145) fun a F => ?_
      refine q_val F rfl rfl (by decide) (r_move F rfl) fun a F => ?_
      have h190 : TB j4 c155 w186 (some ad126) (some (Tab.mk ob123.rows (IntKind.i64.wrap (ob123.rev + 1)) ob123.size)) := TB.mk hat127 h129
      obtain ⟨t191, q192, H⟩ := bind_some H
      refine q_call F rfl rfl (by decide) (r_call F Try.func39 rfl (by kernel_rfl) rfl) (table_Table_told.calls (m := m + 7) (by omega) B h190 h139 (by omega) _ q192) ?_
      rintro e w194 ⟨c193, A197, C198, A200, C201, rfl, E195, B196, h199, h202⟩
      refine ⟨_, rfl, fun a F => ?_⟩
      have B := B196
      have h8 := SL.ev h8 E195 (fun q => q.elim) (fun q => q.elim)
      have h11 := SL.ev h11 E195 (fun q => q.elim) (fun q => q.elim)
      have h17 := AT.ev h17 E195 (fun q => q.elim)
      have h24 := AT.ev h24 E195 (fun q => q.elim)
      have h129 := TR.ev h129 E195 (fun q => q.elim) (fun q => q.elim)
      have hat127 := AT.ev hat127 E195 (fun q => q.elim)
      have h139 := SL.ev h139 E195 (fun q => q.elim) (fun q => q.elim)
      have h145 := AT.ev h145 E195 (fun q => q.elim)
      have h190 := TB.ev h190 E195 (fun q => q.elim) (fun q => q.elim)
      have E := E.trans E195 (fun x q => q.elim)
      refine q_eff F rfl rfl (by decide) (e_alloc F zv_28 c193 (m + 5)) ?_
      rintro v w205 a ⟨c204, qa206, rfl, E207, h208, B209⟩ F
      have B := B209 _ B (by omega)
      have h8 := SL.ev h8 E207 (fun q => q.elim) (fun q => q.elim)
      have h11 := SL.ev h11 E207 (fun q => q.elim) (fun q => q.elim)
      have h17 := AT.ev h17 E207 (fun q => q.elim)
      have h24 := AT.ev h24 E207 (fun q => q.elim)
      have h129 := TR.ev h129 E207 (fun q => q.elim) (fun q => q.elim)
      have hat127 := AT.ev hat127 E207 (fun q => q.elim)
      have h139 := SL.ev h139 E207 (fun q => q.elim) (fun q => q.elim)
      have h145 := AT.ev h145 E207 (fun q => q.elim)
      have h190 := TB.ev h190 E207 (fun q => q.elim) (fun q => q.elim)
      have h199 := SL.ev h199 E207 (fun q => q.elim) (fun q => q.elim)
      have h202 := SL.ev h202 E207 (fun q => q.elim) (fun q => q.elim)
      have E := E.trans E207 (fun x q => q.elim)
      have h208 : AT true (m + 5) c204 w205 qa206 [.bool false, .slice none 0 0, .slice none 0 0, .int .i64 0, .int .i64 0] := h208
      refine q_eff0 F rfl rfl (e_storeN0 (us := [.bool t191.Done, .slice A197 t191.Key.length C198, .slice A200 t191.Value.length C201, .int .i64 t191.Rev, .int .i64 t191.At]) F rfl rfl sz_28 h208 (Nat.le_of_ble_eq_true rfl) (one_all rfl)) ?_
      rintro w211 a ⟨E212, h208, Z213⟩ F
      have B := B.size Z213
      have h8 := SL.ev h8 E212 (by show ¬ (0 = m + 5); omega) (by show ¬ (0 = m + 5); omega)
      have h11 := SL.ev h11 E212 (by show ¬ (0 = m + 5); omega) (by show ¬ (0 = m + 5); omega)
      have h17 := AT.ev h17 E212 (by show ¬ (m + 1 = m + 5); omega)
      have h24 := AT.ev h24 E212 (by show ¬ (m + 2 = m + 5); omega)
      have h129 := TR.ev h129 E212 (by show ¬ (0 = m + 5); omega) (by show ¬ (0 = m + 5); omega)
      have hat127 := AT.ev hat127 E212 (by show ¬ (j4 = m + 5); omega)
      have h139 := SL.ev h139 E212 (by show ¬ (0 = m + 5); omega) (by show ¬ (0 = m + 5); omega)
      have h145 := AT.ev h145 E212 (by show ¬ (m + 4 = m + 5); omega)
      have h190 := TB.ev h190 E212 (by show ¬ (j4 = m + 5); omega) (by show ¬ (0 = m + 5); omega)
      have h199 := SL.ev h199 E212 (by show ¬ (0 = m + 5); omega) (by show ¬ (0 = m + 5); omega)
      have h202 := SL.ev h202 E212 (by show ¬ (0 = m + 5); omega) (by show ¬ (0 = m + 5); omega)
      have E := E.trans E212 (fun x q => by replace q : x = m + 5 := q; show (x = j4) ∨ m ≤ x; omega)
      have h208 : AT true (m + 5) c204 w211 qa206 [.bool t191.Done, .slice A197 t191.Key.length C198, .slice A200 t191.Value.length C201, .int .i64 t191.Rev, .int .i64 t191.At] := h208
      refine nil ?_
      refine hK189 _ _ ?_
      refine wp_seq_k fun K214 hK214 => ?_
      refine wp_seq_k fun K215 hK215 => ?_
      have J256 : ∀ (c257 : Nat → Nat) (w258 : World) (a : Act) (qa230 : Addr) (t218 : List Int) (A253 : Option Addr) (C254 : Nat), Fr a 116 [(0, .pointer (some ad126)), (3, .pointer (some qa15)), (4, .pointer (some qa22)), (9, .string (bs a5.Key)), (10, .pointer (some qa143)), (12, .pointer (some qa206)), (13, .pointer (some qa230))] → Ev (fun x => (x = j4) ∨ m ≤ x) c0 w0 c257 w258 → CB (m + 7) c257 w258 → AT true j4 c257 w258 ad126 [.pointer p128, .int .i64 (IntKind.i64.wrap (ob123.rev + 1)), .int .i64 ob123.size] → AT true (m + 1) c257 w258 qa15 [.int .i64 a5.Kind, .slice A6 a5.Key.length C7, .slice A9 a5.Value.length C10, .int .i64 a5.Rev] → AT true (m + 2) c257 w258 qa22 [.bool false, .slice none 0 0, .slice none 0 0, .int .i64 0, .int .i64 0] → AT true (m + 4) c257 w258 qa143 [.slice A137 t131.1.value.length C138, .int .i64 t131.1.rev] → AT true (m + 5) c257 w258 qa206 [.bool t191.Done, .slice A197 t191.Key.length C198, .slice A200 t191.Value.length C201, .int .i64 t191.Rev, .int .i64 t191.At] → AT true (m + 6) c257 w258 qa230 [.slice A253 t218.length C254, .int .i64 (IntKind.i64.wrap (ob123.rev + 1))] → TR 0 c257 w258 p128 ob123.rows → SL false (Kint .u8) 0 0 c257 w258 A6 C7 a5.Key → SL false (Kint .u8) 0 0 c257 w258 A9 C10 a5.Value → SL false (Kint .u8) 0 0 c257 w258 A137 C138 t131.1.value → SL false (Kint .u8) 0 0 c257 w258 A197 C198 t191.Key → SL false (Kint .u8) 0 0 c257 w258 A200 C201 t191.Value → SL true (Kint .u8) 0 0 c257 w258 A253 C254 t218 → table_Table_Do.j2 k a5 ob123 t131 t191 t218 = some r → K215 a w258 := by
       intro c257 w258 a qa230 t218 A253 C254 F E B hat127 h17 h24 h145 h208 h232 h129 h8 h11 h139 h199 h202 h255 H
       unfold table_Table_Do.j2 at H
       refine hK215 _ _ ?_
       refine wp_block ?_
       refine wp_seq_k fun K259 hK259 => ?_
       refine reg ?_
       refine q_val F rfl rfl (by decide) (r_fieldAddr F rfl ff_33_0) fun a F => ?_
       refine q_val F rfl rfl (by decide) (r_load F rfl ag_3 (AT.cell h17 rfl)) fun a F => ?_
       refine q_val F rfl rfl (by decide) (r_eql F rfl rfl) fun a F => ?_
       refine q_val F rfl rfl (by decide) (r_assign F rfl) fun a F => ?_
       refine nil ?_
       refine hK259 _ _ ?_
       by_cases hb260 : a5.Kind = 3
       ·have H := (if_pos hb260).symm.trans H
        refine wp_cond_true ((F.ev rfl).trans (congrArg Value.bool (decide_eq_true hb260))) ?_
        refine reg ?_
        refine q_val F rfl rfl (by decide) (r_move F rfl) fun a F => ?_
        refine q_val F rfl rfl (by decide) (r_move F rfl) fun a F => ?_
        refine q_val F rfl rfl (by decide) (r_loads (cs := [.slice A253 t218.length C254, .int .i64 (IntKind.i64.wrap (ob123.rev + 1))]) F rfl ag_66 sz_66 h232) fun a F => ?_
        have h261 : TB j4 c257 w258 (some ad126) (some (Tab.mk ob123.rows (IntKind.i64.wrap (ob123.rev + 1)) ob123.size)) := TB.mk hat127 h129
        obtain ⟨t262, q263, H⟩ := bind_some H
        refine q_call F rfl rfl (by decide) (r_call F Try.func43 rfl (by kernel_rfl) rfl) (table_Table_set.calls k (m := m + 7) (by omega) B h261 h255.r (by omega) _ q263) ?_
        rintro e w265 ⟨c264, rfl, E266, B267, h268⟩
        refine ⟨_, rfl, fun a F => ?_⟩
        have B := B267
        have h17 := AT.ev h17 E266 (by show ¬ (m + 1 = j4); omega)
        have h24 := AT.ev h24 E266 (by show ¬ (m + 2 = j4); omega)
        have h145 := AT.ev h145 E266 (by show ¬ (m + 4 = j4); omega)
        have h208 := AT.ev h208 E266 (by show ¬ (m + 5 = j4); omega)
        have h232 := AT.ev h232 E266 (by show ¬ (m + 6 = j4); omega)
        have h129 := TR.ev h129 E266 (by show ¬ (0 = j4); omega) (by show ¬ (0 = j4); omega)
        have h8 := SL.ev h8 E266 (by show ¬ (0 = j4); omega) (by show ¬ (0 = j4); omega)
        have h11 := SL.ev h11 E266 (by show ¬ (0 = j4); omega) (by show ¬ (0 = j4); omega)
        have h139 := SL.ev h139 E266 (by show ¬ (0 = j4); omega) (by show ¬ (0 = j4); omega)
        have h199 := SL.ev h199 E266 (by show ¬ (0 = j4); omega) (by show ¬ (0 = j4); omega)
        have h202 := SL.ev h202 E266 (by show ¬ (0 = j4); omega) (by show ¬ (0 = j4); omega)
        have h255 := SL.ev h255 E266 (by show ¬ (0 = j4); omega) (by show ¬ (0 = j4); omega)
        have E := E.trans E266 (fun x q => by replace q : x = j4 := q; show (x = j4) ∨ m ≤ x; omega)
        refine nil ?_
        refine hK214 _ _ ?_
        refine wp_seq_k fun K293 hK293 => ?_
        refine reg ?_
        refine q_val F rfl rfl (by decide) (r_loads (cs := [.bool t191.Done, .slice A197 t191.Key.length C198, .slice A200 t191.Value.length C201, .int .i64 t191.Rev, .int .i64 t191.At]) F rfl ag_28 sz_28 h208) fun a F => ?_
        refine q_eff0 F rfl rfl (e_storeN0 (us := [.bool t191.Done, .slice A197 t191.Key.length C198, .slice A200 t191.Value.length C201, .int .i64 t191.Rev, .int .i64 t191.At]) F rfl rfl sz_28 h24 (Nat.le_of_ble_eq_true rfl) (one_all rfl)) ?_
        rintro w294 a ⟨E295, h24, Z296⟩ F
        have B := B.size Z296
        have h17 := AT.ev h17 E295 (by show ¬ (m + 1 = m + 2); omega)
        have h145 := AT.ev h145 E295 (by show ¬ (m + 4 = m + 2); omega)
        have h208 := AT.ev h208 E295 (by show ¬ (m + 5 = m + 2); omega)
        have h232 := AT.ev h232 E295 (by show ¬ (m + 6 = m + 2); omega)
        have h129 := TR.ev h129 E295 (by show ¬ (0 = m + 2); omega) (by show ¬ (0 = m + 2); omega)
        have h8 := SL.ev h8 E295 (by show ¬ (0 = m + 2); omega) (by show ¬ (0 = m + 2); omega)
        have h11 := SL.ev h11 E295 (by show ¬ (0 = m + 2); omega) (by show ¬ (0 = m + 2); omega)
        have h139 := SL.ev h139 E295 (by show ¬ (0 = m + 2); omega) (by show ¬ (0 = m + 2); omega)
        have h199 := SL.ev h199 E295 (by show ¬ (0 = m + 2); omega) (by show ¬ (0 = m + 2); omega)
        have h202 := SL.ev h202 E295 (by show ¬ (0 = m + 2); omega) (by show ¬ (0 = m + 2); omega)
        have h255 := SL.ev h255 E295 (by show ¬ (0 = m + 2); omega) (by show ¬ (0 = m + 2); omega)
        have h268 := TB.ev h268 E295 (by show ¬ (j4 = m + 2); omega) (by show ¬ (0 = m + 2); omega)
        have E := E.trans E295 (fun x q => by replace q : x = m + 2 := q; show (x = j4) ∨ m ≤ x; omega)
        have h24 : AT true (m + 2) c264 w294 qa22 [.bool t191.Done, .slice A197 t191.Key.length C198, .slice A200 t191.Value.length C201, .int .i64 t191.Rev, .int .i64 t191.At] := h24
        refine q_val F rfl rfl (by decide) (r_assign F rfl) fun a F => ?_
        refine nil ?_
        refine hK293 _ _ ?_
        refine wp_ret ?_
        have H := Option.some.inj H
        subst H
        refine outR2 F rfl ⟨_, rfl, lv_agg (cs := [.bool t191.Done, .slice A197 t191.Key.length C198, .slice A200 t191.Value.length C201, .int .i64 t191.Rev, .int .i64 t191.At]) ag_28 sz_28 h24⟩ rfl ?_
        exact ⟨fun b_ => (fun x_ => if x_ < m then x_ else 0) (c264 b_), A197, C198, A200, C201, rfl, E.leave B0 (fun x_ => if x_ < m then x_ else 0) (by intro x_ hx_; show (if x_ < m then x_ else 0) = x_; ((repeat' split) <;> omega)), (fun b_ hb_ => by show (if (c264 b_) < m then (c264 b_) else 0) < m; ((repeat' split) <;> omega)), SL.rc h199 (fun k_ hk_ => by show (if (c264 k_) < m then (c264 k_) else 0) = _; rw [hk_]; ((repeat' split) <;> omega)) (fun k_ hk_ => by show (if (c264 k_) < m then (c264 k_) else 0) = _; rw [hk_]; ((repeat' split) <;> omega)), SL.rc h202 (fun k_ hk_ => by show (if (c264 k_) < m then (c264 k_) else 0) = _; rw [hk_]; ((repeat' split) <;> omega)) (fun k_ hk_ => by show (if (c264 k_) < m then (c264 k_) else 0) = _; rw [hk_]; ((repeat' split) <;> omega)), TB.rc h268 (fun k_ hk_ => by show (if (c264 k_) < m then (c264 k_) else 0) = _; rw [hk_]; ((repeat' split) <;> omega)) (fun k_ hk_ => by show (if (c264 k_) < m then (c264 k_) else 0) = _; rw [hk_]; ((repeat' split) <;> omega))⟩
       ·have H := (if_neg hb260).symm.trans H
        refine wp_cond_false ((F.ev rfl).trans (congrArg Value.bool (decide_eq_false hb260))) ?_
        refine wp_seq_k fun K270 hK270 => ?_
        have J273 : ∀ (c274 : Nat → Nat) (w275 : World) (a : Act) (b272 : Bool), Fr a 116 [(0, .pointer (some ad126)), (4, .pointer (some qa22)), (9, .string (bs a5.Key)), (12, .pointer (some qa206)), (13, .pointer (some qa230)), (99, .bool b272)] → Ev (fun x => (x = j4) ∨ m ≤ x) c0 w0 c274 w275 → CB (m + 7) c274 w275 → AT true j4 c274 w275 ad126 [.pointer p128, .int .i64 (IntKind.i64.wrap (ob123.rev + 1)), .int .i64 ob123.size] → AT true (m + 2) c274 w275 qa22 [.bool false, .slice none 0 0, .slice none 0 0, .int .i64 0, .int .i64 0] → AT true (m + 5) c274 w275 qa206 [.bool t191.Done, .slice A197 t191.Key.length C198, .slice A200 t191.Value.length C201, .int .i64 t191.Rev, .int .i64 t191.At] → AT true (m + 6) c274 w275 qa230 [.slice A253 t218.length C254, .int .i64 (IntKind.i64.wrap (ob123.rev + 1))] → TR 0 c274 w275 p128 ob123.rows → SL false (Kint .u8) 0 0 c274 w275 A197 C198 t191.Key → SL false (Kint .u8) 0 0 c274 w275 A200 C201 t191.Value → SL true (Kint .u8) 0 0 c274 w275 A253 C254 t218 → table_Table_Do.j3 k a5 ob123 t191 t218 b272 = some r → K270 a w275 := by
         intro c274 w275 a b272 F E B hat127 h24 h208 h232 h129 h199 h202 h255 H
         unfold table_Table_Do.j3 at H
         refine hK270 _ _ ?_
         by_cases hb276 : b272 = true
         ·have H := (if_pos hb276).symm.trans H
          refine wp_cond_true ((F.ev rfl).trans (congrArg Value.bool hb276)) ?_
          refine wp_seq_k fun K277 hK277 => ?_
          refine reg ?_
          refine q_val F rfl rfl (by decide) (r_fieldAddr F rfl ff_28_0) fun a F => ?_
          refine q_eff0 F rfl rfl (e_store F rfl rfl sz_4 h208 (Nat.le_of_ble_eq_true rfl) rfl) ?_
          rintro w278 a ⟨E279, h208, Z280⟩ F
          have B := B.size Z280
          have hat127 := AT.ev hat127 E279 (by show ¬ (j4 = m + 5); omega)
          have h24 := AT.ev h24 E279 (by show ¬ (m + 2 = m + 5); omega)
          have h232 := AT.ev h232 E279 (by show ¬ (m + 6 = m + 5); omega)
          have h129 := TR.ev h129 E279 (by show ¬ (0 = m + 5); omega) (by show ¬ (0 = m + 5); omega)
          have h199 := SL.ev h199 E279 (by show ¬ (0 = m + 5); omega) (by show ¬ (0 = m + 5); omega)
          have h202 := SL.ev h202 E279 (by show ¬ (0 = m + 5); omega) (by show ¬ (0 = m + 5); omega)
          have h255 := SL.ev h255 E279 (by show ¬ (0 = m + 5); omega) (by show ¬ (0 = m + 5); omega)
          have E := E.trans E279 (fun x q => by replace q : x = m + 5 := q; show (x = j4) ∨ m ≤ x; omega)
          have h208 : AT true (m + 5) c274 w278 qa206 [.bool true, .slice A197 t191.Key.length C198, .slice A200 t191.Value.length C201, .int .i64 t191.Rev, .int .i64 t191.At] := h208
          refine nil ?_
          refine hK277 _ _ ?_
          refine reg ?_
          refine q_val F rfl rfl (by decide) (r_move F rfl) fun a F => ?_
          refine q_val F rfl rfl (by decide) (r_move F rfl) fun a F => ?_
          refine q_val F rfl rfl (by decide) (r_loads (cs := [.slice A253 t218.length C254, .int .i64 (IntKind.i64.wrap (ob123.rev + 1))]) F rfl ag_66 sz_66 h232) fun a F => ?_
          have h281 : TB j4 c274 w278 (some ad126) (some (Tab.mk ob123.rows (IntKind.i64.wrap (ob123.rev + 1)) ob123.size)) := TB.mk hat127 h129
          obtain ⟨t282, q283, H⟩ := bind_some H
          refine q_call F rfl rfl (by decide) (r_call F Try.func43 rfl (by kernel_rfl) rfl) (table_Table_set.calls k (m := m + 7) (by omega) B h281 h255.r (by omega) _ q283) ?_
          rintro e w285 ⟨c284, rfl, E286, B287, h288⟩
          refine ⟨_, rfl, fun a F => ?_⟩
          have B := B287
          have h24 := AT.ev h24 E286 (by show ¬ (m + 2 = j4); omega)
          have h208 := AT.ev h208 E286 (by show ¬ (m + 5 = j4); omega)
          have h232 := AT.ev h232 E286 (by show ¬ (m + 6 = j4); omega)
          have h129 := TR.ev h129 E286 (by show ¬ (0 = j4); omega) (by show ¬ (0 = j4); omega)
          have h199 := SL.ev h199 E286 (by show ¬ (0 = j4); omega) (by show ¬ (0 = j4); omega)
          have h202 := SL.ev h202 E286 (by show ¬ (0 = j4); omega) (by show ¬ (0 = j4); omega)
          have h255 := SL.ev h255 E286 (by show ¬ (0 = j4); omega) (by show ¬ (0 = j4); omega)
          have E := E.trans E286 (fun x q => by replace q : x = j4 := q; show (x = j4) ∨ m ≤ x; omega)
          refine nil ?_
          refine hK214 _ _ ?_
          refine wp_seq_k fun K297 hK297 => ?_
          refine reg ?_
          refine q_val F rfl rfl (by decide) (r_loads (cs := [.bool true, .slice A197 t191.Key.length C198, .slice A200 t191.Value.length C201, .int .i64 t191.Rev, .int .i64 t191.At]) F rfl ag_28 sz_28 h208) fun a F => ?_
          refine q_eff0 F rfl rfl (e_storeN0 (us := [.bool true, .slice A197 t191.Key.length C198, .slice A200 t191.Value.length C201, .int .i64 t191.Rev, .int .i64 t191.At]) F rfl rfl sz_28 h24 (Nat.le_of_ble_eq_true rfl) (one_all rfl)) ?_
          rintro w298 a ⟨E299, h24, Z300⟩ F
          have B := B.size Z300
          have h208 := AT.ev h208 E299 (by show ¬ (m + 5 = m + 2); omega)
          have h232 := AT.ev h232 E299 (by show ¬ (m + 6 = m + 2); omega)
          have h129 := TR.ev h129 E299 (by show ¬ (0 = m + 2); omega) (by show ¬ (0 = m + 2); omega)
          have h199 := SL.ev h199 E299 (by show ¬ (0 = m + 2); omega) (by show ¬ (0 = m + 2); omega)
          have h202 := SL.ev h202 E299 (by show ¬ (0 = m + 2); omega) (by show ¬ (0 = m + 2); omega)
          have h255 := SL.ev h255 E299 (by show ¬ (0 = m + 2); omega) (by show ¬ (0 = m + 2); omega)
          have h288 := TB.ev h288 E299 (by show ¬ (j4 = m + 2); omega) (by show ¬ (0 = m + 2); omega)
          have E := E.trans E299 (fun x q => by replace q : x = m + 2 := q; show (x = j4) ∨ m ≤ x; omega)
          have h24 : AT true (m + 2) c284 w298 qa22 [.bool true, .slice A197 t191.Key.length C198, .slice A200 t191.Value.length C201, .int .i64 t191.Rev, .int .i64 t191.At] := h24
          refine q_val F rfl rfl (by decide) (r_assign F rfl) fun a F => ?_
          refine nil ?_
          refine hK297 _ _ ?_
          refine wp_ret ?_
          have H := Option.some.inj H
          subst H
          refine outR2 F rfl ⟨_, rfl, lv_agg (cs := [.bool true, .slice A197 t191.Key.length C198, .slice A200 t191.Value.length C201, .int .i64 t191.Rev, .int .i64 t191.At]) ag_28 sz_28 h24⟩ rfl ?_
          exact ⟨fun b_ => (fun x_ => if x_ < m then x_ else 0) (c284 b_), A197, C198, A200, C201, rfl, E.leave B0 (fun x_ => if x_ < m then x_ else 0) (by intro x_ hx_; show (if x_ < m then x_ else 0) = x_; ((repeat' split) <;> omega)), (fun b_ hb_ => by show (if (c284 b_) < m then (c284 b_) else 0) < m; ((repeat' split) <;> omega)), SL.rc h199 (fun k_ hk_ => by show (if (c284 k_) < m then (c284 k_) else 0) = _; rw [hk_]; ((repeat' split) <;> omega)) (fun k_ hk_ => by show (if (c284 k_) < m then (c284 k_) else 0) = _; rw [hk_]; ((repeat' split) <;> omega)), SL.rc h202 (fun k_ hk_ => by show (if (c284 k_) < m then (c284 k_) else 0) = _; rw [hk_]; ((repeat' split) <;> omega)) (fun k_ hk_ => by show (if (c284 k_) < m then (c284 k_) else 0) = _; rw [hk_]; ((repeat' split) <;> omega)), TB.rc h288 (fun k_ hk_ => by show (if (c284 k_) < m then (c284 k_) else 0) = _; rw [hk_]; ((repeat' split) <;> omega)) (fun k_ hk_ => by show (if (c284 k_) < m then (c284 k_) else 0) = _; rw [hk_]; ((repeat' split) <;> omega))⟩
         ·have H := (if_neg hb276).symm.trans H
          refine wp_cond_false ((F.ev rfl).trans (congrArg Value.bool (bfalse hb276))) ?_
          refine reg ?_
          refine q_val F rfl rfl (by decide) (r_fieldAddr F rfl ff_28_0) fun a F => ?_
          refine q_eff0 F rfl rfl (e_store F rfl rfl sz_4 h208 (Nat.le_of_ble_eq_true rfl) rfl) ?_
          rintro w290 a ⟨E291, h208, Z292⟩ F
          have B := B.size Z292
          have hat127 := AT.ev hat127 E291 (by show ¬ (j4 = m + 5); omega)
          have h24 := AT.ev h24 E291 (by show ¬ (m + 2 = m + 5); omega)
          have h232 := AT.ev h232 E291 (by show ¬ (m + 6 = m + 5); omega)
          have h129 := TR.ev h129 E291 (by show ¬ (0 = m + 5); omega) (by show ¬ (0 = m + 5); omega)
          have h199 := SL.ev h199 E291 (by show ¬ (0 = m + 5); omega) (by show ¬ (0 = m + 5); omega)
          have h202 := SL.ev h202 E291 (by show ¬ (0 = m + 5); omega) (by show ¬ (0 = m + 5); omega)
          have h255 := SL.ev h255 E291 (by show ¬ (0 = m + 5); omega) (by show ¬ (0 = m + 5); omega)
          have E := E.trans E291 (fun x q => by replace q : x = m + 5 := q; show (x = j4) ∨ m ≤ x; omega)
          have h208 : AT true (m + 5) c274 w290 qa206 [.bool false, .slice A197 t191.Key.length C198, .slice A200 t191.Value.length C201, .int .i64 t191.Rev, .int .i64 t191.At] := h208
          refine nil ?_
          refine hK214 _ _ ?_
          refine wp_seq_k fun K301 hK301 => ?_
          refine reg ?_
          refine q_val F rfl rfl (by decide) (r_loads (cs := [.bool false, .slice A197 t191.Key.length C198, .slice A200 t191.Value.length C201, .int .i64 t191.Rev, .int .i64 t191.At]) F rfl ag_28 sz_28 h208) fun a F => ?_
          refine q_eff0 F rfl rfl (e_storeN0 (us := [.bool false, .slice A197 t191.Key.length C198, .slice A200 t191.Value.length C201, .int .i64 t191.Rev, .int .i64 t191.At]) F rfl rfl sz_28 h24 (Nat.le_of_ble_eq_true rfl) (one_all rfl)) ?_
          rintro w302 a ⟨E303, h24, Z304⟩ F
          have B := B.size Z304
          have hat127 := AT.ev hat127 E303 (by show ¬ (j4 = m + 2); omega)
          have h208 := AT.ev h208 E303 (by show ¬ (m + 5 = m + 2); omega)
          have h232 := AT.ev h232 E303 (by show ¬ (m + 6 = m + 2); omega)
          have h129 := TR.ev h129 E303 (by show ¬ (0 = m + 2); omega) (by show ¬ (0 = m + 2); omega)
          have h199 := SL.ev h199 E303 (by show ¬ (0 = m + 2); omega) (by show ¬ (0 = m + 2); omega)
          have h202 := SL.ev h202 E303 (by show ¬ (0 = m + 2); omega) (by show ¬ (0 = m + 2); omega)
          have h255 := SL.ev h255 E303 (by show ¬ (0 = m + 2); omega) (by show ¬ (0 = m + 2); omega)
          have E := E.trans E303 (fun x q => by replace q : x = m + 2 := q; show (x = j4) ∨ m ≤ x; omega)
          have h24 : AT true (m + 2) c274 w302 qa22 [.bool false, .slice A197 t191.Key.length C198, .slice A200 t191.Value.length C201, .int .i64 t191.Rev, .int .i64 t191.At] := h24
          refine q_val F rfl rfl (by decide) (r_assign F rfl) fun a F => ?_
          refine nil ?_
          refine hK301 _ _ ?_
          refine wp_ret ?_
          have h305 : TB j4 c274 w302 (some ad126) (some (Tab.mk ob123.rows (IntKind.i64.wrap (ob123.rev + 1)) ob123.size)) := TB.mk hat127 h129
          have H := Option.some.inj H
          subst H
          refine outR2 F rfl ⟨_, rfl, lv_agg (cs := [.bool false, .slice A197 t191.Key.length C198, .slice A200 t191.Value.length C201, .int .i64 t191.Rev, .int .i64 t191.At]) ag_28 sz_28 h24⟩ rfl ?_
          exact ⟨fun b_ => (fun x_ => if x_ < m then x_ else 0) (c274 b_), A197, C198, A200, C201, rfl, E.leave B0 (fun x_ => if x_ < m then x_ else 0) (by intro x_ hx_; show (if x_ < m then x_ else 0) = x_; ((repeat' split) <;> omega)), (fun b_ hb_ => by show (if (c274 b_) < m then (c274 b_) else 0) < m; ((repeat' split) <;> omega)), SL.rc h199 (fun k_ hk_ => by show (if (c274 k_) < m then (c274 k_) else 0) = _; rw [hk_]; ((repeat' split) <;> omega)) (fun k_ hk_ => by show (if (c274 k_) < m then (c274 k_) else 0) = _; rw [hk_]; ((repeat' split) <;> omega)), SL.rc h202 (fun k_ hk_ => by show (if (c274 k_) < m then (c274 k_) else 0) = _; rw [hk_]; ((repeat' split) <;> omega)) (fun k_ hk_ => by show (if (c274 k_) < m then (c274 k_) else 0) = _; rw [hk_]; ((repeat' split) <;> omega)), TB.rc h305 (fun k_ hk_ => by show (if (c274 k_) < m then (c274 k_) else 0) = _; rw [hk_]; ((repeat' split) <;> omega)) (fun k_ hk_ => by show (if (c274 k_) < m then (c274 k_) else 0) = _; rw [hk_]; ((repeat' split) <;> omega))⟩
        refine reg ?_
        refine q_val F rfl rfl (by decide) (r_fieldAddr F rfl ff_33_0) fun a F => ?_
        refine q_val F rfl rfl (by decide) (r_load F rfl ag_3 (AT.cell h17 rfl)) fun a F => ?_
        refine q_val F rfl rfl (by decide) (r_eql F rfl rfl) fun a F => ?_
        refine q_val F rfl rfl (by decide) (r_move F rfl) fun a F => ?_
        by_cases hb271 : a5.Kind = 2
        ·have H := (if_pos hb271).symm.trans H
         refine q_no F rfl (by decide) rfl (decide_eq_true hb271) (by decide) fun a F => ?_
         refine q_no F rfl (by decide) rfl (decide_eq_true hb271) (by decide) fun a F => ?_
         refine q_no F rfl (by decide) rfl (decide_eq_true hb271) (by decide) fun a F => ?_
         refine q_no F rfl (by decide) rfl (decide_eq_true hb271) (by decide) fun a F => ?_
         refine q_no F rfl (by decide) rfl (decide_eq_true hb271) (by decide) fun a F => ?_
         refine q_val F rfl rfl (by decide) (r_pick_t F rfl (decide_eq_true hb271) rfl) fun a F => ?_
         refine q_val F rfl rfl (by decide) (r_assign F rfl) fun a F => ?_
         refine nil ?_
         exact J273 c257 w258 a true (F.sub ⟨rfl, rfl, rfl, rfl, rfl, rfl, trivial⟩) E B hat127 h24 h208 h232 h129 h199 h202 h255 H
        ·have H := (if_neg hb271).symm.trans H
         refine q_yes F rfl (by decide) rfl (decide_eq_false hb271) ?_
         refine q_val F rfl rfl (by decide) (r_fieldAddr F rfl ff_66_1) fun a F => ?_
         refine q_yes F rfl (by decide) rfl (decide_eq_false hb271) ?_
         refine q_val F rfl rfl (by decide) (r_load F rfl ag_3 (AT.cell h145 rfl)) fun a F => ?_
         refine q_yes F rfl (by decide) rfl (decide_eq_false hb271) ?_
         refine q_val F rfl rfl (by decide) (r_fieldAddr F rfl ff_33_3) fun a F => ?_
         refine q_yes F rfl (by decide) rfl (decide_eq_false hb271) ?_
         refine q_val F rfl rfl (by decide) (r_load F rfl ag_3 (AT.cell h17 rfl)) fun a F => ?_
         refine q_yes F rfl (by decide) rfl (decide_eq_false hb271) ?_
         refine q_val F rfl rfl (by decide) (r_eql F rfl rfl) fun a F => ?_
         refine q_val F rfl rfl (by decide) (r_pick_f F rfl (decide_eq_false hb271) rfl) fun a F => ?_
         refine q_val F rfl rfl (by decide) (r_assign F rfl) fun a F => ?_
         refine nil ?_
         exact J273 c257 w258 a (decide (t131.1.rev = a5.Rev)) (F.sub ⟨rfl, rfl, rfl, rfl, rfl, rfl, trivial⟩) E B hat127 h24 h208 h232 h129 h199 h202 h255 H
      refine regD (SB No c204 w211) 9 (.q 0 (.q 1 (.q 3 (.q 4 (.q 5 (.q 6 (.f 2 (.q 7 (.e 8 (.e 9 .nil))) 8 (.e 2 (.q 7 (.e 9 .nil)))))))))) Try_hm (by decide +kernel) ?_
      intro w216 w1_ w2_ w3_ w4_
      have E217 : Ev No c204 w211 c204 w216 := Ev.same w1_ w2_ w3_ w4_
      have B := B.same w1_
      have zh8 := h8
      have zh11 := h11
      have zh17 := h17
      have zh24 := h24
      have zh129 := h129
      have zhat127 := hat127
      have zh139 := h139
      have zh145 := h145
      have zh190 := h190
      have zh199 := h199
      have zh202 := h202
      have zh208 := h208
      have ER : Ev No c204 w211 c204 w216 := Ev.same w1_ w2_ w3_ w4_
      have h8 := SL.ev h8 E217 (fun q => q.elim) (fun q => q.elim)
      have h11 := SL.ev h11 E217 (fun q => q.elim) (fun q => q.elim)
      have h17 := AT.ev h17 E217 (fun q => q.elim)
      have h24 := AT.ev h24 E217 (fun q => q.elim)
      have h129 := TR.ev h129 E217 (fun q => q.elim) (fun q => q.elim)
      have hat127 := AT.ev hat127 E217 (fun q => q.elim)
      have h139 := SL.ev h139 E217 (fun q => q.elim) (fun q => q.elim)
      have h145 := AT.ev h145 E217 (fun q => q.elim)
      have h190 := TB.ev h190 E217 (fun q => q.elim) (fun q => q.elim)
      have h199 := SL.ev h199 E217 (fun q => q.elim) (fun q => q.elim)
      have h202 := SL.ev h202 E217 (fun q => q.elim) (fun q => q.elim)
      have h208 := AT.ev h208 E217 (fun q => q.elim)
      have E := E.trans E217 (fun x q => q.elim)
      refine d_q F rfl rfl rfl (by decide) (fun wq hS => r_fieldAddr F rfl ff_33_2) ER.sb fun a F => ?_
      refine d_q F rfl rfl rfl (by decide) (fun wq hS => r_load F rfl ag_23 (AT.cell (AT.sb zh17 hS (fun q => q.elim)) rfl)) ER.sb fun a F => ?_
      refine d_q F rfl rfl rfl (by decide) (fun wq hS => r_move F rfl) ER.sb fun a F => ?_
      refine d_q F rfl rfl rfl (by decide) (fun wq hS => r_nil F rfl) ER.sb fun a F => ?_
      refine d_q F rfl rfl rfl (by decide) (fun wq hS => r_fieldAddr F rfl ff_70_1) ER.sb fun a F => ?_
      refine d_q F rfl rfl rfl (by decide) (fun wq hS => r_load F rfl ag_3 (AT.cell (AT.sb zhat127 hS (fun q => q.elim)) rfl)) ER.sb fun a F => ?_
      refine d_f ?_ ?_
      ·obtain ⟨t218, q219, H⟩ := bind_some H
       refine o_call F rfl (wanted_none rfl) rfl (by decide) (r_call F Try.func42 rfl (by kernel_rfl) rfl) (bytes_Clone.calls (m := m + 7) (by omega) B h11 (by omega) 0 (by omega) _ q219) ?_
       rintro e w221 ⟨c220, A224, C225, rfl, E222, B223, h226⟩
       refine ⟨_, rfl, fun a F => ?_⟩
       have B := B223
       have ER := ER.trans E222 (fun x q => q.elim)
       have h8 := SL.ev h8 E222 (fun q => q.elim) (fun q => q.elim)
       have h11 := SL.ev h11 E222 (fun q => q.elim) (fun q => q.elim)
       have h17 := AT.ev h17 E222 (fun q => q.elim)
       have h24 := AT.ev h24 E222 (fun q => q.elim)
       have h129 := TR.ev h129 E222 (fun q => q.elim) (fun q => q.elim)
       have hat127 := AT.ev hat127 E222 (fun q => q.elim)
       have h139 := SL.ev h139 E222 (fun q => q.elim) (fun q => q.elim)
       have h145 := AT.ev h145 E222 (fun q => q.elim)
       have h190 := TB.ev h190 E222 (fun q => q.elim) (fun q => q.elim)
       have h199 := SL.ev h199 E222 (fun q => q.elim) (fun q => q.elim)
       have h202 := SL.ev h202 E222 (fun q => q.elim) (fun q => q.elim)
       have h208 := AT.ev h208 E222 (fun q => q.elim)
       have E := E.trans E222 (fun x q => q.elim)
       refine ⟨fun _ => ER.sb, ?_⟩
       refine d_q F rfl rfl rfl (by decide) (fun wq hS => r_build (v := .agg #[.slice A224 t218.length C225, .int .i64 (IntKind.i64.wrap (ob123.rev + 1))]) F [(0, .slice A224 t218.length C225), (1, .int .i64 (IntKind.i64.wrap (ob123.rev + 1)))] (by exact ⟨rfl, rfl, rfl, rfl, trivial⟩) (fun w => by kernel_rfl)) ER.sb fun a F => ?_
       refine d_e ?_
       refine o_eff F rfl rfl rfl (by decide) (e_alloc F zv_66 c220 (m + 6)) ?_
       rintro v w229 a ⟨c228, qa230, rfl, E231, h232, B233⟩ F
       have B := B233 _ B (by omega)
       have ER := ER.trans E231 (fun x q => q.elim)
       have h8 := SL.ev h8 E231 (fun q => q.elim) (fun q => q.elim)
       have h11 := SL.ev h11 E231 (fun q => q.elim) (fun q => q.elim)
       have h17 := AT.ev h17 E231 (fun q => q.elim)
       have h24 := AT.ev h24 E231 (fun q => q.elim)
       have h129 := TR.ev h129 E231 (fun q => q.elim) (fun q => q.elim)
       have hat127 := AT.ev hat127 E231 (fun q => q.elim)
       have h139 := SL.ev h139 E231 (fun q => q.elim) (fun q => q.elim)
       have h145 := AT.ev h145 E231 (fun q => q.elim)
       have h190 := TB.ev h190 E231 (fun q => q.elim) (fun q => q.elim)
       have h199 := SL.ev h199 E231 (fun q => q.elim) (fun q => q.elim)
       have h202 := SL.ev h202 E231 (fun q => q.elim) (fun q => q.elim)
       have h208 := AT.ev h208 E231 (fun q => q.elim)
       have h226 := SL.ev h226 E231 (fun q => q.elim) (fun q => q.elim)
       have E := E.trans E231 (fun x q => q.elim)
       have h232 : AT true (m + 6) c228 w229 qa230 [.slice none 0 0, .int .i64 0] := h232
       refine ⟨fun _ => ER.sb, ?_⟩
       refine d_e ?_
       refine o_eff0 F rfl rfl rfl (e_storeN0 (us := [.slice A224 t218.length C225, .int .i64 (IntKind.i64.wrap (ob123.rev + 1))]) F rfl rfl sz_66 h232 (Nat.le_of_ble_eq_true rfl) (one_all rfl)) ?_
       rintro w235 a ⟨E236, h232, Z237⟩ F
       have B := B.size Z237
       have h8 := SL.ev h8 E236 (by show ¬ (0 = m + 6); omega) (by show ¬ (0 = m + 6); omega)
       have h11 := SL.ev h11 E236 (by show ¬ (0 = m + 6); omega) (by show ¬ (0 = m + 6); omega)
       have h17 := AT.ev h17 E236 (by show ¬ (m + 1 = m + 6); omega)
       have h24 := AT.ev h24 E236 (by show ¬ (m + 2 = m + 6); omega)
       have h129 := TR.ev h129 E236 (by show ¬ (0 = m + 6); omega) (by show ¬ (0 = m + 6); omega)
       have hat127 := AT.ev hat127 E236 (by show ¬ (j4 = m + 6); omega)
       have h139 := SL.ev h139 E236 (by show ¬ (0 = m + 6); omega) (by show ¬ (0 = m + 6); omega)
       have h145 := AT.ev h145 E236 (by show ¬ (m + 4 = m + 6); omega)
       have h190 := TB.ev h190 E236 (by show ¬ (j4 = m + 6); omega) (by show ¬ (0 = m + 6); omega)
       have h199 := SL.ev h199 E236 (by show ¬ (0 = m + 6); omega) (by show ¬ (0 = m + 6); omega)
       have h202 := SL.ev h202 E236 (by show ¬ (0 = m + 6); omega) (by show ¬ (0 = m + 6); omega)
       have h208 := AT.ev h208 E236 (by show ¬ (m + 5 = m + 6); omega)
       have h226 := SL.ev h226 E236 (by show ¬ (0 = m + 6); omega) (by show ¬ (0 = m + 6); omega)
       have E := E.trans E236 (fun x q => by replace q : x = m + 6 := q; show (x = j4) ∨ m ≤ x; omega)
       have h232 : AT true (m + 6) c228 w235 qa230 [.slice A224 t218.length C225, .int .i64 (IntKind.i64.wrap (ob123.rev + 1))] := h232
       refine ⟨fun q => absurd rfl q, ?_⟩
       refine d_nil ?_
       exact J256 c228 w235 a qa230 t218 A224 C225 (F.sub ⟨rfl, rfl, rfl, rfl, rfl, rfl, rfl, trivial⟩) E B hat127 h17 h24 h145 h208 h232 h129 h8 h11 h139 h199 h202 h226 H
      ·obtain ⟨t218, q219, H⟩ := bind_some H
       refine o_eff F rfl rfl rfl (by decide) (e_alloc F zv_66 c204 (m + 6)) ?_
       rintro v w239 a ⟨c238, qa230, rfl, E240, h232, B241⟩ F
       have B := B241 _ B (by omega)
       have ER := ER.trans E240 (fun x q => q.elim)
       have h8 := SL.ev h8 E240 (fun q => q.elim) (fun q => q.elim)
       have h11 := SL.ev h11 E240 (fun q => q.elim) (fun q => q.elim)
       have h17 := AT.ev h17 E240 (fun q => q.elim)
       have h24 := AT.ev h24 E240 (fun q => q.elim)
       have h129 := TR.ev h129 E240 (fun q => q.elim) (fun q => q.elim)
       have hat127 := AT.ev hat127 E240 (fun q => q.elim)
       have h139 := SL.ev h139 E240 (fun q => q.elim) (fun q => q.elim)
       have h145 := AT.ev h145 E240 (fun q => q.elim)
       have h190 := TB.ev h190 E240 (fun q => q.elim) (fun q => q.elim)
       have h199 := SL.ev h199 E240 (fun q => q.elim) (fun q => q.elim)
       have h202 := SL.ev h202 E240 (fun q => q.elim) (fun q => q.elim)
       have h208 := AT.ev h208 E240 (fun q => q.elim)
       have E := E.trans E240 (fun x q => q.elim)
       have h232 : AT true (m + 6) c238 w239 qa230 [.slice none 0 0, .int .i64 0] := h232
       refine ⟨fun _ => ER.sb, ?_⟩
       refine d_e ?_
       refine o_call F rfl (wanted_none rfl) rfl (by decide) (r_call F Try.func42 rfl (by kernel_rfl) rfl) (bytes_Clone.calls (m := m + 7) (by omega) B h11 (by omega) 0 (by omega) _ q219) ?_
       rintro e w243 ⟨c242, A246, C247, rfl, E244, B245, h248⟩
       refine ⟨_, rfl, fun a F => ?_⟩
       have B := B245
       have ER := ER.trans E244 (fun x q => q.elim)
       have h8 := SL.ev h8 E244 (fun q => q.elim) (fun q => q.elim)
       have h11 := SL.ev h11 E244 (fun q => q.elim) (fun q => q.elim)
       have h17 := AT.ev h17 E244 (fun q => q.elim)
       have h24 := AT.ev h24 E244 (fun q => q.elim)
       have h129 := TR.ev h129 E244 (fun q => q.elim) (fun q => q.elim)
       have hat127 := AT.ev hat127 E244 (fun q => q.elim)
       have h139 := SL.ev h139 E244 (fun q => q.elim) (fun q => q.elim)
       have h145 := AT.ev h145 E244 (fun q => q.elim)
       have h190 := TB.ev h190 E244 (fun q => q.elim) (fun q => q.elim)
       have h199 := SL.ev h199 E244 (fun q => q.elim) (fun q => q.elim)
       have h202 := SL.ev h202 E244 (fun q => q.elim) (fun q => q.elim)
       have h208 := AT.ev h208 E244 (fun q => q.elim)
       have h232 := AT.ev h232 E244 (fun q => q.elim)
       have E := E.trans E244 (fun x q => q.elim)
       refine ⟨fun _ => ER.sb, ?_⟩
       refine d_q F rfl rfl rfl (by decide) (fun wq hS => r_build (v := .agg #[.slice A246 t218.length C247, .int .i64 (IntKind.i64.wrap (ob123.rev + 1))]) F [(0, .slice A246 t218.length C247), (1, .int .i64 (IntKind.i64.wrap (ob123.rev + 1)))] (by exact ⟨rfl, rfl, rfl, rfl, trivial⟩) (fun w => by kernel_rfl)) ER.sb fun a F => ?_
       refine d_e ?_
       refine o_eff0 F rfl rfl rfl (e_storeN0 (us := [.slice A246 t218.length C247, .int .i64 (IntKind.i64.wrap (ob123.rev + 1))]) F rfl rfl sz_66 h232 (Nat.le_of_ble_eq_true rfl) (one_all rfl)) ?_
       rintro w250 a ⟨E251, h232, Z252⟩ F
       have B := B.size Z252
       have h8 := SL.ev h8 E251 (by show ¬ (0 = m + 6); omega) (by show ¬ (0 = m + 6); omega)
       have h11 := SL.ev h11 E251 (by show ¬ (0 = m + 6); omega) (by show ¬ (0 = m + 6); omega)
       have h17 := AT.ev h17 E251 (by show ¬ (m + 1 = m + 6); omega)
       have h24 := AT.ev h24 E251 (by show ¬ (m + 2 = m + 6); omega)
       have h129 := TR.ev h129 E251 (by show ¬ (0 = m + 6); omega) (by show ¬ (0 = m + 6); omega)
       have hat127 := AT.ev hat127 E251 (by show ¬ (j4 = m + 6); omega)
       have h139 := SL.ev h139 E251 (by show ¬ (0 = m + 6); omega) (by show ¬ (0 = m + 6); omega)
       have h145 := AT.ev h145 E251 (by show ¬ (m + 4 = m + 6); omega)
       have h190 := TB.ev h190 E251 (by show ¬ (j4 = m + 6); omega) (by show ¬ (0 = m + 6); omega)
       have h199 := SL.ev h199 E251 (by show ¬ (0 = m + 6); omega) (by show ¬ (0 = m + 6); omega)
       have h202 := SL.ev h202 E251 (by show ¬ (0 = m + 6); omega) (by show ¬ (0 = m + 6); omega)
       have h208 := AT.ev h208 E251 (by show ¬ (m + 5 = m + 6); omega)
       have h248 := SL.ev h248 E251 (by show ¬ (0 = m + 6); omega) (by show ¬ (0 = m + 6); omega)
       have E := E.trans E251 (fun x q => by replace q : x = m + 6 := q; show (x = j4) ∨ m ≤ x; omega)
       have h232 : AT true (m + 6) c242 w250 qa230 [.slice A246 t218.length C247, .int .i64 (IntKind.i64.wrap (ob123.rev + 1))] := h232
       refine ⟨fun q => absurd rfl q, ?_⟩
       refine d_nil ?_
       exact J256 c242 w250 a qa230 t218 A246 C247 (F.sub ⟨rfl, rfl, rfl, rfl, rfl, rfl, rfl, trivial⟩) E B hat127 h17 h24 h145 h208 h232 h129 h8 h11 h139 h199 h202 h248 H
    ·have H := (if_neg hb160).symm.trans H
     refine wp_cond_true ((F.ev rfl).trans (congrArg Value.bool (congrArg not (bfalse hb160)))) ?_
     refine wp_seq_k fun K161 hK161 => ?_
     refine reg ?_
     refine q_val F rfl rfl (by decide) (r_move F rfl) fun a F => ?_
     refine q_val F rfl rfl (by decide) (r_move F rfl) fun a F => ?_
     refine q_val F rfl rfl (by decide) (r_loads (cs := [.slice A137 t131.1.value.length C138, .int .i64 t131.1.rev]) F rfl ag_66 sz_66 h145) fun a F => ?_
     refine q_val F rfl rfl (by decide) (r_move F rfl) fun a F => ?_
     obtain ⟨t162, q163, H⟩ := bind_some H
     refine q_call F rfl rfl (by decide) (r_call F Try.func39 rfl (by kernel_rfl) rfl) (table_Table_told.calls (m := m + 7) (by omega) B h3 h139 (by omega) _ q163) ?_
     rintro e w165 ⟨c164, A168, C169, A171, C172, rfl, E166, B167, h170, h173⟩
     refine ⟨_, rfl, fun a F => ?_⟩
     have B := B167
     have h3 := TB.ev h3 E166 (fun q => q.elim) (fun q => q.elim)
     have h8 := SL.ev h8 E166 (fun q => q.elim) (fun q => q.elim)
     have h11 := SL.ev h11 E166 (fun q => q.elim) (fun q => q.elim)
     have h17 := AT.ev h17 E166 (fun q => q.elim)
     have h24 := AT.ev h24 E166 (fun q => q.elim)
     have h129 := TR.ev h129 E166 (fun q => q.elim) (fun q => q.elim)
     have hat127 := AT.ev hat127 E166 (fun q => q.elim)
     have h139 := SL.ev h139 E166 (fun q => q.elim) (fun q => q.elim)
     have h145 := AT.ev h145 E166 (fun q => q.elim)
     have E := E.trans E166 (fun x q => q.elim)
     refine q_eff0 F rfl rfl (e_storeN0 (us := [.bool t162.Done, .slice A168 t162.Key.length C169, .slice A171 t162.Value.length C172, .int .i64 t162.Rev, .int .i64 t162.At]) F rfl rfl sz_28 h24 (Nat.le_of_ble_eq_true rfl) (one_all rfl)) ?_
     rintro w175 a ⟨E176, h24, Z177⟩ F
     have B := B.size Z177
     have h3 := TB.ev h3 E176 (by show ¬ (j4 = m + 2); omega) (by show ¬ (0 = m + 2); omega)
     have h8 := SL.ev h8 E176 (by show ¬ (0 = m + 2); omega) (by show ¬ (0 = m + 2); omega)
     have h11 := SL.ev h11 E176 (by show ¬ (0 = m + 2); omega) (by show ¬ (0 = m + 2); omega)
     have h17 := AT.ev h17 E176 (by show ¬ (m + 1 = m + 2); omega)
     have h129 := TR.ev h129 E176 (by show ¬ (0 = m + 2); omega) (by show ¬ (0 = m + 2); omega)
     have hat127 := AT.ev hat127 E176 (by show ¬ (j4 = m + 2); omega)
     have h139 := SL.ev h139 E176 (by show ¬ (0 = m + 2); omega) (by show ¬ (0 = m + 2); omega)
     have h145 := AT.ev h145 E176 (by show ¬ (m + 4 = m + 2); omega)
     have h170 := SL.ev h170 E176 (by show ¬ (0 = m + 2); omega) (by show ¬ (0 = m + 2); omega)
     have h173 := SL.ev h173 E176 (by show ¬ (0 = m + 2); omega) (by show ¬ (0 = m + 2); omega)
     have E := E.trans E176 (fun x q => by replace q : x = m + 2 := q; show (x = j4) ∨ m ≤ x; omega)
     have h24 : AT true (m + 2) c164 w175 qa22 [.bool t162.Done, .slice A168 t162.Key.length C169, .slice A171 t162.Value.length C172, .int .i64 t162.Rev, .int .i64 t162.At] := h24
     refine q_val F rfl rfl (by decide) (r_assign F rfl) fun a F => ?_
     refine nil ?_
     refine hK161 _ _ ?_
     refine wp_ret ?_
     refine thenR ?_
     have H := Option.some.inj H
     subst H
     refine outR2 F rfl ⟨_, rfl, lv_agg (cs := [.bool t162.Done, .slice A168 t162.Key.length C169, .slice A171 t162.Value.length C172, .int .i64 t162.Rev, .int .i64 t162.At]) ag_28 sz_28 h24⟩ rfl ?_
     exact ⟨fun b_ => (fun x_ => if x_ < m then x_ else 0) (c164 b_), A168, C169, A171, C172, rfl, E.leave B0 (fun x_ => if x_ < m then x_ else 0) (by intro x_ hx_; show (if x_ < m then x_ else 0) = x_; ((repeat' split) <;> omega)), (fun b_ hb_ => by show (if (c164 b_) < m then (c164 b_) else 0) < m; ((repeat' split) <;> omega)), SL.rc h170 (fun k_ hk_ => by show (if (c164 k_) < m then (c164 k_) else 0) = _; rw [hk_]; ((repeat' split) <;> omega)) (fun k_ hk_ => by show (if (c164 k_) < m then (c164 k_) else 0) = _; rw [hk_]; ((repeat' split) <;> omega)), SL.rc h173 (fun k_ hk_ => by show (if (c164 k_) < m then (c164 k_) else 0) = _; rw [hk_]; ((repeat' split) <;> omega)) (fun k_ hk_ => by show (if (c164 k_) < m then (c164 k_) else 0) = _; rw [hk_]; ((repeat' split) <;> omega)), TB.rc h3 (fun k_ hk_ => by show (if (c164 k_) < m then (c164 k_) else 0) = _; rw [hk_]; ((repeat' split) <;> omega)) (fun k_ hk_ => by show (if (c164 k_) < m then (c164 k_) else 0) = _; rw [hk_]; ((repeat' split) <;> omega))⟩
  ·have H := (if_neg hb42).symm.trans H
   refine wp_cond_true ((F.ev rfl).trans (congrArg Value.bool (congrArg not (bfalse hb42)))) ?_
   refine wp_seq_k fun K117 hK117 => ?_
   refine reg ?_
   refine q_val F rfl rfl (by decide) (r_build (v := .agg #[.bool false, .slice none 0 0, .slice none 0 0, .int .i64 0, .int .i64 0]) F [] (by exact trivial) (fun w => by kernel_rfl)) fun a F => ?_
   refine q_eff0 F rfl rfl (e_storeN0 (us := [.bool false, .slice none 0 0, .slice none 0 0, .int .i64 0, .int .i64 0]) F rfl rfl sz_28 h24 (Nat.le_of_ble_eq_true rfl) (one_all rfl)) ?_
   rintro w118 a ⟨E119, h24, Z120⟩ F
   have B := B.size Z120
   have h3 := TB.ev h3 E119 (by show ¬ (j4 = m + 2); omega) (by show ¬ (0 = m + 2); omega)
   have h8 := SL.ev h8 E119 (by show ¬ (0 = m + 2); omega) (by show ¬ (0 = m + 2); omega)
   have h11 := SL.ev h11 E119 (by show ¬ (0 = m + 2); omega) (by show ¬ (0 = m + 2); omega)
   have h17 := AT.ev h17 E119 (by show ¬ (m + 1 = m + 2); omega)
   have E := E.trans E119 (fun x q => by replace q : x = m + 2 := q; show (x = j4) ∨ m ≤ x; omega)
   have h24 : AT true (m + 2) c37 w118 qa22 [.bool false, .slice none 0 0, .slice none 0 0, .int .i64 0, .int .i64 0] := h24
   refine q_val F rfl rfl (by decide) (r_assign F rfl) fun a F => ?_
   refine nil ?_
   refine hK117 _ _ ?_
   refine wp_ret ?_
   refine inbR ?_
   refine thenR ?_
   have H := Option.some.inj H
   subst H
   refine outR2 F rfl ⟨_, rfl, lv_agg (cs := [.bool false, .slice none 0 0, .slice none 0 0, .int .i64 0, .int .i64 0]) ag_28 sz_28 h24⟩ rfl ?_
   exact ⟨fun b_ => (fun x_ => if x_ < m then x_ else 0) (c37 b_), none, 0, none, 0, rfl, E.leave B0 (fun x_ => if x_ < m then x_ else 0) (by intro x_ hx_; show (if x_ < m then x_ else 0) = x_; ((repeat' split) <;> omega)), (fun b_ hb_ => by show (if (c37 b_) < m then (c37 b_) else 0) < m; ((repeat' split) <;> omega)), SL.nil, SL.nil, TB.rc h3 (fun k_ hk_ => by show (if (c37 k_) < m then (c37 k_) else 0) = _; rw [hk_]; ((repeat' split) <;> omega)) (fun k_ hk_ => by show (if (c37 k_) < m then (c37 k_) else 0) = _; rw [hk_]; ((repeat' split) <;> omega))⟩
end Go.Proofs.Ytcolmmjcdlmcoaa.G
namespace Go.Proofs.Ytcolmmjcdlmcoaa.G
open Go Go.RowKit
set_option linter.unusedVariables false
set_option linter.unusedSimpArgs false
set_option maxRecDepth 100000 in
set_option maxHeartbeats 4000000 in
theorem table_Table_After.calls (k : Nat) {m : Nat} {c0 : Nat → Nat} {w0 : World} {j4 : Nat} {p2 : Option Addr} {A6 : Option Addr} {C7 : Nat} {A9 : Option Addr} {C10 : Nat} {a1 : Option Tab} {a5 : api_Op} (hm0 : 0 < m) (B0 : CB m c0 w0) (h3 : TB j4 c0 w0 p2 a1) (h8 : SL false (Kint .u8) 0 0 c0 w0 A6 C7 a5.Key) (h11 : SL false (Kint .u8) 0 0 c0 w0 A9 C10 a5.Value) (bj4 : j4 < m) (r : Int × Int) (H : table_Table_After.f k a1 a5 = some r) : Calls Try.prog 31 #[.pointer p2, .agg #[.int .i64 a5.Kind, .slice A6 a5.Key.length C7, .slice A9 a5.Value.length C10, .int .i64 a5.Rev]] w0 (fun e w_ => ∃ (c_ : Nat → Nat), e = .returned (.tuple #[.int .i64 r.1, .int .i64 r.2]) ∧ Ev (fun x => False) c0 w0 c_ w_ ∧ CB m c_ w_) := by
 unfold table_Table_After.f at H
 have B := B0.mono (show m ≤ m + 4 by omega)
 have E : Ev (fun x => False ∨ m ≤ x) c0 w0 c0 w0 := Ev.refl
 refine enter (N := 22) (l := [.pointer p2, .agg #[.int .i64 a5.Kind, .slice A6 a5.Key.length C7, .slice A9 a5.Value.length C10, .int .i64 a5.Rev]]) Try.func31 rfl rfl (Nat.le_of_ble_eq_true rfl) fun a F => ?_
 refine wp_seq_k fun K12 hK12 => ?_
 refine reg ?_
 refine q_eff F rfl rfl (by decide) (e_box F (v := .agg #[.int .i64 a5.Kind, .slice A6 a5.Key.length C7, .slice A9 a5.Value.length C10, .int .i64 a5.Rev]) rfl c0 (m + 1)) ?_
 rintro v w14 a ⟨c13, qa15, rfl, E16, h17, B18⟩ F
 have B := B18 _ B (by omega)
 have h3 := TB.ev h3 E16 (fun q => q.elim) (fun q => q.elim)
 have h8 := SL.ev h8 E16 (fun q => q.elim) (fun q => q.elim)
 have h11 := SL.ev h11 E16 (fun q => q.elim) (fun q => q.elim)
 have E := E.trans E16 (fun x q => q.elim)
 have h17 : AT true (m + 1) c13 w14 qa15 [.int .i64 a5.Kind, .slice A6 a5.Key.length C7, .slice A9 a5.Value.length C10, .int .i64 a5.Rev] := h17
 refine q_val F rfl rfl (by decide) (r_assign F rfl) fun a F => ?_
 refine q_val F rfl rfl (by decide) (r_assign F rfl) fun a F => ?_
 refine nil ?_
 refine hK12 _ _ ?_
 refine wp_seq_k fun K20 hK20 => ?_
 refine reg ?_
 refine q_val F rfl rfl (by decide) (r_move F rfl) fun a F => ?_
 obtain ⟨t21, q22, H⟩ := bind_some H
 refine q_call F rfl rfl (by decide) (r_call F Try.func19 rfl (by kernel_rfl) rfl) (table_Table_Copy.calls (m := m + 4) (by omega) B h3 (by omega) (m + 2) (by omega) _ q22) ?_
 rintro e w24 ⟨c23, p27, rfl, E25, B26, h28⟩
 refine ⟨_, rfl, fun a F => ?_⟩
 have B := B26
 have h3 := TB.ev h3 E25 (fun q => q.elim) (fun q => q.elim)
 have h8 := SL.ev h8 E25 (fun q => q.elim) (fun q => q.elim)
 have h11 := SL.ev h11 E25 (fun q => q.elim) (fun q => q.elim)
 have h17 := AT.ev h17 E25 (fun q => q.elim)
 have E := E.trans E25 (fun x q => q.elim)
 refine q_val F rfl rfl (by decide) (r_assign F rfl) fun a F => ?_
 refine nil ?_
 refine hK20 _ _ ?_
 refine wp_seq_k fun K30 hK30 => ?_
 refine wp_seq_k fun K31 hK31 => ?_
 refine reg ?_
 refine q_val F rfl rfl (by decide) (r_move F rfl) fun a F => ?_
 refine q_val F rfl rfl (by decide) (r_loads (cs := [.int .i64 a5.Kind, .slice A6 a5.Key.length C7, .slice A9 a5.Value.length C10, .int .i64 a5.Rev]) F rfl ag_33 sz_33 h17) fun a F => ?_
 obtain ⟨t32, q33, H⟩ := bind_some H
 refine q_call F rfl rfl (by decide) (r_call F Try.func14 rfl (by kernel_rfl) rfl) (table_Table_Do.calls k (m := m + 4) (by omega) B h28 h8 h11 (by omega) _ q33) ?_
 rintro e w35 ⟨c34, A38, C39, A41, C42, rfl, E36, B37, h40, h43, h44⟩
 refine ⟨_, rfl, fun a F => ?_⟩
 have B := B37
 have h3 := TB.ev h3 E36 (by show ¬ (j4 = m + 2); omega) (by show ¬ (0 = m + 2); omega)
 have h8 := SL.ev h8 E36 (by show ¬ (0 = m + 2); omega) (by show ¬ (0 = m + 2); omega)
 have h11 := SL.ev h11 E36 (by show ¬ (0 = m + 2); omega) (by show ¬ (0 = m + 2); omega)
 have h17 := AT.ev h17 E36 (by show ¬ (m + 1 = m + 2); omega)
 have E := E.trans E36 (fun x q => by replace q : x = m + 2 := q; show False ∨ m ≤ x; omega)
 refine q_val F rfl rfl (by decide) (r_move F rfl) fun a F => ?_
 refine q_val F rfl rfl (by decide) (r_extract F rfl rfl) fun a F => ?_
 refine q_val F rfl rfl (by decide) (r_extract F rfl rfl) fun a F => ?_
 refine q_eff F rfl rfl (by decide) (e_alloc F zv_28 c34 (m + 3)) ?_
 rintro v w47 a ⟨c46, qa48, rfl, E49, h50, B51⟩ F
 have B := B51 _ B (by omega)
 have h3 := TB.ev h3 E49 (fun q => q.elim) (fun q => q.elim)
 have h8 := SL.ev h8 E49 (fun q => q.elim) (fun q => q.elim)
 have h11 := SL.ev h11 E49 (fun q => q.elim) (fun q => q.elim)
 have h17 := AT.ev h17 E49 (fun q => q.elim)
 have h40 := SL.ev h40 E49 (fun q => q.elim) (fun q => q.elim)
 have h43 := SL.ev h43 E49 (fun q => q.elim) (fun q => q.elim)
 have h44 := TB.ev h44 E49 (fun q => q.elim) (fun q => q.elim)
 have E := E.trans E49 (fun x q => q.elim)
 have h50 : AT true (m + 3) c46 w47 qa48 [.bool false, .slice none 0 0, .slice none 0 0, .int .i64 0, .int .i64 0] := h50
 refine q_eff0 F rfl rfl (e_storeN0 (us := [.bool t32.1.Done, .slice A38 t32.1.Key.length C39, .slice A41 t32.1.Value.length C42, .int .i64 t32.1.Rev, .int .i64 t32.1.At]) F rfl rfl sz_28 h50 (Nat.le_of_ble_eq_true rfl) (one_all rfl)) ?_
 rintro w53 a ⟨E54, h50, Z55⟩ F
 have B := B.size Z55
 have h3 := TB.ev h3 E54 (by show ¬ (j4 = m + 3); omega) (by show ¬ (0 = m + 3); omega)
 have h8 := SL.ev h8 E54 (by show ¬ (0 = m + 3); omega) (by show ¬ (0 = m + 3); omega)
 have h11 := SL.ev h11 E54 (by show ¬ (0 = m + 3); omega) (by show ¬ (0 = m + 3); omega)
 have h17 := AT.ev h17 E54 (by show ¬ (m + 1 = m + 3); omega)
 have h40 := SL.ev h40 E54 (by show ¬ (0 = m + 3); omega) (by show ¬ (0 = m + 3); omega)
 have h43 := SL.ev h43 E54 (by show ¬ (0 = m + 3); omega) (by show ¬ (0 = m + 3); omega)
 have h44 := TB.ev h44 E54 (by show ¬ (m + 2 = m + 3); omega) (by show ¬ (0 = m + 3); omega)
 have E := E.trans E54 (fun x q => by replace q : x = m + 3 := q; show False ∨ m ≤ x; omega)
 have h50 : AT true (m + 3) c46 w53 qa48 [.bool t32.1.Done, .slice A38 t32.1.Key.length C39, .slice A41 t32.1.Value.length C42, .int .i64 t32.1.Rev, .int .i64 t32.1.At] := h50
 refine q_val F rfl rfl (by decide) (r_assign F rfl) fun a F => ?_
 refine nil ?_
 refine hK31 _ _ ?_
 refine wp_seq_k fun K56 hK56 => ?_
 refine reg ?_
 refine q_val F rfl rfl (by decide) (r_move F rfl) fun a F => ?_
 refine q_val F rfl rfl (by decide) (r_neq F rfl rfl) fun a F => ?_
 refine nil ?_
 refine hK56 _ _ ?_
 by_cases hb57 : t32.2.1 = 0
 ·have H := (if_pos hb57).symm.trans H
  refine wp_cond_false ((F.ev rfl).trans (congrArg Value.bool (congrArg not (decide_eq_true hb57)))) ?_
  refine wp_skip ?_
  refine hK30 _ _ ?_
  refine wp_seq_k fun K59 hK59 => ?_
  refine reg ?_
  refine q_val F rfl rfl (by decide) (r_move F rfl) fun a F => ?_
  obtain ⟨t60, q61, H⟩ := bind_some H
  refine q_call F rfl rfl (by decide) (r_call F Try.func30 rfl (by kernel_rfl) rfl) (table_Table_Size.calls k (m := m + 4) (by omega) B h44 (by omega) _ q61) ?_
  rintro e w63 ⟨c62, rfl, E64, B65⟩
  refine ⟨_, rfl, fun a F => ?_⟩
  have B := B65
  have h3 := TB.ev h3 E64 (fun q => q.elim) (fun q => q.elim)
  have h8 := SL.ev h8 E64 (fun q => q.elim) (fun q => q.elim)
  have h11 := SL.ev h11 E64 (fun q => q.elim) (fun q => q.elim)
  have h17 := AT.ev h17 E64 (fun q => q.elim)
  have h40 := SL.ev h40 E64 (fun q => q.elim) (fun q => q.elim)
  have h43 := SL.ev h43 E64 (fun q => q.elim) (fun q => q.elim)
  have h44 := TB.ev h44 E64 (fun q => q.elim) (fun q => q.elim)
  have h50 := AT.ev h50 E64 (fun q => q.elim)
  have E := E.trans E64 (fun x q => q.elim)
  refine q_val F rfl rfl (by decide) (r_assign F rfl) fun a F => ?_
  refine q_val F rfl rfl (by decide) (r_assign F rfl) fun a F => ?_
  refine nil ?_
  refine hK59 _ _ ?_
  refine wp_ret ?_
  have H := Option.some.inj H
  subst H
  refine out2 F rfl rfl rfl ?_
  exact ⟨fun b_ => (fun x_ => if x_ < m then x_ else 0) (c62 b_), rfl, E.leave B0 (fun x_ => if x_ < m then x_ else 0) (by intro x_ hx_; show (if x_ < m then x_ else 0) = x_; ((repeat' split) <;> omega)), (fun b_ hb_ => by show (if (c62 b_) < m then (c62 b_) else 0) < m; ((repeat' split) <;> omega))⟩
 ·have H := (if_neg hb57).symm.trans H
  refine wp_cond_true ((F.ev rfl).trans (congrArg Value.bool (congrArg not (decide_eq_false hb57)))) ?_
  refine wp_seq_k fun K58 hK58 => ?_
  refine reg ?_
  refine q_val F rfl rfl (by decide) (r_move F rfl) fun a F => ?_
  refine q_val F rfl rfl (by decide) (r_assign F rfl) fun a F => ?_
  refine q_val F rfl rfl (by decide) (r_assign F rfl) fun a F => ?_
  refine nil ?_
  refine hK58 _ _ ?_
  refine wp_ret ?_
  refine thenR ?_
  have H := Option.some.inj H
  subst H
  refine out2 F rfl rfl rfl ?_
  exact ⟨fun b_ => (fun x_ => if x_ < m then x_ else 0) (c46 b_), rfl, E.leave B0 (fun x_ => if x_ < m then x_ else 0) (by intro x_ hx_; show (if x_ < m then x_ else 0) = x_; ((repeat' split) <;> omega)), (fun b_ hb_ => by show (if (c46 b_) < m then (c46 b_) else 0) < m; ((repeat' split) <;> omega))⟩
end Go.Proofs.Ytcolmmjcdlmcoaa.G
