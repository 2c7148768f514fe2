/- Walks: each function of the program answers as its plain function says: haulagelaw13made, haulagelaw13awake. -/
import Derived.Test.YtcolmmjcdlmcoaaNB
import Derived.Test.YtcolmmjcdlmcoaaNC2
import Derived.Test.YtcolmmjcdlmcoaaNC3
import Derived.Test.YtcolmmjcdlmcoaaNC5
import Derived.Test.YtcolmmjcdlmcoaaNC4
namespace Go.Proofs.Ytcolmmjcdlmcoaa.G
open Go Go.RowKit
set_option linter.unusedVariables false
set_option linter.unusedSimpArgs false
set_option maxRecDepth 100000 in
set_option maxHeartbeats 4000000 in
theorem haulagelaw13_made.calls (k : Nat) {m : Nat} {c0 : Nat → Nat} {w0 : World} {j5 : Nat} {A2 : Option Addr} {C3 : Nat} {a1 : List api_Op} (hm0 : 0 < m) (B0 : CB m c0 w0) (h4 : SL false K_api_Op j5 0 c0 w0 A2 C3 a1) (bj5 : j5 < m) (jr116 : Nat) (bjr116 : jr116 < m) (r : (Option Tab)) (H : haulagelaw13_made.f k a1 = some r) : Calls Try.prog 13 #[.slice A2 a1.length C3] w0 (fun e w_ => ∃ (c_ : Nat → Nat) (P0_ : Option Addr), e = .returned (.pointer P0_) ∧ Ev (fun x => False) c0 w0 c_ w_ ∧ CB m c_ w_ ∧ TB jr116 c_ w_ P0_ r) := by
 unfold haulagelaw13_made.f at H
 have B := B0.mono (show m ≤ m + 2 by omega)
 have E : Ev (fun x => False ∨ m ≤ x) c0 w0 c0 w0 := Ev.refl
 refine enter (N := 22) (l := [.slice A2 a1.length C3]) Try.func13 rfl rfl (Nat.le_of_ble_eq_true rfl) fun a F => ?_
 refine wp_seq_k fun K6 hK6 => ?_
 refine reg ?_
 refine q_val F rfl rfl (by decide) (r_assign F rfl) fun a F => ?_
 refine nil ?_
 refine hK6 _ _ ?_
 refine wp_seq_k fun K7 hK7 => ?_
 refine reg ?_
 obtain ⟨t8, q9, H⟩ := bind_some H
 refine q_call F rfl rfl (by decide) (r_call F Try.func21 rfl (by kernel_rfl) rfl) (table_New.calls (m := m + 2) (by omega) B (m + 1) (by omega) _ q9) ?_
 rintro e w11 ⟨c10, p14, rfl, E12, B13, h15⟩
 refine ⟨_, rfl, fun a F => ?_⟩
 have B := B13
 have h4 := SL.ev h4 E12 (fun q => q.elim) (fun q => q.elim)
 have E := E.trans E12 (fun x q => q.elim)
 refine q_val F rfl rfl (by decide) (r_assign F rfl) fun a F => ?_
 refine nil ?_
 refine hK7 _ _ ?_
 refine wp_seq_k fun K17 hK17 => ?_
 refine wp_seq_k fun K18 hK18 => ?_
 refine reg ?_
 refine q_val F rfl rfl (by decide) (r_assign F rfl) fun a F => ?_
 refine nil ?_
 refine hK18 _ _ ?_
 refine wp_block ?_
 obtain ⟨x75, HL, HR74⟩ := bind_some H
 have J112 : ∀ (c113 : Nat → Nat) (w114 : World) (a : Act) (o111 : Option Tab), Fr a 22 [(3, .pointer p14)] → Ev (fun x => False ∨ m ≤ x) c0 w0 c113 w114 → CB (m + 2) c113 w114 → TB (m + 1) c113 w114 p14 o111 → haulagelaw13_made.j2 o111 = some r → K17 a w114 := by
  intro c113 w114 a o111 F E B h110 H
  unfold haulagelaw13_made.j2 at H
  refine hK17 _ _ ?_
  refine wp_seq_k fun K115 hK115 => ?_
  refine reg ?_
  refine q_val F rfl rfl (by decide) (r_move F rfl) fun a F => ?_
  refine q_val F rfl rfl (by decide) (r_assign F rfl) fun a F => ?_
  refine nil ?_
  refine hK115 _ _ ?_
  refine wp_ret ?_
  have H := Option.some.inj H
  subst H
  refine out1 F rfl rfl ?_
  exact ⟨fun b_ => (fun x_ => if x_ = m + 1 then jr116 else if x_ < m then x_ else 0) (c113 b_), p14, rfl, E.leave B0 (fun x_ => if x_ = m + 1 then jr116 else if x_ < m then x_ else 0) (by intro x_ hx_; show (if x_ = m + 1 then jr116 else if x_ < m then x_ else 0) = x_; ((repeat' split) <;> omega)), (fun b_ hb_ => by show (if (c113 b_) = m + 1 then jr116 else if (c113 b_) < m then (c113 b_) else 0) < m; ((repeat' split) <;> omega)), TB.rc h110 (fun k_ hk_ => by show (if (c113 k_) = m + 1 then jr116 else if (c113 k_) < m then (c113 k_) else 0) = _; rw [hk_]; ((repeat' split) <;> omega)) (fun k_ hk_ => by show (if (c113 k_) = m + 1 then jr116 else if (c113 k_) < m then (c113 k_) else 0) = _; rw [hk_]; ((repeat' split) <;> omega))⟩
 refine loop_fuel (I := fun n a w => ∃ (o64 : Option Tab) (i65 : Int) (c : Nat → Nat), Fr a 22 [(0, .slice A2 a1.length C3), (3, .pointer p14), (4, .int .i64 i65)] ∧ Ev (fun x => False ∨ m ≤ x) c0 w0 c w ∧ CB (m + 2) c w ∧ SL false K_api_Op j5 0 c w A2 C3 a1 ∧ TB (m + 1) c w p14 o64 ∧ loop (fun (s_ : (Option Tab) × Int) => haulagelaw13_made.b1 k a1 s_.1 s_.2) n (o64, i65) = some x75) (k := k) ⟨t8, 0, c10, F.sub ⟨rfl, rfl, rfl, trivial⟩, E, B, h4, h15, HL⟩ ?_
 clear HL H E F B
 intro n72 X68 hX68 a w67 ⟨o64, i65, c66, F, E, B, h4, h63, HL⟩
 obtain ⟨n73, ctl71, rfl, HB, HN69, HD70⟩ := loop_some HL
 have H : haulagelaw13_made.b1 k a1 o64 i65 = some ctl71 := HB
 clear HB HL
 unfold haulagelaw13_made.b1 at H
 refine wp_seq_k fun K76 hK76 => ?_
 refine wp_seq_k fun K77 hK77 => ?_
 refine reg ?_
 refine q_val F rfl rfl (by decide) (r_move F rfl) fun a F => ?_
 refine q_val F rfl rfl (by decide) (r_move F rfl) fun a F => ?_
 refine q_val F rfl rfl (by decide) (r_lensl F Try.underlying22 rfl) fun a F => ?_
 refine q_val F rfl rfl (by decide) (r_lss F rfl rfl) fun a F => ?_
 refine nil ?_
 refine hK77 _ _ ?_
 by_cases hb78 : i65 < (a1.length : Int)
 ·have H := (if_pos hb78).symm.trans H
  refine wp_cond_true ((F.ev rfl).trans (congrArg Value.bool (decide_eq_true hb78))) ?_
  refine wp_skip ?_
  refine hK76 _ _ ?_
  refine wp_seq_k fun K79 hK79 => ?_
  refine wp_block ?_
  refine reg ?_
  refine q_val F rfl rfl (by decide) (r_move F rfl) fun a F => ?_
  refine q_val F rfl rfl (by decide) (r_move F rfl) fun a F => ?_
  refine q_val F rfl rfl (by decide) (r_move F rfl) fun a F => ?_
  obtain ⟨g80, H⟩ := ifN H
  obtain ⟨ad81, cs82, e83, h84, r85⟩ := SL.at h4 i65 g80.1 g80.2
  obtain ⟨A86, C87, A89, C90, rfl, h88, h91⟩ := r85
  have h88 := SL.fl (i' := 0) h88 (fun q => q)
  have h91 := SL.fl (i' := 0) h91 (fun q => q)
  obtain ⟨qa92, qqa92⟩ : ∃ q, q = (ad81.add (i65.toNat * 4)) := ⟨_, rfl⟩
  have h84 : AT false j5 c66 w67 qa92 [.int .i64 ((rd a1 i65).Kind), .slice A86 ((rd a1 i65).Key).length C87, .slice A89 ((rd a1 i65).Value).length C90, .int .i64 ((rd a1 i65).Rev)] := by rw [qqa92]; exact h84
  refine q_val F rfl rfl (by decide) (r_indexAddr' F Try.underlying22 sz_33 rfl rfl g80.1 g80.2 e83 qqa92) fun a F => ?_
  refine q_val F rfl rfl (by decide) (r_loads (cs := [.int .i64 ((rd a1 i65).Kind), .slice A86 ((rd a1 i65).Key).length C87, .slice A89 ((rd a1 i65).Value).length C90, .int .i64 ((rd a1 i65).Rev)]) F rfl ag_33 sz_33 h84) fun a F => ?_
  obtain ⟨t48, q49, H⟩ := bind_some H
  refine q_call F rfl rfl (by decide) (r_call F Try.func14 rfl (by kernel_rfl) rfl) (table_Table_Do.calls k (m := m + 2) (by omega) B h63 h88 h91 (by omega) _ q49) ?_
  rintro e w95 ⟨c94, A98, C99, A101, C102, rfl, E96, B97, h100, h103, h104⟩
  refine ⟨_, rfl, fun a F => ?_⟩
  have B := B97
  have h4 := SL.ev h4 E96 (by show ¬ (j5 = m + 1); omega) (by show ¬ (0 = m + 1); omega)
  have h88 := SL.ev h88 E96 (by show ¬ (0 = m + 1); omega) (by show ¬ (0 = m + 1); omega)
  have h91 := SL.ev h91 E96 (by show ¬ (0 = m + 1); omega) (by show ¬ (0 = m + 1); omega)
  have h84 := AT.ev h84 E96 (by show ¬ (j5 = m + 1); omega)
  have E := E.trans E96 (fun x q => by replace q : x = m + 1 := q; show False ∨ m ≤ x; omega)
  refine q_val F rfl rfl (by decide) (r_move F rfl) fun a F => ?_
  refine q_val F rfl rfl (by decide) (r_extract F rfl rfl) fun a F => ?_
  refine q_val F rfl rfl (by decide) (r_extract F rfl rfl) fun a F => ?_
  refine nil ?_
  refine hK79 _ _ ?_
  refine reg ?_
  refine q_val F rfl rfl (by decide) (r_move F rfl) fun a F => ?_
  refine q_val F rfl rfl (by decide) (r_add F rfl rfl) fun a F => ?_
  refine q_val F rfl rfl (by decide) (r_assign F rfl) fun a F => ?_
  refine nil ?_
  have H := HN69 _ (Option.some.inj H).symm
  exact hX68 _ _ _ (Nat.lt_succ_self _) ⟨t48.2.2, (IntKind.i64.wrap (i65 + 1)), c94, F.sub ⟨rfl, rfl, rfl, trivial⟩, E, B, h4, h104, H⟩
 ·have H := (if_neg hb78).symm.trans H
  refine wp_cond_false ((F.ev rfl).trans (congrArg Value.bool (decide_eq_false hb78))) ?_
  refine wp_exit ?_
  refine thenE ?_
  refine thenE ?_
  refine inbE ?_
  have hx_ := HD70 _ (Option.some.inj H).symm
  have H := HR74
  rw [← hx_] at H
  exact J112 c66 w67 a o64 (F.sub ⟨rfl, trivial⟩) E B h63 H
end Go.Proofs.Ytcolmmjcdlmcoaa.G
namespace Go.Proofs.Ytcolmmjcdlmcoaa.G
open Go Go.RowKit
set_option linter.unusedVariables false
set_option linter.unusedSimpArgs false
set_option maxRecDepth 100000 in
set_option maxHeartbeats 4000000 in
theorem haulagelaw13_awake.calls (k : Nat) {m : Nat} {c0 : Nat → Nat} {w0 : World} (hm0 : 0 < m) (B0 : CB m c0 w0) (r : Bool) (H : haulagelaw13_awake.f k = some r) : Calls Try.prog 12 #[] w0 (fun e w_ => ∃ (c_ : Nat → Nat), e = .returned (.bool r) ∧ Ev (fun x => False) c0 w0 c_ w_ ∧ CB m c_ w_) := by
 unfold haulagelaw13_awake.f at H
 have B := B0.mono (show m ≤ m + 6 by omega)
 have E : Ev (fun x => False ∨ m ≤ x) c0 w0 c0 w0 := Ev.refl
 refine enter (N := 95) (l := []) Try.func12 rfl rfl (Nat.le_of_ble_eq_true rfl) fun a F => ?_
 refine wp_seq_k fun K1 hK1 => ?_
 refine reg ?_
 refine q_val F rfl rfl (by decide) (r_assign F rfl) fun a F => ?_
 refine nil ?_
 refine hK1 _ _ ?_
 refine wp_seq_k fun K2 hK2 => ?_
 refine reg ?_
 obtain ⟨t3, q4, H⟩ := bind_some H
 refine q_call F rfl rfl (by decide) (r_call F Try.func21 rfl (by kernel_rfl) rfl) (table_New.calls (m := m + 6) (by omega) B (m + 1) (by omega) _ q4) ?_
 rintro e w6 ⟨c5, p9, rfl, E7, B8, h10⟩
 refine ⟨_, rfl, fun a F => ?_⟩
 have B := B8
 have E := E.trans E7 (fun x q => q.elim)
 refine q_val F rfl rfl (by decide) (r_assign F rfl) fun a F => ?_
 refine nil ?_
 refine hK2 _ _ ?_
 refine wp_seq_k fun K12 hK12 => ?_
 refine reg ?_
 refine q_val F rfl rfl (by decide) (r_move F rfl) fun a F => ?_
 refine q_eff F rfl rfl (by decide) (e_buildSlice (n := 1) (e := 5) (c := c5) (k := (Kint .u8)) (i := 0) F [(0, .int .u8 97)] [.int .u8 97] ([97] : List Int) (by exact ⟨rfl, rfl, trivial⟩) (fun w => by kernel_rfl) rfl (by decide) rfl ⟨rfl, trivial⟩ (fun q => q) 0) ?_
 rintro v w14 a ⟨c13, A15, C16, rfl, E17, h18, B19⟩ F
 have B := B19 _ B (by omega)
 have h10 := TB.ev h10 E17 (fun q => q.elim) (fun q => q.elim)
 have E := E.trans E17 (fun x q => q.elim)
 refine q_eff F rfl rfl (by decide) (e_buildSlice (n := 1) (e := 5) (c := c13) (k := (Kint .u8)) (i := 0) F [(0, .int .u8 49)] [.int .u8 49] ([49] : List Int) (by exact ⟨rfl, rfl, trivial⟩) (fun w => by kernel_rfl) rfl (by decide) rfl ⟨rfl, trivial⟩ (fun q => q) 0) ?_
 rintro v w21 a ⟨c20, A22, C23, rfl, E24, h25, B26⟩ F
 have B := B26 _ B (by omega)
 have h10 := TB.ev h10 E24 (fun q => q.elim) (fun q => q.elim)
 have h18 := SL.ev h18 E24 (fun q => q.elim) (fun q => q.elim)
 have E := E.trans E24 (fun x q => q.elim)
 obtain ⟨t27, q28, H⟩ := bind_some H
 refine q_call F rfl rfl (by decide) (r_call F Try.func32 rfl (by kernel_rfl) rfl) (haulagelaw13_put.calls (m := m + 6) (by omega) B h18.r h25.r _ q28) ?_
 rintro e w30 ⟨c29, A33, C34, A36, C37, rfl, E31, B32, h35, h38⟩
 refine ⟨_, rfl, fun a F => ?_⟩
 have B := B32
 have h10 := TB.ev h10 E31 (fun q => q.elim) (fun q => q.elim)
 have h18 := SL.ev h18 E31 (fun q => q.elim) (fun q => q.elim)
 have h25 := SL.ev h25 E31 (fun q => q.elim) (fun q => q.elim)
 have E := E.trans E31 (fun x q => q.elim)
 obtain ⟨t40, q41, H⟩ := bind_some H
 refine q_call F rfl rfl (by decide) (r_call F Try.func14 rfl (by kernel_rfl) rfl) (table_Table_Do.calls k (m := m + 6) (by omega) B h10 h35 h38 (by omega) _ q41) ?_
 rintro e w43 ⟨c42, A46, C47, A49, C50, rfl, E44, B45, h48, h51, h52⟩
 refine ⟨_, rfl, fun a F => ?_⟩
 have B := B45
 have h18 := SL.ev h18 E44 (by show ¬ (0 = m + 1); omega) (by show ¬ (0 = m + 1); omega)
 have h25 := SL.ev h25 E44 (by show ¬ (0 = m + 1); omega) (by show ¬ (0 = m + 1); omega)
 have h35 := SL.ev h35 E44 (by show ¬ (0 = m + 1); omega) (by show ¬ (0 = m + 1); omega)
 have h38 := SL.ev h38 E44 (by show ¬ (0 = m + 1); omega) (by show ¬ (0 = m + 1); omega)
 have E := E.trans E44 (fun x q => by replace q : x = m + 1 := q; show False ∨ m ≤ x; omega)
 refine q_val F rfl rfl (by decide) (r_move F rfl) fun a F => ?_
 refine q_val F rfl rfl (by decide) (r_extract F rfl rfl) fun a F => ?_
 refine q_val F rfl rfl (by decide) (r_extract F rfl rfl) fun a F => ?_
 refine q_eff F rfl rfl (by decide) (e_alloc F zv_28 c42 (m + 2)) ?_
 rintro v w55 a ⟨c54, qa56, rfl, E57, h58, B59⟩ F
 have B := B59 _ B (by omega)
 have h18 := SL.ev h18 E57 (fun q => q.elim) (fun q => q.elim)
 have h25 := SL.ev h25 E57 (fun q => q.elim) (fun q => q.elim)
 have h35 := SL.ev h35 E57 (fun q => q.elim) (fun q => q.elim)
 have h38 := SL.ev h38 E57 (fun q => q.elim) (fun q => q.elim)
 have h48 := SL.ev h48 E57 (fun q => q.elim) (fun q => q.elim)
 have h51 := SL.ev h51 E57 (fun q => q.elim) (fun q => q.elim)
 have h52 := TB.ev h52 E57 (fun q => q.elim) (fun q => q.elim)
 have E := E.trans E57 (fun x q => q.elim)
 have h58 : AT true (m + 2) c54 w55 qa56 [.bool false, .slice none 0 0, .slice none 0 0, .int .i64 0, .int .i64 0] := h58
 refine q_eff0 F rfl rfl (e_storeN0 (us := [.bool t40.1.Done, .slice A46 t40.1.Key.length C47, .slice A49 t40.1.Value.length C50, .int .i64 t40.1.Rev, .int .i64 t40.1.At]) F rfl rfl sz_28 h58 (Nat.le_of_ble_eq_true rfl) (one_all rfl)) ?_
 rintro w61 a ⟨E62, h58, Z63⟩ F
 have B := B.size Z63
 have h18 := SL.ev h18 E62 (by show ¬ (0 = m + 2); omega) (by show ¬ (0 = m + 2); omega)
 have h25 := SL.ev h25 E62 (by show ¬ (0 = m + 2); omega) (by show ¬ (0 = m + 2); omega)
 have h35 := SL.ev h35 E62 (by show ¬ (0 = m + 2); omega) (by show ¬ (0 = m + 2); omega)
 have h38 := SL.ev h38 E62 (by show ¬ (0 = m + 2); omega) (by show ¬ (0 = m + 2); omega)
 have h48 := SL.ev h48 E62 (by show ¬ (0 = m + 2); omega) (by show ¬ (0 = m + 2); omega)
 have h51 := SL.ev h51 E62 (by show ¬ (0 = m + 2); omega) (by show ¬ (0 = m + 2); omega)
 have h52 := TB.ev h52 E62 (by show ¬ (m + 1 = m + 2); omega) (by show ¬ (0 = m + 2); omega)
 have E := E.trans E62 (fun x q => by replace q : x = m + 2 := q; show False ∨ m ≤ x; omega)
 have h58 : AT true (m + 2) c54 w61 qa56 [.bool t40.1.Done, .slice A46 t40.1.Key.length C47, .slice A49 t40.1.Value.length C50, .int .i64 t40.1.Rev, .int .i64 t40.1.At] := h58
 refine q_val F rfl rfl (by decide) (r_assign F rfl) fun a F => ?_
 refine nil ?_
 refine hK12 _ _ ?_
 refine wp_seq_k fun K64 hK64 => ?_
 refine reg ?_
 refine q_val F rfl rfl (by decide) (r_move F rfl) fun a F => ?_
 refine q_eff F rfl rfl (by decide) (e_buildSlice (n := 1) (e := 5) (c := c54) (k := (Kint .u8)) (i := 0) F [(0, .int .u8 97)] [.int .u8 97] ([97] : List Int) (by exact ⟨rfl, rfl, trivial⟩) (fun w => by kernel_rfl) rfl (by decide) rfl ⟨rfl, trivial⟩ (fun q => q) 0) ?_
 rintro v w66 a ⟨c65, A67, C68, rfl, E69, h70, B71⟩ F
 have B := B71 _ B (by omega)
 have h18 := SL.ev h18 E69 (fun q => q.elim) (fun q => q.elim)
 have h25 := SL.ev h25 E69 (fun q => q.elim) (fun q => q.elim)
 have h35 := SL.ev h35 E69 (fun q => q.elim) (fun q => q.elim)
 have h38 := SL.ev h38 E69 (fun q => q.elim) (fun q => q.elim)
 have h48 := SL.ev h48 E69 (fun q => q.elim) (fun q => q.elim)
 have h51 := SL.ev h51 E69 (fun q => q.elim) (fun q => q.elim)
 have h52 := TB.ev h52 E69 (fun q => q.elim) (fun q => q.elim)
 have h58 := AT.ev h58 E69 (fun q => q.elim)
 have E := E.trans E69 (fun x q => q.elim)
 refine q_eff F rfl rfl (by decide) (e_buildSlice (n := 1) (e := 5) (c := c65) (k := (Kint .u8)) (i := 0) F [(0, .int .u8 50)] [.int .u8 50] ([50] : List Int) (by exact ⟨rfl, rfl, trivial⟩) (fun w => by kernel_rfl) rfl (by decide) rfl ⟨rfl, trivial⟩ (fun q => q) 0) ?_
 rintro v w73 a ⟨c72, A74, C75, rfl, E76, h77, B78⟩ F
 have B := B78 _ B (by omega)
 have h18 := SL.ev h18 E76 (fun q => q.elim) (fun q => q.elim)
 have h25 := SL.ev h25 E76 (fun q => q.elim) (fun q => q.elim)
 have h35 := SL.ev h35 E76 (fun q => q.elim) (fun q => q.elim)
 have h38 := SL.ev h38 E76 (fun q => q.elim) (fun q => q.elim)
 have h48 := SL.ev h48 E76 (fun q => q.elim) (fun q => q.elim)
 have h51 := SL.ev h51 E76 (fun q => q.elim) (fun q => q.elim)
 have h52 := TB.ev h52 E76 (fun q => q.elim) (fun q => q.elim)
 have h58 := AT.ev h58 E76 (fun q => q.elim)
 have h70 := SL.ev h70 E76 (fun q => q.elim) (fun q => q.elim)
 have E := E.trans E76 (fun x q => q.elim)
 obtain ⟨t79, q80, H⟩ := bind_some H
 refine q_call F rfl rfl (by decide) (r_call F Try.func32 rfl (by kernel_rfl) rfl) (haulagelaw13_put.calls (m := m + 6) (by omega) B h70.r h77.r _ q80) ?_
 rintro e w82 ⟨c81, A85, C86, A88, C89, rfl, E83, B84, h87, h90⟩
 refine ⟨_, rfl, fun a F => ?_⟩
 have B := B84
 have h18 := SL.ev h18 E83 (fun q => q.elim) (fun q => q.elim)
 have h25 := SL.ev h25 E83 (fun q => q.elim) (fun q => q.elim)
 have h35 := SL.ev h35 E83 (fun q => q.elim) (fun q => q.elim)
 have h38 := SL.ev h38 E83 (fun q => q.elim) (fun q => q.elim)
 have h48 := SL.ev h48 E83 (fun q => q.elim) (fun q => q.elim)
 have h51 := SL.ev h51 E83 (fun q => q.elim) (fun q => q.elim)
 have h52 := TB.ev h52 E83 (fun q => q.elim) (fun q => q.elim)
 have h58 := AT.ev h58 E83 (fun q => q.elim)
 have h70 := SL.ev h70 E83 (fun q => q.elim) (fun q => q.elim)
 have h77 := SL.ev h77 E83 (fun q => q.elim) (fun q => q.elim)
 have E := E.trans E83 (fun x q => q.elim)
 obtain ⟨t92, q93, H⟩ := bind_some H
 refine q_call F rfl rfl (by decide) (r_call F Try.func14 rfl (by kernel_rfl) rfl) (table_Table_Do.calls k (m := m + 6) (by omega) B h52 h87 h90 (by omega) _ q93) ?_
 rintro e w95 ⟨c94, A98, C99, A101, C102, rfl, E96, B97, h100, h103, h104⟩
 refine ⟨_, rfl, fun a F => ?_⟩
 have B := B97
 have h18 := SL.ev h18 E96 (by show ¬ (0 = m + 1); omega) (by show ¬ (0 = m + 1); omega)
 have h25 := SL.ev h25 E96 (by show ¬ (0 = m + 1); omega) (by show ¬ (0 = m + 1); omega)
 have h35 := SL.ev h35 E96 (by show ¬ (0 = m + 1); omega) (by show ¬ (0 = m + 1); omega)
 have h38 := SL.ev h38 E96 (by show ¬ (0 = m + 1); omega) (by show ¬ (0 = m + 1); omega)
 have h48 := SL.ev h48 E96 (by show ¬ (0 = m + 1); omega) (by show ¬ (0 = m + 1); omega)
 have h51 := SL.ev h51 E96 (by show ¬ (0 = m + 1); omega) (by show ¬ (0 = m + 1); omega)
 have h58 := AT.ev h58 E96 (by show ¬ (m + 2 = m + 1); omega)
 have h70 := SL.ev h70 E96 (by show ¬ (0 = m + 1); omega) (by show ¬ (0 = m + 1); omega)
 have h77 := SL.ev h77 E96 (by show ¬ (0 = m + 1); omega) (by show ¬ (0 = m + 1); omega)
 have h87 := SL.ev h87 E96 (by show ¬ (0 = m + 1); omega) (by show ¬ (0 = m + 1); omega)
 have h90 := SL.ev h90 E96 (by show ¬ (0 = m + 1); omega) (by show ¬ (0 = m + 1); omega)
 have E := E.trans E96 (fun x q => by replace q : x = m + 1 := q; show False ∨ m ≤ x; omega)
 refine q_val F rfl rfl (by decide) (r_move F rfl) fun a F => ?_
 refine q_val F rfl rfl (by decide) (r_extract F rfl rfl) fun a F => ?_
 refine q_val F rfl rfl (by decide) (r_extract F rfl rfl) fun a F => ?_
 refine q_eff F rfl rfl (by decide) (e_alloc F zv_28 c94 (m + 3)) ?_
 rintro v w107 a ⟨c106, qa108, rfl, E109, h110, B111⟩ F
 have B := B111 _ B (by omega)
 have h18 := SL.ev h18 E109 (fun q => q.elim) (fun q => q.elim)
 have h25 := SL.ev h25 E109 (fun q => q.elim) (fun q => q.elim)
 have h35 := SL.ev h35 E109 (fun q => q.elim) (fun q => q.elim)
 have h38 := SL.ev h38 E109 (fun q => q.elim) (fun q => q.elim)
 have h48 := SL.ev h48 E109 (fun q => q.elim) (fun q => q.elim)
 have h51 := SL.ev h51 E109 (fun q => q.elim) (fun q => q.elim)
 have h58 := AT.ev h58 E109 (fun q => q.elim)
 have h70 := SL.ev h70 E109 (fun q => q.elim) (fun q => q.elim)
 have h77 := SL.ev h77 E109 (fun q => q.elim) (fun q => q.elim)
 have h87 := SL.ev h87 E109 (fun q => q.elim) (fun q => q.elim)
 have h90 := SL.ev h90 E109 (fun q => q.elim) (fun q => q.elim)
 have h100 := SL.ev h100 E109 (fun q => q.elim) (fun q => q.elim)
 have h103 := SL.ev h103 E109 (fun q => q.elim) (fun q => q.elim)
 have h104 := TB.ev h104 E109 (fun q => q.elim) (fun q => q.elim)
 have E := E.trans E109 (fun x q => q.elim)
 have h110 : AT true (m + 3) c106 w107 qa108 [.bool false, .slice none 0 0, .slice none 0 0, .int .i64 0, .int .i64 0] := h110
 refine q_eff0 F rfl rfl (e_storeN0 (us := [.bool t92.1.Done, .slice A98 t92.1.Key.length C99, .slice A101 t92.1.Value.length C102, .int .i64 t92.1.Rev, .int .i64 t92.1.At]) F rfl rfl sz_28 h110 (Nat.le_of_ble_eq_true rfl) (one_all rfl)) ?_
 rintro w113 a ⟨E114, h110, Z115⟩ F
 have B := B.size Z115
 have h18 := SL.ev h18 E114 (by show ¬ (0 = m + 3); omega) (by show ¬ (0 = m + 3); omega)
 have h25 := SL.ev h25 E114 (by show ¬ (0 = m + 3); omega) (by show ¬ (0 = m + 3); omega)
 have h35 := SL.ev h35 E114 (by show ¬ (0 = m + 3); omega) (by show ¬ (0 = m + 3); omega)
 have h38 := SL.ev h38 E114 (by show ¬ (0 = m + 3); omega) (by show ¬ (0 = m + 3); omega)
 have h48 := SL.ev h48 E114 (by show ¬ (0 = m + 3); omega) (by show ¬ (0 = m + 3); omega)
 have h51 := SL.ev h51 E114 (by show ¬ (0 = m + 3); omega) (by show ¬ (0 = m + 3); omega)
 have h58 := AT.ev h58 E114 (by show ¬ (m + 2 = m + 3); omega)
 have h70 := SL.ev h70 E114 (by show ¬ (0 = m + 3); omega) (by show ¬ (0 = m + 3); omega)
 have h77 := SL.ev h77 E114 (by show ¬ (0 = m + 3); omega) (by show ¬ (0 = m + 3); omega)
 have h87 := SL.ev h87 E114 (by show ¬ (0 = m + 3); omega) (by show ¬ (0 = m + 3); omega)
 have h90 := SL.ev h90 E114 (by show ¬ (0 = m + 3); omega) (by show ¬ (0 = m + 3); omega)
 have h100 := SL.ev h100 E114 (by show ¬ (0 = m + 3); omega) (by show ¬ (0 = m + 3); omega)
 have h103 := SL.ev h103 E114 (by show ¬ (0 = m + 3); omega) (by show ¬ (0 = m + 3); omega)
 have h104 := TB.ev h104 E114 (by show ¬ (m + 1 = m + 3); omega) (by show ¬ (0 = m + 3); omega)
 have E := E.trans E114 (fun x q => by replace q : x = m + 3 := q; show False ∨ m ≤ x; omega)
 have h110 : AT true (m + 3) c106 w113 qa108 [.bool t92.1.Done, .slice A98 t92.1.Key.length C99, .slice A101 t92.1.Value.length C102, .int .i64 t92.1.Rev, .int .i64 t92.1.At] := h110
 refine q_val F rfl rfl (by decide) (r_assign F rfl) fun a F => ?_
 refine nil ?_
 refine hK64 _ _ ?_
 refine wp_seq_k fun K116 hK116 => ?_
 refine reg ?_
 refine q_val F rfl rfl (by decide) (r_move F rfl) fun a F => ?_
 refine q_eff F rfl rfl (by decide) (e_buildSlice (n := 1) (e := 5) (c := c106) (k := (Kint .u8)) (i := 0) F [(0, .int .u8 97)] [.int .u8 97] ([97] : List Int) (by exact ⟨rfl, rfl, trivial⟩) (fun w => by kernel_rfl) rfl (by decide) rfl ⟨rfl, trivial⟩ (fun q => q) 0) ?_
 rintro v w118 a ⟨c117, A119, C120, rfl, E121, h122, B123⟩ F
 have B := B123 _ B (by omega)
 have h18 := SL.ev h18 E121 (fun q => q.elim) (fun q => q.elim)
 have h25 := SL.ev h25 E121 (fun q => q.elim) (fun q => q.elim)
 have h35 := SL.ev h35 E121 (fun q => q.elim) (fun q => q.elim)
 have h38 := SL.ev h38 E121 (fun q => q.elim) (fun q => q.elim)
 have h48 := SL.ev h48 E121 (fun q => q.elim) (fun q => q.elim)
 have h51 := SL.ev h51 E121 (fun q => q.elim) (fun q => q.elim)
 have h58 := AT.ev h58 E121 (fun q => q.elim)
 have h70 := SL.ev h70 E121 (fun q => q.elim) (fun q => q.elim)
 have h77 := SL.ev h77 E121 (fun q => q.elim) (fun q => q.elim)
 have h87 := SL.ev h87 E121 (fun q => q.elim) (fun q => q.elim)
 have h90 := SL.ev h90 E121 (fun q => q.elim) (fun q => q.elim)
 have h100 := SL.ev h100 E121 (fun q => q.elim) (fun q => q.elim)
 have h103 := SL.ev h103 E121 (fun q => q.elim) (fun q => q.elim)
 have h104 := TB.ev h104 E121 (fun q => q.elim) (fun q => q.elim)
 have h110 := AT.ev h110 E121 (fun q => q.elim)
 have E := E.trans E121 (fun x q => q.elim)
 obtain ⟨t124, q125, H⟩ := bind_some H
 refine q_call F rfl rfl (by decide) (r_call F Try.func15 rfl (by kernel_rfl) rfl) (haulagelaw13_get.calls (m := m + 6) (by omega) B h122.r 0 (by omega) _ q125) ?_
 rintro e w127 ⟨c126, A130, C131, A133, C134, rfl, E128, B129, h132, h135⟩
 refine ⟨_, rfl, fun a F => ?_⟩
 have B := B129
 have h18 := SL.ev h18 E128 (fun q => q.elim) (fun q => q.elim)
 have h25 := SL.ev h25 E128 (fun q => q.elim) (fun q => q.elim)
 have h35 := SL.ev h35 E128 (fun q => q.elim) (fun q => q.elim)
 have h38 := SL.ev h38 E128 (fun q => q.elim) (fun q => q.elim)
 have h48 := SL.ev h48 E128 (fun q => q.elim) (fun q => q.elim)
 have h51 := SL.ev h51 E128 (fun q => q.elim) (fun q => q.elim)
 have h58 := AT.ev h58 E128 (fun q => q.elim)
 have h70 := SL.ev h70 E128 (fun q => q.elim) (fun q => q.elim)
 have h77 := SL.ev h77 E128 (fun q => q.elim) (fun q => q.elim)
 have h87 := SL.ev h87 E128 (fun q => q.elim) (fun q => q.elim)
 have h90 := SL.ev h90 E128 (fun q => q.elim) (fun q => q.elim)
 have h100 := SL.ev h100 E128 (fun q => q.elim) (fun q => q.elim)
 have h103 := SL.ev h103 E128 (fun q => q.elim) (fun q => q.elim)
 have h104 := TB.ev h104 E128 (fun q => q.elim) (fun q => q.elim)
 have h110 := AT.ev h110 E128 (fun q => q.elim)
 have h122 := SL.ev h122 E128 (fun q => q.elim) (fun q => q.elim)
 have E := E.trans E128 (fun x q => q.elim)
 obtain ⟨t137, q138, H⟩ := bind_some H
 refine q_call F rfl rfl (by decide) (r_call F Try.func14 rfl (by kernel_rfl) rfl) (table_Table_Do.calls k (m := m + 6) (by omega) B h104 h132 h135.r (by omega) _ q138) ?_
 rintro e w140 ⟨c139, A143, C144, A146, C147, rfl, E141, B142, h145, h148, h149⟩
 refine ⟨_, rfl, fun a F => ?_⟩
 have B := B142
 have h18 := SL.ev h18 E141 (by show ¬ (0 = m + 1); omega) (by show ¬ (0 = m + 1); omega)
 have h25 := SL.ev h25 E141 (by show ¬ (0 = m + 1); omega) (by show ¬ (0 = m + 1); omega)
 have h35 := SL.ev h35 E141 (by show ¬ (0 = m + 1); omega) (by show ¬ (0 = m + 1); omega)
 have h38 := SL.ev h38 E141 (by show ¬ (0 = m + 1); omega) (by show ¬ (0 = m + 1); omega)
 have h48 := SL.ev h48 E141 (by show ¬ (0 = m + 1); omega) (by show ¬ (0 = m + 1); omega)
 have h51 := SL.ev h51 E141 (by show ¬ (0 = m + 1); omega) (by show ¬ (0 = m + 1); omega)
 have h58 := AT.ev h58 E141 (by show ¬ (m + 2 = m + 1); omega)
 have h70 := SL.ev h70 E141 (by show ¬ (0 = m + 1); omega) (by show ¬ (0 = m + 1); omega)
 have h77 := SL.ev h77 E141 (by show ¬ (0 = m + 1); omega) (by show ¬ (0 = m + 1); omega)
 have h87 := SL.ev h87 E141 (by show ¬ (0 = m + 1); omega) (by show ¬ (0 = m + 1); omega)
 have h90 := SL.ev h90 E141 (by show ¬ (0 = m + 1); omega) (by show ¬ (0 = m + 1); omega)
 have h100 := SL.ev h100 E141 (by show ¬ (0 = m + 1); omega) (by show ¬ (0 = m + 1); omega)
 have h103 := SL.ev h103 E141 (by show ¬ (0 = m + 1); omega) (by show ¬ (0 = m + 1); omega)
 have h110 := AT.ev h110 E141 (by show ¬ (m + 3 = m + 1); omega)
 have h122 := SL.ev h122 E141 (by show ¬ (0 = m + 1); omega) (by show ¬ (0 = m + 1); omega)
 have h132 := SL.ev h132 E141 (by show ¬ (0 = m + 1); omega) (by show ¬ (0 = m + 1); omega)
 have h135 := SL.ev h135 E141 (by show ¬ (0 = m + 1); omega) (by show ¬ (0 = m + 1); omega)
 have E := E.trans E141 (fun x q => by replace q : x = m + 1 := q; show False ∨ m ≤ x; omega)
 refine q_val F rfl rfl (by decide) (r_move F rfl) fun a F => ?_
 refine q_val F rfl rfl (by decide) (r_extract F rfl rfl) fun a F => ?_
 refine q_val F rfl rfl (by decide) (r_extract F rfl rfl) fun a F => ?_
 refine q_eff F rfl rfl (by decide) (e_alloc F zv_28 c139 (m + 4)) ?_
 rintro v w152 a ⟨c151, qa153, rfl, E154, h155, B156⟩ F
 have B := B156 _ B (by omega)
 have h18 := SL.ev h18 E154 (fun q => q.elim) (fun q => q.elim)
 have h25 := SL.ev h25 E154 (fun q => q.elim) (fun q => q.elim)
 have h35 := SL.ev h35 E154 (fun q => q.elim) (fun q => q.elim)
 have h38 := SL.ev h38 E154 (fun q => q.elim) (fun q => q.elim)
 have h48 := SL.ev h48 E154 (fun q => q.elim) (fun q => q.elim)
 have h51 := SL.ev h51 E154 (fun q => q.elim) (fun q => q.elim)
 have h58 := AT.ev h58 E154 (fun q => q.elim)
 have h70 := SL.ev h70 E154 (fun q => q.elim) (fun q => q.elim)
 have h77 := SL.ev h77 E154 (fun q => q.elim) (fun q => q.elim)
 have h87 := SL.ev h87 E154 (fun q => q.elim) (fun q => q.elim)
 have h90 := SL.ev h90 E154 (fun q => q.elim) (fun q => q.elim)
 have h100 := SL.ev h100 E154 (fun q => q.elim) (fun q => q.elim)
 have h103 := SL.ev h103 E154 (fun q => q.elim) (fun q => q.elim)
 have h110 := AT.ev h110 E154 (fun q => q.elim)
 have h122 := SL.ev h122 E154 (fun q => q.elim) (fun q => q.elim)
 have h132 := SL.ev h132 E154 (fun q => q.elim) (fun q => q.elim)
 have h135 := SL.ev h135 E154 (fun q => q.elim) (fun q => q.elim)
 have h145 := SL.ev h145 E154 (fun q => q.elim) (fun q => q.elim)
 have h148 := SL.ev h148 E154 (fun q => q.elim) (fun q => q.elim)
 have h149 := TB.ev h149 E154 (fun q => q.elim) (fun q => q.elim)
 have E := E.trans E154 (fun x q => q.elim)
 have h155 : AT true (m + 4) c151 w152 qa153 [.bool false, .slice none 0 0, .slice none 0 0, .int .i64 0, .int .i64 0] := h155
 refine q_eff0 F rfl rfl (e_storeN0 (us := [.bool t137.1.Done, .slice A143 t137.1.Key.length C144, .slice A146 t137.1.Value.length C147, .int .i64 t137.1.Rev, .int .i64 t137.1.At]) F rfl rfl sz_28 h155 (Nat.le_of_ble_eq_true rfl) (one_all rfl)) ?_
 rintro w158 a ⟨E159, h155, Z160⟩ F
 have B := B.size Z160
 have h18 := SL.ev h18 E159 (by show ¬ (0 = m + 4); omega) (by show ¬ (0 = m + 4); omega)
 have h25 := SL.ev h25 E159 (by show ¬ (0 = m + 4); omega) (by show ¬ (0 = m + 4); omega)
 have h35 := SL.ev h35 E159 (by show ¬ (0 = m + 4); omega) (by show ¬ (0 = m + 4); omega)
 have h38 := SL.ev h38 E159 (by show ¬ (0 = m + 4); omega) (by show ¬ (0 = m + 4); omega)
 have h48 := SL.ev h48 E159 (by show ¬ (0 = m + 4); omega) (by show ¬ (0 = m + 4); omega)
 have h51 := SL.ev h51 E159 (by show ¬ (0 = m + 4); omega) (by show ¬ (0 = m + 4); omega)
 have h58 := AT.ev h58 E159 (by show ¬ (m + 2 = m + 4); omega)
 have h70 := SL.ev h70 E159 (by show ¬ (0 = m + 4); omega) (by show ¬ (0 = m + 4); omega)
 have h77 := SL.ev h77 E159 (by show ¬ (0 = m + 4); omega) (by show ¬ (0 = m + 4); omega)
 have h87 := SL.ev h87 E159 (by show ¬ (0 = m + 4); omega) (by show ¬ (0 = m + 4); omega)
 have h90 := SL.ev h90 E159 (by show ¬ (0 = m + 4); omega) (by show ¬ (0 = m + 4); omega)
 have h100 := SL.ev h100 E159 (by show ¬ (0 = m + 4); omega) (by show ¬ (0 = m + 4); omega)
 have h103 := SL.ev h103 E159 (by show ¬ (0 = m + 4); omega) (by show ¬ (0 = m + 4); omega)
 have h110 := AT.ev h110 E159 (by show ¬ (m + 3 = m + 4); omega)
 have h122 := SL.ev h122 E159 (by show ¬ (0 = m + 4); omega) (by show ¬ (0 = m + 4); omega)
 have h132 := SL.ev h132 E159 (by show ¬ (0 = m + 4); omega) (by show ¬ (0 = m + 4); omega)
 have h135 := SL.ev h135 E159 (by show ¬ (0 = m + 4); omega) (by show ¬ (0 = m + 4); omega)
 have h145 := SL.ev h145 E159 (by show ¬ (0 = m + 4); omega) (by show ¬ (0 = m + 4); omega)
 have h148 := SL.ev h148 E159 (by show ¬ (0 = m + 4); omega) (by show ¬ (0 = m + 4); omega)
 have h149 := TB.ev h149 E159 (by show ¬ (m + 1 = m + 4); omega) (by show ¬ (0 = m + 4); omega)
 have E := E.trans E159 (fun x q => by replace q : x = m + 4 := q; show False ∨ m ≤ x; omega)
 have h155 : AT true (m + 4) c151 w158 qa153 [.bool t137.1.Done, .slice A143 t137.1.Key.length C144, .slice A146 t137.1.Value.length C147, .int .i64 t137.1.Rev, .int .i64 t137.1.At] := h155
 refine q_val F rfl rfl (by decide) (r_assign F rfl) fun a F => ?_
 refine nil ?_
 refine hK116 _ _ ?_
 refine wp_seq_k fun K161 hK161 => ?_
 refine reg ?_
 refine q_val F rfl rfl (by decide) (r_move F rfl) fun a F => ?_
 refine q_val F rfl rfl (by decide) (r_build (v := .agg #[.int .i64 0, .slice none 0 0, .slice none 0 0, .int .i64 0]) F [] (by exact trivial) (fun w => by kernel_rfl)) fun a F => ?_
 obtain ⟨t162, q163, H⟩ := bind_some H
 refine q_call F rfl rfl (by decide) (r_call F Try.func14 rfl (by kernel_rfl) rfl) (table_Table_Do.calls k (m := m + 6) (by omega) B h149 SL.nil SL.nil (by omega) _ q163) ?_
 rintro e w165 ⟨c164, A168, C169, A171, C172, rfl, E166, B167, h170, h173, h174⟩
 refine ⟨_, rfl, fun a F => ?_⟩
 have B := B167
 have h18 := SL.ev h18 E166 (by show ¬ (0 = m + 1); omega) (by show ¬ (0 = m + 1); omega)
 have h25 := SL.ev h25 E166 (by show ¬ (0 = m + 1); omega) (by show ¬ (0 = m + 1); omega)
 have h35 := SL.ev h35 E166 (by show ¬ (0 = m + 1); omega) (by show ¬ (0 = m + 1); omega)
 have h38 := SL.ev h38 E166 (by show ¬ (0 = m + 1); omega) (by show ¬ (0 = m + 1); omega)
 have h48 := SL.ev h48 E166 (by show ¬ (0 = m + 1); omega) (by show ¬ (0 = m + 1); omega)
 have h51 := SL.ev h51 E166 (by show ¬ (0 = m + 1); omega) (by show ¬ (0 = m + 1); omega)
 have h58 := AT.ev h58 E166 (by show ¬ (m + 2 = m + 1); omega)
 have h70 := SL.ev h70 E166 (by show ¬ (0 = m + 1); omega) (by show ¬ (0 = m + 1); omega)
 have h77 := SL.ev h77 E166 (by show ¬ (0 = m + 1); omega) (by show ¬ (0 = m + 1); omega)
 have h87 := SL.ev h87 E166 (by show ¬ (0 = m + 1); omega) (by show ¬ (0 = m + 1); omega)
 have h90 := SL.ev h90 E166 (by show ¬ (0 = m + 1); omega) (by show ¬ (0 = m + 1); omega)
 have h100 := SL.ev h100 E166 (by show ¬ (0 = m + 1); omega) (by show ¬ (0 = m + 1); omega)
 have h103 := SL.ev h103 E166 (by show ¬ (0 = m + 1); omega) (by show ¬ (0 = m + 1); omega)
 have h110 := AT.ev h110 E166 (by show ¬ (m + 3 = m + 1); omega)
 have h122 := SL.ev h122 E166 (by show ¬ (0 = m + 1); omega) (by show ¬ (0 = m + 1); omega)
 have h132 := SL.ev h132 E166 (by show ¬ (0 = m + 1); omega) (by show ¬ (0 = m + 1); omega)
 have h135 := SL.ev h135 E166 (by show ¬ (0 = m + 1); omega) (by show ¬ (0 = m + 1); omega)
 have h145 := SL.ev h145 E166 (by show ¬ (0 = m + 1); omega) (by show ¬ (0 = m + 1); omega)
 have h148 := SL.ev h148 E166 (by show ¬ (0 = m + 1); omega) (by show ¬ (0 = m + 1); omega)
 have h155 := AT.ev h155 E166 (by show ¬ (m + 4 = m + 1); omega)
 have E := E.trans E166 (fun x q => by replace q : x = m + 1 := q; show False ∨ m ≤ x; omega)
 refine q_val F rfl rfl (by decide) (r_move F rfl) fun a F => ?_
 refine q_val F rfl rfl (by decide) (r_extract F rfl rfl) fun a F => ?_
 refine q_val F rfl rfl (by decide) (r_extract F rfl rfl) fun a F => ?_
 refine q_eff F rfl rfl (by decide) (e_alloc F zv_28 c164 (m + 5)) ?_
 rintro v w177 a ⟨c176, qa178, rfl, E179, h180, B181⟩ F
 have B := B181 _ B (by omega)
 have h18 := SL.ev h18 E179 (fun q => q.elim) (fun q => q.elim)
 have h25 := SL.ev h25 E179 (fun q => q.elim) (fun q => q.elim)
 have h35 := SL.ev h35 E179 (fun q => q.elim) (fun q => q.elim)
 have h38 := SL.ev h38 E179 (fun q => q.elim) (fun q => q.elim)
 have h48 := SL.ev h48 E179 (fun q => q.elim) (fun q => q.elim)
 have h51 := SL.ev h51 E179 (fun q => q.elim) (fun q => q.elim)
 have h58 := AT.ev h58 E179 (fun q => q.elim)
 have h70 := SL.ev h70 E179 (fun q => q.elim) (fun q => q.elim)
 have h77 := SL.ev h77 E179 (fun q => q.elim) (fun q => q.elim)
 have h87 := SL.ev h87 E179 (fun q => q.elim) (fun q => q.elim)
 have h90 := SL.ev h90 E179 (fun q => q.elim) (fun q => q.elim)
 have h100 := SL.ev h100 E179 (fun q => q.elim) (fun q => q.elim)
 have h103 := SL.ev h103 E179 (fun q => q.elim) (fun q => q.elim)
 have h110 := AT.ev h110 E179 (fun q => q.elim)
 have h122 := SL.ev h122 E179 (fun q => q.elim) (fun q => q.elim)
 have h132 := SL.ev h132 E179 (fun q => q.elim) (fun q => q.elim)
 have h135 := SL.ev h135 E179 (fun q => q.elim) (fun q => q.elim)
 have h145 := SL.ev h145 E179 (fun q => q.elim) (fun q => q.elim)
 have h148 := SL.ev h148 E179 (fun q => q.elim) (fun q => q.elim)
 have h155 := AT.ev h155 E179 (fun q => q.elim)
 have h170 := SL.ev h170 E179 (fun q => q.elim) (fun q => q.elim)
 have h173 := SL.ev h173 E179 (fun q => q.elim) (fun q => q.elim)
 have h174 := TB.ev h174 E179 (fun q => q.elim) (fun q => q.elim)
 have E := E.trans E179 (fun x q => q.elim)
 have h180 : AT true (m + 5) c176 w177 qa178 [.bool false, .slice none 0 0, .slice none 0 0, .int .i64 0, .int .i64 0] := h180
 refine q_eff0 F rfl rfl (e_storeN0 (us := [.bool t162.1.Done, .slice A168 t162.1.Key.length C169, .slice A171 t162.1.Value.length C172, .int .i64 t162.1.Rev, .int .i64 t162.1.At]) F rfl rfl sz_28 h180 (Nat.le_of_ble_eq_true rfl) (one_all rfl)) ?_
 rintro w183 a ⟨E184, h180, Z185⟩ F
 have B := B.size Z185
 have h18 := SL.ev h18 E184 (by show ¬ (0 = m + 5); omega) (by show ¬ (0 = m + 5); omega)
 have h25 := SL.ev h25 E184 (by show ¬ (0 = m + 5); omega) (by show ¬ (0 = m + 5); omega)
 have h35 := SL.ev h35 E184 (by show ¬ (0 = m + 5); omega) (by show ¬ (0 = m + 5); omega)
 have h38 := SL.ev h38 E184 (by show ¬ (0 = m + 5); omega) (by show ¬ (0 = m + 5); omega)
 have h48 := SL.ev h48 E184 (by show ¬ (0 = m + 5); omega) (by show ¬ (0 = m + 5); omega)
 have h51 := SL.ev h51 E184 (by show ¬ (0 = m + 5); omega) (by show ¬ (0 = m + 5); omega)
 have h58 := AT.ev h58 E184 (by show ¬ (m + 2 = m + 5); omega)
 have h70 := SL.ev h70 E184 (by show ¬ (0 = m + 5); omega) (by show ¬ (0 = m + 5); omega)
 have h77 := SL.ev h77 E184 (by show ¬ (0 = m + 5); omega) (by show ¬ (0 = m + 5); omega)
 have h87 := SL.ev h87 E184 (by show ¬ (0 = m + 5); omega) (by show ¬ (0 = m + 5); omega)
 have h90 := SL.ev h90 E184 (by show ¬ (0 = m + 5); omega) (by show ¬ (0 = m + 5); omega)
 have h100 := SL.ev h100 E184 (by show ¬ (0 = m + 5); omega) (by show ¬ (0 = m + 5); omega)
 have h103 := SL.ev h103 E184 (by show ¬ (0 = m + 5); omega) (by show ¬ (0 = m + 5); omega)
 have h110 := AT.ev h110 E184 (by show ¬ (m + 3 = m + 5); omega)
 have h122 := SL.ev h122 E184 (by show ¬ (0 = m + 5); omega) (by show ¬ (0 = m + 5); omega)
 have h132 := SL.ev h132 E184 (by show ¬ (0 = m + 5); omega) (by show ¬ (0 = m + 5); omega)
 have h135 := SL.ev h135 E184 (by show ¬ (0 = m + 5); omega) (by show ¬ (0 = m + 5); omega)
 have h145 := SL.ev h145 E184 (by show ¬ (0 = m + 5); omega) (by show ¬ (0 = m + 5); omega)
 have h148 := SL.ev h148 E184 (by show ¬ (0 = m + 5); omega) (by show ¬ (0 = m + 5); omega)
 have h155 := AT.ev h155 E184 (by show ¬ (m + 4 = m + 5); omega)
 have h170 := SL.ev h170 E184 (by show ¬ (0 = m + 5); omega) (by show ¬ (0 = m + 5); omega)
 have h173 := SL.ev h173 E184 (by show ¬ (0 = m + 5); omega) (by show ¬ (0 = m + 5); omega)
 have h174 := TB.ev h174 E184 (by show ¬ (m + 1 = m + 5); omega) (by show ¬ (0 = m + 5); omega)
 have E := E.trans E184 (fun x q => by replace q : x = m + 5 := q; show False ∨ m ≤ x; omega)
 have h180 : AT true (m + 5) c176 w183 qa178 [.bool t162.1.Done, .slice A168 t162.1.Key.length C169, .slice A171 t162.1.Value.length C172, .int .i64 t162.1.Rev, .int .i64 t162.1.At] := h180
 refine q_val F rfl rfl (by decide) (r_assign F rfl) fun a F => ?_
 refine nil ?_
 refine hK161 _ _ ?_
 refine wp_seq_k fun K186 hK186 => ?_
 refine reg ?_
 refine q_val F rfl rfl (by decide) (r_move F rfl) fun a F => ?_
 refine q_val F rfl rfl (by decide) (r_eql F rfl rfl) fun a F => ?_
 refine q_val F rfl rfl (by decide) (r_move F rfl) fun a F => ?_
 by_cases hb187 : t40.2.1 = 0
 ·have H := (if_pos hb187).symm.trans H
  refine q_yes F rfl (by decide) rfl (decide_eq_true hb187) ?_
  refine q_val F rfl rfl (by decide) (r_move F rfl) fun a F => ?_
  refine q_yes F rfl (by decide) rfl (decide_eq_true hb187) ?_
  refine q_val F rfl rfl (by decide) (r_eql F rfl rfl) fun a F => ?_
  refine q_val F rfl rfl (by decide) (r_pick_t F rfl (decide_eq_true hb187) rfl) fun a F => ?_
  refine q_val F rfl rfl (by decide) (r_move F rfl) fun a F => ?_
  by_cases hb188 : t92.2.1 = 0
  ·have H := (if_pos hb188).symm.trans H
   refine q_yes F rfl (by decide) rfl (decide_eq_true hb188) ?_
   refine q_val F rfl rfl (by decide) (r_move F rfl) fun a F => ?_
   refine q_yes F rfl (by decide) rfl (decide_eq_true hb188) ?_
   refine q_val F rfl rfl (by decide) (r_eql F rfl rfl) fun a F => ?_
   refine q_val F rfl rfl (by decide) (r_pick_t F rfl (decide_eq_true hb188) rfl) fun a F => ?_
   refine q_val F rfl rfl (by decide) (r_move F rfl) fun a F => ?_
   by_cases hb189 : t137.2.1 = 0
   ·have H := (if_pos hb189).symm.trans H
    refine q_yes F rfl (by decide) rfl (decide_eq_true hb189) ?_
    refine q_val F rfl rfl (by decide) (r_move F rfl) fun a F => ?_
    refine q_yes F rfl (by decide) rfl (decide_eq_true hb189) ?_
    refine q_val F rfl rfl (by decide) (r_eql F rfl rfl) fun a F => ?_
    refine q_val F rfl rfl (by decide) (r_pick_t F rfl (decide_eq_true hb189) rfl) fun a F => ?_
    refine q_val F rfl rfl (by decide) (r_move F rfl) fun a F => ?_
    by_cases hb190 : t162.2.1 = 131
    ·have H := (if_pos hb190).symm.trans H
     refine q_yes F rfl (by decide) rfl (decide_eq_true hb190) ?_
     refine q_val F rfl rfl (by decide) (r_fieldAddr F rfl ff_28_0) fun a F => ?_
     refine q_yes F rfl (by decide) rfl (decide_eq_true hb190) ?_
     refine q_val F rfl rfl (by decide) (r_load F rfl ag_4 (AT.cell h58 rfl)) fun a F => ?_
     refine q_val F rfl rfl (by decide) (r_pick_t F rfl (decide_eq_true hb190) rfl) fun a F => ?_
     refine q_val F rfl rfl (by decide) (r_move F rfl) fun a F => ?_
     by_cases hb191 : t40.1.Done = true
     ·have H := (if_pos hb191).symm.trans H
      refine q_yes F rfl (by decide) rfl hb191 ?_
      refine q_val F rfl rfl (by decide) (r_fieldAddr F rfl ff_28_4) fun a F => ?_
      refine q_yes F rfl (by decide) rfl hb191 ?_
      refine q_val F rfl rfl (by decide) (r_load F rfl ag_3 (AT.cell h58 rfl)) fun a F => ?_
      refine q_yes F rfl (by decide) rfl hb191 ?_
      refine q_val F rfl rfl (by decide) (r_eql F rfl rfl) fun a F => ?_
      refine q_val F rfl rfl (by decide) (r_pick_t F rfl hb191 rfl) fun a F => ?_
      refine q_val F rfl rfl (by decide) (r_move F rfl) fun a F => ?_
      by_cases hb192 : t40.1.At = 1
      ·have H := (if_pos hb192).symm.trans H
       refine q_yes F rfl (by decide) rfl (decide_eq_true hb192) ?_
       refine q_val F rfl rfl (by decide) (r_fieldAddr F rfl ff_28_3) fun a F => ?_
       refine q_yes F rfl (by decide) rfl (decide_eq_true hb192) ?_
       refine q_val F rfl rfl (by decide) (r_load F rfl ag_3 (AT.cell h110 rfl)) fun a F => ?_
       refine q_yes F rfl (by decide) rfl (decide_eq_true hb192) ?_
       refine q_val F rfl rfl (by decide) (r_eql F rfl rfl) fun a F => ?_
       refine q_val F rfl rfl (by decide) (r_pick_t F rfl (decide_eq_true hb192) rfl) fun a F => ?_
       refine q_val F rfl rfl (by decide) (r_move F rfl) fun a F => ?_
       by_cases hb193 : t92.1.Rev = 1
       ·have H := (if_pos hb193).symm.trans H
        refine q_yes F rfl (by decide) rfl (decide_eq_true hb193) ?_
        refine q_val F rfl rfl (by decide) (r_fieldAddr F rfl ff_28_2) fun a F => ?_
        refine q_yes F rfl (by decide) rfl (decide_eq_true hb193) ?_
        refine q_val F rfl rfl (by decide) (r_load F rfl ag_23 (AT.cell h110 rfl)) fun a F => ?_
        refine q_yes F rfl (by decide) rfl (decide_eq_true hb193) ?_
        refine q_eff F rfl rfl (by decide) (e_buildSlice (n := 1) (e := 5) (c := c176) (k := (Kint .u8)) (i := 0) F [(0, .int .u8 49)] [.int .u8 49] ([49] : List Int) (by exact ⟨rfl, rfl, trivial⟩) (fun w => by kernel_rfl) rfl (by decide) rfl ⟨rfl, trivial⟩ (fun q => q) 0) ?_
        rintro v w195 a ⟨c194, A196, C197, rfl, E198, h199, B200⟩ F
        have B := B200 _ B (by omega)
        have h18 := SL.ev h18 E198 (fun q => q.elim) (fun q => q.elim)
        have h25 := SL.ev h25 E198 (fun q => q.elim) (fun q => q.elim)
        have h35 := SL.ev h35 E198 (fun q => q.elim) (fun q => q.elim)
        have h38 := SL.ev h38 E198 (fun q => q.elim) (fun q => q.elim)
        have h48 := SL.ev h48 E198 (fun q => q.elim) (fun q => q.elim)
        have h51 := SL.ev h51 E198 (fun q => q.elim) (fun q => q.elim)
        have h58 := AT.ev h58 E198 (fun q => q.elim)
        have h70 := SL.ev h70 E198 (fun q => q.elim) (fun q => q.elim)
        have h77 := SL.ev h77 E198 (fun q => q.elim) (fun q => q.elim)
        have h87 := SL.ev h87 E198 (fun q => q.elim) (fun q => q.elim)
        have h90 := SL.ev h90 E198 (fun q => q.elim) (fun q => q.elim)
        have h100 := SL.ev h100 E198 (fun q => q.elim) (fun q => q.elim)
        have h103 := SL.ev h103 E198 (fun q => q.elim) (fun q => q.elim)
        have h110 := AT.ev h110 E198 (fun q => q.elim)
        have h122 := SL.ev h122 E198 (fun q => q.elim) (fun q => q.elim)
        have h132 := SL.ev h132 E198 (fun q => q.elim) (fun q => q.elim)
        have h135 := SL.ev h135 E198 (fun q => q.elim) (fun q => q.elim)
        have h145 := SL.ev h145 E198 (fun q => q.elim) (fun q => q.elim)
        have h148 := SL.ev h148 E198 (fun q => q.elim) (fun q => q.elim)
        have h155 := AT.ev h155 E198 (fun q => q.elim)
        have h170 := SL.ev h170 E198 (fun q => q.elim) (fun q => q.elim)
        have h173 := SL.ev h173 E198 (fun q => q.elim) (fun q => q.elim)
        have h174 := TB.ev h174 E198 (fun q => q.elim) (fun q => q.elim)
        have h180 := AT.ev h180 E198 (fun q => q.elim)
        have E := E.trans E198 (fun x q => q.elim)
        obtain ⟨t201, q202, H⟩ := bind_some H
        refine q_yes F rfl (by decide) rfl (decide_eq_true hb193) ?_
        refine q_call F rfl rfl (by decide) (r_call F Try.func18 rfl (by kernel_rfl) rfl) (haulagelaw13_same.calls k (m := m + 6) (by omega) B h103 h199.r _ q202) ?_
        rintro e w204 ⟨c203, rfl, E205, B206⟩
        refine ⟨_, rfl, fun a F => ?_⟩
        have B := B206
        have h18 := SL.ev h18 E205 (fun q => q.elim) (fun q => q.elim)
        have h25 := SL.ev h25 E205 (fun q => q.elim) (fun q => q.elim)
        have h35 := SL.ev h35 E205 (fun q => q.elim) (fun q => q.elim)
        have h38 := SL.ev h38 E205 (fun q => q.elim) (fun q => q.elim)
        have h48 := SL.ev h48 E205 (fun q => q.elim) (fun q => q.elim)
        have h51 := SL.ev h51 E205 (fun q => q.elim) (fun q => q.elim)
        have h58 := AT.ev h58 E205 (fun q => q.elim)
        have h70 := SL.ev h70 E205 (fun q => q.elim) (fun q => q.elim)
        have h77 := SL.ev h77 E205 (fun q => q.elim) (fun q => q.elim)
        have h87 := SL.ev h87 E205 (fun q => q.elim) (fun q => q.elim)
        have h90 := SL.ev h90 E205 (fun q => q.elim) (fun q => q.elim)
        have h100 := SL.ev h100 E205 (fun q => q.elim) (fun q => q.elim)
        have h103 := SL.ev h103 E205 (fun q => q.elim) (fun q => q.elim)
        have h110 := AT.ev h110 E205 (fun q => q.elim)
        have h122 := SL.ev h122 E205 (fun q => q.elim) (fun q => q.elim)
        have h132 := SL.ev h132 E205 (fun q => q.elim) (fun q => q.elim)
        have h135 := SL.ev h135 E205 (fun q => q.elim) (fun q => q.elim)
        have h145 := SL.ev h145 E205 (fun q => q.elim) (fun q => q.elim)
        have h148 := SL.ev h148 E205 (fun q => q.elim) (fun q => q.elim)
        have h155 := AT.ev h155 E205 (fun q => q.elim)
        have h170 := SL.ev h170 E205 (fun q => q.elim) (fun q => q.elim)
        have h173 := SL.ev h173 E205 (fun q => q.elim) (fun q => q.elim)
        have h174 := TB.ev h174 E205 (fun q => q.elim) (fun q => q.elim)
        have h180 := AT.ev h180 E205 (fun q => q.elim)
        have h199 := SL.ev h199 E205 (fun q => q.elim) (fun q => q.elim)
        have E := E.trans E205 (fun x q => q.elim)
        refine q_val F rfl rfl (by decide) (r_pick_t F rfl (decide_eq_true hb193) rfl) fun a F => ?_
        refine q_val F rfl rfl (by decide) (r_move F rfl) fun a F => ?_
        by_cases hb208 : t201 = true
        ·have H := (if_pos hb208).symm.trans H
         refine q_yes F rfl (by decide) rfl hb208 ?_
         refine q_val F rfl rfl (by decide) (r_fieldAddr F rfl ff_28_0) fun a F => ?_
         refine q_yes F rfl (by decide) rfl hb208 ?_
         refine q_val F rfl rfl (by decide) (r_load F rfl ag_4 (AT.cell h155 rfl)) fun a F => ?_
         refine q_val F rfl rfl (by decide) (r_pick_t F rfl hb208 rfl) fun a F => ?_
         refine q_val F rfl rfl (by decide) (r_move F rfl) fun a F => ?_
         by_cases hb209 : t137.1.Done = true
         ·have H := (if_pos hb209).symm.trans H
          refine q_yes F rfl (by decide) rfl hb209 ?_
          refine q_val F rfl rfl (by decide) (r_fieldAddr F rfl ff_28_3) fun a F => ?_
          refine q_yes F rfl (by decide) rfl hb209 ?_
          refine q_val F rfl rfl (by decide) (r_load F rfl ag_3 (AT.cell h155 rfl)) fun a F => ?_
          refine q_yes F rfl (by decide) rfl hb209 ?_
          refine q_val F rfl rfl (by decide) (r_eql F rfl rfl) fun a F => ?_
          refine q_val F rfl rfl (by decide) (r_pick_t F rfl hb209 rfl) fun a F => ?_
          refine q_val F rfl rfl (by decide) (r_move F rfl) fun a F => ?_
          by_cases hb210 : t137.1.Rev = 2
          ·have H := (if_pos hb210).symm.trans H
           refine q_yes F rfl (by decide) rfl (decide_eq_true hb210) ?_
           refine q_val F rfl rfl (by decide) (r_fieldAddr F rfl ff_28_2) fun a F => ?_
           refine q_yes F rfl (by decide) rfl (decide_eq_true hb210) ?_
           refine q_val F rfl rfl (by decide) (r_load F rfl ag_23 (AT.cell h155 rfl)) fun a F => ?_
           refine q_yes F rfl (by decide) rfl (decide_eq_true hb210) ?_
           refine q_eff F rfl rfl (by decide) (e_buildSlice (n := 1) (e := 5) (c := c203) (k := (Kint .u8)) (i := 0) F [(0, .int .u8 50)] [.int .u8 50] ([50] : List Int) (by exact ⟨rfl, rfl, trivial⟩) (fun w => by kernel_rfl) rfl (by decide) rfl ⟨rfl, trivial⟩ (fun q => q) 0) ?_
           rintro v w212 a ⟨c211, A213, C214, rfl, E215, h216, B217⟩ F
           have B := B217 _ B (by omega)
           have h18 := SL.ev h18 E215 (fun q => q.elim) (fun q => q.elim)
           have h25 := SL.ev h25 E215 (fun q => q.elim) (fun q => q.elim)
           have h35 := SL.ev h35 E215 (fun q => q.elim) (fun q => q.elim)
           have h38 := SL.ev h38 E215 (fun q => q.elim) (fun q => q.elim)
           have h48 := SL.ev h48 E215 (fun q => q.elim) (fun q => q.elim)
           have h51 := SL.ev h51 E215 (fun q => q.elim) (fun q => q.elim)
           have h58 := AT.ev h58 E215 (fun q => q.elim)
           have h70 := SL.ev h70 E215 (fun q => q.elim) (fun q => q.elim)
           have h77 := SL.ev h77 E215 (fun q => q.elim) (fun q => q.elim)
           have h87 := SL.ev h87 E215 (fun q => q.elim) (fun q => q.elim)
           have h90 := SL.ev h90 E215 (fun q => q.elim) (fun q => q.elim)
           have h100 := SL.ev h100 E215 (fun q => q.elim) (fun q => q.elim)
           have h103 := SL.ev h103 E215 (fun q => q.elim) (fun q => q.elim)
           have h110 := AT.ev h110 E215 (fun q => q.elim)
           have h122 := SL.ev h122 E215 (fun q => q.elim) (fun q => q.elim)
           have h132 := SL.ev h132 E215 (fun q => q.elim) (fun q => q.elim)
           have h135 := SL.ev h135 E215 (fun q => q.elim) (fun q => q.elim)
           have h145 := SL.ev h145 E215 (fun q => q.elim) (fun q => q.elim)
           have h148 := SL.ev h148 E215 (fun q => q.elim) (fun q => q.elim)
           have h155 := AT.ev h155 E215 (fun q => q.elim)
           have h170 := SL.ev h170 E215 (fun q => q.elim) (fun q => q.elim)
           have h173 := SL.ev h173 E215 (fun q => q.elim) (fun q => q.elim)
           have h174 := TB.ev h174 E215 (fun q => q.elim) (fun q => q.elim)
           have h180 := AT.ev h180 E215 (fun q => q.elim)
           have h199 := SL.ev h199 E215 (fun q => q.elim) (fun q => q.elim)
           have E := E.trans E215 (fun x q => q.elim)
           obtain ⟨t218, q219, H⟩ := bind_some H
           refine q_yes F rfl (by decide) rfl (decide_eq_true hb210) ?_
           refine q_call F rfl rfl (by decide) (r_call F Try.func18 rfl (by kernel_rfl) rfl) (haulagelaw13_same.calls k (m := m + 6) (by omega) B h148 h216.r _ q219) ?_
           rintro e w221 ⟨c220, rfl, E222, B223⟩
           refine ⟨_, rfl, fun a F => ?_⟩
           have B := B223
           have h18 := SL.ev h18 E222 (fun q => q.elim) (fun q => q.elim)
           have h25 := SL.ev h25 E222 (fun q => q.elim) (fun q => q.elim)
           have h35 := SL.ev h35 E222 (fun q => q.elim) (fun q => q.elim)
           have h38 := SL.ev h38 E222 (fun q => q.elim) (fun q => q.elim)
           have h48 := SL.ev h48 E222 (fun q => q.elim) (fun q => q.elim)
           have h51 := SL.ev h51 E222 (fun q => q.elim) (fun q => q.elim)
           have h58 := AT.ev h58 E222 (fun q => q.elim)
           have h70 := SL.ev h70 E222 (fun q => q.elim) (fun q => q.elim)
           have h77 := SL.ev h77 E222 (fun q => q.elim) (fun q => q.elim)
           have h87 := SL.ev h87 E222 (fun q => q.elim) (fun q => q.elim)
           have h90 := SL.ev h90 E222 (fun q => q.elim) (fun q => q.elim)
           have h100 := SL.ev h100 E222 (fun q => q.elim) (fun q => q.elim)
           have h103 := SL.ev h103 E222 (fun q => q.elim) (fun q => q.elim)
           have h110 := AT.ev h110 E222 (fun q => q.elim)
           have h122 := SL.ev h122 E222 (fun q => q.elim) (fun q => q.elim)
           have h132 := SL.ev h132 E222 (fun q => q.elim) (fun q => q.elim)
           have h135 := SL.ev h135 E222 (fun q => q.elim) (fun q => q.elim)
           have h145 := SL.ev h145 E222 (fun q => q.elim) (fun q => q.elim)
           have h148 := SL.ev h148 E222 (fun q => q.elim) (fun q => q.elim)
           have h155 := AT.ev h155 E222 (fun q => q.elim)
           have h170 := SL.ev h170 E222 (fun q => q.elim) (fun q => q.elim)
           have h173 := SL.ev h173 E222 (fun q => q.elim) (fun q => q.elim)
           have h174 := TB.ev h174 E222 (fun q => q.elim) (fun q => q.elim)
           have h180 := AT.ev h180 E222 (fun q => q.elim)
           have h199 := SL.ev h199 E222 (fun q => q.elim) (fun q => q.elim)
           have h216 := SL.ev h216 E222 (fun q => q.elim) (fun q => q.elim)
           have E := E.trans E222 (fun x q => q.elim)
           refine q_val F rfl rfl (by decide) (r_pick_t F rfl (decide_eq_true hb210) rfl) fun a F => ?_
           refine q_val F rfl rfl (by decide) (r_move F rfl) fun a F => ?_
           by_cases hb225 : t218 = true
           ·have H := (if_pos hb225).symm.trans H
            refine q_yes F rfl (by decide) rfl hb225 ?_
            refine q_val F rfl rfl (by decide) (r_move F rfl) fun a F => ?_
            obtain ⟨t226, q227, H⟩ := bind_some H
            refine q_yes F rfl (by decide) rfl hb225 ?_
            refine q_call F rfl rfl (by decide) (r_call F Try.func20 rfl (by kernel_rfl) rfl) (table_Table_Bytes.calls k (m := m + 6) (by omega) B h174 (by omega) _ q227) ?_
            rintro e w229 ⟨c228, A232, C233, rfl, E230, B231, h234⟩
            refine ⟨_, rfl, fun a F => ?_⟩
            have B := B231
            have h18 := SL.ev h18 E230 (fun q => q.elim) (fun q => q.elim)
            have h25 := SL.ev h25 E230 (fun q => q.elim) (fun q => q.elim)
            have h35 := SL.ev h35 E230 (fun q => q.elim) (fun q => q.elim)
            have h38 := SL.ev h38 E230 (fun q => q.elim) (fun q => q.elim)
            have h48 := SL.ev h48 E230 (fun q => q.elim) (fun q => q.elim)
            have h51 := SL.ev h51 E230 (fun q => q.elim) (fun q => q.elim)
            have h58 := AT.ev h58 E230 (fun q => q.elim)
            have h70 := SL.ev h70 E230 (fun q => q.elim) (fun q => q.elim)
            have h77 := SL.ev h77 E230 (fun q => q.elim) (fun q => q.elim)
            have h87 := SL.ev h87 E230 (fun q => q.elim) (fun q => q.elim)
            have h90 := SL.ev h90 E230 (fun q => q.elim) (fun q => q.elim)
            have h100 := SL.ev h100 E230 (fun q => q.elim) (fun q => q.elim)
            have h103 := SL.ev h103 E230 (fun q => q.elim) (fun q => q.elim)
            have h110 := AT.ev h110 E230 (fun q => q.elim)
            have h122 := SL.ev h122 E230 (fun q => q.elim) (fun q => q.elim)
            have h132 := SL.ev h132 E230 (fun q => q.elim) (fun q => q.elim)
            have h135 := SL.ev h135 E230 (fun q => q.elim) (fun q => q.elim)
            have h145 := SL.ev h145 E230 (fun q => q.elim) (fun q => q.elim)
            have h148 := SL.ev h148 E230 (fun q => q.elim) (fun q => q.elim)
            have h155 := AT.ev h155 E230 (fun q => q.elim)
            have h170 := SL.ev h170 E230 (fun q => q.elim) (fun q => q.elim)
            have h173 := SL.ev h173 E230 (fun q => q.elim) (fun q => q.elim)
            have h174 := TB.ev h174 E230 (fun q => q.elim) (fun q => q.elim)
            have h180 := AT.ev h180 E230 (fun q => q.elim)
            have h199 := SL.ev h199 E230 (fun q => q.elim) (fun q => q.elim)
            have h216 := SL.ev h216 E230 (fun q => q.elim) (fun q => q.elim)
            have E := E.trans E230 (fun x q => q.elim)
            refine q_yes F rfl (by decide) rfl hb225 ?_
            refine q_eff F rfl rfl (by decide) (e_buildSlice (n := 7) (e := 5) (c := c228) (k := (Kint .u8)) (i := 0) F [(0, .int .u8 2), (1, .int .u8 1), (2, .int .u8 1), (3, .int .u8 97), (4, .int .u8 1), (5, .int .u8 50), (6, .int .u8 2)] [.int .u8 2, .int .u8 1, .int .u8 1, .int .u8 97, .int .u8 1, .int .u8 50, .int .u8 2] ([2, 1, 1, 97, 1, 50, 2] : List Int) (by exact ⟨rfl, rfl, rfl, rfl, rfl, rfl, rfl, rfl, rfl, rfl, rfl, rfl, rfl, rfl, trivial⟩) (fun w => by kernel_rfl) rfl (by decide) rfl ⟨rfl, rfl, rfl, rfl, rfl, rfl, rfl, trivial⟩ (fun q => q) 0) ?_
            rintro v w237 a ⟨c236, A238, C239, rfl, E240, h241, B242⟩ F
            have B := B242 _ B (by omega)
            have h18 := SL.ev h18 E240 (fun q => q.elim) (fun q => q.elim)
            have h25 := SL.ev h25 E240 (fun q => q.elim) (fun q => q.elim)
            have h35 := SL.ev h35 E240 (fun q => q.elim) (fun q => q.elim)
            have h38 := SL.ev h38 E240 (fun q => q.elim) (fun q => q.elim)
            have h48 := SL.ev h48 E240 (fun q => q.elim) (fun q => q.elim)
            have h51 := SL.ev h51 E240 (fun q => q.elim) (fun q => q.elim)
            have h58 := AT.ev h58 E240 (fun q => q.elim)
            have h70 := SL.ev h70 E240 (fun q => q.elim) (fun q => q.elim)
            have h77 := SL.ev h77 E240 (fun q => q.elim) (fun q => q.elim)
            have h87 := SL.ev h87 E240 (fun q => q.elim) (fun q => q.elim)
            have h90 := SL.ev h90 E240 (fun q => q.elim) (fun q => q.elim)
            have h100 := SL.ev h100 E240 (fun q => q.elim) (fun q => q.elim)
            have h103 := SL.ev h103 E240 (fun q => q.elim) (fun q => q.elim)
            have h110 := AT.ev h110 E240 (fun q => q.elim)
            have h122 := SL.ev h122 E240 (fun q => q.elim) (fun q => q.elim)
            have h132 := SL.ev h132 E240 (fun q => q.elim) (fun q => q.elim)
            have h135 := SL.ev h135 E240 (fun q => q.elim) (fun q => q.elim)
            have h145 := SL.ev h145 E240 (fun q => q.elim) (fun q => q.elim)
            have h148 := SL.ev h148 E240 (fun q => q.elim) (fun q => q.elim)
            have h155 := AT.ev h155 E240 (fun q => q.elim)
            have h170 := SL.ev h170 E240 (fun q => q.elim) (fun q => q.elim)
            have h173 := SL.ev h173 E240 (fun q => q.elim) (fun q => q.elim)
            have h174 := TB.ev h174 E240 (fun q => q.elim) (fun q => q.elim)
            have h180 := AT.ev h180 E240 (fun q => q.elim)
            have h199 := SL.ev h199 E240 (fun q => q.elim) (fun q => q.elim)
            have h216 := SL.ev h216 E240 (fun q => q.elim) (fun q => q.elim)
            have h234 := SL.ev h234 E240 (fun q => q.elim) (fun q => q.elim)
            have E := E.trans E240 (fun x q => q.elim)
            obtain ⟨t243, q244, H⟩ := bind_some H
            refine q_yes F rfl (by decide) rfl hb225 ?_
            refine q_call F rfl rfl (by decide) (r_call F Try.func18 rfl (by kernel_rfl) rfl) (haulagelaw13_same.calls k (m := m + 6) (by omega) B h234 h241.r _ q244) ?_
            rintro e w246 ⟨c245, rfl, E247, B248⟩
            refine ⟨_, rfl, fun a F => ?_⟩
            have B := B248
            have h18 := SL.ev h18 E247 (fun q => q.elim) (fun q => q.elim)
            have h25 := SL.ev h25 E247 (fun q => q.elim) (fun q => q.elim)
            have h35 := SL.ev h35 E247 (fun q => q.elim) (fun q => q.elim)
            have h38 := SL.ev h38 E247 (fun q => q.elim) (fun q => q.elim)
            have h48 := SL.ev h48 E247 (fun q => q.elim) (fun q => q.elim)
            have h51 := SL.ev h51 E247 (fun q => q.elim) (fun q => q.elim)
            have h58 := AT.ev h58 E247 (fun q => q.elim)
            have h70 := SL.ev h70 E247 (fun q => q.elim) (fun q => q.elim)
            have h77 := SL.ev h77 E247 (fun q => q.elim) (fun q => q.elim)
            have h87 := SL.ev h87 E247 (fun q => q.elim) (fun q => q.elim)
            have h90 := SL.ev h90 E247 (fun q => q.elim) (fun q => q.elim)
            have h100 := SL.ev h100 E247 (fun q => q.elim) (fun q => q.elim)
            have h103 := SL.ev h103 E247 (fun q => q.elim) (fun q => q.elim)
            have h110 := AT.ev h110 E247 (fun q => q.elim)
            have h122 := SL.ev h122 E247 (fun q => q.elim) (fun q => q.elim)
            have h132 := SL.ev h132 E247 (fun q => q.elim) (fun q => q.elim)
            have h135 := SL.ev h135 E247 (fun q => q.elim) (fun q => q.elim)
            have h145 := SL.ev h145 E247 (fun q => q.elim) (fun q => q.elim)
            have h148 := SL.ev h148 E247 (fun q => q.elim) (fun q => q.elim)
            have h155 := AT.ev h155 E247 (fun q => q.elim)
            have h170 := SL.ev h170 E247 (fun q => q.elim) (fun q => q.elim)
            have h173 := SL.ev h173 E247 (fun q => q.elim) (fun q => q.elim)
            have h174 := TB.ev h174 E247 (fun q => q.elim) (fun q => q.elim)
            have h180 := AT.ev h180 E247 (fun q => q.elim)
            have h199 := SL.ev h199 E247 (fun q => q.elim) (fun q => q.elim)
            have h216 := SL.ev h216 E247 (fun q => q.elim) (fun q => q.elim)
            have h234 := SL.ev h234 E247 (fun q => q.elim) (fun q => q.elim)
            have h241 := SL.ev h241 E247 (fun q => q.elim) (fun q => q.elim)
            have E := E.trans E247 (fun x q => q.elim)
            refine q_val F rfl rfl (by decide) (r_pick_t F rfl hb225 rfl) fun a F => ?_
            refine q_val F rfl rfl (by decide) (r_assign F rfl) fun a F => ?_
            refine nil ?_
            refine hK186 _ _ ?_
            refine wp_ret ?_
            have H := Option.some.inj H
            subst H
            refine out1 F rfl rfl ?_
            exact ⟨fun b_ => (fun x_ => if x_ < m then x_ else 0) (c245 b_), rfl, E.leave B0 (fun x_ => if x_ < m then x_ else 0) (by intro x_ hx_; show (if x_ < m then x_ else 0) = x_; ((repeat' split) <;> omega)), (fun b_ hb_ => by show (if (c245 b_) < m then (c245 b_) else 0) < m; ((repeat' split) <;> omega))⟩
           ·have H := (if_neg hb225).symm.trans H
            refine q_no F rfl (by decide) rfl (bfalse hb225) (by decide) fun a F => ?_
            refine q_no F rfl (by decide) rfl (bfalse hb225) (by decide) fun a F => ?_
            refine q_no F rfl (by decide) rfl (bfalse hb225) (by decide) fun a F => ?_
            refine q_no F rfl (by decide) rfl (bfalse hb225) (by decide) fun a F => ?_
            refine q_val F rfl rfl (by decide) (r_pick_f F rfl (bfalse hb225) rfl) fun a F => ?_
            refine q_val F rfl rfl (by decide) (r_assign F rfl) fun a F => ?_
            refine nil ?_
            refine hK186 _ _ ?_
            refine wp_ret ?_
            have H := Option.some.inj H
            subst H
            refine out1 F rfl rfl ?_
            exact ⟨fun b_ => (fun x_ => if x_ < m then x_ else 0) (c220 b_), rfl, E.leave B0 (fun x_ => if x_ < m then x_ else 0) (by intro x_ hx_; show (if x_ < m then x_ else 0) = x_; ((repeat' split) <;> omega)), (fun b_ hb_ => by show (if (c220 b_) < m then (c220 b_) else 0) < m; ((repeat' split) <;> omega))⟩
          ·have H := (if_neg hb210).symm.trans H
           refine q_no F rfl (by decide) rfl (decide_eq_false hb210) (by decide) fun a F => ?_
           refine q_no F rfl (by decide) rfl (decide_eq_false hb210) (by decide) fun a F => ?_
           refine q_no F rfl (by decide) rfl (decide_eq_false hb210) (by decide) fun a F => ?_
           refine q_no F rfl (by decide) rfl (decide_eq_false hb210) (by decide) fun a F => ?_
           refine q_val F rfl rfl (by decide) (r_pick_f F rfl (decide_eq_false hb210) rfl) fun a F => ?_
           refine q_val F rfl rfl (by decide) (r_move F rfl) fun a F => ?_
           refine q_no F rfl (by decide) rfl rfl (by decide) fun a F => ?_
           refine q_no F rfl (by decide) rfl rfl (by decide) fun a F => ?_
           refine q_no F rfl (by decide) rfl rfl (by decide) fun a F => ?_
           refine q_no F rfl (by decide) rfl rfl (by decide) fun a F => ?_
           refine q_val F rfl rfl (by decide) (r_pick_f F rfl rfl rfl) fun a F => ?_
           refine q_val F rfl rfl (by decide) (r_assign F rfl) fun a F => ?_
           refine nil ?_
           refine hK186 _ _ ?_
           refine wp_ret ?_
           have H := Option.some.inj H
           subst H
           refine out1 F rfl rfl ?_
           exact ⟨fun b_ => (fun x_ => if x_ < m then x_ else 0) (c203 b_), rfl, E.leave B0 (fun x_ => if x_ < m then x_ else 0) (by intro x_ hx_; show (if x_ < m then x_ else 0) = x_; ((repeat' split) <;> omega)), (fun b_ hb_ => by show (if (c203 b_) < m then (c203 b_) else 0) < m; ((repeat' split) <;> omega))⟩
         ·have H := (if_neg hb209).symm.trans H
          refine q_no F rfl (by decide) rfl (bfalse hb209) (by decide) fun a F => ?_
          refine q_no F rfl (by decide) rfl (bfalse hb209) (by decide) fun a F => ?_
          refine q_no F rfl (by decide) rfl (bfalse hb209) (by decide) fun a F => ?_
          refine q_val F rfl rfl (by decide) (r_pick_f F rfl (bfalse hb209) rfl) fun a F => ?_
          refine q_val F rfl rfl (by decide) (r_move F rfl) fun a F => ?_
          refine q_no F rfl (by decide) rfl rfl (by decide) fun a F => ?_
          refine q_no F rfl (by decide) rfl rfl (by decide) fun a F => ?_
          refine q_no F rfl (by decide) rfl rfl (by decide) fun a F => ?_
          refine q_no F rfl (by decide) rfl rfl (by decide) fun a F => ?_
          refine q_val F rfl rfl (by decide) (r_pick_f F rfl rfl rfl) fun a F => ?_
          refine q_val F rfl rfl (by decide) (r_move F rfl) fun a F => ?_
          refine q_no F rfl (by decide) rfl rfl (by decide) fun a F => ?_
          refine q_no F rfl (by decide) rfl rfl (by decide) fun a F => ?_
          refine q_no F rfl (by decide) rfl rfl (by decide) fun a F => ?_
          refine q_no F rfl (by decide) rfl rfl (by decide) fun a F => ?_
          refine q_val F rfl rfl (by decide) (r_pick_f F rfl rfl rfl) fun a F => ?_
          refine q_val F rfl rfl (by decide) (r_assign F rfl) fun a F => ?_
          refine nil ?_
          refine hK186 _ _ ?_
          refine wp_ret ?_
          have H := Option.some.inj H
          subst H
          refine out1 F rfl rfl ?_
          exact ⟨fun b_ => (fun x_ => if x_ < m then x_ else 0) (c203 b_), rfl, E.leave B0 (fun x_ => if x_ < m then x_ else 0) (by intro x_ hx_; show (if x_ < m then x_ else 0) = x_; ((repeat' split) <;> omega)), (fun b_ hb_ => by show (if (c203 b_) < m then (c203 b_) else 0) < m; ((repeat' split) <;> omega))⟩
        ·have H := (if_neg hb208).symm.trans H
         refine q_no F rfl (by decide) rfl (bfalse hb208) (by decide) fun a F => ?_
         refine q_no F rfl (by decide) rfl (bfalse hb208) (by decide) fun a F => ?_
         refine q_val F rfl rfl (by decide) (r_pick_f F rfl (bfalse hb208) rfl) fun a F => ?_
         refine q_val F rfl rfl (by decide) (r_move F rfl) fun a F => ?_
         refine q_no F rfl (by decide) rfl rfl (by decide) fun a F => ?_
         refine q_no F rfl (by decide) rfl rfl (by decide) fun a F => ?_
         refine q_no F rfl (by decide) rfl rfl (by decide) fun a F => ?_
         refine q_val F rfl rfl (by decide) (r_pick_f F rfl rfl rfl) fun a F => ?_
         refine q_val F rfl rfl (by decide) (r_move F rfl) fun a F => ?_
         refine q_no F rfl (by decide) rfl rfl (by decide) fun a F => ?_
         refine q_no F rfl (by decide) rfl rfl (by decide) fun a F => ?_
         refine q_no F rfl (by decide) rfl rfl (by decide) fun a F => ?_
         refine q_no F rfl (by decide) rfl rfl (by decide) fun a F => ?_
         refine q_val F rfl rfl (by decide) (r_pick_f F rfl rfl rfl) fun a F => ?_
         refine q_val F rfl rfl (by decide) (r_move F rfl) fun a F => ?_
         refine q_no F rfl (by decide) rfl rfl (by decide) fun a F => ?_
         refine q_no F rfl (by decide) rfl rfl (by decide) fun a F => ?_
         refine q_no F rfl (by decide) rfl rfl (by decide) fun a F => ?_
         refine q_no F rfl (by decide) rfl rfl (by decide) fun a F => ?_
         refine q_val F rfl rfl (by decide) (r_pick_f F rfl rfl rfl) fun a F => ?_
         refine q_val F rfl rfl (by decide) (r_assign F rfl) fun a F => ?_
         refine nil ?_
         refine hK186 _ _ ?_
         refine wp_ret ?_
         have H := Option.some.inj H
         subst H
         refine out1 F rfl rfl ?_
         exact ⟨fun b_ => (fun x_ => if x_ < m then x_ else 0) (c203 b_), rfl, E.leave B0 (fun x_ => if x_ < m then x_ else 0) (by intro x_ hx_; show (if x_ < m then x_ else 0) = x_; ((repeat' split) <;> omega)), (fun b_ hb_ => by show (if (c203 b_) < m then (c203 b_) else 0) < m; ((repeat' split) <;> omega))⟩
       ·have H := (if_neg hb193).symm.trans H
        refine q_no F rfl (by decide) rfl (decide_eq_false hb193) (by decide) fun a F => ?_
        refine q_no F rfl (by decide) rfl (decide_eq_false hb193) (by decide) fun a F => ?_
        refine q_no F rfl (by decide) rfl (decide_eq_false hb193) (by decide) fun a F => ?_
        refine q_no F rfl (by decide) rfl (decide_eq_false hb193) (by decide) fun a F => ?_
        refine q_val F rfl rfl (by decide) (r_pick_f F rfl (decide_eq_false hb193) rfl) fun a F => ?_
        refine q_val F rfl rfl (by decide) (r_move F rfl) fun a F => ?_
        refine q_no F rfl (by decide) rfl rfl (by decide) fun a F => ?_
        refine q_no F rfl (by decide) rfl rfl (by decide) fun a F => ?_
        refine q_val F rfl rfl (by decide) (r_pick_f F rfl rfl rfl) fun a F => ?_
        refine q_val F rfl rfl (by decide) (r_move F rfl) fun a F => ?_
        refine q_no F rfl (by decide) rfl rfl (by decide) fun a F => ?_
        refine q_no F rfl (by decide) rfl rfl (by decide) fun a F => ?_
        refine q_no F rfl (by decide) rfl rfl (by decide) fun a F => ?_
        refine q_val F rfl rfl (by decide) (r_pick_f F rfl rfl rfl) fun a F => ?_
        refine q_val F rfl rfl (by decide) (r_move F rfl) fun a F => ?_
        refine q_no F rfl (by decide) rfl rfl (by decide) fun a F => ?_
        refine q_no F rfl (by decide) rfl rfl (by decide) fun a F => ?_
        refine q_no F rfl (by decide) rfl rfl (by decide) fun a F => ?_
        refine q_no F rfl (by decide) rfl rfl (by decide) fun a F => ?_
        refine q_val F rfl rfl (by decide) (r_pick_f F rfl rfl rfl) fun a F => ?_
        refine q_val F rfl rfl (by decide) (r_move F rfl) fun a F => ?_
        refine q_no F rfl (by decide) rfl rfl (by decide) fun a F => ?_
        refine q_no F rfl (by decide) rfl rfl (by decide) fun a F => ?_
        refine q_no F rfl (by decide) rfl rfl (by decide) fun a F => ?_
        refine q_no F rfl (by decide) rfl rfl (by decide) fun a F => ?_
        refine q_val F rfl rfl (by decide) (r_pick_f F rfl rfl rfl) fun a F => ?_
        refine q_val F rfl rfl (by decide) (r_assign F rfl) fun a F => ?_
        refine nil ?_
        refine hK186 _ _ ?_
        refine wp_ret ?_
        have H := Option.some.inj H
        subst H
        refine out1 F rfl rfl ?_
        exact ⟨fun b_ => (fun x_ => if x_ < m then x_ else 0) (c176 b_), rfl, E.leave B0 (fun x_ => if x_ < m then x_ else 0) (by intro x_ hx_; show (if x_ < m then x_ else 0) = x_; ((repeat' split) <;> omega)), (fun b_ hb_ => by show (if (c176 b_) < m then (c176 b_) else 0) < m; ((repeat' split) <;> omega))⟩
      ·have H := (if_neg hb192).symm.trans H
       refine q_no F rfl (by decide) rfl (decide_eq_false hb192) (by decide) fun a F => ?_
       refine q_no F rfl (by decide) rfl (decide_eq_false hb192) (by decide) fun a F => ?_
       refine q_no F rfl (by decide) rfl (decide_eq_false hb192) (by decide) fun a F => ?_
       refine q_val F rfl rfl (by decide) (r_pick_f F rfl (decide_eq_false hb192) rfl) fun a F => ?_
       refine q_val F rfl rfl (by decide) (r_move F rfl) fun a F => ?_
       refine q_no F rfl (by decide) rfl rfl (by decide) fun a F => ?_
       refine q_no F rfl (by decide) rfl rfl (by decide) fun a F => ?_
       refine q_no F rfl (by decide) rfl rfl (by decide) fun a F => ?_
       refine q_no F rfl (by decide) rfl rfl (by decide) fun a F => ?_
       refine q_val F rfl rfl (by decide) (r_pick_f F rfl rfl rfl) fun a F => ?_
       refine q_val F rfl rfl (by decide) (r_move F rfl) fun a F => ?_
       refine q_no F rfl (by decide) rfl rfl (by decide) fun a F => ?_
       refine q_no F rfl (by decide) rfl rfl (by decide) fun a F => ?_
       refine q_val F rfl rfl (by decide) (r_pick_f F rfl rfl rfl) fun a F => ?_
       refine q_val F rfl rfl (by decide) (r_move F rfl) fun a F => ?_
       refine q_no F rfl (by decide) rfl rfl (by decide) fun a F => ?_
       refine q_no F rfl (by decide) rfl rfl (by decide) fun a F => ?_
       refine q_no F rfl (by decide) rfl rfl (by decide) fun a F => ?_
       refine q_val F rfl rfl (by decide) (r_pick_f F rfl rfl rfl) fun a F => ?_
       refine q_val F rfl rfl (by decide) (r_move F rfl) fun a F => ?_
       refine q_no F rfl (by decide) rfl rfl (by decide) fun a F => ?_
       refine q_no F rfl (by decide) rfl rfl (by decide) fun a F => ?_
       refine q_no F rfl (by decide) rfl rfl (by decide) fun a F => ?_
       refine q_no F rfl (by decide) rfl rfl (by decide) fun a F => ?_
       refine q_val F rfl rfl (by decide) (r_pick_f F rfl rfl rfl) fun a F => ?_
       refine q_val F rfl rfl (by decide) (r_move F rfl) fun a F => ?_
       refine q_no F rfl (by decide) rfl rfl (by decide) fun a F => ?_
       refine q_no F rfl (by decide) rfl rfl (by decide) fun a F => ?_
       refine q_no F rfl (by decide) rfl rfl (by decide) fun a F => ?_
       refine q_no F rfl (by decide) rfl rfl (by decide) fun a F => ?_
       refine q_val F rfl rfl (by decide) (r_pick_f F rfl rfl rfl) fun a F => ?_
       refine q_val F rfl rfl (by decide) (r_assign F rfl) fun a F => ?_
       refine nil ?_
       refine hK186 _ _ ?_
       refine wp_ret ?_
       have H := Option.some.inj H
       subst H
       refine out1 F rfl rfl ?_
       exact ⟨fun b_ => (fun x_ => if x_ < m then x_ else 0) (c176 b_), rfl, E.leave B0 (fun x_ => if x_ < m then x_ else 0) (by intro x_ hx_; show (if x_ < m then x_ else 0) = x_; ((repeat' split) <;> omega)), (fun b_ hb_ => by show (if (c176 b_) < m then (c176 b_) else 0) < m; ((repeat' split) <;> omega))⟩
     ·have H := (if_neg hb191).symm.trans H
      refine q_no F rfl (by decide) rfl (bfalse hb191) (by decide) fun a F => ?_
      refine q_no F rfl (by decide) rfl (bfalse hb191) (by decide) fun a F => ?_
      refine q_no F rfl (by decide) rfl (bfalse hb191) (by decide) fun a F => ?_
      refine q_val F rfl rfl (by decide) (r_pick_f F rfl (bfalse hb191) rfl) fun a F => ?_
      refine q_val F rfl rfl (by decide) (r_move F rfl) fun a F => ?_
      refine q_no F rfl (by decide) rfl rfl (by decide) fun a F => ?_
      refine q_no F rfl (by decide) rfl rfl (by decide) fun a F => ?_
      refine q_no F rfl (by decide) rfl rfl (by decide) fun a F => ?_
      refine q_val F rfl rfl (by decide) (r_pick_f F rfl rfl rfl) fun a F => ?_
      refine q_val F rfl rfl (by decide) (r_move F rfl) fun a F => ?_
      refine q_no F rfl (by decide) rfl rfl (by decide) fun a F => ?_
      refine q_no F rfl (by decide) rfl rfl (by decide) fun a F => ?_
      refine q_no F rfl (by decide) rfl rfl (by decide) fun a F => ?_
      refine q_no F rfl (by decide) rfl rfl (by decide) fun a F => ?_
      refine q_val F rfl rfl (by decide) (r_pick_f F rfl rfl rfl) fun a F => ?_
      refine q_val F rfl rfl (by decide) (r_move F rfl) fun a F => ?_
      refine q_no F rfl (by decide) rfl rfl (by decide) fun a F => ?_
      refine q_no F rfl (by decide) rfl rfl (by decide) fun a F => ?_
      refine q_val F rfl rfl (by decide) (r_pick_f F rfl rfl rfl) fun a F => ?_
      refine q_val F rfl rfl (by decide) (r_move F rfl) fun a F => ?_
      refine q_no F rfl (by decide) rfl rfl (by decide) fun a F => ?_
      refine q_no F rfl (by decide) rfl rfl (by decide) fun a F => ?_
      refine q_no F rfl (by decide) rfl rfl (by decide) fun a F => ?_
      refine q_val F rfl rfl (by decide) (r_pick_f F rfl rfl rfl) fun a F => ?_
      refine q_val F rfl rfl (by decide) (r_move F rfl) fun a F => ?_
      refine q_no F rfl (by decide) rfl rfl (by decide) fun a F => ?_
      refine q_no F rfl (by decide) rfl rfl (by decide) fun a F => ?_
      refine q_no F rfl (by decide) rfl rfl (by decide) fun a F => ?_
      refine q_no F rfl (by decide) rfl rfl (by decide) fun a F => ?_
      refine q_val F rfl rfl (by decide) (r_pick_f F rfl rfl rfl) fun a F => ?_
      refine q_val F rfl rfl (by decide) (r_move F rfl) fun a F => ?_
      refine q_no F rfl (by decide) rfl rfl (by decide) fun a F => ?_
      refine q_no F rfl (by decide) rfl rfl (by decide) fun a F => ?_
      refine q_no F rfl (by decide) rfl rfl (by decide) fun a F => ?_
      refine q_no F rfl (by decide) rfl rfl (by decide) fun a F => ?_
      refine q_val F rfl rfl (by decide) (r_pick_f F rfl rfl rfl) fun a F => ?_
      refine q_val F rfl rfl (by decide) (r_assign F rfl) fun a F => ?_
      refine nil ?_
      refine hK186 _ _ ?_
      refine wp_ret ?_
      have H := Option.some.inj H
      subst H
      refine out1 F rfl rfl ?_
      exact ⟨fun b_ => (fun x_ => if x_ < m then x_ else 0) (c176 b_), rfl, E.leave B0 (fun x_ => if x_ < m then x_ else 0) (by intro x_ hx_; show (if x_ < m then x_ else 0) = x_; ((repeat' split) <;> omega)), (fun b_ hb_ => by show (if (c176 b_) < m then (c176 b_) else 0) < m; ((repeat' split) <;> omega))⟩
    ·have H := (if_neg hb190).symm.trans H
     refine q_no F rfl (by decide) rfl (decide_eq_false hb190) (by decide) fun a F => ?_
     refine q_no F rfl (by decide) rfl (decide_eq_false hb190) (by decide) fun a F => ?_
     refine q_val F rfl rfl (by decide) (r_pick_f F rfl (decide_eq_false hb190) rfl) fun a F => ?_
     refine q_val F rfl rfl (by decide) (r_move F rfl) fun a F => ?_
     refine q_no F rfl (by decide) rfl rfl (by decide) fun a F => ?_
     refine q_no F rfl (by decide) rfl rfl (by decide) fun a F => ?_
     refine q_no F rfl (by decide) rfl rfl (by decide) fun a F => ?_
     refine q_val F rfl rfl (by decide) (r_pick_f F rfl rfl rfl) fun a F => ?_
     refine q_val F rfl rfl (by decide) (r_move F rfl) fun a F => ?_
     refine q_no F rfl (by decide) rfl rfl (by decide) fun a F => ?_
     refine q_no F rfl (by decide) rfl rfl (by decide) fun a F => ?_
     refine q_no F rfl (by decide) rfl rfl (by decide) fun a F => ?_
     refine q_val F rfl rfl (by decide) (r_pick_f F rfl rfl rfl) fun a F => ?_
     refine q_val F rfl rfl (by decide) (r_move F rfl) fun a F => ?_
     refine q_no F rfl (by decide) rfl rfl (by decide) fun a F => ?_
     refine q_no F rfl (by decide) rfl rfl (by decide) fun a F => ?_
     refine q_no F rfl (by decide) rfl rfl (by decide) fun a F => ?_
     refine q_no F rfl (by decide) rfl rfl (by decide) fun a F => ?_
     refine q_val F rfl rfl (by decide) (r_pick_f F rfl rfl rfl) fun a F => ?_
     refine q_val F rfl rfl (by decide) (r_move F rfl) fun a F => ?_
     refine q_no F rfl (by decide) rfl rfl (by decide) fun a F => ?_
     refine q_no F rfl (by decide) rfl rfl (by decide) fun a F => ?_
     refine q_val F rfl rfl (by decide) (r_pick_f F rfl rfl rfl) fun a F => ?_
     refine q_val F rfl rfl (by decide) (r_move F rfl) fun a F => ?_
     refine q_no F rfl (by decide) rfl rfl (by decide) fun a F => ?_
     refine q_no F rfl (by decide) rfl rfl (by decide) fun a F => ?_
     refine q_no F rfl (by decide) rfl rfl (by decide) fun a F => ?_
     refine q_val F rfl rfl (by decide) (r_pick_f F rfl rfl rfl) fun a F => ?_
     refine q_val F rfl rfl (by decide) (r_move F rfl) fun a F => ?_
     refine q_no F rfl (by decide) rfl rfl (by decide) fun a F => ?_
     refine q_no F rfl (by decide) rfl rfl (by decide) fun a F => ?_
     refine q_no F rfl (by decide) rfl rfl (by decide) fun a F => ?_
     refine q_no F rfl (by decide) rfl rfl (by decide) fun a F => ?_
     refine q_val F rfl rfl (by decide) (r_pick_f F rfl rfl rfl) fun a F => ?_
     refine q_val F rfl rfl (by decide) (r_move F rfl) fun a F => ?_
     refine q_no F rfl (by decide) rfl rfl (by decide) fun a F => ?_
     refine q_no F rfl (by decide) rfl rfl (by decide) fun a F => ?_
     refine q_no F rfl (by decide) rfl rfl (by decide) fun a F => ?_
     refine q_no F rfl (by decide) rfl rfl (by decide) fun a F => ?_
     refine q_val F rfl rfl (by decide) (r_pick_f F rfl rfl rfl) fun a F => ?_
     refine q_val F rfl rfl (by decide) (r_assign F rfl) fun a F => ?_
     refine nil ?_
     refine hK186 _ _ ?_
     refine wp_ret ?_
     have H := Option.some.inj H
     subst H
     refine out1 F rfl rfl ?_
     exact ⟨fun b_ => (fun x_ => if x_ < m then x_ else 0) (c176 b_), rfl, E.leave B0 (fun x_ => if x_ < m then x_ else 0) (by intro x_ hx_; show (if x_ < m then x_ else 0) = x_; ((repeat' split) <;> omega)), (fun b_ hb_ => by show (if (c176 b_) < m then (c176 b_) else 0) < m; ((repeat' split) <;> omega))⟩
   ·have H := (if_neg hb189).symm.trans H
    refine q_no F rfl (by decide) rfl (decide_eq_false hb189) (by decide) fun a F => ?_
    refine q_no F rfl (by decide) rfl (decide_eq_false hb189) (by decide) fun a F => ?_
    refine q_val F rfl rfl (by decide) (r_pick_f F rfl (decide_eq_false hb189) rfl) fun a F => ?_
    refine q_val F rfl rfl (by decide) (r_move F rfl) fun a F => ?_
    refine q_no F rfl (by decide) rfl rfl (by decide) fun a F => ?_
    refine q_no F rfl (by decide) rfl rfl (by decide) fun a F => ?_
    refine q_val F rfl rfl (by decide) (r_pick_f F rfl rfl rfl) fun a F => ?_
    refine q_val F rfl rfl (by decide) (r_move F rfl) fun a F => ?_
    refine q_no F rfl (by decide) rfl rfl (by decide) fun a F => ?_
    refine q_no F rfl (by decide) rfl rfl (by decide) fun a F => ?_
    refine q_no F rfl (by decide) rfl rfl (by decide) fun a F => ?_
    refine q_val F rfl rfl (by decide) (r_pick_f F rfl rfl rfl) fun a F => ?_
    refine q_val F rfl rfl (by decide) (r_move F rfl) fun a F => ?_
    refine q_no F rfl (by decide) rfl rfl (by decide) fun a F => ?_
    refine q_no F rfl (by decide) rfl rfl (by decide) fun a F => ?_
    refine q_no F rfl (by decide) rfl rfl (by decide) fun a F => ?_
    refine q_val F rfl rfl (by decide) (r_pick_f F rfl rfl rfl) fun a F => ?_
    refine q_val F rfl rfl (by decide) (r_move F rfl) fun a F => ?_
    refine q_no F rfl (by decide) rfl rfl (by decide) fun a F => ?_
    refine q_no F rfl (by decide) rfl rfl (by decide) fun a F => ?_
    refine q_no F rfl (by decide) rfl rfl (by decide) fun a F => ?_
    refine q_no F rfl (by decide) rfl rfl (by decide) fun a F => ?_
    refine q_val F rfl rfl (by decide) (r_pick_f F rfl rfl rfl) fun a F => ?_
    refine q_val F rfl rfl (by decide) (r_move F rfl) fun a F => ?_
    refine q_no F rfl (by decide) rfl rfl (by decide) fun a F => ?_
    refine q_no F rfl (by decide) rfl rfl (by decide) fun a F => ?_
    refine q_val F rfl rfl (by decide) (r_pick_f F rfl rfl rfl) fun a F => ?_
    refine q_val F rfl rfl (by decide) (r_move F rfl) fun a F => ?_
    refine q_no F rfl (by decide) rfl rfl (by decide) fun a F => ?_
    refine q_no F rfl (by decide) rfl rfl (by decide) fun a F => ?_
    refine q_no F rfl (by decide) rfl rfl (by decide) fun a F => ?_
    refine q_val F rfl rfl (by decide) (r_pick_f F rfl rfl rfl) fun a F => ?_
    refine q_val F rfl rfl (by decide) (r_move F rfl) fun a F => ?_
    refine q_no F rfl (by decide) rfl rfl (by decide) fun a F => ?_
    refine q_no F rfl (by decide) rfl rfl (by decide) fun a F => ?_
    refine q_no F rfl (by decide) rfl rfl (by decide) fun a F => ?_
    refine q_no F rfl (by decide) rfl rfl (by decide) fun a F => ?_
    refine q_val F rfl rfl (by decide) (r_pick_f F rfl rfl rfl) fun a F => ?_
    refine q_val F rfl rfl (by decide) (r_move F rfl) fun a F => ?_
    refine q_no F rfl (by decide) rfl rfl (by decide) fun a F => ?_
    refine q_no F rfl (by decide) rfl rfl (by decide) fun a F => ?_
    refine q_no F rfl (by decide) rfl rfl (by decide) fun a F => ?_
    refine q_no F rfl (by decide) rfl rfl (by decide) fun a F => ?_
    refine q_val F rfl rfl (by decide) (r_pick_f F rfl rfl rfl) fun a F => ?_
    refine q_val F rfl rfl (by decide) (r_assign F rfl) fun a F => ?_
    refine nil ?_
    refine hK186 _ _ ?_
    refine wp_ret ?_
    have H := Option.some.inj H
    subst H
    refine out1 F rfl rfl ?_
    exact ⟨fun b_ => (fun x_ => if x_ < m then x_ else 0) (c176 b_), rfl, E.leave B0 (fun x_ => if x_ < m then x_ else 0) (by intro x_ hx_; show (if x_ < m then x_ else 0) = x_; ((repeat' split) <;> omega)), (fun b_ hb_ => by show (if (c176 b_) < m then (c176 b_) else 0) < m; ((repeat' split) <;> omega))⟩
  ·have H := (if_neg hb188).symm.trans H
   refine q_no F rfl (by decide) rfl (decide_eq_false hb188) (by decide) fun a F => ?_
   refine q_no F rfl (by decide) rfl (decide_eq_false hb188) (by decide) fun a F => ?_
   refine q_val F rfl rfl (by decide) (r_pick_f F rfl (decide_eq_false hb188) rfl) fun a F => ?_
   refine q_val F rfl rfl (by decide) (r_move F rfl) fun a F => ?_
   refine q_no F rfl (by decide) rfl rfl (by decide) fun a F => ?_
   refine q_no F rfl (by decide) rfl rfl (by decide) fun a F => ?_
   refine q_val F rfl rfl (by decide) (r_pick_f F rfl rfl rfl) fun a F => ?_
   refine q_val F rfl rfl (by decide) (r_move F rfl) fun a F => ?_
   refine q_no F rfl (by decide) rfl rfl (by decide) fun a F => ?_
   refine q_no F rfl (by decide) rfl rfl (by decide) fun a F => ?_
   refine q_val F rfl rfl (by decide) (r_pick_f F rfl rfl rfl) fun a F => ?_
   refine q_val F rfl rfl (by decide) (r_move F rfl) fun a F => ?_
   refine q_no F rfl (by decide) rfl rfl (by decide) fun a F => ?_
   refine q_no F rfl (by decide) rfl rfl (by decide) fun a F => ?_
   refine q_no F rfl (by decide) rfl rfl (by decide) fun a F => ?_
   refine q_val F rfl rfl (by decide) (r_pick_f F rfl rfl rfl) fun a F => ?_
   refine q_val F rfl rfl (by decide) (r_move F rfl) fun a F => ?_
   refine q_no F rfl (by decide) rfl rfl (by decide) fun a F => ?_
   refine q_no F rfl (by decide) rfl rfl (by decide) fun a F => ?_
   refine q_no F rfl (by decide) rfl rfl (by decide) fun a F => ?_
   refine q_val F rfl rfl (by decide) (r_pick_f F rfl rfl rfl) fun a F => ?_
   refine q_val F rfl rfl (by decide) (r_move F rfl) fun a F => ?_
   refine q_no F rfl (by decide) rfl rfl (by decide) fun a F => ?_
   refine q_no F rfl (by decide) rfl rfl (by decide) fun a F => ?_
   refine q_no F rfl (by decide) rfl rfl (by decide) fun a F => ?_
   refine q_no F rfl (by decide) rfl rfl (by decide) fun a F => ?_
   refine q_val F rfl rfl (by decide) (r_pick_f F rfl rfl rfl) fun a F => ?_
   refine q_val F rfl rfl (by decide) (r_move F rfl) fun a F => ?_
   refine q_no F rfl (by decide) rfl rfl (by decide) fun a F => ?_
   refine q_no F rfl (by decide) rfl rfl (by decide) fun a F => ?_
   refine q_val F rfl rfl (by decide) (r_pick_f F rfl rfl rfl) fun a F => ?_
   refine q_val F rfl rfl (by decide) (r_move F rfl) fun a F => ?_
   refine q_no F rfl (by decide) rfl rfl (by decide) fun a F => ?_
   refine q_no F rfl (by decide) rfl rfl (by decide) fun a F => ?_
   refine q_no F rfl (by decide) rfl rfl (by decide) fun a F => ?_
   refine q_val F rfl rfl (by decide) (r_pick_f F rfl rfl rfl) fun a F => ?_
   refine q_val F rfl rfl (by decide) (r_move F rfl) fun a F => ?_
   refine q_no F rfl (by decide) rfl rfl (by decide) fun a F => ?_
   refine q_no F rfl (by decide) rfl rfl (by decide) fun a F => ?_
   refine q_no F rfl (by decide) rfl rfl (by decide) fun a F => ?_
   refine q_no F rfl (by decide) rfl rfl (by decide) fun a F => ?_
   refine q_val F rfl rfl (by decide) (r_pick_f F rfl rfl rfl) fun a F => ?_
   refine q_val F rfl rfl (by decide) (r_move F rfl) fun a F => ?_
   refine q_no F rfl (by decide) rfl rfl (by decide) fun a F => ?_
   refine q_no F rfl (by decide) rfl rfl (by decide) fun a F => ?_
   refine q_no F rfl (by decide) rfl rfl (by decide) fun a F => ?_
   refine q_no F rfl (by decide) rfl rfl (by decide) fun a F => ?_
   refine q_val F rfl rfl (by decide) (r_pick_f F rfl rfl rfl) fun a F => ?_
   refine q_val F rfl rfl (by decide) (r_assign F rfl) fun a F => ?_
   refine nil ?_
   refine hK186 _ _ ?_
   refine wp_ret ?_
   have H := Option.some.inj H
   subst H
   refine out1 F rfl rfl ?_
   exact ⟨fun b_ => (fun x_ => if x_ < m then x_ else 0) (c176 b_), rfl, E.leave B0 (fun x_ => if x_ < m then x_ else 0) (by intro x_ hx_; show (if x_ < m then x_ else 0) = x_; ((repeat' split) <;> omega)), (fun b_ hb_ => by show (if (c176 b_) < m then (c176 b_) else 0) < m; ((repeat' split) <;> omega))⟩
 ·have H := (if_neg hb187).symm.trans H
  refine q_no F rfl (by decide) rfl (decide_eq_false hb187) (by decide) fun a F => ?_
  refine q_no F rfl (by decide) rfl (decide_eq_false hb187) (by decide) fun a F => ?_
  refine q_val F rfl rfl (by decide) (r_pick_f F rfl (decide_eq_false hb187) rfl) fun a F => ?_
  refine q_val F rfl rfl (by decide) (r_move F rfl) fun a F => ?_
  refine q_no F rfl (by decide) rfl rfl (by decide) fun a F => ?_
  refine q_no F rfl (by decide) rfl rfl (by decide) fun a F => ?_
  refine q_val F rfl rfl (by decide) (r_pick_f F rfl rfl rfl) fun a F => ?_
  refine q_val F rfl rfl (by decide) (r_move F rfl) fun a F => ?_
  refine q_no F rfl (by decide) rfl rfl (by decide) fun a F => ?_
  refine q_no F rfl (by decide) rfl rfl (by decide) fun a F => ?_
  refine q_val F rfl rfl (by decide) (r_pick_f F rfl rfl rfl) fun a F => ?_
  refine q_val F rfl rfl (by decide) (r_move F rfl) fun a F => ?_
  refine q_no F rfl (by decide) rfl rfl (by decide) fun a F => ?_
  refine q_no F rfl (by decide) rfl rfl (by decide) fun a F => ?_
  refine q_val F rfl rfl (by decide) (r_pick_f F rfl rfl rfl) fun a F => ?_
  refine q_val F rfl rfl (by decide) (r_move F rfl) fun a F => ?_
  refine q_no F rfl (by decide) rfl rfl (by decide) fun a F => ?_
  refine q_no F rfl (by decide) rfl rfl (by decide) fun a F => ?_
  refine q_no F rfl (by decide) rfl rfl (by decide) fun a F => ?_
  refine q_val F rfl rfl (by decide) (r_pick_f F rfl rfl rfl) fun a F => ?_
  refine q_val F rfl rfl (by decide) (r_move F rfl) fun a F => ?_
  refine q_no F rfl (by decide) rfl rfl (by decide) fun a F => ?_
  refine q_no F rfl (by decide) rfl rfl (by decide) fun a F => ?_
  refine q_no F rfl (by decide) rfl rfl (by decide) fun a F => ?_
  refine q_val F rfl rfl (by decide) (r_pick_f F rfl rfl rfl) fun a F => ?_
  refine q_val F rfl rfl (by decide) (r_move F rfl) fun a F => ?_
  refine q_no F rfl (by decide) rfl rfl (by decide) fun a F => ?_
  refine q_no F rfl (by decide) rfl rfl (by decide) fun a F => ?_
  refine q_no F rfl (by decide) rfl rfl (by decide) fun a F => ?_
  refine q_no F rfl (by decide) rfl rfl (by decide) fun a F => ?_
  refine q_val F rfl rfl (by decide) (r_pick_f F rfl rfl rfl) fun a F => ?_
  refine q_val F rfl rfl (by decide) (r_move F rfl) fun a F => ?_
  refine q_no F rfl (by decide) rfl rfl (by decide) fun a F => ?_
  refine q_no F rfl (by decide) rfl rfl (by decide) fun a F => ?_
  refine q_val F rfl rfl (by decide) (r_pick_f F rfl rfl rfl) fun a F => ?_
  refine q_val F rfl rfl (by decide) (r_move F rfl) fun a F => ?_
  refine q_no F rfl (by decide) rfl rfl (by decide) fun a F => ?_
  refine q_no F rfl (by decide) rfl rfl (by decide) fun a F => ?_
  refine q_no F rfl (by decide) rfl rfl (by decide) fun a F => ?_
  refine q_val F rfl rfl (by decide) (r_pick_f F rfl rfl rfl) fun a F => ?_
  refine q_val F rfl rfl (by decide) (r_move F rfl) fun a F => ?_
  refine q_no F rfl (by decide) rfl rfl (by decide) fun a F => ?_
  refine q_no F rfl (by decide) rfl rfl (by decide) fun a F => ?_
  refine q_no F rfl (by decide) rfl rfl (by decide) fun a F => ?_
  refine q_no F rfl (by decide) rfl rfl (by decide) fun a F => ?_
  refine q_val F rfl rfl (by decide) (r_pick_f F rfl rfl rfl) fun a F => ?_
  refine q_val F rfl rfl (by decide) (r_move F rfl) fun a F => ?_
  refine q_no F rfl (by decide) rfl rfl (by decide) fun a F => ?_
  refine q_no F rfl (by decide) rfl rfl (by decide) fun a F => ?_
  refine q_no F rfl (by decide) rfl rfl (by decide) fun a F => ?_
  refine q_no F rfl (by decide) rfl rfl (by decide) fun a F => ?_
  refine q_val F rfl rfl (by decide) (r_pick_f F rfl rfl rfl) fun a F => ?_
  refine q_val F rfl rfl (by decide) (r_assign F rfl) fun a F => ?_
  refine nil ?_
  refine hK186 _ _ ?_
  refine wp_ret ?_
  have H := Option.some.inj H
  subst H
  refine out1 F rfl rfl ?_
  exact ⟨fun b_ => (fun x_ => if x_ < m then x_ else 0) (c176 b_), rfl, E.leave B0 (fun x_ => if x_ < m then x_ else 0) (by intro x_ hx_; show (if x_ < m then x_ else 0) = x_; ((repeat' split) <;> omega)), (fun b_ hb_ => by show (if (c176 b_) < m then (c176 b_) else 0) < m; ((repeat' split) <;> omega))⟩
end Go.Proofs.Ytcolmmjcdlmcoaa.G
