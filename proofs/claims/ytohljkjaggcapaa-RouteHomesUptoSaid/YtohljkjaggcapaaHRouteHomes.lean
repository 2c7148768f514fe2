/- The row of 'RouteHomes', its '..UptoSaid': whatever the input of bulk at most 1048576, the law returns true and the input reads as it did; its walk, its plain law, the row. -/
import Derived.Test.YtohljkjaggcapaaHB
import Derived.Test.YtohljkjaggcapaaRl
import Derived.Laws.OwnMore
import Derived.Test.YtohljkjaggcapaaRows
import Derived.WalkKit
import Derived.ProofKit
import Derived.OpenShut
import Derived.JoinedCond
import Derived.Below
import Derived.ChangeOld
namespace Go.Proofs.Ytohljkjaggcapaa.G
open Go Go.RowKit
set_option linter.unusedVariables false
set_option linter.unusedSimpArgs false
set_option maxRecDepth 100000 in
set_option maxHeartbeats 4000000 in
theorem haulagelaw23_num.calls {m : Nat} {c0 : Nat → Nat} {w0 : World} {a1 : Int} (hm0 : 0 < m) (B0 : CB m c0 w0) (r : Int) (H : haulagelaw23_num.f a1 = some r) : Calls Try.prog 11 #[.int .i64 a1] w0 (fun e w_ => ∃ (c_ : Nat → Nat), e = .returned (.int .i64 r) ∧ Ev (fun x => False) c0 w0 c_ w_ ∧ CB m c_ w_) := by
  unfold haulagelaw23_num.f at H
  have B := B0.mono (show m ≤ m + 1 by omega)
  have E : Ev (fun x => False ∨ m ≤ x) c0 w0 c0 w0 := Ev.refl
  refine enter (N := 4) (l := [.int .i64 a1]) Try.func11 rfl rfl (Nat.le_of_ble_eq_true rfl) fun a F => ?_
  refine wp_seq_k fun K2 hK2 => ?_
  refine reg ?_
  refine q_val F rfl rfl (by decide) (r_assign F rfl) fun a F => ?_
  refine nil ?_
  refine hK2 _ _ ?_
  refine wp_seq_k fun K3 hK3 => ?_
  refine reg ?_
  refine q_val F rfl rfl (by decide) (r_move F rfl) fun a F => ?_
  refine q_val F rfl rfl (by decide) (r_assign F rfl) fun a F => ?_
  refine nil ?_
  refine hK3 _ _ ?_
  refine wp_ret ?_
  have H := Option.some.inj H
  subst H
  refine out1 F rfl rfl ?_
  exact ⟨fun b_ => (fun x_ => if x_ < m then x_ else 0) (c0 b_), rfl, E.leave B0 (fun x_ => if x_ < m then x_ else 0) (by intro x_ hx_; show (if x_ < m then x_ else 0) = x_; ((repeat' split) <;> omega)), (fun b_ hb_ => by show (if (c0 b_) < m then (c0 b_) else 0) < m; ((repeat' split) <;> omega))⟩
end Go.Proofs.Ytohljkjaggcapaa.G
namespace Go.Proofs.Ytohljkjaggcapaa.G
open Go Go.RowKit
set_option linter.unusedVariables false
set_option linter.unusedSimpArgs false
set_option maxRecDepth 100000 in
set_option maxHeartbeats 4000000 in
theorem haulagelaw23_ints.calls (k : Nat) {m : Nat} {c0 : Nat → Nat} {w0 : World} {A2 : Option Addr} {C3 : Nat} {A6 : Option Addr} {C7 : Nat} {a1 : List Int} {a5 : List Int} (hm0 : 0 < m) (B0 : CB m c0 w0) (h4 : SL false (Kint .i64) 0 0 c0 w0 A2 C3 a1) (h8 : SL false (Kint .i64) 0 0 c0 w0 A6 C7 a5) (r : Bool) (H : haulagelaw23_ints.f k a1 a5 = some r) : Calls Try.prog 15 #[.slice A2 a1.length C3, .slice A6 a5.length C7] w0 (fun e w_ => ∃ (c_ : Nat → Nat), e = .returned (.bool r) ∧ Ev (fun x => False) c0 w0 c_ w_ ∧ CB m c_ w_) := by
  unfold haulagelaw23_ints.f at H
  have B := B0.mono (show m ≤ m + 1 by omega)
  have E : Ev (fun x => False ∨ m ≤ x) c0 w0 c0 w0 := Ev.refl
  refine enter (N := 26) (l := [.slice A2 a1.length C3, .slice A6 a5.length C7]) Try.func15 rfl rfl (Nat.le_of_ble_eq_true rfl) fun a F => ?_
  refine wp_seq_k fun K9 hK9 => ?_
  refine reg ?_
  refine q_val F rfl rfl (by decide) (r_assign F rfl) fun a F => ?_
  refine nil ?_
  refine hK9 _ _ ?_
  refine wp_seq_k fun K10 hK10 => ?_
  refine wp_seq_k fun K11 hK11 => ?_
  refine reg ?_
  refine q_val F rfl rfl (by decide) (r_move F rfl) fun a F => ?_
  refine q_val F rfl rfl (by decide) (r_lensl F Try.underlying22 rfl) fun a F => ?_
  refine q_val F rfl rfl (by decide) (r_move F rfl) fun a F => ?_
  refine q_val F rfl rfl (by decide) (r_lensl F Try.underlying22 rfl) fun a F => ?_
  refine q_val F rfl rfl (by decide) (r_neq F rfl rfl) fun a F => ?_
  refine nil ?_
  refine hK11 _ _ ?_
  by_cases hb12 : (a1.length : Int) = (a5.length : Int)
  · have H := (if_pos hb12).symm.trans H
    refine wp_cond_false ((F.ev rfl).trans (congrArg Value.bool (congrArg not (decide_eq_true hb12)))) ?_
    refine wp_skip ?_
    refine hK10 _ _ ?_
    refine wp_seq_k fun K14 hK14 => ?_
    refine wp_seq_k fun K15 hK15 => ?_
    refine reg ?_
    refine q_val F rfl rfl (by decide) (r_assign F rfl) fun a F => ?_
    refine nil ?_
    refine hK15 _ _ ?_
    refine wp_block ?_
    obtain ⟨x26, HL, HR25⟩ := bind_some H
    have J53 : ∀ (c54 : Nat → Nat) (w55 : World) (a : Act), Fr a 26 [] → Ev (fun x => False ∨ m ≤ x) c0 w0 c54 w55 → CB (m + 1) c54 w55 → haulagelaw23_ints.j2 = some r → K14 a w55 := by
      intro c54 w55 a  F E B  H
      unfold haulagelaw23_ints.j2 at H
      refine hK14 _ _ ?_
      refine wp_seq_k fun K56 hK56 => ?_
      refine reg ?_
      refine q_val F rfl rfl (by decide) (r_assign F rfl) fun a F => ?_
      refine nil ?_
      refine hK56 _ _ ?_
      refine wp_ret ?_
      have H := Option.some.inj H
      subst H
      refine out1 F rfl rfl ?_
      exact ⟨fun b_ => (fun x_ => if x_ < m then x_ else 0) (c54 b_), rfl, E.leave B0 (fun x_ => if x_ < m then x_ else 0) (by intro x_ hx_; show (if x_ < m then x_ else 0) = x_; ((repeat' split) <;> omega)), (fun b_ hb_ => by show (if (c54 b_) < m then (c54 b_) else 0) < m; ((repeat' split) <;> omega))⟩
    refine loop_fuel (I := fun n a w => ∃ (i16 : Int) (c : Nat → Nat), Fr a 26 [(0, .slice A2 a1.length C3), (1, .slice A6 a5.length C7), (5, .int .i64 i16)] ∧ Ev (fun x => False ∨ m ≤ x) c0 w0 c w ∧ CB (m + 1) c w ∧ SL false (Kint .i64) 0 0 c w A2 C3 a1 ∧ SL false (Kint .i64) 0 0 c w A6 C7 a5 ∧ loop (fun (s_ : Int) => haulagelaw23_ints.b1 a1 a5 s_) n i16 = some x26) (k := k) ⟨0, c0, F.sub ⟨rfl, rfl, rfl, trivial⟩, E, B, h4, h8, HL⟩ ?_
    clear HL H E F B
    intro n23 X19 hX19 a w18 ⟨i16, c17, F, E, B, h4, h8, HL⟩
    obtain ⟨n24, ctl22, rfl, HB, HN20, HD21⟩ := loop_some HL
    have H : haulagelaw23_ints.b1 a1 a5 i16 = some ctl22 := HB
    clear HB HL
    unfold haulagelaw23_ints.b1 at H
    refine wp_seq_k fun K27 hK27 => ?_
    refine wp_seq_k fun K28 hK28 => ?_
    refine reg ?_
    refine q_val F rfl rfl (by decide) (r_move F rfl) fun a F => ?_
    refine q_val F rfl rfl (by decide) (r_move F rfl) fun a F => ?_
    refine q_val F rfl rfl (by decide) (r_lensl F Try.underlying22 rfl) fun a F => ?_
    refine q_val F rfl rfl (by decide) (r_lss F rfl rfl) fun a F => ?_
    refine nil ?_
    refine hK28 _ _ ?_
    by_cases hb29 : i16 < (a1.length : Int)
    · have H := (if_pos hb29).symm.trans H
      refine wp_cond_true ((F.ev rfl).trans (congrArg Value.bool (decide_eq_true hb29))) ?_
      refine wp_skip ?_
      refine hK27 _ _ ?_
      refine wp_seq_k fun K30 hK30 => ?_
      refine wp_block ?_
      refine wp_seq_k fun K31 hK31 => ?_
      refine regD (SB No c17 w18) 9 (.q 0 (.q 1 (.q 2 (.q 3 (.q 4 (.q 5 (.q 6 (.q 7 (.q 8 .nil))))))))) Try_hm (by decide +kernel) ?_
      intro w32 w1_ w2_ w3_ w4_
      have E33 : Ev No c17 w18 c17 w32 := Ev.same w1_ w2_ w3_ w4_
      have B := B.same w1_
      have zh4 := h4
      have zh8 := h8
      have ER : Ev No c17 w18 c17 w32 := Ev.same w1_ w2_ w3_ w4_
      have h4 := SL.ev h4 E33 (fun q => q.elim) (fun q => q.elim)
      have h8 := SL.ev h8 E33 (fun q => q.elim) (fun q => q.elim)
      have E := E.trans E33 (fun x q => q.elim)
      refine d_q F rfl rfl rfl (by decide) (fun wq hS => r_move F rfl) ER.sb fun a F => ?_
      refine d_q F rfl rfl rfl (by decide) (fun wq hS => r_move F rfl) ER.sb fun a F => ?_
      obtain ⟨g34, H⟩ := ifN H
      obtain ⟨ad35, cs36, e37, h38, r39⟩ := SL.at zh4 i16 g34.1 g34.2
      obtain rfl : cs36 = [.int .i64 (rd a1 i16)] := r39
      obtain ⟨qa40, qqa40⟩ : ∃ q, q = (ad35.add (i16.toNat * 1)) := ⟨_, rfl⟩
      have h38 : AT false 0 c17 w18 qa40 [.int .i64 (rd a1 i16)] := by rw [qqa40]; exact h38
      have zh38 := h38
      have h38 := AT.ev h38 ER (fun q => q.elim)
      refine d_q F rfl rfl rfl (by decide) (fun wq hS => r_indexAddr' F Try.underlying22 sz_3 rfl rfl g34.1 g34.2 e37 qqa40) ER.sb fun a F => ?_
      refine d_q F rfl rfl rfl (by decide) (fun wq hS => r_load F rfl ag_3 (AT.cell0 (AT.sb zh38 hS (fun q => q.elim)) rfl)) ER.sb fun a F => ?_
      refine d_q F rfl rfl rfl (by decide) (fun wq hS => r_move F rfl) ER.sb fun a F => ?_
      refine d_q F rfl rfl rfl (by decide) (fun wq hS => r_move F rfl) ER.sb fun a F => ?_
      obtain ⟨g42, H⟩ := ifN H
      obtain ⟨ad43, cs44, e45, h46, r47⟩ := SL.at zh8 i16 g42.1 g42.2
      obtain rfl : cs44 = [.int .i64 (rd a5 i16)] := r47
      obtain ⟨qa48, qqa48⟩ : ∃ q, q = (ad43.add (i16.toNat * 1)) := ⟨_, rfl⟩
      have h46 : AT false 0 c17 w18 qa48 [.int .i64 (rd a5 i16)] := by rw [qqa48]; exact h46
      have zh46 := h46
      have h46 := AT.ev h46 ER (fun q => q.elim)
      refine d_q F rfl rfl rfl (by decide) (fun wq hS => r_indexAddr' F Try.underlying22 sz_3 rfl rfl g42.1 g42.2 e45 qqa48) ER.sb fun a F => ?_
      refine d_q F rfl rfl rfl (by decide) (fun wq hS => r_load F rfl ag_3 (AT.cell0 (AT.sb zh46 hS (fun q => q.elim)) rfl)) ER.sb fun a F => ?_
      refine d_q F rfl rfl rfl (by decide) (fun wq hS => r_neq F rfl rfl) ER.sb fun a F => ?_
      refine d_nil ?_
      refine hK31 _ _ ?_
      by_cases hb50 : (rd a1 i16) = (rd a5 i16)
      · have H := (if_pos hb50).symm.trans H
        refine wp_cond_false ((F.ev rfl).trans (congrArg Value.bool (congrArg not (decide_eq_true hb50)))) ?_
        refine wp_skip ?_
        refine hK30 _ _ ?_
        refine reg ?_
        refine q_val F rfl rfl (by decide) (r_move F rfl) fun a F => ?_
        refine q_val F rfl rfl (by decide) (r_add F rfl rfl) fun a F => ?_
        refine q_val F rfl rfl (by decide) (r_assign F rfl) fun a F => ?_
        refine nil ?_
        have H := HN20 _ (Option.some.inj H).symm
        exact hX19 _ _ _ (Nat.lt_succ_self _) ⟨(IntKind.i64.wrap (i16 + 1)), c17, F.sub ⟨rfl, rfl, rfl, trivial⟩, E, B, h4, h8, H⟩
      · have H := (if_neg hb50).symm.trans H
        refine wp_cond_true ((F.ev rfl).trans (congrArg Value.bool (congrArg not (decide_eq_false hb50)))) ?_
        refine wp_seq_k fun K51 hK51 => ?_
        refine reg ?_
        refine q_val F rfl rfl (by decide) (r_assign F rfl) fun a F => ?_
        refine nil ?_
        refine hK51 _ _ ?_
        refine wp_ret ?_
        refine inbR ?_
        refine thenR ?_
        refine thenR ?_
        refine inbR ?_
        refine thenR ?_
        have hx_ := HD21 _ (Option.some.inj H).symm
        have H := HR25
        rw [← hx_] at H
        replace H : some false = some r := H
        have H := Option.some.inj H
        subst H
        refine out1 F rfl rfl ?_
        exact ⟨fun b_ => (fun x_ => if x_ < m then x_ else 0) (c17 b_), rfl, E.leave B0 (fun x_ => if x_ < m then x_ else 0) (by intro x_ hx_; show (if x_ < m then x_ else 0) = x_; ((repeat' split) <;> omega)), (fun b_ hb_ => by show (if (c17 b_) < m then (c17 b_) else 0) < m; ((repeat' split) <;> omega))⟩
    · have H := (if_neg hb29).symm.trans H
      refine wp_cond_false ((F.ev rfl).trans (congrArg Value.bool (decide_eq_false hb29))) ?_
      refine wp_exit ?_
      refine thenE ?_
      refine thenE ?_
      refine inbE ?_
      have hx_ := HD21 _ (Option.some.inj H).symm
      have H := HR25
      rw [← hx_] at H
      exact J53 c17 w18 a  (F.sub trivial) E B  H
  · have H := (if_neg hb12).symm.trans H
    refine wp_cond_true ((F.ev rfl).trans (congrArg Value.bool (congrArg not (decide_eq_false hb12)))) ?_
    refine wp_seq_k fun K13 hK13 => ?_
    refine reg ?_
    refine q_val F rfl rfl (by decide) (r_assign F rfl) fun a F => ?_
    refine nil ?_
    refine hK13 _ _ ?_
    refine wp_ret ?_
    refine thenR ?_
    have H := Option.some.inj H
    subst H
    refine out1 F rfl rfl ?_
    exact ⟨fun b_ => (fun x_ => if x_ < m then x_ else 0) (c0 b_), rfl, E.leave B0 (fun x_ => if x_ < m then x_ else 0) (by intro x_ hx_; show (if x_ < m then x_ else 0) = x_; ((repeat' split) <;> omega)), (fun b_ hb_ => by show (if (c0 b_) < m then (c0 b_) else 0) < m; ((repeat' split) <;> omega))⟩
end Go.Proofs.Ytohljkjaggcapaa.G
namespace Go.Proofs.Ytohljkjaggcapaa.G
open Go Go.RowKit
set_option linter.unusedVariables false
set_option linter.unusedSimpArgs false
set_option maxRecDepth 100000 in
set_option maxHeartbeats 4000000 in
theorem haulagelaw23_known.calls (k : Nat) {m : Nat} {c0 : Nat → Nat} {w0 : World} (hm0 : 0 < m) (B0 : CB m c0 w0) (r : Bool) (H : haulagelaw23_known.f k = some r) : Calls Try.prog 9 #[] w0 (fun e w_ => ∃ (c_ : Nat → Nat), e = .returned (.bool r) ∧ Ev (fun x => False) c0 w0 c_ w_ ∧ CB m c_ w_) := by
  unfold haulagelaw23_known.f at H
  have B := B0.mono (show m ≤ m + 2 by omega)
  have E : Ev (fun x => False ∨ m ≤ x) c0 w0 c0 w0 := Ev.refl
  refine enter (N := 42) (l := []) Try.func9 rfl rfl (Nat.le_of_ble_eq_true rfl) fun a F => ?_
  refine wp_seq_k fun K1 hK1 => ?_
  refine reg ?_
  refine q_val F rfl rfl (by decide) (r_assign F rfl) fun a F => ?_
  refine nil ?_
  refine hK1 _ _ ?_
  refine wp_seq_k fun K2 hK2 => ?_
  refine reg ?_
  obtain ⟨t3, q4, H⟩ := bind_some H
  refine q_call F rfl rfl (by decide) (r_call F Try.func10 rfl (by kernel_rfl) rfl) (route_New.calls (m := m + 2) (by omega) B (m + 1) (by omega) _ q4) ?_
  rintro e w6 ⟨c5, p9, rfl, E7, B8, h10⟩
  refine ⟨_, rfl, fun a F => ?_⟩
  have B := B8
  have E := E.trans E7 (fun x q => q.elim)
  refine q_val F rfl rfl (by decide) (r_move F rfl) fun a F => ?_
  refine q_val F rfl rfl (by decide) (r_extract F rfl rfl) fun a F => ?_
  refine q_val F rfl rfl (by decide) (r_extract F rfl rfl) fun a F => ?_
  refine q_val F rfl rfl (by decide) (r_assign F rfl) fun a F => ?_
  refine q_val F rfl rfl (by decide) (r_assign F rfl) fun a F => ?_
  refine nil ?_
  refine hK2 _ _ ?_
  refine wp_seq_k fun K12 hK12 => ?_
  refine wp_seq_k fun K13 hK13 => ?_
  have J23 : ∀ (c24 : Nat → Nat) (w25 : World) (a : Act) (b22 : Bool), Fr a 42 [(1, .pointer p9), (16, .bool b22)] → Ev (fun x => False ∨ m ≤ x) c0 w0 c24 w25 → CB (m + 2) c24 w25 → RU (m + 1) c24 w25 p9 t3.1 → haulagelaw23_known.j1 k t3 b22 = some r → K13 a w25 := by
    intro c24 w25 a b22 F E B h10 H
    unfold haulagelaw23_known.j1 at H
    refine hK13 _ _ ?_
    by_cases hb26 : b22 = true
    · have H := (if_pos hb26).symm.trans H
      refine wp_cond_true ((F.ev rfl).trans (congrArg Value.bool hb26)) ?_
      refine wp_seq_k fun K27 hK27 => ?_
      refine reg ?_
      refine q_val F rfl rfl (by decide) (r_assign F rfl) fun a F => ?_
      refine nil ?_
      refine hK27 _ _ ?_
      refine wp_ret ?_
      refine thenR ?_
      have H := Option.some.inj H
      subst H
      refine out1 F rfl rfl ?_
      exact ⟨fun b_ => (fun x_ => if x_ < m then x_ else 0) (c24 b_), rfl, E.leave B0 (fun x_ => if x_ < m then x_ else 0) (by intro x_ hx_; show (if x_ < m then x_ else 0) = x_; ((repeat' split) <;> omega)), (fun b_ hb_ => by show (if (c24 b_) < m then (c24 b_) else 0) < m; ((repeat' split) <;> omega))⟩
    · have H := (if_neg hb26).symm.trans H
      refine wp_cond_false ((F.ev rfl).trans (congrArg Value.bool (bfalse hb26))) ?_
      refine wp_skip ?_
      refine hK12 _ _ ?_
      refine wp_seq_k fun K28 hK28 => ?_
      refine reg ?_
      refine q_val F rfl rfl (by decide) (r_move F rfl) fun a F => ?_
      obtain ⟨t29, q30, H⟩ := bind_some H
      refine q_call F rfl rfl (by decide) (r_call F Try.func12 rfl (by kernel_rfl) rfl) (route_Route_Fine.calls (m := m + 2) (by omega) B h10 (by omega) _ q30) ?_
      rintro e w32 ⟨c31, rfl, E33, B34, h35⟩
      refine ⟨_, rfl, fun a F => ?_⟩
      have B := B34
      have E := E.trans E33 (fun x q => by replace q : x = m + 1 := q; show False ∨ m ≤ x; omega)
      refine q_val F rfl rfl (by decide) (r_assign F rfl) fun a F => ?_
      refine nil ?_
      refine hK28 _ _ ?_
      refine wp_seq_k fun K37 hK37 => ?_
      refine reg ?_
      refine q_val F rfl rfl (by decide) (r_move F rfl) fun a F => ?_
      obtain ⟨t38, q39, H⟩ := bind_some H
      refine q_call F rfl rfl (by decide) (r_call F Try.func13 rfl (by kernel_rfl) rfl) (route_Route_Hint.calls (m := m + 2) (by omega) B h35 (by omega) _ q39) ?_
      rintro e w41 ⟨c40, rfl, E42, B43, h44⟩
      refine ⟨_, rfl, fun a F => ?_⟩
      have B := B43
      have E := E.trans E42 (fun x q => by replace q : x = m + 1 := q; show False ∨ m ≤ x; omega)
      refine q_val F rfl rfl (by decide) (r_assign F rfl) fun a F => ?_
      refine nil ?_
      refine hK37 _ _ ?_
      refine wp_seq_k fun K46 hK46 => ?_
      refine reg ?_
      refine q_val F rfl rfl (by decide) (r_move F rfl) fun a F => ?_
      obtain ⟨t47, q48, H⟩ := bind_some H
      refine q_call F rfl rfl (by decide) (r_call F Try.func13 rfl (by kernel_rfl) rfl) (route_Route_Hint.calls (m := m + 2) (by omega) B h44 (by omega) _ q48) ?_
      rintro e w50 ⟨c49, rfl, E51, B52, h53⟩
      refine ⟨_, rfl, fun a F => ?_⟩
      have B := B52
      have E := E.trans E51 (fun x q => by replace q : x = m + 1 := q; show False ∨ m ≤ x; omega)
      refine q_val F rfl rfl (by decide) (r_assign F rfl) fun a F => ?_
      refine nil ?_
      refine hK46 _ _ ?_
      refine wp_seq_k fun K55 hK55 => ?_
      refine reg ?_
      refine q_val F rfl rfl (by decide) (r_move F rfl) fun a F => ?_
      refine q_val F rfl rfl (by decide) (r_move F rfl) fun a F => ?_
      by_cases hb56 : t29.1 = true
      · have H := (if_pos hb56).symm.trans H
        refine q_yes F rfl (by decide) rfl hb56 ?_
        refine q_val F rfl rfl (by decide) (r_move F rfl) fun a F => ?_
        refine q_yes F rfl (by decide) rfl hb56 ?_
        refine q_val F rfl rfl (by decide) (r_not F rfl) fun a F => ?_
        refine q_val F rfl rfl (by decide) (r_pick_t F rfl hb56 rfl) fun a F => ?_
        refine q_val F rfl rfl (by decide) (r_move F rfl) fun a F => ?_
        by_cases hb57 : t38.1 = true
        · have H := (if_pos hb57).symm.trans H
          refine q_no F rfl (by decide) rfl (congrArg not hb57) (by decide) fun a F => ?_
          refine q_val F rfl rfl (by decide) (r_pick_f F rfl (congrArg not hb57) rfl) fun a F => ?_
          refine q_val F rfl rfl (by decide) (r_move F rfl) fun a F => ?_
          refine q_no F rfl (by decide) rfl rfl (by decide) fun a F => ?_
          refine q_no F rfl (by decide) rfl rfl (by decide) fun a F => ?_
          refine q_no F rfl (by decide) rfl rfl (by decide) fun a F => ?_
          refine q_val F rfl rfl (by decide) (r_pick_f F rfl rfl rfl) fun a F => ?_
          refine q_val F rfl rfl (by decide) (r_move F rfl) fun a F => ?_
          refine q_no F rfl (by decide) rfl rfl (by decide) fun a F => ?_
          refine q_no F rfl (by decide) rfl rfl (by decide) fun a F => ?_
          refine q_no F rfl (by decide) rfl rfl (by decide) fun a F => ?_
          refine q_no F rfl (by decide) rfl rfl (by decide) fun a F => ?_
          refine q_val F rfl rfl (by decide) (r_pick_f F rfl rfl rfl) fun a F => ?_
          refine q_val F rfl rfl (by decide) (r_assign F rfl) fun a F => ?_
          refine nil ?_
          refine hK55 _ _ ?_
          refine wp_ret ?_
          have H := Option.some.inj H
          subst H
          refine out1 F rfl rfl ?_
          exact ⟨fun b_ => (fun x_ => if x_ < m then x_ else 0) (c49 b_), rfl, E.leave B0 (fun x_ => if x_ < m then x_ else 0) (by intro x_ hx_; show (if x_ < m then x_ else 0) = x_; ((repeat' split) <;> omega)), (fun b_ hb_ => by show (if (c49 b_) < m then (c49 b_) else 0) < m; ((repeat' split) <;> omega))⟩
        · have H := (if_neg hb57).symm.trans H
          refine q_yes F rfl (by decide) rfl (congrArg not (bfalse hb57)) ?_
          refine q_val F rfl rfl (by decide) (r_move F rfl) fun a F => ?_
          refine q_val F rfl rfl (by decide) (r_pick_t F rfl (congrArg not (bfalse hb57)) rfl) fun a F => ?_
          refine q_val F rfl rfl (by decide) (r_move F rfl) fun a F => ?_
          by_cases hb58 : t47.1 = true
          · have H := (if_pos hb58).symm.trans H
            refine q_yes F rfl (by decide) rfl hb58 ?_
            refine q_val F rfl rfl (by decide) (r_move F rfl) fun a F => ?_
            obtain ⟨t59, q60, H⟩ := bind_some H
            refine q_yes F rfl (by decide) rfl hb58 ?_
            refine q_call F rfl rfl (by decide) (r_call F Try.func14 rfl (by kernel_rfl) rfl) (route_Route_Where.calls (m := m + 2) (by omega) B h53 (by omega) _ q60) ?_
            rintro e w62 ⟨c61, rfl, E63, B64⟩
            refine ⟨_, rfl, fun a F => ?_⟩
            have B := B64
            have h53 := RU.ev h53 E63 (fun q => q.elim) (fun q => q.elim)
            have E := E.trans E63 (fun x q => q.elim)
            refine q_yes F rfl (by decide) rfl hb58 ?_
            refine q_val F rfl rfl (by decide) (r_eql F rfl rfl) fun a F => ?_
            refine q_val F rfl rfl (by decide) (r_pick_t F rfl hb58 rfl) fun a F => ?_
            refine q_val F rfl rfl (by decide) (r_move F rfl) fun a F => ?_
            by_cases hb66 : t59 = 1
            · have H := (if_pos hb66).symm.trans H
              refine q_yes F rfl (by decide) rfl (decide_eq_true hb66) ?_
              refine q_val F rfl rfl (by decide) (r_move F rfl) fun a F => ?_
              obtain ⟨t67, q68, H⟩ := bind_some H
              refine q_yes F rfl (by decide) rfl (decide_eq_true hb66) ?_
              refine q_call F rfl rfl (by decide) (r_call F Try.func16 rfl (by kernel_rfl) rfl) (route_Route_Trail.calls (m := m + 2) (by omega) B h53 (by omega) 0 (by omega) _ q68) ?_
              rintro e w70 ⟨c69, A73, C74, rfl, E71, B72, h75⟩
              refine ⟨_, rfl, fun a F => ?_⟩
              have B := B72
              have h53 := RU.ev h53 E71 (fun q => q.elim) (fun q => q.elim)
              have E := E.trans E71 (fun x q => q.elim)
              refine q_yes F rfl (by decide) rfl (decide_eq_true hb66) ?_
              refine q_eff F rfl rfl (by decide) (e_buildSlice (n := 1) (e := 3) (c := c69) (k := (Kint .i64)) (i := 0) F [(0, .int .i64 2)] [.int .i64 2] ([2] : List Int) (by exact ⟨rfl, rfl, trivial⟩) (fun w => by kernel_rfl) rfl (by decide) rfl ⟨rfl, trivial⟩ (fun q => q) 0) ?_
              rintro v w78 a ⟨c77, A79, C80, rfl, E81, h82, B83⟩ F
              have B := B83 _ B (by omega)
              have h53 := RU.ev h53 E81 (fun q => q.elim) (fun q => q.elim)
              have h75 := SL.ev h75 E81 (fun q => q.elim) (fun q => q.elim)
              have E := E.trans E81 (fun x q => q.elim)
              obtain ⟨t84, q85, H⟩ := bind_some H
              refine q_yes F rfl (by decide) rfl (decide_eq_true hb66) ?_
              refine q_call F rfl rfl (by decide) (r_call F Try.func15 rfl (by kernel_rfl) rfl) (haulagelaw23_ints.calls k (m := m + 2) (by omega) B h75.r h82.r _ q85) ?_
              rintro e w87 ⟨c86, rfl, E88, B89⟩
              refine ⟨_, rfl, fun a F => ?_⟩
              have B := B89
              have h53 := RU.ev h53 E88 (fun q => q.elim) (fun q => q.elim)
              have h75 := SL.ev h75 E88 (fun q => q.elim) (fun q => q.elim)
              have h82 := SL.ev h82 E88 (fun q => q.elim) (fun q => q.elim)
              have E := E.trans E88 (fun x q => q.elim)
              refine q_val F rfl rfl (by decide) (r_pick_t F rfl (decide_eq_true hb66) rfl) fun a F => ?_
              refine q_val F rfl rfl (by decide) (r_assign F rfl) fun a F => ?_
              refine nil ?_
              refine hK55 _ _ ?_
              refine wp_ret ?_
              have H := Option.some.inj H
              subst H
              refine out1 F rfl rfl ?_
              exact ⟨fun b_ => (fun x_ => if x_ < m then x_ else 0) (c86 b_), rfl, E.leave B0 (fun x_ => if x_ < m then x_ else 0) (by intro x_ hx_; show (if x_ < m then x_ else 0) = x_; ((repeat' split) <;> omega)), (fun b_ hb_ => by show (if (c86 b_) < m then (c86 b_) else 0) < m; ((repeat' split) <;> omega))⟩
            · have H := (if_neg hb66).symm.trans H
              refine q_no F rfl (by decide) rfl (decide_eq_false hb66) (by decide) fun a F => ?_
              refine q_no F rfl (by decide) rfl (decide_eq_false hb66) (by decide) fun a F => ?_
              refine q_no F rfl (by decide) rfl (decide_eq_false hb66) (by decide) fun a F => ?_
              refine q_no F rfl (by decide) rfl (decide_eq_false hb66) (by decide) fun a F => ?_
              refine q_val F rfl rfl (by decide) (r_pick_f F rfl (decide_eq_false hb66) rfl) fun a F => ?_
              refine q_val F rfl rfl (by decide) (r_assign F rfl) fun a F => ?_
              refine nil ?_
              refine hK55 _ _ ?_
              refine wp_ret ?_
              have H := Option.some.inj H
              subst H
              refine out1 F rfl rfl ?_
              exact ⟨fun b_ => (fun x_ => if x_ < m then x_ else 0) (c61 b_), rfl, E.leave B0 (fun x_ => if x_ < m then x_ else 0) (by intro x_ hx_; show (if x_ < m then x_ else 0) = x_; ((repeat' split) <;> omega)), (fun b_ hb_ => by show (if (c61 b_) < m then (c61 b_) else 0) < m; ((repeat' split) <;> omega))⟩
          · have H := (if_neg hb58).symm.trans H
            refine q_no F rfl (by decide) rfl (bfalse hb58) (by decide) fun a F => ?_
            refine q_no F rfl (by decide) rfl (bfalse hb58) (by decide) fun a F => ?_
            refine q_no F rfl (by decide) rfl (bfalse hb58) (by decide) fun a F => ?_
            refine q_val F rfl rfl (by decide) (r_pick_f F rfl (bfalse hb58) rfl) fun a F => ?_
            refine q_val F rfl rfl (by decide) (r_move F rfl) fun a F => ?_
            refine q_no F rfl (by decide) rfl rfl (by decide) fun a F => ?_
            refine q_no F rfl (by decide) rfl rfl (by decide) fun a F => ?_
            refine q_no F rfl (by decide) rfl rfl (by decide) fun a F => ?_
            refine q_no F rfl (by decide) rfl rfl (by decide) fun a F => ?_
            refine q_val F rfl rfl (by decide) (r_pick_f F rfl rfl rfl) fun a F => ?_
            refine q_val F rfl rfl (by decide) (r_assign F rfl) fun a F => ?_
            refine nil ?_
            refine hK55 _ _ ?_
            refine wp_ret ?_
            have H := Option.some.inj H
            subst H
            refine out1 F rfl rfl ?_
            exact ⟨fun b_ => (fun x_ => if x_ < m then x_ else 0) (c49 b_), rfl, E.leave B0 (fun x_ => if x_ < m then x_ else 0) (by intro x_ hx_; show (if x_ < m then x_ else 0) = x_; ((repeat' split) <;> omega)), (fun b_ hb_ => by show (if (c49 b_) < m then (c49 b_) else 0) < m; ((repeat' split) <;> omega))⟩
      · have H := (if_neg hb56).symm.trans H
        refine q_no F rfl (by decide) rfl (bfalse hb56) (by decide) fun a F => ?_
        refine q_no F rfl (by decide) rfl (bfalse hb56) (by decide) fun a F => ?_
        refine q_val F rfl rfl (by decide) (r_pick_f F rfl (bfalse hb56) rfl) fun a F => ?_
        refine q_val F rfl rfl (by decide) (r_move F rfl) fun a F => ?_
        refine q_no F rfl (by decide) rfl rfl (by decide) fun a F => ?_
        refine q_val F rfl rfl (by decide) (r_pick_f F rfl rfl rfl) fun a F => ?_
        refine q_val F rfl rfl (by decide) (r_move F rfl) fun a F => ?_
        refine q_no F rfl (by decide) rfl rfl (by decide) fun a F => ?_
        refine q_no F rfl (by decide) rfl rfl (by decide) fun a F => ?_
        refine q_no F rfl (by decide) rfl rfl (by decide) fun a F => ?_
        refine q_val F rfl rfl (by decide) (r_pick_f F rfl rfl rfl) fun a F => ?_
        refine q_val F rfl rfl (by decide) (r_move F rfl) fun a F => ?_
        refine q_no F rfl (by decide) rfl rfl (by decide) fun a F => ?_
        refine q_no F rfl (by decide) rfl rfl (by decide) fun a F => ?_
        refine q_no F rfl (by decide) rfl rfl (by decide) fun a F => ?_
        refine q_no F rfl (by decide) rfl rfl (by decide) fun a F => ?_
        refine q_val F rfl rfl (by decide) (r_pick_f F rfl rfl rfl) fun a F => ?_
        refine q_val F rfl rfl (by decide) (r_assign F rfl) fun a F => ?_
        refine nil ?_
        refine hK55 _ _ ?_
        refine wp_ret ?_
        have H := Option.some.inj H
        subst H
        refine out1 F rfl rfl ?_
        exact ⟨fun b_ => (fun x_ => if x_ < m then x_ else 0) (c49 b_), rfl, E.leave B0 (fun x_ => if x_ < m then x_ else 0) (by intro x_ hx_; show (if x_ < m then x_ else 0) = x_; ((repeat' split) <;> omega)), (fun b_ hb_ => by show (if (c49 b_) < m then (c49 b_) else 0) < m; ((repeat' split) <;> omega))⟩
  refine reg ?_
  refine q_val F rfl rfl (by decide) (r_move F rfl) fun a F => ?_
  obtain ⟨t14, q15, H⟩ := bind_some H
  refine q_call F rfl rfl (by decide) (r_call F Try.func11 rfl (by kernel_rfl) rfl) (haulagelaw23_num.calls (m := m + 2) (by omega) B _ q15) ?_
  rintro e w17 ⟨c16, rfl, E18, B19⟩
  refine ⟨_, rfl, fun a F => ?_⟩
  have B := B19
  have h10 := RU.ev h10 E18 (fun q => q.elim) (fun q => q.elim)
  have E := E.trans E18 (fun x q => q.elim)
  refine q_val F rfl rfl (by decide) (r_neq F rfl rfl) fun a F => ?_
  refine q_val F rfl rfl (by decide) (r_move F rfl) fun a F => ?_
  by_cases hb21 : t14 = 0
  · have H := (if_pos hb21).symm.trans H
    refine q_yes F rfl (by decide) rfl (congrArg not (decide_eq_true hb21)) ?_
    refine q_val F rfl rfl (by decide) (r_move F rfl) fun a F => ?_
    refine q_yes F rfl (by decide) rfl (congrArg not (decide_eq_true hb21)) ?_
    refine q_val F rfl rfl (by decide) (r_peqlA F Try.underlying24 rfl rfl (RU.isNone h10)) fun a F => ?_
    refine q_val F rfl rfl (by decide) (r_pick_f F rfl (congrArg not (decide_eq_true hb21)) rfl) fun a F => ?_
    refine nil ?_
    exact J23 c16 w17 a (Option.isNone t3.1) (F.sub ⟨rfl, rfl, trivial⟩) E B h10 H
  · have H := (if_neg hb21).symm.trans H
    refine q_no F rfl (by decide) rfl (congrArg not (decide_eq_false hb21)) (by decide) fun a F => ?_
    refine q_no F rfl (by decide) rfl (congrArg not (decide_eq_false hb21)) (by decide) fun a F => ?_
    refine q_val F rfl rfl (by decide) (r_pick_t F rfl (congrArg not (decide_eq_false hb21)) rfl) fun a F => ?_
    refine nil ?_
    exact J23 c16 w17 a true (F.sub ⟨rfl, rfl, trivial⟩) E B h10 H
end Go.Proofs.Ytohljkjaggcapaa.G
namespace Go.Proofs.Ytohljkjaggcapaa.G
open Go Go.RowKit
set_option linter.unusedVariables false
set_option linter.unusedSimpArgs false
set_option maxRecDepth 100000 in
set_option maxHeartbeats 4000000 in
theorem haulagelaw23_RouteHomes.calls (k : Nat) {m : Nat} {c0 : Nat → Nat} {w0 : World} {A4 : Option Addr} {C5 : Nat} {a1 : Int} {a2 : Int} {a3 : List (List Int)} (hm0 : 0 < m) (B0 : CB m c0 w0) (h6 : SL false (Kslice (Kint .u8)) 0 0 c0 w0 A4 C5 a3) (r : Bool) (H : haulagelaw23_RouteHomes.f k a1 a2 a3 = some r) : Calls Try.prog 4 #[.int .i64 a1, .int .i64 a2, .slice A4 a3.length C5] w0 (fun e w_ => ∃ (c_ : Nat → Nat), e = .returned (.bool r) ∧ Ev (fun x => False) c0 w0 c_ w_ ∧ CB m c_ w_) := by
  unfold haulagelaw23_RouteHomes.f at H
  have B := B0.mono (show m ≤ m + 4 by omega)
  have E : Ev (fun x => False ∨ m ≤ x) c0 w0 c0 w0 := Ev.refl
  refine enter (N := 132) (l := [.int .i64 a1, .int .i64 a2, .slice A4 a3.length C5]) Try.func4 rfl rfl (Nat.le_of_ble_eq_true rfl) fun a F => ?_
  refine wp_seq_k fun K7 hK7 => ?_
  refine reg ?_
  refine q_val F rfl rfl (by decide) (r_assign F rfl) fun a F => ?_
  refine nil ?_
  refine hK7 _ _ ?_
  refine wp_seq_k fun K8 hK8 => ?_
  refine wp_seq_k fun K9 hK9 => ?_
  refine reg ?_
  obtain ⟨t10, q11, H⟩ := bind_some H
  refine q_call F rfl rfl (by decide) (r_call F Try.func9 rfl (by kernel_rfl) rfl) (haulagelaw23_known.calls k (m := m + 4) (by omega) B _ q11) ?_
  rintro e w13 ⟨c12, rfl, E14, B15⟩
  refine ⟨_, rfl, fun a F => ?_⟩
  have B := B15
  have h6 := SL.ev h6 E14 (fun q => q.elim) (fun q => q.elim)
  have E := E.trans E14 (fun x q => q.elim)
  refine q_val F rfl rfl (by decide) (r_not F rfl) fun a F => ?_
  refine nil ?_
  refine hK9 _ _ ?_
  by_cases hb17 : t10 = true
  · have H := (if_pos hb17).symm.trans H
    refine wp_cond_false ((F.ev rfl).trans (congrArg Value.bool (congrArg not hb17))) ?_
    refine wp_skip ?_
    refine hK8 _ _ ?_
    refine wp_seq_k fun K19 hK19 => ?_
    refine reg ?_
    refine q_val F rfl rfl (by decide) (r_move F rfl) fun a F => ?_
    refine q_val F rfl rfl (by decide) (r_move F rfl) fun a F => ?_
    obtain ⟨t20, q21, H⟩ := bind_some H
    refine q_call F rfl rfl (by decide) (r_call F Try.func10 rfl (by kernel_rfl) rfl) (route_New.calls (m := m + 4) (by omega) B (m + 1) (by omega) _ q21) ?_
    rintro e w23 ⟨c22, p26, rfl, E24, B25, h27⟩
    refine ⟨_, rfl, fun a F => ?_⟩
    have B := B25
    have h6 := SL.ev h6 E24 (fun q => q.elim) (fun q => q.elim)
    have E := E.trans E24 (fun x q => q.elim)
    refine q_val F rfl rfl (by decide) (r_move F rfl) fun a F => ?_
    refine q_val F rfl rfl (by decide) (r_extract F rfl rfl) fun a F => ?_
    refine q_val F rfl rfl (by decide) (r_extract F rfl rfl) fun a F => ?_
    refine q_val F rfl rfl (by decide) (r_assign F rfl) fun a F => ?_
    refine q_val F rfl rfl (by decide) (r_assign F rfl) fun a F => ?_
    refine nil ?_
    refine hK19 _ _ ?_
    refine wp_seq_k fun K29 hK29 => ?_
    refine wp_seq_k fun K30 hK30 => ?_
    refine reg ?_
    refine q_val F rfl rfl (by decide) (r_move F rfl) fun a F => ?_
    obtain ⟨t31, q32, H⟩ := bind_some H
    refine q_call F rfl rfl (by decide) (r_call F Try.func11 rfl (by kernel_rfl) rfl) (haulagelaw23_num.calls (m := m + 4) (by omega) B _ q32) ?_
    rintro e w34 ⟨c33, rfl, E35, B36⟩
    refine ⟨_, rfl, fun a F => ?_⟩
    have B := B36
    have h6 := SL.ev h6 E35 (fun q => q.elim) (fun q => q.elim)
    have h27 := RU.ev h27 E35 (fun q => q.elim) (fun q => q.elim)
    have E := E.trans E35 (fun x q => q.elim)
    refine q_val F rfl rfl (by decide) (r_neq F rfl rfl) fun a F => ?_
    refine nil ?_
    refine hK30 _ _ ?_
    by_cases hb38 : t31 = 0
    · have H := (if_pos hb38).symm.trans H
      refine wp_cond_false ((F.ev rfl).trans (congrArg Value.bool (congrArg not (decide_eq_true hb38)))) ?_
      refine wp_skip ?_
      refine hK29 _ _ ?_
      refine wp_seq_k fun K40 hK40 => ?_
      refine reg ?_
      refine q_val F rfl rfl (by decide) (r_move F rfl) fun a F => ?_
      refine q_val F rfl rfl (by decide) (r_add F rfl rfl) fun a F => ?_
      refine q_val F rfl rfl (by decide) (r_move F rfl) fun a F => ?_
      obtain ⟨t41, q42, H⟩ := bind_some H
      refine q_call F rfl rfl (by decide) (r_call F Try.func10 rfl (by kernel_rfl) rfl) (route_New.calls (m := m + 4) (by omega) B (m + 2) (by omega) _ q42) ?_
      rintro e w44 ⟨c43, p47, rfl, E45, B46, h48⟩
      refine ⟨_, rfl, fun a F => ?_⟩
      have B := B46
      have h6 := SL.ev h6 E45 (fun q => q.elim) (fun q => q.elim)
      have h27 := RU.ev h27 E45 (fun q => q.elim) (fun q => q.elim)
      have E := E.trans E45 (fun x q => q.elim)
      refine q_val F rfl rfl (by decide) (r_move F rfl) fun a F => ?_
      refine q_val F rfl rfl (by decide) (r_extract F rfl rfl) fun a F => ?_
      refine q_val F rfl rfl (by decide) (r_extract F rfl rfl) fun a F => ?_
      refine q_val F rfl rfl (by decide) (r_assign F rfl) fun a F => ?_
      refine q_val F rfl rfl (by decide) (r_assign F rfl) fun a F => ?_
      refine nil ?_
      refine hK40 _ _ ?_
      refine wp_seq_k fun K50 hK50 => ?_
      refine wp_seq_k fun K51 hK51 => ?_
      refine reg ?_
      refine q_val F rfl rfl (by decide) (r_assign F rfl) fun a F => ?_
      refine nil ?_
      refine hK51 _ _ ?_
      refine wp_block ?_
      obtain ⟨x62, HL, HR61⟩ := bind_some H
      have J109 : ∀ (c110 : Nat → Nat) (w111 : World) (a : Act), Fr a 132 [(0, .int .i64 a1), (1, .int .i64 a2), (2, .slice A4 a3.length C5), (7, .pointer p26), (10, .int .i64 t41.2)] → Ev (fun x => False ∨ m ≤ x) c0 w0 c110 w111 → CB (m + 4) c110 w111 → SL false (Kslice (Kint .u8)) 0 0 c110 w111 A4 C5 a3 → RU (m + 1) c110 w111 p26 t20.1 → haulagelaw23_RouteHomes.j4 k a1 a2 a3 t20 t41 = some r → K50 a w111 := by
        intro c110 w111 a  F E B h6 h27 H
        unfold haulagelaw23_RouteHomes.j4 at H
        refine hK50 _ _ ?_
        refine wp_seq_k fun K112 hK112 => ?_
        refine reg ?_
        refine q_val F rfl rfl (by decide) (r_move F rfl) fun a F => ?_
        refine q_val F rfl rfl (by decide) (r_move F rfl) fun a F => ?_
        refine q_val F rfl rfl (by decide) (r_add F rfl rfl) fun a F => ?_
        obtain ⟨t113, q114, H⟩ := bind_some H
        refine q_call F rfl rfl (by decide) (r_call F Try.func10 rfl (by kernel_rfl) rfl) (route_New.calls (m := m + 4) (by omega) B (m + 3) (by omega) _ q114) ?_
        rintro e w116 ⟨c115, p119, rfl, E117, B118, h120⟩
        refine ⟨_, rfl, fun a F => ?_⟩
        have B := B118
        have h6 := SL.ev h6 E117 (fun q => q.elim) (fun q => q.elim)
        have h27 := RU.ev h27 E117 (fun q => q.elim) (fun q => q.elim)
        have E := E.trans E117 (fun x q => q.elim)
        refine q_val F rfl rfl (by decide) (r_move F rfl) fun a F => ?_
        refine q_val F rfl rfl (by decide) (r_extract F rfl rfl) fun a F => ?_
        refine q_val F rfl rfl (by decide) (r_extract F rfl rfl) fun a F => ?_
        refine q_val F rfl rfl (by decide) (r_assign F rfl) fun a F => ?_
        refine q_val F rfl rfl (by decide) (r_assign F rfl) fun a F => ?_
        refine nil ?_
        refine hK112 _ _ ?_
        refine wp_seq_k fun K122 hK122 => ?_
        refine wp_seq_k fun K123 hK123 => ?_
        refine reg ?_
        refine q_val F rfl rfl (by decide) (r_assign F rfl) fun a F => ?_
        refine nil ?_
        refine hK123 _ _ ?_
        refine wp_block ?_
        obtain ⟨x134, HL, HR133⟩ := bind_some H
        have J169 : ∀ (c170 : Nat → Nat) (w171 : World) (a : Act), Fr a 132 [(0, .int .i64 a1), (1, .int .i64 a2), (2, .slice A4 a3.length C5), (7, .pointer p26), (10, .int .i64 t41.2), (12, .pointer p119), (13, .int .i64 t113.2)] → Ev (fun x => False ∨ m ≤ x) c0 w0 c170 w171 → CB (m + 4) c170 w171 → SL false (Kslice (Kint .u8)) 0 0 c170 w171 A4 C5 a3 → RU (m + 1) c170 w171 p26 t20.1 → RU (m + 3) c170 w171 p119 t113.1 → haulagelaw23_RouteHomes.j7 k a1 a2 a3 t20 t41 t113 = some r → K122 a w171 := by
          intro c170 w171 a  F E B h6 h27 h120 H
          unfold haulagelaw23_RouteHomes.j7 at H
          refine hK122 _ _ ?_
          refine wp_seq_k fun K172 hK172 => ?_
          refine wp_seq_k fun K173 hK173 => ?_
          refine reg ?_
          refine q_val F rfl rfl (by decide) (r_assign F rfl) fun a F => ?_
          refine nil ?_
          refine hK173 _ _ ?_
          refine wp_block ?_
          obtain ⟨x184, HL, HR183⟩ := bind_some H
          have J266 : ∀ (c267 : Nat → Nat) (w268 : World) (a : Act), Fr a 132 [(0, .int .i64 a1), (1, .int .i64 a2), (10, .int .i64 t41.2), (13, .int .i64 t113.2)] → Ev (fun x => False ∨ m ≤ x) c0 w0 c267 w268 → CB (m + 4) c267 w268 → haulagelaw23_RouteHomes.j11 a1 a2 t41 t113 = some r → K172 a w268 := by
            intro c267 w268 a  F E B  H
            unfold haulagelaw23_RouteHomes.j11 at H
            refine hK172 _ _ ?_
            refine wp_seq_k fun K269 hK269 => ?_
            refine reg ?_
            refine q_val F rfl rfl (by decide) (r_move F rfl) fun a F => ?_
            obtain ⟨t270, q271, H⟩ := bind_some H
            refine q_call F rfl rfl (by decide) (r_call F Try.func11 rfl (by kernel_rfl) rfl) (haulagelaw23_num.calls (m := m + 4) (by omega) B _ q271) ?_
            rintro e w273 ⟨c272, rfl, E274, B275⟩
            refine ⟨_, rfl, fun a F => ?_⟩
            have B := B275
            have E := E.trans E274 (fun x q => q.elim)
            refine q_val F rfl rfl (by decide) (r_eql F rfl rfl) fun a F => ?_
            refine q_val F rfl rfl (by decide) (r_move F rfl) fun a F => ?_
            refine q_val F rfl rfl (by decide) (r_lss F rfl rfl) fun a F => ?_
            refine q_val F rfl rfl (by decide) (r_beql F Try.underlying4 rfl rfl) fun a F => ?_
            refine q_val F rfl rfl (by decide) (r_move F rfl) fun a F => ?_
            by_cases hb277 : ((decide (t270 = 0)) == (decide (a1 < 8))) = true
            · have H := (if_pos hb277).symm.trans H
              refine q_yes F rfl (by decide) rfl hb277 ?_
              refine q_val F rfl rfl (by decide) (r_move F rfl) fun a F => ?_
              obtain ⟨t278, q279, H⟩ := bind_some H
              refine q_yes F rfl (by decide) rfl hb277 ?_
              refine q_call F rfl rfl (by decide) (r_call F Try.func11 rfl (by kernel_rfl) rfl) (haulagelaw23_num.calls (m := m + 4) (by omega) B _ q279) ?_
              rintro e w281 ⟨c280, rfl, E282, B283⟩
              refine ⟨_, rfl, fun a F => ?_⟩
              have B := B283
              have E := E.trans E282 (fun x q => q.elim)
              refine q_yes F rfl (by decide) rfl hb277 ?_
              refine q_val F rfl rfl (by decide) (r_eql F rfl rfl) fun a F => ?_
              refine q_yes F rfl (by decide) rfl hb277 ?_
              refine q_val F rfl rfl (by decide) (r_move F rfl) fun a F => ?_
              refine q_yes F rfl (by decide) rfl hb277 ?_
              refine q_val F rfl rfl (by decide) (r_lss F rfl rfl) fun a F => ?_
              refine q_yes F rfl (by decide) rfl hb277 ?_
              refine q_val F rfl rfl (by decide) (r_beql F Try.underlying4 rfl rfl) fun a F => ?_
              refine q_val F rfl rfl (by decide) (r_pick_t F rfl hb277 rfl) fun a F => ?_
              refine q_val F rfl rfl (by decide) (r_assign F rfl) fun a F => ?_
              refine nil ?_
              refine hK269 _ _ ?_
              refine wp_ret ?_
              have H := Option.some.inj H
              subst H
              refine out1 F rfl rfl ?_
              exact ⟨fun b_ => (fun x_ => if x_ < m then x_ else 0) (c280 b_), rfl, E.leave B0 (fun x_ => if x_ < m then x_ else 0) (by intro x_ hx_; show (if x_ < m then x_ else 0) = x_; ((repeat' split) <;> omega)), (fun b_ hb_ => by show (if (c280 b_) < m then (c280 b_) else 0) < m; ((repeat' split) <;> omega))⟩
            · have H := (if_neg hb277).symm.trans H
              refine q_no F rfl (by decide) rfl (bfalse hb277) (by decide) fun a F => ?_
              refine q_no F rfl (by decide) rfl (bfalse hb277) (by decide) fun a F => ?_
              refine q_no F rfl (by decide) rfl (bfalse hb277) (by decide) fun a F => ?_
              refine q_no F rfl (by decide) rfl (bfalse hb277) (by decide) fun a F => ?_
              refine q_no F rfl (by decide) rfl (bfalse hb277) (by decide) fun a F => ?_
              refine q_no F rfl (by decide) rfl (bfalse hb277) (by decide) fun a F => ?_
              refine q_val F rfl rfl (by decide) (r_pick_f F rfl (bfalse hb277) rfl) fun a F => ?_
              refine q_val F rfl rfl (by decide) (r_assign F rfl) fun a F => ?_
              refine nil ?_
              refine hK269 _ _ ?_
              refine wp_ret ?_
              have H := Option.some.inj H
              subst H
              refine out1 F rfl rfl ?_
              exact ⟨fun b_ => (fun x_ => if x_ < m then x_ else 0) (c272 b_), rfl, E.leave B0 (fun x_ => if x_ < m then x_ else 0) (by intro x_ hx_; show (if x_ < m then x_ else 0) = x_; ((repeat' split) <;> omega)), (fun b_ hb_ => by show (if (c272 b_) < m then (c272 b_) else 0) < m; ((repeat' split) <;> omega))⟩
          refine loop_fuel (I := fun n a w => ∃ (i174 : Int) (c : Nat → Nat), Fr a 132 [(0, .int .i64 a1), (1, .int .i64 a2), (2, .slice A4 a3.length C5), (7, .pointer p26), (10, .int .i64 t41.2), (12, .pointer p119), (13, .int .i64 t113.2), (15, .int .i64 i174)] ∧ Ev (fun x => False ∨ m ≤ x) c0 w0 c w ∧ CB (m + 4) c w ∧ SL false (Kslice (Kint .u8)) 0 0 c w A4 C5 a3 ∧ RU (m + 1) c w p26 t20.1 ∧ RU (m + 3) c w p119 t113.1 ∧ loop (fun (s_ : Int) => haulagelaw23_RouteHomes.b10 a2 a3 t20 t113 s_) n i174 = some x184) (k := k) ⟨0, c170, F.sub ⟨rfl, rfl, rfl, rfl, rfl, rfl, rfl, rfl, trivial⟩, E, B, h6, h27, h120, HL⟩ ?_
          clear HL H E F B
          intro n181 X177 hX177 a w176 ⟨i174, c175, F, E, B, h6, h27, h120, HL⟩
          obtain ⟨n182, ctl180, rfl, HB, HN178, HD179⟩ := loop_some HL
          have H : haulagelaw23_RouteHomes.b10 a2 a3 t20 t113 i174 = some ctl180 := HB
          clear HB HL
          unfold haulagelaw23_RouteHomes.b10 at H
          refine wp_seq_k fun K185 hK185 => ?_
          refine wp_seq_k fun K186 hK186 => ?_
          have J196 : ∀ (c197 : Nat → Nat) (w198 : World) (a : Act) (b195 : Bool), Fr a 132 [(0, .int .i64 a1), (1, .int .i64 a2), (2, .slice A4 a3.length C5), (7, .pointer p26), (10, .int .i64 t41.2), (12, .pointer p119), (13, .int .i64 t113.2), (15, .int .i64 i174), (92, .bool b195)] → Ev (fun x => False ∨ m ≤ x) c0 w0 c197 w198 → CB (m + 4) c197 w198 → SL false (Kslice (Kint .u8)) 0 0 c197 w198 A4 C5 a3 → RU (m + 1) c197 w198 p26 t20.1 → RU (m + 3) c197 w198 p119 t113.1 → haulagelaw23_RouteHomes.j8 a2 a3 t20 t113 i174 b195 = some ctl180 → K186 a w198 := by
            intro c197 w198 a b195 F E B h6 h27 h120 H
            unfold haulagelaw23_RouteHomes.j8 at H
            refine hK186 _ _ ?_
            by_cases hb199 : b195 = true
            · have H := (if_pos hb199).symm.trans H
              refine wp_cond_true ((F.ev rfl).trans (congrArg Value.bool hb199)) ?_
              refine wp_skip ?_
              refine hK185 _ _ ?_
              refine wp_seq_k fun K200 hK200 => ?_
              refine wp_block ?_
              refine wp_seq_k fun K201 hK201 => ?_
              have J260 : ∀ (c261 : Nat → Nat) (w262 : World) (a : Act) (b259 : Bool), Fr a 132 [(0, .int .i64 a1), (1, .int .i64 a2), (2, .slice A4 a3.length C5), (7, .pointer p26), (10, .int .i64 t41.2), (12, .pointer p119), (13, .int .i64 t113.2), (15, .int .i64 i174), (117, .bool b259)] → Ev (fun x => False ∨ m ≤ x) c0 w0 c261 w262 → CB (m + 4) c261 w262 → SL false (Kslice (Kint .u8)) 0 0 c261 w262 A4 C5 a3 → RU (m + 1) c261 w262 p26 t20.1 → RU (m + 3) c261 w262 p119 t113.1 → haulagelaw23_RouteHomes.j9 i174 b259 = some ctl180 → K201 a w262 := by
                intro c261 w262 a b259 F E B h6 h27 h120 H
                unfold haulagelaw23_RouteHomes.j9 at H
                refine hK201 _ _ ?_
                by_cases hb263 : b259 = true
                · have H := (if_pos hb263).symm.trans H
                  refine wp_cond_true ((F.ev rfl).trans (congrArg Value.bool hb263)) ?_
                  refine wp_seq_k fun K264 hK264 => ?_
                  refine reg ?_
                  refine q_val F rfl rfl (by decide) (r_assign F rfl) fun a F => ?_
                  refine nil ?_
                  refine hK264 _ _ ?_
                  refine wp_ret ?_
                  refine inbR ?_
                  refine thenR ?_
                  refine thenR ?_
                  refine inbR ?_
                  refine thenR ?_
                  have hx_ := HD179 _ (Option.some.inj H).symm
                  have H := HR183
                  rw [← hx_] at H
                  replace H : some false = some r := H
                  have H := Option.some.inj H
                  subst H
                  refine out1 F rfl rfl ?_
                  exact ⟨fun b_ => (fun x_ => if x_ < m then x_ else 0) (c261 b_), rfl, E.leave B0 (fun x_ => if x_ < m then x_ else 0) (by intro x_ hx_; show (if x_ < m then x_ else 0) = x_; ((repeat' split) <;> omega)), (fun b_ hb_ => by show (if (c261 b_) < m then (c261 b_) else 0) < m; ((repeat' split) <;> omega))⟩
                · have H := (if_neg hb263).symm.trans H
                  refine wp_cond_false ((F.ev rfl).trans (congrArg Value.bool (bfalse hb263))) ?_
                  refine wp_skip ?_
                  refine hK200 _ _ ?_
                  refine reg ?_
                  refine q_val F rfl rfl (by decide) (r_move F rfl) fun a F => ?_
                  refine q_val F rfl rfl (by decide) (r_add F rfl rfl) fun a F => ?_
                  refine q_val F rfl rfl (by decide) (r_assign F rfl) fun a F => ?_
                  refine nil ?_
                  have H := HN178 _ (Option.some.inj H).symm
                  exact hX177 _ _ _ (Nat.lt_succ_self _) ⟨(IntKind.i64.wrap (i174 + 1)), c261, F.sub ⟨rfl, rfl, rfl, rfl, rfl, rfl, rfl, rfl, trivial⟩, E, B, h6, h27, h120, H⟩
              refine regD (SB No c197 w198) 23 (.q 0 (.q 1 (.q 2 (.q 3 (.q 4 (.q 6 (.q 7 (.q 8 (.q 9 (.q 10 (.e 5 (.e 11 (.q 12 (.q 13 (.q 14 (.q 15 (.q 16 (.q 17 (.q 18 (.q 20 (.e 19 (.q 21 (.q 22 .nil))))))))))))))))))))))) Try_hm (by decide +kernel) ?_
              intro w202 w1_ w2_ w3_ w4_
              have E203 : Ev No c197 w198 c197 w202 := Ev.same w1_ w2_ w3_ w4_
              have B := B.same w1_
              have zh6 := h6
              have zh27 := h27
              have zh120 := h120
              have ER : Ev No c197 w198 c197 w202 := Ev.same w1_ w2_ w3_ w4_
              have h6 := SL.ev h6 E203 (fun q => q.elim) (fun q => q.elim)
              have h27 := RU.ev h27 E203 (fun q => q.elim) (fun q => q.elim)
              have h120 := RU.ev h120 E203 (fun q => q.elim) (fun q => q.elim)
              have E := E.trans E203 (fun x q => q.elim)
              refine d_q F rfl rfl rfl (by decide) (fun wq hS => r_move F rfl) ER.sb fun a F => ?_
              refine d_q F rfl rfl rfl (by decide) (fun wq hS => r_move F rfl) ER.sb fun a F => ?_
              refine d_q F rfl rfl rfl (by decide) (fun wq hS => r_move F rfl) ER.sb fun a F => ?_
              obtain ⟨g204, H⟩ := ifN H
              obtain ⟨ad205, cs206, e207, h208, r209⟩ := SL.at zh6 i174 g204.1 g204.2
              obtain ⟨A210, C211, rfl, h212⟩ := r209
              have h212 := SL.fl (i' := 0) h212 (fun q => q)
              obtain ⟨qa213, qqa213⟩ : ∃ q, q = (ad205.add (i174.toNat * 1)) := ⟨_, rfl⟩
              have h208 : AT false 0 c197 w198 qa213 [.slice A210 (rd a3 i174).length C211] := by rw [qqa213]; exact h208
              have zh212 := h212
              have h212 := SL.ev h212 ER (fun q => q.elim) (fun q => q.elim)
              have zh208 := h208
              have h208 := AT.ev h208 ER (fun q => q.elim)
              refine d_q F rfl rfl rfl (by decide) (fun wq hS => r_indexAddr' F Try.underlying34 sz_36 rfl rfl g204.1 g204.2 e207 qqa213) ER.sb fun a F => ?_
              refine d_q F rfl rfl rfl (by decide) (fun wq hS => r_load F rfl ag_36 (AT.cell0 (AT.sb zh208 hS (fun q => q.elim)) rfl)) ER.sb fun a F => ?_
              refine d_q F rfl rfl rfl (by decide) (fun wq hS => r_move F rfl) ER.sb fun a F => ?_
              refine d_q F rfl rfl rfl (by decide) (fun wq hS => r_move F rfl) ER.sb fun a F => ?_
              refine d_q F rfl rfl rfl (by decide) (fun wq hS => r_move F rfl) ER.sb fun a F => ?_
              obtain ⟨g215, H⟩ := ifN H
              obtain ⟨ad216, cs217, e218, h219, r220⟩ := SL.at zh6 i174 g215.1 g215.2
              obtain ⟨A221, C222, rfl, h223⟩ := r220
              have h223 := SL.fl (i' := 0) h223 (fun q => q)
              obtain ⟨qa224, qqa224⟩ : ∃ q, q = (ad216.add (i174.toNat * 1)) := ⟨_, rfl⟩
              have h219 : AT false 0 c197 w198 qa224 [.slice A221 (rd a3 i174).length C222] := by rw [qqa224]; exact h219
              have zh223 := h223
              have h223 := SL.ev h223 ER (fun q => q.elim) (fun q => q.elim)
              have zh219 := h219
              have h219 := AT.ev h219 ER (fun q => q.elim)
              refine d_q F rfl rfl rfl (by decide) (fun wq hS => r_indexAddr' F Try.underlying34 sz_36 rfl rfl g215.1 g215.2 e218 qqa224) ER.sb fun a F => ?_
              refine d_q F rfl rfl rfl (by decide) (fun wq hS => r_load F rfl ag_36 (AT.cell0 (AT.sb zh219 hS (fun q => q.elim)) rfl)) ER.sb fun a F => ?_
              refine d_e ?_
              obtain ⟨t226, q227, H⟩ := bind_some H
              refine o_call F rfl (wanted_none rfl) rfl (by decide) (r_call F Try.func17 rfl (by kernel_rfl) rfl) (route_Route_Shard.calls (m := m + 4) (by omega) B h120 h212 (by omega) (by omega) _ q227) ?_
              rintro e w229 ⟨c228, rfl, E230, B231⟩
              refine ⟨_, rfl, fun a F => ?_⟩
              have B := B231
              have ER := ER.trans E230 (fun x q => q.elim)
              have h6 := SL.ev h6 E230 (fun q => q.elim) (fun q => q.elim)
              have h27 := RU.ev h27 E230 (fun q => q.elim) (fun q => q.elim)
              have h120 := RU.ev h120 E230 (fun q => q.elim) (fun q => q.elim)
              have h212 := SL.ev h212 E230 (fun q => q.elim) (fun q => q.elim)
              have h208 := AT.ev h208 E230 (fun q => q.elim)
              have h223 := SL.ev h223 E230 (fun q => q.elim) (fun q => q.elim)
              have h219 := AT.ev h219 E230 (fun q => q.elim)
              have E := E.trans E230 (fun x q => q.elim)
              refine ⟨fun _ => ER.sb, ?_⟩
              refine d_e ?_
              obtain ⟨t233, q234, H⟩ := bind_some H
              refine o_call F rfl (wanted_none rfl) rfl (by decide) (r_call F Try.func17 rfl (by kernel_rfl) rfl) (route_Route_Shard.calls (m := m + 4) (by omega) B h27 h223 (by omega) (by omega) _ q234) ?_
              rintro e w236 ⟨c235, rfl, E237, B238⟩
              refine ⟨_, rfl, fun a F => ?_⟩
              have B := B238
              have ER := ER.trans E237 (fun x q => q.elim)
              have h6 := SL.ev h6 E237 (fun q => q.elim) (fun q => q.elim)
              have h27 := RU.ev h27 E237 (fun q => q.elim) (fun q => q.elim)
              have h120 := RU.ev h120 E237 (fun q => q.elim) (fun q => q.elim)
              have h212 := SL.ev h212 E237 (fun q => q.elim) (fun q => q.elim)
              have h208 := AT.ev h208 E237 (fun q => q.elim)
              have h223 := SL.ev h223 E237 (fun q => q.elim) (fun q => q.elim)
              have h219 := AT.ev h219 E237 (fun q => q.elim)
              have E := E.trans E237 (fun x q => q.elim)
              refine ⟨fun _ => ER.sb, ?_⟩
              refine d_q F rfl rfl rfl (by decide) (fun wq hS => r_neq F rfl rfl) ER.sb fun a F => ?_
              refine d_q F rfl rfl rfl (by decide) (fun wq hS => r_move F rfl) ER.sb fun a F => ?_
              by_cases hb240 : t226 = t233
              · have H := (if_pos hb240).symm.trans H
                refine d_qn F rfl rfl rfl (by decide) rfl (congrArg not (decide_eq_true hb240)) rfl (by decide) ER.sb fun a F => ?_
                refine d_qn F rfl rfl rfl (by decide) rfl (congrArg not (decide_eq_true hb240)) rfl (by decide) ER.sb fun a F => ?_
                refine d_qn F rfl rfl rfl (by decide) rfl (congrArg not (decide_eq_true hb240)) rfl (by decide) ER.sb fun a F => ?_
                refine d_qn F rfl rfl rfl (by decide) rfl (congrArg not (decide_eq_true hb240)) rfl (by decide) ER.sb fun a F => ?_
                refine d_qn F rfl rfl rfl (by decide) rfl (congrArg not (decide_eq_true hb240)) rfl (by decide) ER.sb fun a F => ?_
                refine d_qn F rfl rfl rfl (by decide) rfl (congrArg not (decide_eq_true hb240)) rfl (by decide) ER.sb fun a F => ?_
                refine d_e ?_
                refine o_no F rfl rfl rfl (by decide) rfl (congrArg not (decide_eq_true hb240)) rfl (by decide) fun a F => ?_
                refine ⟨fun _ => ER.sb, ?_⟩
                refine d_qn F rfl rfl rfl (by decide) rfl (congrArg not (decide_eq_true hb240)) rfl (by decide) ER.sb fun a F => ?_
                refine d_q F rfl rfl rfl (by decide) (fun wq hS => r_pick_f F rfl (congrArg not (decide_eq_true hb240)) rfl) ER.sb fun a F => ?_
                refine d_nil ?_
                exact J260 c235 w236 a false (F.sub ⟨rfl, rfl, rfl, rfl, rfl, rfl, rfl, rfl, rfl, trivial⟩) E B h6 h27 h120 H
              · have H := (if_neg hb240).symm.trans H
                refine d_qy F rfl rfl rfl (by decide) rfl (congrArg not (decide_eq_false hb240)) rfl (by decide) (fun wq hS => r_move F rfl) ER.sb fun a F => ?_
                refine d_qy F rfl rfl rfl (by decide) rfl (congrArg not (decide_eq_false hb240)) rfl (by decide) (fun wq hS => r_move F rfl) ER.sb fun a F => ?_
                refine d_qy F rfl rfl rfl (by decide) rfl (congrArg not (decide_eq_false hb240)) rfl (by decide) (fun wq hS => r_move F rfl) ER.sb fun a F => ?_
                obtain ⟨g241, H⟩ := ifN H
                obtain ⟨ad242, cs243, e244, h245, r246⟩ := SL.at zh6 i174 g241.1 g241.2
                obtain ⟨A247, C248, rfl, h249⟩ := r246
                have h249 := SL.fl (i' := 0) h249 (fun q => q)
                obtain ⟨qa250, qqa250⟩ : ∃ q, q = (ad242.add (i174.toNat * 1)) := ⟨_, rfl⟩
                have h245 : AT false 0 c197 w198 qa250 [.slice A247 (rd a3 i174).length C248] := by rw [qqa250]; exact h245
                have zh249 := h249
                have h249 := SL.ev h249 ER (fun q => q.elim) (fun q => q.elim)
                have zh245 := h245
                have h245 := AT.ev h245 ER (fun q => q.elim)
                refine d_qy F rfl rfl rfl (by decide) rfl (congrArg not (decide_eq_false hb240)) rfl (by decide) (fun wq hS => r_indexAddr' F Try.underlying34 sz_36 rfl rfl g241.1 g241.2 e244 qqa250) ER.sb fun a F => ?_
                refine d_qy F rfl rfl rfl (by decide) rfl (congrArg not (decide_eq_false hb240)) rfl (by decide) (fun wq hS => r_load F rfl ag_36 (AT.cell0 (AT.sb zh245 hS (fun q => q.elim)) rfl)) ER.sb fun a F => ?_
                refine d_qy F rfl rfl rfl (by decide) rfl (congrArg not (decide_eq_false hb240)) rfl (by decide) (fun wq hS => r_move F rfl) ER.sb fun a F => ?_
                refine d_e ?_
                obtain ⟨t252, q253, H⟩ := bind_some H
                refine o_call F rfl (wanted_yes F rfl rfl (by decide) rfl (congrArg not (decide_eq_false hb240))) rfl (by decide) (r_call F Try.func17 rfl (by kernel_rfl) rfl) (route_Route_Shard.calls (m := m + 4) (by omega) B h120 h249 (by omega) (by omega) _ q253) ?_
                rintro e w255 ⟨c254, rfl, E256, B257⟩
                refine ⟨_, rfl, fun a F => ?_⟩
                have B := B257
                have ER := ER.trans E256 (fun x q => q.elim)
                have h6 := SL.ev h6 E256 (fun q => q.elim) (fun q => q.elim)
                have h27 := RU.ev h27 E256 (fun q => q.elim) (fun q => q.elim)
                have h120 := RU.ev h120 E256 (fun q => q.elim) (fun q => q.elim)
                have h212 := SL.ev h212 E256 (fun q => q.elim) (fun q => q.elim)
                have h208 := AT.ev h208 E256 (fun q => q.elim)
                have h223 := SL.ev h223 E256 (fun q => q.elim) (fun q => q.elim)
                have h219 := AT.ev h219 E256 (fun q => q.elim)
                have h249 := SL.ev h249 E256 (fun q => q.elim) (fun q => q.elim)
                have h245 := AT.ev h245 E256 (fun q => q.elim)
                have E := E.trans E256 (fun x q => q.elim)
                refine ⟨fun _ => ER.sb, ?_⟩
                refine d_qy F rfl rfl rfl (by decide) rfl (congrArg not (decide_eq_false hb240)) rfl (by decide) (fun wq hS => r_neq F rfl rfl) ER.sb fun a F => ?_
                refine d_q F rfl rfl rfl (by decide) (fun wq hS => r_pick_t F rfl (congrArg not (decide_eq_false hb240)) rfl) ER.sb fun a F => ?_
                refine d_nil ?_
                exact J260 c254 w255 a (!decide (t252 = a2)) (F.sub ⟨rfl, rfl, rfl, rfl, rfl, rfl, rfl, rfl, rfl, trivial⟩) E B h6 h27 h120 H
            · have H := (if_neg hb199).symm.trans H
              refine wp_cond_false ((F.ev rfl).trans (congrArg Value.bool (bfalse hb199))) ?_
              refine wp_exit ?_
              refine thenE ?_
              refine thenE ?_
              refine inbE ?_
              have hx_ := HD179 _ (Option.some.inj H).symm
              have H := HR183
              rw [← hx_] at H
              exact J266 c197 w198 a  (F.sub ⟨rfl, rfl, rfl, rfl, trivial⟩) E B  H
          refine reg ?_
          refine q_val F rfl rfl (by decide) (r_move F rfl) fun a F => ?_
          refine q_val F rfl rfl (by decide) (r_move F rfl) fun a F => ?_
          refine q_val F rfl rfl (by decide) (r_lensl F Try.underlying34 rfl) fun a F => ?_
          refine q_val F rfl rfl (by decide) (r_lss F rfl rfl) fun a F => ?_
          refine q_val F rfl rfl (by decide) (r_move F rfl) fun a F => ?_
          by_cases hb187 : i174 < (a3.length : Int)
          · have H := (if_pos hb187).symm.trans H
            refine q_yes F rfl (by decide) rfl (decide_eq_true hb187) ?_
            refine q_val F rfl rfl (by decide) (r_move F rfl) fun a F => ?_
            obtain ⟨t188, q189, H⟩ := bind_some H
            refine q_yes F rfl (by decide) rfl (decide_eq_true hb187) ?_
            refine q_call F rfl rfl (by decide) (r_call F Try.func11 rfl (by kernel_rfl) rfl) (haulagelaw23_num.calls (m := m + 4) (by omega) B _ q189) ?_
            rintro e w191 ⟨c190, rfl, E192, B193⟩
            refine ⟨_, rfl, fun a F => ?_⟩
            have B := B193
            have h6 := SL.ev h6 E192 (fun q => q.elim) (fun q => q.elim)
            have h27 := RU.ev h27 E192 (fun q => q.elim) (fun q => q.elim)
            have h120 := RU.ev h120 E192 (fun q => q.elim) (fun q => q.elim)
            have E := E.trans E192 (fun x q => q.elim)
            refine q_yes F rfl (by decide) rfl (decide_eq_true hb187) ?_
            refine q_val F rfl rfl (by decide) (r_eql F rfl rfl) fun a F => ?_
            refine q_val F rfl rfl (by decide) (r_pick_t F rfl (decide_eq_true hb187) rfl) fun a F => ?_
            refine nil ?_
            exact J196 c190 w191 a (decide (t188 = 0)) (F.sub ⟨rfl, rfl, rfl, rfl, rfl, rfl, rfl, rfl, rfl, trivial⟩) E B h6 h27 h120 H
          · have H := (if_neg hb187).symm.trans H
            refine q_no F rfl (by decide) rfl (decide_eq_false hb187) (by decide) fun a F => ?_
            refine q_no F rfl (by decide) rfl (decide_eq_false hb187) (by decide) fun a F => ?_
            refine q_no F rfl (by decide) rfl (decide_eq_false hb187) (by decide) fun a F => ?_
            refine q_val F rfl rfl (by decide) (r_pick_f F rfl (decide_eq_false hb187) rfl) fun a F => ?_
            refine nil ?_
            exact J196 c175 w176 a false (F.sub ⟨rfl, rfl, rfl, rfl, rfl, rfl, rfl, rfl, rfl, trivial⟩) E B h6 h27 h120 H
        refine loop_fuel (I := fun n a w => ∃ (i124 : Int) (c : Nat → Nat), Fr a 132 [(0, .int .i64 a1), (1, .int .i64 a2), (2, .slice A4 a3.length C5), (7, .pointer p26), (10, .int .i64 t41.2), (12, .pointer p119), (13, .int .i64 t113.2), (14, .int .i64 i124)] ∧ Ev (fun x => False ∨ m ≤ x) c0 w0 c w ∧ CB (m + 4) c w ∧ SL false (Kslice (Kint .u8)) 0 0 c w A4 C5 a3 ∧ RU (m + 1) c w p26 t20.1 ∧ RU (m + 3) c w p119 t113.1 ∧ loop (fun (s_ : Int) => haulagelaw23_RouteHomes.b6 a2 t20 t113 s_) n i124 = some x134) (k := k) ⟨0, c115, F.sub ⟨rfl, rfl, rfl, rfl, rfl, rfl, rfl, rfl, trivial⟩, E, B, h6, h27, h120, HL⟩ ?_
        clear HL H E F B
        intro n131 X127 hX127 a w126 ⟨i124, c125, F, E, B, h6, h27, h120, HL⟩
        obtain ⟨n132, ctl130, rfl, HB, HN128, HD129⟩ := loop_some HL
        have H : haulagelaw23_RouteHomes.b6 a2 t20 t113 i124 = some ctl130 := HB
        clear HB HL
        unfold haulagelaw23_RouteHomes.b6 at H
        refine wp_seq_k fun K135 hK135 => ?_
        refine wp_seq_k fun K136 hK136 => ?_
        have J146 : ∀ (c147 : Nat → Nat) (w148 : World) (a : Act) (b145 : Bool), Fr a 132 [(0, .int .i64 a1), (1, .int .i64 a2), (2, .slice A4 a3.length C5), (7, .pointer p26), (10, .int .i64 t41.2), (12, .pointer p119), (13, .int .i64 t113.2), (14, .int .i64 i124), (74, .bool b145)] → Ev (fun x => False ∨ m ≤ x) c0 w0 c147 w148 → CB (m + 4) c147 w148 → SL false (Kslice (Kint .u8)) 0 0 c147 w148 A4 C5 a3 → RU (m + 1) c147 w148 p26 t20.1 → RU (m + 3) c147 w148 p119 t113.1 → haulagelaw23_RouteHomes.j5 t20 t113 i124 b145 = some ctl130 → K136 a w148 := by
          intro c147 w148 a b145 F E B h6 h27 h120 H
          unfold haulagelaw23_RouteHomes.j5 at H
          refine hK136 _ _ ?_
          by_cases hb149 : b145 = true
          · have H := (if_pos hb149).symm.trans H
            refine wp_cond_true ((F.ev rfl).trans (congrArg Value.bool hb149)) ?_
            refine wp_skip ?_
            refine hK135 _ _ ?_
            refine wp_seq_k fun K150 hK150 => ?_
            refine wp_block ?_
            refine wp_seq_k fun K151 hK151 => ?_
            refine reg ?_
            refine q_val F rfl rfl (by decide) (r_move F rfl) fun a F => ?_
            refine q_val F rfl rfl (by decide) (r_move F rfl) fun a F => ?_
            obtain ⟨t152, q153, H⟩ := bind_some H
            refine q_call F rfl rfl (by decide) (r_call F Try.func14 rfl (by kernel_rfl) rfl) (route_Route_Where.calls (m := m + 4) (by omega) B h120 (by omega) _ q153) ?_
            rintro e w155 ⟨c154, rfl, E156, B157⟩
            refine ⟨_, rfl, fun a F => ?_⟩
            have B := B157
            have h6 := SL.ev h6 E156 (fun q => q.elim) (fun q => q.elim)
            have h27 := RU.ev h27 E156 (fun q => q.elim) (fun q => q.elim)
            have h120 := RU.ev h120 E156 (fun q => q.elim) (fun q => q.elim)
            have E := E.trans E156 (fun x q => q.elim)
            refine q_val F rfl rfl (by decide) (r_move F rfl) fun a F => ?_
            refine q_val F rfl rfl (by decide) (r_move F rfl) fun a F => ?_
            obtain ⟨t159, q160, H⟩ := bind_some H
            refine q_call F rfl rfl (by decide) (r_call F Try.func14 rfl (by kernel_rfl) rfl) (route_Route_Where.calls (m := m + 4) (by omega) B h27 (by omega) _ q160) ?_
            rintro e w162 ⟨c161, rfl, E163, B164⟩
            refine ⟨_, rfl, fun a F => ?_⟩
            have B := B164
            have h6 := SL.ev h6 E163 (fun q => q.elim) (fun q => q.elim)
            have h27 := RU.ev h27 E163 (fun q => q.elim) (fun q => q.elim)
            have h120 := RU.ev h120 E163 (fun q => q.elim) (fun q => q.elim)
            have E := E.trans E163 (fun x q => q.elim)
            refine q_val F rfl rfl (by decide) (r_neq F rfl rfl) fun a F => ?_
            refine nil ?_
            refine hK151 _ _ ?_
            by_cases hb166 : t152 = t159
            · have H := (if_pos hb166).symm.trans H
              refine wp_cond_false ((F.ev rfl).trans (congrArg Value.bool (congrArg not (decide_eq_true hb166)))) ?_
              refine wp_skip ?_
              refine hK150 _ _ ?_
              refine reg ?_
              refine q_val F rfl rfl (by decide) (r_move F rfl) fun a F => ?_
              refine q_val F rfl rfl (by decide) (r_add F rfl rfl) fun a F => ?_
              refine q_val F rfl rfl (by decide) (r_assign F rfl) fun a F => ?_
              refine nil ?_
              have H := HN128 _ (Option.some.inj H).symm
              exact hX127 _ _ _ (Nat.lt_succ_self _) ⟨(IntKind.i64.wrap (i124 + 1)), c161, F.sub ⟨rfl, rfl, rfl, rfl, rfl, rfl, rfl, rfl, trivial⟩, E, B, h6, h27, h120, H⟩
            · have H := (if_neg hb166).symm.trans H
              refine wp_cond_true ((F.ev rfl).trans (congrArg Value.bool (congrArg not (decide_eq_false hb166)))) ?_
              refine wp_seq_k fun K167 hK167 => ?_
              refine reg ?_
              refine q_val F rfl rfl (by decide) (r_assign F rfl) fun a F => ?_
              refine nil ?_
              refine hK167 _ _ ?_
              refine wp_ret ?_
              refine inbR ?_
              refine thenR ?_
              refine thenR ?_
              refine inbR ?_
              refine thenR ?_
              have hx_ := HD129 _ (Option.some.inj H).symm
              have H := HR133
              rw [← hx_] at H
              replace H : some false = some r := H
              have H := Option.some.inj H
              subst H
              refine out1 F rfl rfl ?_
              exact ⟨fun b_ => (fun x_ => if x_ < m then x_ else 0) (c161 b_), rfl, E.leave B0 (fun x_ => if x_ < m then x_ else 0) (by intro x_ hx_; show (if x_ < m then x_ else 0) = x_; ((repeat' split) <;> omega)), (fun b_ hb_ => by show (if (c161 b_) < m then (c161 b_) else 0) < m; ((repeat' split) <;> omega))⟩
          · have H := (if_neg hb149).symm.trans H
            refine wp_cond_false ((F.ev rfl).trans (congrArg Value.bool (bfalse hb149))) ?_
            refine wp_exit ?_
            refine thenE ?_
            refine thenE ?_
            refine inbE ?_
            have hx_ := HD129 _ (Option.some.inj H).symm
            have H := HR133
            rw [← hx_] at H
            exact J169 c147 w148 a  (F.sub ⟨rfl, rfl, rfl, rfl, rfl, rfl, rfl, trivial⟩) E B h6 h27 h120 H
        refine reg ?_
        refine q_val F rfl rfl (by decide) (r_move F rfl) fun a F => ?_
        refine q_val F rfl rfl (by decide) (r_move F rfl) fun a F => ?_
        refine q_val F rfl rfl (by decide) (r_lss F rfl rfl) fun a F => ?_
        refine q_val F rfl rfl (by decide) (r_move F rfl) fun a F => ?_
        by_cases hb137 : i124 < a2
        · have H := (if_pos hb137).symm.trans H
          refine q_yes F rfl (by decide) rfl (decide_eq_true hb137) ?_
          refine q_val F rfl rfl (by decide) (r_move F rfl) fun a F => ?_
          obtain ⟨t138, q139, H⟩ := bind_some H
          refine q_yes F rfl (by decide) rfl (decide_eq_true hb137) ?_
          refine q_call F rfl rfl (by decide) (r_call F Try.func11 rfl (by kernel_rfl) rfl) (haulagelaw23_num.calls (m := m + 4) (by omega) B _ q139) ?_
          rintro e w141 ⟨c140, rfl, E142, B143⟩
          refine ⟨_, rfl, fun a F => ?_⟩
          have B := B143
          have h6 := SL.ev h6 E142 (fun q => q.elim) (fun q => q.elim)
          have h27 := RU.ev h27 E142 (fun q => q.elim) (fun q => q.elim)
          have h120 := RU.ev h120 E142 (fun q => q.elim) (fun q => q.elim)
          have E := E.trans E142 (fun x q => q.elim)
          refine q_yes F rfl (by decide) rfl (decide_eq_true hb137) ?_
          refine q_val F rfl rfl (by decide) (r_eql F rfl rfl) fun a F => ?_
          refine q_val F rfl rfl (by decide) (r_pick_t F rfl (decide_eq_true hb137) rfl) fun a F => ?_
          refine nil ?_
          exact J146 c140 w141 a (decide (t138 = 0)) (F.sub ⟨rfl, rfl, rfl, rfl, rfl, rfl, rfl, rfl, rfl, trivial⟩) E B h6 h27 h120 H
        · have H := (if_neg hb137).symm.trans H
          refine q_no F rfl (by decide) rfl (decide_eq_false hb137) (by decide) fun a F => ?_
          refine q_no F rfl (by decide) rfl (decide_eq_false hb137) (by decide) fun a F => ?_
          refine q_no F rfl (by decide) rfl (decide_eq_false hb137) (by decide) fun a F => ?_
          refine q_val F rfl rfl (by decide) (r_pick_f F rfl (decide_eq_false hb137) rfl) fun a F => ?_
          refine nil ?_
          exact J146 c125 w126 a false (F.sub ⟨rfl, rfl, rfl, rfl, rfl, rfl, rfl, rfl, rfl, trivial⟩) E B h6 h27 h120 H
      refine loop_fuel (I := fun n a w => ∃ (i52 : Int) (c : Nat → Nat), Fr a 132 [(0, .int .i64 a1), (1, .int .i64 a2), (2, .slice A4 a3.length C5), (7, .pointer p26), (9, .pointer p47), (10, .int .i64 t41.2), (11, .int .i64 i52)] ∧ Ev (fun x => False ∨ m ≤ x) c0 w0 c w ∧ CB (m + 4) c w ∧ SL false (Kslice (Kint .u8)) 0 0 c w A4 C5 a3 ∧ RU (m + 1) c w p26 t20.1 ∧ RU (m + 2) c w p47 t41.1 ∧ loop (fun (s_ : Int) => haulagelaw23_RouteHomes.b3 a1 a2 t20 t41 s_) n i52 = some x62) (k := k) ⟨0, c43, F.sub ⟨rfl, rfl, rfl, rfl, rfl, rfl, rfl, trivial⟩, E, B, h6, h27, h48, HL⟩ ?_
      clear HL H E F B
      intro n59 X55 hX55 a w54 ⟨i52, c53, F, E, B, h6, h27, h48, HL⟩
      obtain ⟨n60, ctl58, rfl, HB, HN56, HD57⟩ := loop_some HL
      have H : haulagelaw23_RouteHomes.b3 a1 a2 t20 t41 i52 = some ctl58 := HB
      clear HB HL
      unfold haulagelaw23_RouteHomes.b3 at H
      refine wp_seq_k fun K63 hK63 => ?_
      refine wp_seq_k fun K64 hK64 => ?_
      have J74 : ∀ (c75 : Nat → Nat) (w76 : World) (a : Act) (b73 : Bool), Fr a 132 [(0, .int .i64 a1), (1, .int .i64 a2), (2, .slice A4 a3.length C5), (7, .pointer p26), (9, .pointer p47), (10, .int .i64 t41.2), (11, .int .i64 i52), (43, .bool b73)] → Ev (fun x => False ∨ m ≤ x) c0 w0 c75 w76 → CB (m + 4) c75 w76 → SL false (Kslice (Kint .u8)) 0 0 c75 w76 A4 C5 a3 → RU (m + 1) c75 w76 p26 t20.1 → RU (m + 2) c75 w76 p47 t41.1 → haulagelaw23_RouteHomes.j1 a1 t20 t41 i52 b73 = some ctl58 → K64 a w76 := by
        intro c75 w76 a b73 F E B h6 h27 h48 H
        unfold haulagelaw23_RouteHomes.j1 at H
        refine hK64 _ _ ?_
        by_cases hb77 : b73 = true
        · have H := (if_pos hb77).symm.trans H
          refine wp_cond_true ((F.ev rfl).trans (congrArg Value.bool hb77)) ?_
          refine wp_skip ?_
          refine hK63 _ _ ?_
          refine wp_seq_k fun K78 hK78 => ?_
          refine wp_block ?_
          refine wp_seq_k fun K79 hK79 => ?_
          have J103 : ∀ (c104 : Nat → Nat) (w105 : World) (a : Act) (b102 : Bool), Fr a 132 [(0, .int .i64 a1), (1, .int .i64 a2), (2, .slice A4 a3.length C5), (7, .pointer p26), (9, .pointer p47), (10, .int .i64 t41.2), (11, .int .i64 i52), (59, .bool b102)] → Ev (fun x => False ∨ m ≤ x) c0 w0 c104 w105 → CB (m + 4) c104 w105 → SL false (Kslice (Kint .u8)) 0 0 c104 w105 A4 C5 a3 → RU (m + 1) c104 w105 p26 t20.1 → RU (m + 2) c104 w105 p47 t41.1 → haulagelaw23_RouteHomes.j2 i52 b102 = some ctl58 → K79 a w105 := by
            intro c104 w105 a b102 F E B h6 h27 h48 H
            unfold haulagelaw23_RouteHomes.j2 at H
            refine hK79 _ _ ?_
            by_cases hb106 : b102 = true
            · have H := (if_pos hb106).symm.trans H
              refine wp_cond_true ((F.ev rfl).trans (congrArg Value.bool hb106)) ?_
              refine wp_seq_k fun K107 hK107 => ?_
              refine reg ?_
              refine q_val F rfl rfl (by decide) (r_assign F rfl) fun a F => ?_
              refine nil ?_
              refine hK107 _ _ ?_
              refine wp_ret ?_
              refine inbR ?_
              refine thenR ?_
              refine thenR ?_
              refine inbR ?_
              refine thenR ?_
              have hx_ := HD57 _ (Option.some.inj H).symm
              have H := HR61
              rw [← hx_] at H
              replace H : some false = some r := H
              have H := Option.some.inj H
              subst H
              refine out1 F rfl rfl ?_
              exact ⟨fun b_ => (fun x_ => if x_ < m then x_ else 0) (c104 b_), rfl, E.leave B0 (fun x_ => if x_ < m then x_ else 0) (by intro x_ hx_; show (if x_ < m then x_ else 0) = x_; ((repeat' split) <;> omega)), (fun b_ hb_ => by show (if (c104 b_) < m then (c104 b_) else 0) < m; ((repeat' split) <;> omega))⟩
            · have H := (if_neg hb106).symm.trans H
              refine wp_cond_false ((F.ev rfl).trans (congrArg Value.bool (bfalse hb106))) ?_
              refine wp_skip ?_
              refine hK78 _ _ ?_
              refine reg ?_
              refine q_val F rfl rfl (by decide) (r_move F rfl) fun a F => ?_
              refine q_val F rfl rfl (by decide) (r_add F rfl rfl) fun a F => ?_
              refine q_val F rfl rfl (by decide) (r_assign F rfl) fun a F => ?_
              refine nil ?_
              have H := HN56 _ (Option.some.inj H).symm
              exact hX55 _ _ _ (Nat.lt_succ_self _) ⟨(IntKind.i64.wrap (i52 + 1)), c104, F.sub ⟨rfl, rfl, rfl, rfl, rfl, rfl, rfl, trivial⟩, E, B, h6, h27, h48, H⟩
          refine reg ?_
          refine q_val F rfl rfl (by decide) (r_move F rfl) fun a F => ?_
          refine q_val F rfl rfl (by decide) (r_move F rfl) fun a F => ?_
          obtain ⟨t80, q81, H⟩ := bind_some H
          refine q_call F rfl rfl (by decide) (r_call F Try.func14 rfl (by kernel_rfl) rfl) (route_Route_Where.calls (m := m + 4) (by omega) B h48 (by omega) _ q81) ?_
          rintro e w83 ⟨c82, rfl, E84, B85⟩
          refine ⟨_, rfl, fun a F => ?_⟩
          have B := B85
          have h6 := SL.ev h6 E84 (fun q => q.elim) (fun q => q.elim)
          have h27 := RU.ev h27 E84 (fun q => q.elim) (fun q => q.elim)
          have h48 := RU.ev h48 E84 (fun q => q.elim) (fun q => q.elim)
          have E := E.trans E84 (fun x q => q.elim)
          refine q_val F rfl rfl (by decide) (r_move F rfl) fun a F => ?_
          refine q_val F rfl rfl (by decide) (r_move F rfl) fun a F => ?_
          obtain ⟨t87, q88, H⟩ := bind_some H
          refine q_call F rfl rfl (by decide) (r_call F Try.func14 rfl (by kernel_rfl) rfl) (route_Route_Where.calls (m := m + 4) (by omega) B h27 (by omega) _ q88) ?_
          rintro e w90 ⟨c89, rfl, E91, B92⟩
          refine ⟨_, rfl, fun a F => ?_⟩
          have B := B92
          have h6 := SL.ev h6 E91 (fun q => q.elim) (fun q => q.elim)
          have h27 := RU.ev h27 E91 (fun q => q.elim) (fun q => q.elim)
          have h48 := RU.ev h48 E91 (fun q => q.elim) (fun q => q.elim)
          have E := E.trans E91 (fun x q => q.elim)
          refine q_val F rfl rfl (by decide) (r_neq F rfl rfl) fun a F => ?_
          refine q_val F rfl rfl (by decide) (r_move F rfl) fun a F => ?_
          by_cases hb94 : t80 = t87
          · have H := (if_pos hb94).symm.trans H
            refine q_no F rfl (by decide) rfl (congrArg not (decide_eq_true hb94)) (by decide) fun a F => ?_
            refine q_no F rfl (by decide) rfl (congrArg not (decide_eq_true hb94)) (by decide) fun a F => ?_
            refine q_no F rfl (by decide) rfl (congrArg not (decide_eq_true hb94)) (by decide) fun a F => ?_
            refine q_no F rfl (by decide) rfl (congrArg not (decide_eq_true hb94)) (by decide) fun a F => ?_
            refine q_no F rfl (by decide) rfl (congrArg not (decide_eq_true hb94)) (by decide) fun a F => ?_
            refine q_val F rfl rfl (by decide) (r_pick_f F rfl (congrArg not (decide_eq_true hb94)) rfl) fun a F => ?_
            refine nil ?_
            exact J103 c89 w90 a false (F.sub ⟨rfl, rfl, rfl, rfl, rfl, rfl, rfl, rfl, trivial⟩) E B h6 h27 h48 H
          · have H := (if_neg hb94).symm.trans H
            refine q_yes F rfl (by decide) rfl (congrArg not (decide_eq_false hb94)) ?_
            refine q_val F rfl rfl (by decide) (r_move F rfl) fun a F => ?_
            refine q_yes F rfl (by decide) rfl (congrArg not (decide_eq_false hb94)) ?_
            refine q_val F rfl rfl (by decide) (r_move F rfl) fun a F => ?_
            obtain ⟨t95, q96, H⟩ := bind_some H
            refine q_yes F rfl (by decide) rfl (congrArg not (decide_eq_false hb94)) ?_
            refine q_call F rfl rfl (by decide) (r_call F Try.func14 rfl (by kernel_rfl) rfl) (route_Route_Where.calls (m := m + 4) (by omega) B h48 (by omega) _ q96) ?_
            rintro e w98 ⟨c97, rfl, E99, B100⟩
            refine ⟨_, rfl, fun a F => ?_⟩
            have B := B100
            have h6 := SL.ev h6 E99 (fun q => q.elim) (fun q => q.elim)
            have h27 := RU.ev h27 E99 (fun q => q.elim) (fun q => q.elim)
            have h48 := RU.ev h48 E99 (fun q => q.elim) (fun q => q.elim)
            have E := E.trans E99 (fun x q => q.elim)
            refine q_yes F rfl (by decide) rfl (congrArg not (decide_eq_false hb94)) ?_
            refine q_val F rfl rfl (by decide) (r_move F rfl) fun a F => ?_
            refine q_yes F rfl (by decide) rfl (congrArg not (decide_eq_false hb94)) ?_
            refine q_val F rfl rfl (by decide) (r_neq F rfl rfl) fun a F => ?_
            refine q_val F rfl rfl (by decide) (r_pick_t F rfl (congrArg not (decide_eq_false hb94)) rfl) fun a F => ?_
            refine nil ?_
            exact J103 c97 w98 a (!decide (t95 = a1)) (F.sub ⟨rfl, rfl, rfl, rfl, rfl, rfl, rfl, rfl, trivial⟩) E B h6 h27 h48 H
        · have H := (if_neg hb77).symm.trans H
          refine wp_cond_false ((F.ev rfl).trans (congrArg Value.bool (bfalse hb77))) ?_
          refine wp_exit ?_
          refine thenE ?_
          refine thenE ?_
          refine inbE ?_
          have hx_ := HD57 _ (Option.some.inj H).symm
          have H := HR61
          rw [← hx_] at H
          exact J109 c75 w76 a  (F.sub ⟨rfl, rfl, rfl, rfl, rfl, trivial⟩) E B h6 h27 H
      refine reg ?_
      refine q_val F rfl rfl (by decide) (r_move F rfl) fun a F => ?_
      refine q_val F rfl rfl (by decide) (r_move F rfl) fun a F => ?_
      refine q_val F rfl rfl (by decide) (r_lss F rfl rfl) fun a F => ?_
      refine q_val F rfl rfl (by decide) (r_move F rfl) fun a F => ?_
      by_cases hb65 : i52 < a2
      · have H := (if_pos hb65).symm.trans H
        refine q_yes F rfl (by decide) rfl (decide_eq_true hb65) ?_
        refine q_val F rfl rfl (by decide) (r_move F rfl) fun a F => ?_
        obtain ⟨t66, q67, H⟩ := bind_some H
        refine q_yes F rfl (by decide) rfl (decide_eq_true hb65) ?_
        refine q_call F rfl rfl (by decide) (r_call F Try.func11 rfl (by kernel_rfl) rfl) (haulagelaw23_num.calls (m := m + 4) (by omega) B _ q67) ?_
        rintro e w69 ⟨c68, rfl, E70, B71⟩
        refine ⟨_, rfl, fun a F => ?_⟩
        have B := B71
        have h6 := SL.ev h6 E70 (fun q => q.elim) (fun q => q.elim)
        have h27 := RU.ev h27 E70 (fun q => q.elim) (fun q => q.elim)
        have h48 := RU.ev h48 E70 (fun q => q.elim) (fun q => q.elim)
        have E := E.trans E70 (fun x q => q.elim)
        refine q_yes F rfl (by decide) rfl (decide_eq_true hb65) ?_
        refine q_val F rfl rfl (by decide) (r_eql F rfl rfl) fun a F => ?_
        refine q_val F rfl rfl (by decide) (r_pick_t F rfl (decide_eq_true hb65) rfl) fun a F => ?_
        refine nil ?_
        exact J74 c68 w69 a (decide (t66 = 0)) (F.sub ⟨rfl, rfl, rfl, rfl, rfl, rfl, rfl, rfl, trivial⟩) E B h6 h27 h48 H
      · have H := (if_neg hb65).symm.trans H
        refine q_no F rfl (by decide) rfl (decide_eq_false hb65) (by decide) fun a F => ?_
        refine q_no F rfl (by decide) rfl (decide_eq_false hb65) (by decide) fun a F => ?_
        refine q_no F rfl (by decide) rfl (decide_eq_false hb65) (by decide) fun a F => ?_
        refine q_val F rfl rfl (by decide) (r_pick_f F rfl (decide_eq_false hb65) rfl) fun a F => ?_
        refine nil ?_
        exact J74 c53 w54 a false (F.sub ⟨rfl, rfl, rfl, rfl, rfl, rfl, rfl, rfl, trivial⟩) E B h6 h27 h48 H
    · have H := (if_neg hb38).symm.trans H
      refine wp_cond_true ((F.ev rfl).trans (congrArg Value.bool (congrArg not (decide_eq_false hb38)))) ?_
      refine wp_seq_k fun K39 hK39 => ?_
      refine reg ?_
      refine q_val F rfl rfl (by decide) (r_move F rfl) fun a F => ?_
      refine q_val F rfl rfl (by decide) (r_peqlA F Try.underlying24 rfl rfl (RU.isNone h27)) fun a F => ?_
      refine q_val F rfl rfl (by decide) (r_assign F rfl) fun a F => ?_
      refine nil ?_
      refine hK39 _ _ ?_
      refine wp_ret ?_
      refine thenR ?_
      have H := Option.some.inj H
      subst H
      refine out1 F rfl rfl ?_
      exact ⟨fun b_ => (fun x_ => if x_ < m then x_ else 0) (c33 b_), rfl, E.leave B0 (fun x_ => if x_ < m then x_ else 0) (by intro x_ hx_; show (if x_ < m then x_ else 0) = x_; ((repeat' split) <;> omega)), (fun b_ hb_ => by show (if (c33 b_) < m then (c33 b_) else 0) < m; ((repeat' split) <;> omega))⟩
  · have H := (if_neg hb17).symm.trans H
    refine wp_cond_true ((F.ev rfl).trans (congrArg Value.bool (congrArg not (bfalse hb17)))) ?_
    refine wp_seq_k fun K18 hK18 => ?_
    refine reg ?_
    refine q_val F rfl rfl (by decide) (r_assign F rfl) fun a F => ?_
    refine nil ?_
    refine hK18 _ _ ?_
    refine wp_ret ?_
    refine thenR ?_
    have H := Option.some.inj H
    subst H
    refine out1 F rfl rfl ?_
    exact ⟨fun b_ => (fun x_ => if x_ < m then x_ else 0) (c12 b_), rfl, E.leave B0 (fun x_ => if x_ < m then x_ else 0) (by intro x_ hx_; show (if x_ < m then x_ else 0) = x_; ((repeat' split) <;> omega)), (fun b_ hb_ => by show (if (c12 b_) < m then (c12 b_) else 0) < m; ((repeat' split) <;> omega))⟩
end Go.Proofs.Ytohljkjaggcapaa.G
/-! The plain law of RouteHomes. -/
namespace Go.Proofs.Ytohljkjaggcapaa.G
open Go Go.Proofs.Ytohljkjaggcapaa.RT Go.Proofs.Ytohljkjaggcapaa.JQ Go.Proofs.Ytohljkjaggcapaa.JF
set_option linter.unusedVariables false
set_option linter.unusedSimpArgs false
/-! ### loops, numbers -/
theorem bind_eq {α β : Type} {x : Option α} {f : α → Option β} {a : α} (h : x = some a) : x.bind f = f a := by rw [h]; rfl
theorem loop_next {S X : Type} {f : S → Option (Ctl S X)} {n : Nat} {s s' : S} (h : f s = some (.next s')) : loop f (n + 1) s = loop f n s' := by
  show (f s).bind _ = _; rw [h]; rfl
theorem loop_done {S X : Type} {f : S → Option (Ctl S X)} {n : Nat} {s : S} {x : X} (h : f s = some (.done x)) : loop f (n + 1) s = some x := by
  show (f s).bind _ = _; rw [h]; rfl
theorem loop_inv {S X : Type} {f : S → Option (Ctl S X)} {I : Nat → S → Prop} {P : X → Prop} {N : Nat}
    (step : ∀ i s, i < N → I i s → (∃ s', f s = some (.next s') ∧ I (i + 1) s') ∨ (∃ x, f s = some (.done x) ∧ P x))
    (last : ∀ s, I N s → ∃ x, f s = some (.done x) ∧ P x) : ∀ (n i : Nat) (s : S) (m : Nat), I i s → i + n = N → n < m → ∃ x, loop f m s = some x ∧ P x
  | _, _, _, 0, _, _, h => absurd h (by omega)
  | 0, i, s, m + 1, hI, hN, _ => by
    obtain rfl : i = N := by omega
    obtain ⟨x, h1, h2⟩ := last s hI
    exact ⟨x, loop_done h1, h2⟩
  | n + 1, i, s, m + 1, hI, hN, hm => by
    rcases step i s (by omega) hI with ⟨s', h1, h2⟩ | ⟨x, h1, h2⟩
    · rw [loop_next h1]
      exact loop_inv step last n (i + 1) s' m h2 (by omega) (by omega)
    · exact ⟨x, loop_done h1, h2⟩
theorem wr {n : Int} (h0 : -1000000000000000000 ≤ n) (h1 : n ≤ 1000000000000000000) : IntKind.i64.wrap n = n := by rw [IntKind.wrap_i64]; omega
theorem wrS (i : Nat) (h : i < 1000000000000000) : IntKind.i64.wrap ((i : Int) + 1) = ((i + 1 : Nat) : Int) := by rw [wr (by omega) (by omega)]; omega
theorem rd_eq {α : Type} [Inhabited α] {xs : List α} {i : Nat} (h : i < xs.length) : rd xs (i : Int) = xs[i] := by
  unfold rd
  rw [Int.toNat_natCast, List.getD_eq_getElem?_getD, List.getElem?_eq_getElem h]
  rfl
def Fuel (k : Nat) : Prop := 1099511627776 ≤ k
theorem num_eq (a : Int) : haulagelaw23_num.f a = some a := rfl
theorem ints_loop (a b : List Int) (hl : a.length = b.length) : ∀ (n i m : Nat), i + n = a.length → n < m → a.length < 4000000000 →
    loop (fun (s_ : Int) => haulagelaw23_ints.b1 a b s_) m (i : Int) = some (if a.drop i = b.drop i then Sum.inl () else Sum.inr false)
  | _, _, 0, _, h, _ => absurd h (by omega)
  | 0, i, m + 1, h, _, _ => by
    refine loop_done ?_
    unfold haulagelaw23_ints.b1
    rw [if_neg (by omega), if_pos]
    rw [List.drop_of_length_le (by omega), List.drop_of_length_le (by omega)]
  | n + 1, i, m + 1, h, hm, hb => by
    have hi : i < a.length := by omega
    have hj : i < b.length := by omega
    rw [List.drop_eq_getElem_cons hi, List.drop_eq_getElem_cons hj]
    by_cases c : a[i] = b[i]
    · rw [loop_next (s' := ((i + 1 : Nat) : Int)), ints_loop a b hl n (i + 1) m (by omega) (by omega) hb]
      · simp only [c, List.cons.injEq, true_and]
      · unfold haulagelaw23_ints.b1
        rw [if_pos (by omega), if_pos (by omega), if_pos (by omega), rd_eq hi, rd_eq hj, if_pos c, wrS i (by omega)]
    · rw [if_neg (by simp only [List.cons.injEq, c, false_and, not_false_eq_true])]
      refine loop_done ?_
      unfold haulagelaw23_ints.b1
      rw [if_pos (by omega), if_pos (by omega), if_pos (by omega), rd_eq hi, rd_eq hj, if_neg c]
theorem ints_eq {k : Nat} (hk : Fuel k) (a b : List Int) (h : a.length < 4000000000 ∨ b.length < 4000000000) : haulagelaw23_ints.f k a b = some (decide (a = b)) := by
  have h24 : 1099511627776 ≤ k := hk
  unfold haulagelaw23_ints.f
  by_cases c : a.length = b.length
  · rw [if_pos (by omega), show (0 : Int) = ((0 : Nat) : Int) from rfl, bind_eq (ints_loop a b c a.length 0 k (by omega) (by omega) (by omega))]
    simp only [List.drop_zero]
    by_cases e : a = b
    · simp [e, haulagelaw23_ints.j2]
    · simp [e]
  · rw [if_neg (by omega), decide_eq_false (fun e => c (by rw [e]))]
/-! ### routes -/
theorem new_eq {a c : Int} (a0 : 1 ≤ a) (a1 : a ≤ 8) (c0 : 1 ≤ c) (c1 : c ≤ 64) : route_New.f a c = some (some ⟨RS.new a c, 0⟩, 0) := by
  unfold route_New.f; rw [if_neg (by omega)]
theorem new_no {a c : Int} (h : a < 1 ∨ 8 < a ∨ c < 1 ∨ 64 < c) : route_New.f a c = some (none, 2) := by
  unfold route_New.f; rw [if_pos h]
theorem where_eq (r : Rou) (s : Int) : route_Route_Where.f (some r) s = some (r.s.where_ s) := rfl
theorem shard_eq (r : Rou) (l : List Int) : route_Route_Shard.f (some r) l = some (jumpV (fnvV [l]) r.s.shards) := rfl
theorem fine_eq {r : Rou} {s v : Int} (h : r.s.is s v = true) (hn : r.n < 4611686018427387904) : route_Route_Fine.f (some r) s v = some (true, some ⟨r.s.fine s v, r.n + 1⟩) := by
  unfold route_Route_Fine.f; simp only [Option.bind_some]; rw [if_pos h, if_pos hn]
theorem hint_eq {r : Rou} {s v : Int} (h : r.s.is s v = true) (hv : r.s.where_ s ≠ v) (hn : r.n < 4611686018427387904) : route_Route_Hint.f (some r) s v = some (true, some ⟨r.s.hint s v, r.n + 1⟩) := by
  unfold route_Route_Hint.f; simp only [Option.bind_some]; rw [if_pos h, if_neg hv, if_pos hn]
theorem hint_eq_same {r : Rou} {s v : Int} (h : r.s.is s v = true) (hv : r.s.where_ s = v) : route_Route_Hint.f (some r) s v = some (false, some ⟨r.s.hints1, r.n⟩) := by
  unfold route_Route_Hint.f; simp only [Option.bind_some]; rw [if_pos h, if_pos hv]
theorem known_true {k : Nat} (hk : Fuel k) : haulagelaw23_known.f k = some true := by
  unfold haulagelaw23_known.f
  rw [bind_eq (new_eq (by omega) (by omega) (by omega) (by omega)), bind_eq (num_eq _), if_pos rfl]
  unfold haulagelaw23_known.j1
  rw [if_neg (by simp), bind_eq (fine_eq k1_is (by decide))]
  refine Eq.trans (bind_eq (hint_eq_same (r := ⟨K1, 0 + 1⟩) k2_is k2_at)) ?_
  refine Eq.trans (bind_eq (hint_eq (r := ⟨K1.hints1, 0 + 1⟩) k3_is k3_at (by decide))) ?_
  rw [if_pos rfl, if_neg (by simp), if_pos rfl]
  refine Eq.trans (bind_eq (where_eq _ _)) ?_
  refine Eq.trans (if_pos k4_at) ?_
  have et : route_Route_Trail.f (some ⟨K1.hints1.hint 0 1, 0 + 1 + 1⟩) 0 = some [2] := by
    unfold route_Route_Trail.f
    simp only [Option.bind_some]
    rw [if_pos (by omega)]
    exact congrArg some k4_tr
  refine Eq.trans (bind_eq et) ?_
  rw [bind_eq (ints_eq hk _ _ (by simp))]
  rfl
theorem where_new {a c i : Int} (a0 : 1 ≤ a) (i0 : 0 ≤ i) (i1 : i < c) : (RS.new a c).where_ i = homeV i a := by
  unfold RS.where_
  rw [if_pos (by unfold RS.is RS.new; simp; omega)]
  rfl
theorem home_more (i : Int) {a : Int} (a0 : 1 ≤ a) (a1 : a ≤ 8) : homeV i (a + 1) = homeV i a ∨ homeV i (a + 1) = a := jumpV_more _ a0 (by omega)
section
variable {k : Nat} {a1 a2 : Int} {a3 : List (List Int)}
theorem homes_loop1 (hk : Fuel k) (s0 : 1 ≤ a1) (s1 : a1 ≤ 8) (h0 : 1 ≤ a2) (h1 : a2 ≤ 64) (t : Option Rou × Int) (ht : t = if a1 < 8 then (some ⟨RS.new (a1 + 1) a2, 0⟩, 0) else (none, 2)) :
    loop (fun (s_ : Int) => haulagelaw23_RouteHomes.b3 a1 a2 (some ⟨RS.new a1 a2, 0⟩, 0) t s_) k 0 = some (.inl ()) := by
  have h24 : 1099511627776 ≤ k := hk
  by_cases c : a1 < 8
  · rw [if_pos c] at ht; subst ht
    obtain ⟨x, hx, rfl⟩ := loop_inv (f := fun (s_ : Int) => haulagelaw23_RouteHomes.b3 a1 a2 (some ⟨RS.new a1 a2, 0⟩, 0) (some ⟨RS.new (a1 + 1) a2, 0⟩, 0) s_) (I := fun i s => s = (i : Int)) (P := fun x => x = .inl ()) (N := a2.toNat) (by
      rintro i s hi rfl
      refine .inl ⟨((i + 1 : Nat) : Int), ?_, rfl⟩
      unfold haulagelaw23_RouteHomes.b3
      rw [if_pos (by omega), bind_eq (num_eq _)]
      unfold haulagelaw23_RouteHomes.j1
      rw [if_pos (by simp), bind_eq (where_eq _ _), bind_eq (where_eq _ _)]
      simp only
      rw [where_new (by omega) (by omega) (by omega), where_new (by omega) (by omega) (by omega)]
      have fin : haulagelaw23_RouteHomes.j2 (i : Int) false = some (.next ((i + 1 : Nat) : Int)) := by
        unfold haulagelaw23_RouteHomes.j2; rw [if_neg (by simp), wrS i (by omega)]
      rcases home_more (i : Int) s0 s1 with e | e
      · rw [if_pos e]; exact fin
      · by_cases q : homeV i (a1 + 1) = homeV i a1
        · rw [if_pos q]; exact fin
        · rw [if_neg q, bind_eq (where_eq _ _)]
          simp only
          rw [where_new (by omega) (by omega) (by omega), e]
          simpa using fin) (by
      rintro s rfl
      refine ⟨_, ?_, rfl⟩
      unfold haulagelaw23_RouteHomes.b3 haulagelaw23_RouteHomes.j1
      rw [if_neg (by omega), if_neg (by simp)]) a2.toNat 0 ((0 : Nat) : Int) k rfl (by omega) (by omega)
    exact hx
  · rw [if_neg c] at ht; subst ht
    obtain ⟨k, rfl⟩ : ∃ k', k = k' + 1 := ⟨k - 1, by omega⟩
    refine loop_done ?_
    unfold haulagelaw23_RouteHomes.b3 haulagelaw23_RouteHomes.j1
    rw [if_pos (by omega), bind_eq (num_eq _), if_neg (by simp)]
theorem homes_loop2 (hk : Fuel k) (s0 : 1 ≤ a1) (s1 : a1 ≤ 8) (h0 : 1 ≤ a2) (h1 : a2 ≤ 64) (t : Option Rou × Int) (ht : t = if a2 < 64 then (some ⟨RS.new a1 (a2 + 1), 0⟩, 0) else (none, 2)) :
    loop (fun (s_ : Int) => haulagelaw23_RouteHomes.b6 a2 (some ⟨RS.new a1 a2, 0⟩, 0) t s_) k 0 = some (.inl ()) := by
  have h24 : 1099511627776 ≤ k := hk
  by_cases c : a2 < 64
  · rw [if_pos c] at ht; subst ht
    obtain ⟨x, hx, rfl⟩ := loop_inv (f := fun (s_ : Int) => haulagelaw23_RouteHomes.b6 a2 (some ⟨RS.new a1 a2, 0⟩, 0) (some ⟨RS.new a1 (a2 + 1), 0⟩, 0) s_) (I := fun i s => s = (i : Int)) (P := fun x => x = .inl ()) (N := a2.toNat) (by
      rintro i s hi rfl
      refine .inl ⟨((i + 1 : Nat) : Int), ?_, rfl⟩
      unfold haulagelaw23_RouteHomes.b6
      rw [if_pos (by omega), bind_eq (num_eq _)]
      unfold haulagelaw23_RouteHomes.j5
      rw [if_pos (by simp), bind_eq (where_eq _ _), bind_eq (where_eq _ _)]
      simp only
      rw [where_new (by omega) (by omega) (by omega), where_new (by omega) (by omega) (by omega), if_pos rfl, wrS i (by omega)]) (by
      rintro s rfl
      refine ⟨_, ?_, rfl⟩
      unfold haulagelaw23_RouteHomes.b6 haulagelaw23_RouteHomes.j5
      rw [if_neg (by omega), if_neg (by simp)]) a2.toNat 0 ((0 : Nat) : Int) k rfl (by omega) (by omega)
    exact hx
  · rw [if_neg c] at ht; subst ht
    obtain ⟨k, rfl⟩ : ∃ k', k = k' + 1 := ⟨k - 1, by omega⟩
    refine loop_done ?_
    unfold haulagelaw23_RouteHomes.b6 haulagelaw23_RouteHomes.j5
    rw [if_pos (by omega), bind_eq (num_eq _), if_neg (by simp)]
theorem homes_loop3 (hk : Fuel k) (s0 : 1 ≤ a1) (s1 : a1 ≤ 8) (h0 : 1 ≤ a2) (h1 : a2 ≤ 64) (hl : a3.length < 1000000000) (t : Option Rou × Int) (ht : t = if a2 < 64 then (some ⟨RS.new a1 (a2 + 1), 0⟩, 0) else (none, 2)) :
    loop (fun (s_ : Int) => haulagelaw23_RouteHomes.b10 a2 a3 (some ⟨RS.new a1 a2, 0⟩, 0) t s_) k 0 = some (.inl ()) := by
  have h24 : 1099511627776 ≤ k := hk
  by_cases c : a2 < 64
  · rw [if_pos c] at ht; subst ht
    obtain ⟨x, hx, rfl⟩ := loop_inv (f := fun (s_ : Int) => haulagelaw23_RouteHomes.b10 a2 a3 (some ⟨RS.new a1 a2, 0⟩, 0) (some ⟨RS.new a1 (a2 + 1), 0⟩, 0) s_) (I := fun i s => s = (i : Int)) (P := fun x => x = .inl ()) (N := a3.length) (by
      rintro i s hi rfl
      refine .inl ⟨((i + 1 : Nat) : Int), ?_, rfl⟩
      unfold haulagelaw23_RouteHomes.b10
      rw [if_pos (by omega), bind_eq (num_eq _)]
      unfold haulagelaw23_RouteHomes.j8
      rw [if_pos (by simp), if_pos (by omega), if_pos (by omega), bind_eq (shard_eq _ _), bind_eq (shard_eq _ _)]
      have fin : haulagelaw23_RouteHomes.j9 (i : Int) false = some (.next ((i + 1 : Nat) : Int)) := by
        unfold haulagelaw23_RouteHomes.j9; rw [if_neg (by simp), wrS i (by omega)]
      show (if jumpV (fnvV [rd a3 i]) (a2 + 1) = jumpV (fnvV [rd a3 i]) a2 then _ else _) = _
      by_cases q : jumpV (fnvV [rd a3 i]) (a2 + 1) = jumpV (fnvV [rd a3 i]) a2
      · rw [if_pos q]; exact fin
      · rcases jumpV_more (fnvV [rd a3 i]) h0 (by omega) with e | e
        · exact absurd e q
        · rw [if_neg q, if_pos (by omega), bind_eq (shard_eq _ _)]
          show haulagelaw23_RouteHomes.j9 (i : Int) (!decide (jumpV (fnvV [rd a3 i]) (a2 + 1) = a2)) = _
          rw [e]
          simpa using fin) (by
      rintro s rfl
      refine ⟨_, ?_, rfl⟩
      unfold haulagelaw23_RouteHomes.b10 haulagelaw23_RouteHomes.j8
      rw [if_neg (by omega), if_neg (by simp)]) a3.length 0 ((0 : Nat) : Int) k rfl (by omega) (by omega)
    exact hx
  · rw [if_neg c] at ht; subst ht
    obtain ⟨k, rfl⟩ : ∃ k', k = k' + 1 := ⟨k - 1, by omega⟩
    refine loop_done ?_
    unfold haulagelaw23_RouteHomes.b10 haulagelaw23_RouteHomes.j8
    by_cases q : (0 : Int) < a3.length
    · rw [if_pos q, bind_eq (num_eq _), if_neg (by simp)]
    · rw [if_neg q, if_neg (by simp)]
theorem RouteHomes_true (hk : Fuel k) (hl : a3.length < 1000000000) : haulagelaw23_RouteHomes.f k a1 a2 a3 = some true := by
  have h24 : 1099511627776 ≤ k := hk
  unfold haulagelaw23_RouteHomes.f
  rw [bind_eq (known_true hk), if_pos rfl]
  by_cases c : a1 < 1 ∨ 8 < a1 ∨ a2 < 1 ∨ 64 < a2
  · rw [bind_eq (new_no c), bind_eq (num_eq _), if_neg (by simp)]; rfl
  · have s0 : 1 ≤ a1 := by omega
    have s1 : a1 ≤ 8 := by omega
    have h0 : 1 ≤ a2 := by omega
    have h1 : a2 ≤ 64 := by omega
    rw [bind_eq (new_eq s0 s1 h0 h1), bind_eq (num_eq _), if_pos rfl, wr (n := a1 + 1) (by omega) (by omega)]
    have e1 : route_New.f (a1 + 1) a2 = some (if a1 < 8 then (some ⟨RS.new (a1 + 1) a2, 0⟩, 0) else (none, 2)) := by
      by_cases q : a1 < 8
      · rw [if_pos q]; exact new_eq (by omega) (by omega) h0 h1
      · rw [if_neg q]; exact new_no (by omega)
    have e2 : route_New.f a1 (a2 + 1) = some (if a2 < 64 then (some ⟨RS.new a1 (a2 + 1), 0⟩, 0) else (none, 2)) := by
      by_cases q : a2 < 64
      · rw [if_pos q]; exact new_eq s0 s1 (by omega) (by omega)
      · rw [if_neg q]; exact new_no (by omega)
    rw [bind_eq e1, bind_eq (homes_loop1 hk s0 s1 h0 h1 _ rfl)]
    show haulagelaw23_RouteHomes.j4 k a1 a2 a3 _ _ = _
    unfold haulagelaw23_RouteHomes.j4
    rw [wr (n := a2 + 1) (by omega) (by omega), bind_eq e2, bind_eq (homes_loop2 hk s0 s1 h0 h1 _ rfl)]
    show haulagelaw23_RouteHomes.j7 k a1 a2 a3 _ _ _ = _
    unfold haulagelaw23_RouteHomes.j7
    rw [bind_eq (homes_loop3 hk s0 s1 h0 h1 hl _ rfl)]
    show haulagelaw23_RouteHomes.j11 a1 a2 _ _ = _
    unfold haulagelaw23_RouteHomes.j11
    rw [bind_eq (num_eq _)]
    by_cases q1 : a1 < 8
    · rw [if_pos q1]
      simp only [q1, decide_true, beq_self_eq_true, if_true]
      rw [bind_eq (num_eq _)]
      by_cases q2 : a2 < 64
      · rw [if_pos q2]; simp [q2]
      · rw [if_neg q2]; simp [q2]
    · rw [if_neg q1, if_pos (by simp; omega), bind_eq (num_eq _)]
      by_cases q2 : a2 < 64
      · rw [if_pos q2]; simp [q2]
      · rw [if_neg q2]; simp [q2]
end
end Go.Proofs.Ytohljkjaggcapaa.G
/- The row of 'RouteHomes' (its '..UptoSaid'): whatever the input of bulk at most 1048576, the law returns true and the input reads as it did. -/
namespace Go.Proofs.Ytohljkjaggcapaa.routeHomes
open Go.ChangeShapes Go.WideShapes Go.ChangeAt Go.RowKit
set_option linter.unusedVariables false
set_option maxRecDepth 100000 in
theorem contract (H : Type) (enc : TypeId × Value → H) (W : World) (base : Nat) (args : Array Value) (ds gs : List (DataW H)) (before : List MemPlace)
    (hval : ∀ (j : Nat) t v, Try.f4.params[j]? = some t → args[j]? = some v → Value.okWide Try.prog W .any base t v)
    (hW : DataW.Whole enc Try.prog Try.f4.params.toList Rows.routeHomesSpec.vars false W args.toList ds gs before) (hk : Rows.uptoSmall H (ds ++ gs) = true) :
    Calls Try.prog 4 args W fun e W' => ∃ v, e = .returned v ∧ Rows.routeHomesSpec.post enc Try.prog Try.f4 false true false false W args v W' := by
  have hW' := hW
  obtain ⟨p, q, hA0, hV, rfl, hfz, hnd⟩ := hW
  have hA : DataW.TrodAll enc Try.prog W 0 (fun _ => true) true Try.f4.params.toList args.toList ds p := hA0
  rw [Try.params4] at hA hval
  obtain ⟨v0, vs0, d0, ds0, p0, q0, hargs, rfl, rfl, h0, r0⟩ := trodAll_cons hA
  obtain ⟨v1, vs1, d1, ds1, p1, q1, rfl, rfl, rfl, h1, r1⟩ := trodAll_cons r0
  obtain ⟨v2, vs2, d2, ds2, p2, q2, rfl, rfl, rfl, h2, r2⟩ := trodAll_cons r1
  obtain ⟨rfl, rfl, rfl⟩ := trodAll_nil r2
  obtain rfl : args = #[v0, v1, v2] := by cases args; simp_all
  obtain ⟨rfl, rfl⟩ := trodVars_none hV
  obtain ⟨a0, rfl, rfl, rfl, w0⟩ := open_int Try.underlying3 (hval 0 3 v0 rfl rfl) h0
  obtain ⟨a1, rfl, rfl, rfl, w1⟩ := open_int Try.underlying3 (hval 1 3 v1 rfl rfl) h1
  have k2 := h2
  have lt2 : ∀ x ∈ p2, x.block < W.heap.size := by obtain ⟨m, hm⟩ := k2; exact DataW.trod_lt m _ _ _ hm
  obtain ⟨A2, C2, a2, rfl, s2, b2, o2⟩ := G.arg_keys (okWide_slice Try.underlying34 (hval 2 34 v2 rfl rfl)) h2
  have l2 := G.keysum_len a2
  have hb : Rows.uptoBulkAll [(DataW.lit (H := H) (.int .i64 a0)), (DataW.lit (H := H) (.int .i64 a1)), d2] ≤ 1048576 := of_decide_eq_true hk
  simp only [Rows.uptoBulkAll] at hb
  refine (G.haulagelaw23_RouteHomes.calls 1099511627776 (m := 1) (c0 := G.c0) (w0 := W) (Nat.lt_succ_self 0) (fun _ _ => Nat.lt_succ_self 0) s2 true (G.RouteHomes_true (k := 1099511627776) (Nat.le_refl _) (a1 := a0) (a2 := a1) (a3 := a2) (by omega))).mono fun e W' ⟨c_, he, ev_, _⟩ => ?_
  subst he
  have bel : Below W.heap.size W W' := G.Ev.below ev_
  exact ⟨_, rfl, _, _, _, [], _, [], hW', trodAll_mk1 (shut_bool Try.underlying4 _), (trodAll_cons_mk (shut_int Try.underlying3 w0) (trodAll_cons_mk (shut_int Try.underlying3 w1) (trodAll_cons_mk (Below.trod G.row_laidOut (by kernel_rfl) (of_decide_eq_true (by kernel_rfl)) k2 bel lt2) trodAll_mk0))), rfl, bel.frame _, fun h => by cases h⟩
set_option maxRecDepth 100000 in
theorem lifted (os : Os) (started : os.Started) (H : Type) (enc : TypeId × Value → H) (F : Stop.Interp) :
    ReturnsInHanded {} Try.checked os 4 .any ((Rows.OpenSpec.upto Rows.routeHomesSpec).pre6 enc Try.prog Try.f4 Rows.routeHomesUptoRow.domain false) (((Rows.OpenSpec.upto Rows.routeHomesSpec).at F).post enc Try.prog Try.f4 false true false false) := by
  refine returnsInHanded_of_cond (C := Try.checked) (s := Rows.OpenSpec.upto Rows.routeHomesSpec) (k := Rows.uptoSmall) rfl G.row_own started (by kernel_rfl) Try.func4
    (OpenSpec.witness (enc := enc) (C := Try.checked) (s := Rows.OpenSpec.upto Rows.routeHomesSpec) (k := Rows.uptoSmall) rfl false ⟨#[], #[.int .i64 0, .int .i64 0, .slice none 0 0], []⟩ 8 (by kernel_rfl) (by kernel_rfl) (by kernel_rfl)
      (x := ([.lit (.int .i64 0), .lit (.int .i64 0), .nil], [], [])) (by kernel_rfl) rfl (by kernel_rfl)) ?_
  intro W base args ds gs before hval hW _ hk _
  exact contract H enc W base args ds gs before hval hW hk
theorem over : Rows.routeHomesUptoRow.holds Try.pinned (Rows.OpenSpec.upto Rows.routeHomesSpec) :=
  OpenClaim.holds_of_cond 4 Try.f4 rfl rfl rfl rfl rfl rfl rfl ⟨rfl, rfl, rfl, rfl, rfl⟩ rfl rfl rfl rfl rfl (by kernel_rfl) Try.func4 (by kernel_rfl)
    (of_decide_eq_true (by kernel_rfl)) (by unfold Func.isWrapper; first | (rw [if_pos (by decide +kernel)]; kernel_rfl) | (rw [if_neg (by decide +kernel)]; exact ⟨rfl, rfl⟩))
    (fun os started H enc _ F => lifted os started H enc F)
theorem proved : Rows.RouteHomesUptoSaid := over
end Go.Proofs.Ytohljkjaggcapaa.routeHomes
namespace Go.Proofs.Ytohljkjaggcapaa
/-- The row, under a short name, for the claim. -/
theorem routeHomes_holds : Rows.RouteHomesUptoSaid := routeHomes.proved
end Go.Proofs.Ytohljkjaggcapaa
