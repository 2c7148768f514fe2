/- The row of 'TablePlace', its '..UptoSaid': whatever the input of bulk at most 1048576, the law returns true and the input reads as it did; its walk, its plain law, the row. -/
import Derived.Test.YtcolmmjcdlmcoaaMB
import Derived.Test.YtcolmmjcdlmcoaaMC5
import Derived.Test.YtcolmmjcdlmcoaaMC4
import Derived.Test.YtcolmmjcdlmcoaaMC2
import Derived.Test.YtcolmmjcdlmcoaaMC3
import Derived.Test.YtcolmmjcdlmcoaaMT
import Derived.Test.YtcolmmjcdlmcoaaRows
import Derived.WalkKit
import Derived.ProofKit
import Derived.OpenShut
import Derived.JoinedCond
import Derived.Below
import Derived.ChangeOld
namespace Go.Proofs.Ytcolmmjcdlmcoaa.G
open Go Go.RowKit
set_option linter.unusedVariables false
set_option linter.unusedSimpArgs false
set_option maxRecDepth 100000 in
set_option maxHeartbeats 4000000 in
theorem haulagelaw13_TablePlace.calls (k : Nat) {m : Nat} {c0 : Nat → Nat} {w0 : World} {A2 : Option Addr} {C3 : Nat} {a1 : List api_Op} {a5 : Int} (hm0 : 0 < m) (B0 : CB m c0 w0) (h4 : SL false K_api_Op 0 0 c0 w0 A2 C3 a1) (r : Bool) (H : haulagelaw13_TablePlace.f k a1 a5 = some r) : Calls Try.prog 5 #[.slice A2 a1.length C3, .int .i64 a5] w0 (fun e w_ => ∃ (c_ : Nat → Nat), e = .returned (.bool r) ∧ Ev (fun x => False) c0 w0 c_ w_ ∧ CB m c_ w_) := by
  unfold haulagelaw13_TablePlace.f at H
  have B := B0.mono (show m ≤ m + 8 by omega)
  have E : Ev (fun x => False ∨ m ≤ x) c0 w0 c0 w0 := Ev.refl
  refine enter (N := 140) (l := [.slice A2 a1.length C3, .int .i64 a5]) Try.func5 rfl rfl (Nat.le_of_ble_eq_true rfl) fun a F => ?_
  refine wp_seq_k fun K6 hK6 => ?_
  refine reg ?_
  refine q_val F rfl rfl (by decide) (r_assign F rfl) fun a F => ?_
  refine nil ?_
  refine hK6 _ _ ?_
  refine wp_seq_k fun K7 hK7 => ?_
  refine wp_seq_k fun K8 hK8 => ?_
  refine reg ?_
  obtain ⟨t9, q10, H⟩ := bind_some H
  refine q_call F rfl rfl (by decide) (r_call F Try.func12 rfl (by kernel_rfl) rfl) (haulagelaw13_awake.calls k (m := m + 8) (by omega) B _ q10) ?_
  rintro e w12 ⟨c11, rfl, E13, B14⟩
  refine ⟨_, rfl, fun a F => ?_⟩
  have B := B14
  have h4 := SL.ev h4 E13 (fun q => q.elim) (fun q => q.elim)
  have E := E.trans E13 (fun x q => q.elim)
  refine q_val F rfl rfl (by decide) (r_not F rfl) fun a F => ?_
  refine nil ?_
  refine hK8 _ _ ?_
  by_cases hb16 : t9 = true
  · have H := (if_pos hb16).symm.trans H
    refine wp_cond_false ((F.ev rfl).trans (congrArg Value.bool (congrArg not hb16))) ?_
    refine wp_skip ?_
    refine hK7 _ _ ?_
    refine wp_seq_k fun K18 hK18 => ?_
    refine reg ?_
    obtain ⟨t19, q20, H⟩ := bind_some H
    refine q_call F rfl rfl (by decide) (r_call F Try.func21 rfl (by kernel_rfl) rfl) (table_New.calls (m := m + 8) (by omega) B (m + 1) (by omega) _ q20) ?_
    rintro e w22 ⟨c21, p25, rfl, E23, B24, h26⟩
    refine ⟨_, rfl, fun a F => ?_⟩
    have B := B24
    have h4 := SL.ev h4 E23 (fun q => q.elim) (fun q => q.elim)
    have E := E.trans E23 (fun x q => q.elim)
    refine q_val F rfl rfl (by decide) (r_assign F rfl) fun a F => ?_
    refine nil ?_
    refine hK18 _ _ ?_
    refine wp_seq_k fun K28 hK28 => ?_
    refine reg ?_
    refine q_val F rfl rfl (by decide) (r_assign F rfl) fun a F => ?_
    refine nil ?_
    refine hK28 _ _ ?_
    refine wp_seq_k fun K29 hK29 => ?_
    refine reg ?_
    refine q_val F rfl rfl (by decide) (r_assign F rfl) fun a F => ?_
    refine nil ?_
    refine hK29 _ _ ?_
    refine wp_seq_k fun K30 hK30 => ?_
    refine reg ?_
    refine q_val F rfl rfl (by decide) (r_assign F rfl) fun a F => ?_
    refine nil ?_
    refine hK30 _ _ ?_
    refine wp_seq_k fun K31 hK31 => ?_
    refine wp_seq_k fun K32 hK32 => ?_
    refine reg ?_
    refine q_val F rfl rfl (by decide) (r_assign F rfl) fun a F => ?_
    refine nil ?_
    refine hK32 _ _ ?_
    refine wp_block ?_
    obtain ⟨x296, HL, HR295⟩ := bind_some H
    have J536 : ∀ (c537 : Nat → Nat) (w538 : World) (a : Act) (o523 : Option Tab) (l525 : List api_Op) (A526 : Option Addr) (C527 : Nat) (l529 : List api_Answer) (A530 : Option Addr) (C531 : Nat) (l533 : List api_Op) (A534 : Option Addr) (C535 : Nat), Fr a 140 [(1, .int .i64 a5), (5, .pointer p25), (6, .slice A526 l525.length C527), (7, .slice A530 l529.length C531), (8, .slice A534 l533.length C535)] → Ev (fun x => False ∨ m ≤ x) c0 w0 c537 w538 → CB (m + 8) c537 w538 → TB (m + 1) c537 w538 p25 o523 → SL true K_api_Op (m + 3) 0 c537 w538 A526 C527 l525 → SL true K_api_Answer (m + 4) 0 c537 w538 A530 C531 l529 → SL true K_api_Op (m + 5) 0 c537 w538 A534 C535 l533 → haulagelaw13_TablePlace.j8 k a5 o523 l525 l529 l533 = some r → K31 a w538 := by
      intro c537 w538 a o523 l525 A526 C527 l529 A530 C531 l533 A534 C535 F E B h522 h524 h528 h532 H
      unfold haulagelaw13_TablePlace.j8 at H
      refine hK31 _ _ ?_
      refine wp_seq_k fun K539 hK539 => ?_
      refine wp_seq_k fun K540 hK540 => ?_
      refine reg ?_
      refine q_val F rfl rfl (by decide) (r_move F rfl) fun a F => ?_
      refine q_val F rfl rfl (by decide) (r_lensl F Try.underlying22 rfl) fun a F => ?_
      refine q_val F rfl rfl (by decide) (r_eql F rfl rfl) fun a F => ?_
      refine nil ?_
      refine hK540 _ _ ?_
      by_cases hb541 : (l533.length : Int) = 0
      · have H := (if_pos hb541).symm.trans H
        refine wp_cond_true ((F.ev rfl).trans (congrArg Value.bool (decide_eq_true hb541))) ?_
        refine wp_seq_k fun K542 hK542 => ?_
        refine reg ?_
        refine q_val F rfl rfl (by decide) (r_move F rfl) fun a F => ?_
        obtain ⟨t543, q544, H⟩ := bind_some H
        refine q_call F rfl rfl (by decide) (r_call F Try.func24 rfl (by kernel_rfl) rfl) (table_Table_Len.calls (m := m + 8) (by omega) B h522 (by omega) _ q544) ?_
        rintro e w546 ⟨c545, rfl, E547, B548⟩
        refine ⟨_, rfl, fun a F => ?_⟩
        have B := B548
        have h522 := TB.ev h522 E547 (fun q => q.elim) (fun q => q.elim)
        have h524 := SL.ev h524 E547 (fun q => q.elim) (fun q => q.elim)
        have h528 := SL.ev h528 E547 (fun q => q.elim) (fun q => q.elim)
        have h532 := SL.ev h532 E547 (fun q => q.elim) (fun q => q.elim)
        have E := E.trans E547 (fun x q => q.elim)
        refine q_val F rfl rfl (by decide) (r_eql F rfl rfl) fun a F => ?_
        refine q_val F rfl rfl (by decide) (r_assign F rfl) fun a F => ?_
        refine nil ?_
        refine hK542 _ _ ?_
        refine wp_ret ?_
        refine thenR ?_
        have H := Option.some.inj H
        subst H
        refine out1 F rfl rfl ?_
        exact ⟨fun b_ => (fun x_ => if x_ < m then x_ else 0) (c545 b_), rfl, E.leave B0 (fun x_ => if x_ < m then x_ else 0) (by intro x_ hx_; show (if x_ < m then x_ else 0) = x_; ((repeat' split) <;> omega)), (fun b_ hb_ => by show (if (c545 b_) < m then (c545 b_) else 0) < m; ((repeat' split) <;> omega))⟩
      · have H := (if_neg hb541).symm.trans H
        refine wp_cond_false ((F.ev rfl).trans (congrArg Value.bool (decide_eq_false hb541))) ?_
        refine wp_skip ?_
        refine hK539 _ _ ?_
        refine wp_seq_k fun K550 hK550 => ?_
        refine reg ?_
        refine q_val F rfl rfl (by decide) (r_move F rfl) fun a F => ?_
        refine q_val F rfl rfl (by decide) (r_move F rfl) fun a F => ?_
        refine q_val F rfl rfl (by decide) (r_lensl F Try.underlying22 rfl) fun a F => ?_
        obtain ⟨t551, q552, H⟩ := bind_some H
        refine q_call F rfl rfl (by decide) (r_call F Try.func25 rfl (by kernel_rfl) rfl) (haulagelaw13_round.calls (m := m + 8) (by omega) B _ q552) ?_
        rintro e w554 ⟨c553, rfl, E555, B556⟩
        refine ⟨_, rfl, fun a F => ?_⟩
        have B := B556
        have h522 := TB.ev h522 E555 (fun q => q.elim) (fun q => q.elim)
        have h524 := SL.ev h524 E555 (fun q => q.elim) (fun q => q.elim)
        have h528 := SL.ev h528 E555 (fun q => q.elim) (fun q => q.elim)
        have h532 := SL.ev h532 E555 (fun q => q.elim) (fun q => q.elim)
        have E := E.trans E555 (fun x q => q.elim)
        refine q_val F rfl rfl (by decide) (r_assign F rfl) fun a F => ?_
        refine nil ?_
        refine hK550 _ _ ?_
        refine wp_seq_k fun K558 hK558 => ?_
        refine reg ?_
        refine q_val F rfl rfl (by decide) (r_move F rfl) fun a F => ?_
        refine q_val F rfl rfl (by decide) (r_move F rfl) fun a F => ?_
        obtain ⟨g559, H⟩ := ifN H
        obtain ⟨ad560, cs561, e562, h563, r564⟩ := SL.at h528 t551 g559.1 g559.2
        obtain ⟨A565, C566, A568, C569, rfl, h567, h570⟩ := r564
        have h567 := SL.fl (i' := 0) h567 (fun q => q)
        have h570 := SL.fl (i' := 0) h570 (fun q => q)
        obtain ⟨qa571, qqa571⟩ : ∃ q, q = (ad560.add (t551.toNat * 5)) := ⟨_, rfl⟩
        have h563 : AT true (m + 4) c553 w554 qa571 [.bool ((rd l529 t551).Done), .slice A565 ((rd l529 t551).Key).length C566, .slice A568 ((rd l529 t551).Value).length C569, .int .i64 ((rd l529 t551).Rev), .int .i64 ((rd l529 t551).At)] := by rw [qqa571]; exact h563
        refine q_val F rfl rfl (by decide) (r_indexAddr' F Try.underlying41 sz_28 rfl rfl g559.1 g559.2 e562 qqa571) fun a F => ?_
        refine q_val F rfl rfl (by decide) (r_fieldAddr F rfl ff_28_4) fun a F => ?_
        refine q_val F rfl rfl (by decide) (r_load F rfl ag_3 (AT.cell h563 rfl)) fun a F => ?_
        refine q_val F rfl rfl (by decide) (r_assign F rfl) fun a F => ?_
        refine nil ?_
        refine hK558 _ _ ?_
        refine wp_seq_k fun K573 hK573 => ?_
        have J598 : ∀ (c599 : Nat → Nat) (w600 : World) (a : Act) (i597 : Int), Fr a 140 [(6, .slice A526 l525.length C527), (7, .slice A530 l529.length C531), (8, .slice A534 l533.length C535), (12, .int .i64 t551), (13, .int .i64 i597)] → Ev (fun x => False ∨ m ≤ x) c0 w0 c599 w600 → CB (m + 8) c599 w600 → SL true K_api_Op (m + 3) 0 c599 w600 A526 C527 l525 → SL true K_api_Answer (m + 4) 0 c599 w600 A530 C531 l529 → SL true K_api_Op (m + 5) 0 c599 w600 A534 C535 l533 → haulagelaw13_TablePlace.j9 k l525 l529 l533 t551 i597 = some r → K573 a w600 := by
          intro c599 w600 a i597 F E B h524 h528 h532 H
          unfold haulagelaw13_TablePlace.j9 at H
          refine hK573 _ _ ?_
          refine wp_seq_k fun K601 hK601 => ?_
          refine reg ?_
          refine q_val F rfl rfl (by decide) (r_move F rfl) fun a F => ?_
          refine q_val F rfl rfl (by decide) (r_move F rfl) fun a F => ?_
          obtain ⟨g602, H⟩ := ifN H
          obtain ⟨A603, C604, r605, h606⟩ := cut_h (kh := .i64) Try.underlying22 sz_33 h524 g602
          refine q_val F rfl rfl (by decide) (r_slice (vl := none) (vh := some (.int .i64 i597)) (vm := none) F rfl rfl rfl rfl r605) fun a F => ?_
          obtain ⟨t607, q608, H⟩ := bind_some H
          refine q_call F rfl rfl (by decide) (r_call F Try.func13 rfl (by kernel_rfl) rfl) (haulagelaw13_made.calls k (m := m + 8) (by omega) B h606.r (by omega) (m + 6) (by omega) _ q608) ?_
          rintro e w610 ⟨c609, p613, rfl, E611, B612, h614⟩
          refine ⟨_, rfl, fun a F => ?_⟩
          have B := B612
          have h524 := SL.ev h524 E611 (fun q => q.elim) (fun q => q.elim)
          have h528 := SL.ev h528 E611 (fun q => q.elim) (fun q => q.elim)
          have h532 := SL.ev h532 E611 (fun q => q.elim) (fun q => q.elim)
          have h606 := SL.ev h606 E611 (fun q => q.elim) (fun q => q.elim)
          have E := E.trans E611 (fun x q => q.elim)
          refine q_val F rfl rfl (by decide) (r_assign F rfl) fun a F => ?_
          refine nil ?_
          refine hK601 _ _ ?_
          refine wp_seq_k fun K616 hK616 => ?_
          refine reg ?_
          refine q_val F rfl rfl (by decide) (r_move F rfl) fun a F => ?_
          refine q_val F rfl rfl (by decide) (r_move F rfl) fun a F => ?_
          refine q_val F rfl rfl (by decide) (r_move F rfl) fun a F => ?_
          obtain ⟨g617, H⟩ := ifN H
          obtain ⟨ad618, cs619, e620, h621, r622⟩ := SL.at h532 t551 g617.1 g617.2
          obtain ⟨A623, C624, A626, C627, rfl, h625, h628⟩ := r622
          have h625 := SL.fl (i' := 0) h625 (fun q => q)
          have h628 := SL.fl (i' := 0) h628 (fun q => q)
          obtain ⟨qa629, qqa629⟩ : ∃ q, q = (ad618.add (t551.toNat * 4)) := ⟨_, rfl⟩
          have h621 : AT true (m + 5) c609 w610 qa629 [.int .i64 ((rd l533 t551).Kind), .slice A623 ((rd l533 t551).Key).length C624, .slice A626 ((rd l533 t551).Value).length C627, .int .i64 ((rd l533 t551).Rev)] := by rw [qqa629]; exact h621
          refine q_val F rfl rfl (by decide) (r_indexAddr' F Try.underlying22 sz_33 rfl rfl g617.1 g617.2 e620 qqa629) fun a F => ?_
          refine q_val F rfl rfl (by decide) (r_loads (cs := [.int .i64 ((rd l533 t551).Kind), .slice A623 ((rd l533 t551).Key).length C624, .slice A626 ((rd l533 t551).Value).length C627, .int .i64 ((rd l533 t551).Rev)]) F rfl ag_33 sz_33 h621) fun a F => ?_
          obtain ⟨t631, q632, H⟩ := bind_some H
          refine q_call F rfl rfl (by decide) (r_call F Try.func14 rfl (by kernel_rfl) rfl) (table_Table_Do.calls k (m := m + 8) (by omega) B h614 h625 h628 (by omega) _ q632) ?_
          rintro e w634 ⟨c633, A637, C638, A640, C641, rfl, E635, B636, h639, h642, h643⟩
          refine ⟨_, rfl, fun a F => ?_⟩
          have B := B636
          have h524 := SL.ev h524 E635 (by show ¬ (m + 3 = m + 6); omega) (by show ¬ (0 = m + 6); omega)
          have h528 := SL.ev h528 E635 (by show ¬ (m + 4 = m + 6); omega) (by show ¬ (0 = m + 6); omega)
          have h532 := SL.ev h532 E635 (by show ¬ (m + 5 = m + 6); omega) (by show ¬ (0 = m + 6); omega)
          have h606 := SL.ev h606 E635 (by show ¬ (m + 3 = m + 6); omega) (by show ¬ (0 = m + 6); omega)
          have h625 := SL.ev h625 E635 (by show ¬ (0 = m + 6); omega) (by show ¬ (0 = m + 6); omega)
          have h628 := SL.ev h628 E635 (by show ¬ (0 = m + 6); omega) (by show ¬ (0 = m + 6); omega)
          have h621 := AT.ev h621 E635 (by show ¬ (m + 5 = m + 6); omega)
          have E := E.trans E635 (fun x q => by replace q : x = m + 6 := q; show False ∨ m ≤ x; omega)
          refine q_val F rfl rfl (by decide) (r_move F rfl) fun a F => ?_
          refine q_val F rfl rfl (by decide) (r_extract F rfl rfl) fun a F => ?_
          refine q_val F rfl rfl (by decide) (r_extract F rfl rfl) fun a F => ?_
          refine q_eff F rfl rfl (by decide) (e_alloc F zv_28 c633 (m + 7)) ?_
          rintro v w646 a ⟨c645, qa647, rfl, E648, h649, B650⟩ F
          have B := B650 _ B (by omega)
          have h524 := SL.ev h524 E648 (fun q => q.elim) (fun q => q.elim)
          have h528 := SL.ev h528 E648 (fun q => q.elim) (fun q => q.elim)
          have h532 := SL.ev h532 E648 (fun q => q.elim) (fun q => q.elim)
          have h606 := SL.ev h606 E648 (fun q => q.elim) (fun q => q.elim)
          have h625 := SL.ev h625 E648 (fun q => q.elim) (fun q => q.elim)
          have h628 := SL.ev h628 E648 (fun q => q.elim) (fun q => q.elim)
          have h621 := AT.ev h621 E648 (fun q => q.elim)
          have h639 := SL.ev h639 E648 (fun q => q.elim) (fun q => q.elim)
          have h642 := SL.ev h642 E648 (fun q => q.elim) (fun q => q.elim)
          have h643 := TB.ev h643 E648 (fun q => q.elim) (fun q => q.elim)
          have E := E.trans E648 (fun x q => q.elim)
          have h649 : AT true (m + 7) c645 w646 qa647 [.bool false, .slice none 0 0, .slice none 0 0, .int .i64 0, .int .i64 0] := h649
          refine q_eff0 F rfl rfl (e_storeN0 (us := [.bool t631.1.Done, .slice A637 t631.1.Key.length C638, .slice A640 t631.1.Value.length C641, .int .i64 t631.1.Rev, .int .i64 t631.1.At]) F rfl rfl sz_28 h649 (Nat.le_of_ble_eq_true rfl) (one_all rfl)) ?_
          rintro w652 a ⟨E653, h649, Z654⟩ F
          have B := B.size Z654
          have h524 := SL.ev h524 E653 (by show ¬ (m + 3 = m + 7); omega) (by show ¬ (0 = m + 7); omega)
          have h528 := SL.ev h528 E653 (by show ¬ (m + 4 = m + 7); omega) (by show ¬ (0 = m + 7); omega)
          have h532 := SL.ev h532 E653 (by show ¬ (m + 5 = m + 7); omega) (by show ¬ (0 = m + 7); omega)
          have h606 := SL.ev h606 E653 (by show ¬ (m + 3 = m + 7); omega) (by show ¬ (0 = m + 7); omega)
          have h625 := SL.ev h625 E653 (by show ¬ (0 = m + 7); omega) (by show ¬ (0 = m + 7); omega)
          have h628 := SL.ev h628 E653 (by show ¬ (0 = m + 7); omega) (by show ¬ (0 = m + 7); omega)
          have h621 := AT.ev h621 E653 (by show ¬ (m + 5 = m + 7); omega)
          have h639 := SL.ev h639 E653 (by show ¬ (0 = m + 7); omega) (by show ¬ (0 = m + 7); omega)
          have h642 := SL.ev h642 E653 (by show ¬ (0 = m + 7); omega) (by show ¬ (0 = m + 7); omega)
          have h643 := TB.ev h643 E653 (by show ¬ (m + 6 = m + 7); omega) (by show ¬ (0 = m + 7); omega)
          have E := E.trans E653 (fun x q => by replace q : x = m + 7 := q; show False ∨ m ≤ x; omega)
          have h649 : AT true (m + 7) c645 w652 qa647 [.bool t631.1.Done, .slice A637 t631.1.Key.length C638, .slice A640 t631.1.Value.length C641, .int .i64 t631.1.Rev, .int .i64 t631.1.At] := h649
          refine q_val F rfl rfl (by decide) (r_assign F rfl) fun a F => ?_
          refine nil ?_
          refine hK616 _ _ ?_
          refine wp_seq_k fun K655 hK655 => ?_
          refine regD (SB No c645 w652) 11 (.q 0 (.q 1 (.q 2 (.q 3 (.q 4 (.q 5 (.q 6 (.q 7 (.e 8 (.q 9 (.q 10 .nil))))))))))) Try_hm (by decide +kernel) ?_
          intro w656 w1_ w2_ w3_ w4_
          have E657 : Ev No c645 w652 c645 w656 := Ev.same w1_ w2_ w3_ w4_
          have B := B.same w1_
          have zh524 := h524
          have zh528 := h528
          have zh532 := h532
          have zh606 := h606
          have zh625 := h625
          have zh628 := h628
          have zh621 := h621
          have zh639 := h639
          have zh642 := h642
          have zh643 := h643
          have zh649 := h649
          have ER : Ev No c645 w652 c645 w656 := Ev.same w1_ w2_ w3_ w4_
          have h524 := SL.ev h524 E657 (fun q => q.elim) (fun q => q.elim)
          have h528 := SL.ev h528 E657 (fun q => q.elim) (fun q => q.elim)
          have h532 := SL.ev h532 E657 (fun q => q.elim) (fun q => q.elim)
          have h606 := SL.ev h606 E657 (fun q => q.elim) (fun q => q.elim)
          have h625 := SL.ev h625 E657 (fun q => q.elim) (fun q => q.elim)
          have h628 := SL.ev h628 E657 (fun q => q.elim) (fun q => q.elim)
          have h621 := AT.ev h621 E657 (fun q => q.elim)
          have h639 := SL.ev h639 E657 (fun q => q.elim) (fun q => q.elim)
          have h642 := SL.ev h642 E657 (fun q => q.elim) (fun q => q.elim)
          have h643 := TB.ev h643 E657 (fun q => q.elim) (fun q => q.elim)
          have h649 := AT.ev h649 E657 (fun q => q.elim)
          have E := E.trans E657 (fun x q => q.elim)
          refine d_q F rfl rfl rfl (by decide) (fun wq hS => r_move F rfl) ER.sb fun a F => ?_
          refine d_q F rfl rfl rfl (by decide) (fun wq hS => r_eql F rfl rfl) ER.sb fun a F => ?_
          refine d_q F rfl rfl rfl (by decide) (fun wq hS => r_move F rfl) ER.sb fun a F => ?_
          by_cases hb658 : t631.2.1 = 0
          · have H := (if_pos hb658).symm.trans H
            refine d_qy F rfl rfl rfl (by decide) rfl (decide_eq_true hb658) rfl (by decide) (fun wq hS => r_loads (cs := [.bool t631.1.Done, .slice A637 t631.1.Key.length C638, .slice A640 t631.1.Value.length C641, .int .i64 t631.1.Rev, .int .i64 t631.1.At]) F rfl ag_28 sz_28 (AT.sb zh649 hS (fun q => q.elim))) ER.sb fun a F => ?_
            refine d_qy F rfl rfl rfl (by decide) rfl (decide_eq_true hb658) rfl (by decide) (fun wq hS => r_move F rfl) ER.sb fun a F => ?_
            refine d_qy F rfl rfl rfl (by decide) rfl (decide_eq_true hb658) rfl (by decide) (fun wq hS => r_move F rfl) ER.sb fun a F => ?_
            obtain ⟨g659, H⟩ := ifN H
            obtain ⟨ad660, cs661, e662, h663, r664⟩ := SL.at zh528 t551 g659.1 g659.2
            obtain ⟨A665, C666, A668, C669, rfl, h667, h670⟩ := r664
            have h667 := SL.fl (i' := 0) h667 (fun q => q)
            have h670 := SL.fl (i' := 0) h670 (fun q => q)
            obtain ⟨qa671, qqa671⟩ : ∃ q, q = (ad660.add (t551.toNat * 5)) := ⟨_, rfl⟩
            have h663 : AT true (m + 4) c645 w652 qa671 [.bool ((rd l529 t551).Done), .slice A665 ((rd l529 t551).Key).length C666, .slice A668 ((rd l529 t551).Value).length C669, .int .i64 ((rd l529 t551).Rev), .int .i64 ((rd l529 t551).At)] := by rw [qqa671]; exact h663
            have zh667 := h667
            have h667 := SL.ev h667 ER (fun q => q.elim) (fun q => q.elim)
            have zh670 := h670
            have h670 := SL.ev h670 ER (fun q => q.elim) (fun q => q.elim)
            have zh663 := h663
            have h663 := AT.ev h663 ER (fun q => q.elim)
            refine d_qy F rfl rfl rfl (by decide) rfl (decide_eq_true hb658) rfl (by decide) (fun wq hS => r_indexAddr' F Try.underlying41 sz_28 rfl rfl g659.1 g659.2 e662 qqa671) ER.sb fun a F => ?_
            refine d_qy F rfl rfl rfl (by decide) rfl (decide_eq_true hb658) rfl (by decide) (fun wq hS => r_loads (cs := [.bool ((rd l529 t551).Done), .slice A665 ((rd l529 t551).Key).length C666, .slice A668 ((rd l529 t551).Value).length C669, .int .i64 ((rd l529 t551).Rev), .int .i64 ((rd l529 t551).At)]) F rfl ag_28 sz_28 (AT.sb zh663 hS (fun q => q.elim))) ER.sb fun a F => ?_
            refine d_e ?_
            obtain ⟨t673, q674, H⟩ := bind_some H
            refine o_call F rfl (wanted_yes F rfl rfl (by decide) rfl (decide_eq_true hb658)) rfl (by decide) (r_call F Try.func22 rfl (by kernel_rfl) rfl) (haulagelaw13_sameAnswer.calls k (m := m + 8) (by omega) B h639 h642 h667 h670 _ q674) ?_
            rintro e w676 ⟨c675, rfl, E677, B678⟩
            refine ⟨_, rfl, fun a F => ?_⟩
            have B := B678
            have ER := ER.trans E677 (fun x q => q.elim)
            have h524 := SL.ev h524 E677 (fun q => q.elim) (fun q => q.elim)
            have h528 := SL.ev h528 E677 (fun q => q.elim) (fun q => q.elim)
            have h532 := SL.ev h532 E677 (fun q => q.elim) (fun q => q.elim)
            have h606 := SL.ev h606 E677 (fun q => q.elim) (fun q => q.elim)
            have h625 := SL.ev h625 E677 (fun q => q.elim) (fun q => q.elim)
            have h628 := SL.ev h628 E677 (fun q => q.elim) (fun q => q.elim)
            have h621 := AT.ev h621 E677 (fun q => q.elim)
            have h639 := SL.ev h639 E677 (fun q => q.elim) (fun q => q.elim)
            have h642 := SL.ev h642 E677 (fun q => q.elim) (fun q => q.elim)
            have h643 := TB.ev h643 E677 (fun q => q.elim) (fun q => q.elim)
            have h649 := AT.ev h649 E677 (fun q => q.elim)
            have h667 := SL.ev h667 E677 (fun q => q.elim) (fun q => q.elim)
            have h670 := SL.ev h670 E677 (fun q => q.elim) (fun q => q.elim)
            have h663 := AT.ev h663 E677 (fun q => q.elim)
            have E := E.trans E677 (fun x q => q.elim)
            refine ⟨fun _ => ER.sb, ?_⟩
            refine d_q F rfl rfl rfl (by decide) (fun wq hS => r_pick_t F rfl (decide_eq_true hb658) rfl) ER.sb fun a F => ?_
            refine d_q F rfl rfl rfl (by decide) (fun wq hS => r_assign F rfl) ER.sb fun a F => ?_
            refine d_nil ?_
            refine hK655 _ _ ?_
            refine wp_ret ?_
            have H := Option.some.inj H
            subst H
            refine out1 F rfl rfl ?_
            exact ⟨fun b_ => (fun x_ => if x_ < m then x_ else 0) (c675 b_), rfl, E.leave B0 (fun x_ => if x_ < m then x_ else 0) (by intro x_ hx_; show (if x_ < m then x_ else 0) = x_; ((repeat' split) <;> omega)), (fun b_ hb_ => by show (if (c675 b_) < m then (c675 b_) else 0) < m; ((repeat' split) <;> omega))⟩
          · have H := (if_neg hb658).symm.trans H
            refine d_qn F rfl rfl rfl (by decide) rfl (decide_eq_false hb658) rfl (by decide) ER.sb fun a F => ?_
            refine d_qn F rfl rfl rfl (by decide) rfl (decide_eq_false hb658) rfl (by decide) ER.sb fun a F => ?_
            refine d_qn F rfl rfl rfl (by decide) rfl (decide_eq_false hb658) rfl (by decide) ER.sb fun a F => ?_
            refine d_qn F rfl rfl rfl (by decide) rfl (decide_eq_false hb658) rfl (by decide) ER.sb fun a F => ?_
            refine d_qn F rfl rfl rfl (by decide) rfl (decide_eq_false hb658) rfl (by decide) ER.sb fun a F => ?_
            refine d_e ?_
            refine o_no F rfl rfl rfl (by decide) rfl (decide_eq_false hb658) rfl (by decide) fun a F => ?_
            refine ⟨fun _ => ER.sb, ?_⟩
            refine d_q F rfl rfl rfl (by decide) (fun wq hS => r_pick_f F rfl (decide_eq_false hb658) rfl) ER.sb fun a F => ?_
            refine d_q F rfl rfl rfl (by decide) (fun wq hS => r_assign F rfl) ER.sb fun a F => ?_
            refine d_nil ?_
            refine hK655 _ _ ?_
            refine wp_ret ?_
            have H := Option.some.inj H
            subst H
            refine out1 F rfl rfl ?_
            exact ⟨fun b_ => (fun x_ => if x_ < m then x_ else 0) (c645 b_), rfl, E.leave B0 (fun x_ => if x_ < m then x_ else 0) (by intro x_ hx_; show (if x_ < m then x_ else 0) = x_; ((repeat' split) <;> omega)), (fun b_ hb_ => by show (if (c645 b_) < m then (c645 b_) else 0) < m; ((repeat' split) <;> omega))⟩
        refine wp_seq_k fun K574 hK574 => ?_
        refine reg ?_
        refine q_val F rfl rfl (by decide) (r_move F rfl) fun a F => ?_
        refine q_val F rfl rfl (by decide) (r_move F rfl) fun a F => ?_
        obtain ⟨g575, H⟩ := ifN H
        obtain ⟨ad576, cs577, e578, h579, r580⟩ := SL.at h532 t551 g575.1 g575.2
        obtain ⟨A581, C582, A584, C585, rfl, h583, h586⟩ := r580
        have h583 := SL.fl (i' := 0) h583 (fun q => q)
        have h586 := SL.fl (i' := 0) h586 (fun q => q)
        obtain ⟨qa587, qqa587⟩ : ∃ q, q = (ad576.add (t551.toNat * 4)) := ⟨_, rfl⟩
        have h579 : AT true (m + 5) c553 w554 qa587 [.int .i64 ((rd l533 t551).Kind), .slice A581 ((rd l533 t551).Key).length C582, .slice A584 ((rd l533 t551).Value).length C585, .int .i64 ((rd l533 t551).Rev)] := by rw [qqa587]; exact h579
        refine q_val F rfl rfl (by decide) (r_indexAddr' F Try.underlying22 sz_33 rfl rfl g575.1 g575.2 e578 qqa587) fun a F => ?_
        refine q_val F rfl rfl (by decide) (r_loads (cs := [.int .i64 ((rd l533 t551).Kind), .slice A581 ((rd l533 t551).Key).length C582, .slice A584 ((rd l533 t551).Value).length C585, .int .i64 ((rd l533 t551).Rev)]) F rfl ag_33 sz_33 h579) fun a F => ?_
        obtain ⟨t589, q590, H⟩ := bind_some H
        refine q_call F rfl rfl (by decide) (r_call F Try.func17 rfl (by kernel_rfl) rfl) (haulagelaw13_writes.calls (m := m + 8) (by omega) B h583 h586 _ q590) ?_
        rintro e w592 ⟨c591, rfl, E593, B594⟩
        refine ⟨_, rfl, fun a F => ?_⟩
        have B := B594
        have h522 := TB.ev h522 E593 (fun q => q.elim) (fun q => q.elim)
        have h524 := SL.ev h524 E593 (fun q => q.elim) (fun q => q.elim)
        have h528 := SL.ev h528 E593 (fun q => q.elim) (fun q => q.elim)
        have h532 := SL.ev h532 E593 (fun q => q.elim) (fun q => q.elim)
        have h567 := SL.ev h567 E593 (fun q => q.elim) (fun q => q.elim)
        have h570 := SL.ev h570 E593 (fun q => q.elim) (fun q => q.elim)
        have h563 := AT.ev h563 E593 (fun q => q.elim)
        have h583 := SL.ev h583 E593 (fun q => q.elim) (fun q => q.elim)
        have h586 := SL.ev h586 E593 (fun q => q.elim) (fun q => q.elim)
        have h579 := AT.ev h579 E593 (fun q => q.elim)
        have E := E.trans E593 (fun x q => q.elim)
        refine nil ?_
        refine hK574 _ _ ?_
        by_cases hb596 : t589 = true
        · have H := (if_pos hb596).symm.trans H
          refine wp_cond_true ((F.ev rfl).trans (congrArg Value.bool hb596)) ?_
          refine reg ?_
          refine q_val F rfl rfl (by decide) (r_move F rfl) fun a F => ?_
          refine q_val F rfl rfl (by decide) (r_sub F rfl rfl) fun a F => ?_
          refine q_val F rfl rfl (by decide) (r_assign F rfl) fun a F => ?_
          refine nil ?_
          exact J598 c591 w592 a (IntKind.i64.wrap (((rd l529 t551).At) - 1)) (F.sub ⟨rfl, rfl, rfl, rfl, rfl, trivial⟩) E B h524 h528 h532 H
        · have H := (if_neg hb596).symm.trans H
          refine wp_cond_false ((F.ev rfl).trans (congrArg Value.bool (bfalse hb596))) ?_
          refine wp_skip ?_
          exact J598 c591 w592 a ((rd l529 t551).At) (F.sub ⟨rfl, rfl, rfl, rfl, rfl, trivial⟩) E B h524 h528 h532 H
    refine loop_fuel (I := fun n a w => ∃ (o273 : Option Tab) (l274 : List api_Op) (A275 : Option Addr) (C276 : Nat) (l278 : List api_Answer) (A279 : Option Addr) (C280 : Nat) (l282 : List api_Op) (A283 : Option Addr) (C284 : Nat) (i286 : Int) (c : Nat → Nat), Fr a 140 [(0, .slice A2 a1.length C3), (1, .int .i64 a5), (5, .pointer p25), (6, .slice A275 l274.length C276), (7, .slice A279 l278.length C280), (8, .slice A283 l282.length C284), (9, .int .i64 i286)] ∧ Ev (fun x => False ∨ m ≤ x) c0 w0 c w ∧ CB (m + 8) c w ∧ SL false K_api_Op 0 0 c w A2 C3 a1 ∧ TB (m + 1) c w p25 o273 ∧ SL true K_api_Op (m + 3) 0 c w A275 C276 l274 ∧ SL true K_api_Answer (m + 4) 0 c w A279 C280 l278 ∧ SL true K_api_Op (m + 5) 0 c w A283 C284 l282 ∧ loop (fun (s_ : (Option Tab) × (List api_Op) × (List api_Answer) × (List api_Op) × Int) => haulagelaw13_TablePlace.b7 k a1 s_.1 s_.2.1 s_.2.2.1 s_.2.2.2.1 s_.2.2.2.2) n (o273, l274, l278, l282, i286) = some x296) (k := k) ⟨t19, [], none, 0, [], none, 0, [], none, 0, 0, c21, F.sub ⟨rfl, rfl, rfl, rfl, rfl, rfl, rfl, trivial⟩, E, B, h4, h26, SL.nil, SL.nil, SL.nil, HL⟩ ?_
    clear HL H E F B
    intro n293 X289 hX289 a w288 ⟨o273, l274, A275, C276, l278, A279, C280, l282, A283, C284, i286, c287, F, E, B, h4, h272, h277, h281, h285, HL⟩
    obtain ⟨n294, ctl292, rfl, HB, HN290, HD291⟩ := loop_some HL
    have H : haulagelaw13_TablePlace.b7 k a1 o273 l274 l278 l282 i286 = some ctl292 := HB
    clear HB HL
    unfold haulagelaw13_TablePlace.b7 at H
    refine wp_seq_k fun K297 hK297 => ?_
    refine wp_seq_k fun K298 hK298 => ?_
    refine reg ?_
    refine q_val F rfl rfl (by decide) (r_move F rfl) fun a F => ?_
    refine q_val F rfl rfl (by decide) (r_move F rfl) fun a F => ?_
    refine q_val F rfl rfl (by decide) (r_lensl F Try.underlying22 rfl) fun a F => ?_
    refine q_val F rfl rfl (by decide) (r_lss F rfl rfl) fun a F => ?_
    refine nil ?_
    refine hK298 _ _ ?_
    by_cases hb299 : i286 < (a1.length : Int)
    · have H := (if_pos hb299).symm.trans H
      refine wp_cond_true ((F.ev rfl).trans (congrArg Value.bool (decide_eq_true hb299))) ?_
      refine wp_skip ?_
      refine hK297 _ _ ?_
      refine wp_seq_k fun K300 hK300 => ?_
      refine wp_block ?_
      refine wp_seq_k fun K301 hK301 => ?_
      refine reg ?_
      refine q_val F rfl rfl (by decide) (r_move F rfl) fun a F => ?_
      refine q_val F rfl rfl (by decide) (r_move F rfl) fun a F => ?_
      refine q_val F rfl rfl (by decide) (r_move F rfl) fun a F => ?_
      obtain ⟨g302, H⟩ := ifN H
      obtain ⟨ad303, cs304, e305, h306, r307⟩ := SL.at h4 i286 g302.1 g302.2
      obtain ⟨A308, C309, A311, C312, rfl, h310, h313⟩ := r307
      have h310 := SL.fl (i' := 0) h310 (fun q => q)
      have h313 := SL.fl (i' := 0) h313 (fun q => q)
      obtain ⟨qa314, qqa314⟩ : ∃ q, q = (ad303.add (i286.toNat * 4)) := ⟨_, rfl⟩
      have h306 : AT false 0 c287 w288 qa314 [.int .i64 ((rd a1 i286).Kind), .slice A308 ((rd a1 i286).Key).length C309, .slice A311 ((rd a1 i286).Value).length C312, .int .i64 ((rd a1 i286).Rev)] := by rw [qqa314]; exact h306
      refine q_val F rfl rfl (by decide) (r_indexAddr' F Try.underlying22 sz_33 rfl rfl g302.1 g302.2 e305 qqa314) fun a F => ?_
      refine q_val F rfl rfl (by decide) (r_loads (cs := [.int .i64 ((rd a1 i286).Kind), .slice A308 ((rd a1 i286).Key).length C309, .slice A311 ((rd a1 i286).Value).length C312, .int .i64 ((rd a1 i286).Rev)]) F rfl ag_33 sz_33 h306) fun a F => ?_
      obtain ⟨t63, q64, H⟩ := bind_some H
      refine q_call F rfl rfl (by decide) (r_call F Try.func14 rfl (by kernel_rfl) rfl) (table_Table_Do.calls k (m := m + 8) (by omega) B h272 h310 h313 (by omega) _ q64) ?_
      rintro e w317 ⟨c316, A320, C321, A323, C324, rfl, E318, B319, h322, h325, h326⟩
      refine ⟨_, rfl, fun a F => ?_⟩
      have B := B319
      have h4 := SL.ev h4 E318 (by show ¬ (0 = m + 1); omega) (by show ¬ (0 = m + 1); omega)
      have h277 := SL.ev h277 E318 (by show ¬ (m + 3 = m + 1); omega) (by show ¬ (0 = m + 1); omega)
      have h281 := SL.ev h281 E318 (by show ¬ (m + 4 = m + 1); omega) (by show ¬ (0 = m + 1); omega)
      have h285 := SL.ev h285 E318 (by show ¬ (m + 5 = m + 1); omega) (by show ¬ (0 = m + 1); omega)
      have h310 := SL.ev h310 E318 (by show ¬ (0 = m + 1); omega) (by show ¬ (0 = m + 1); omega)
      have h313 := SL.ev h313 E318 (by show ¬ (0 = m + 1); omega) (by show ¬ (0 = m + 1); omega)
      have h306 := AT.ev h306 E318 (by show ¬ (0 = m + 1); omega)
      have E := E.trans E318 (fun x q => by replace q : x = m + 1 := q; show False ∨ m ≤ x; omega)
      refine q_val F rfl rfl (by decide) (r_move F rfl) fun a F => ?_
      refine q_val F rfl rfl (by decide) (r_extract F rfl rfl) fun a F => ?_
      refine q_val F rfl rfl (by decide) (r_extract F rfl rfl) fun a F => ?_
      refine q_eff F rfl rfl (by decide) (e_alloc F zv_28 c316 (m + 2)) ?_
      rintro v w329 a ⟨c328, qa79, rfl, E330, h81, B331⟩ F
      have B := B331 _ B (by omega)
      have h4 := SL.ev h4 E330 (fun q => q.elim) (fun q => q.elim)
      have h277 := SL.ev h277 E330 (fun q => q.elim) (fun q => q.elim)
      have h281 := SL.ev h281 E330 (fun q => q.elim) (fun q => q.elim)
      have h285 := SL.ev h285 E330 (fun q => q.elim) (fun q => q.elim)
      have h310 := SL.ev h310 E330 (fun q => q.elim) (fun q => q.elim)
      have h313 := SL.ev h313 E330 (fun q => q.elim) (fun q => q.elim)
      have h306 := AT.ev h306 E330 (fun q => q.elim)
      have h322 := SL.ev h322 E330 (fun q => q.elim) (fun q => q.elim)
      have h325 := SL.ev h325 E330 (fun q => q.elim) (fun q => q.elim)
      have h326 := TB.ev h326 E330 (fun q => q.elim) (fun q => q.elim)
      have E := E.trans E330 (fun x q => q.elim)
      have h81 : AT true (m + 2) c328 w329 qa79 [.bool false, .slice none 0 0, .slice none 0 0, .int .i64 0, .int .i64 0] := h81
      refine q_eff0 F rfl rfl (e_storeN0 (us := [.bool t63.1.Done, .slice A320 t63.1.Key.length C321, .slice A323 t63.1.Value.length C324, .int .i64 t63.1.Rev, .int .i64 t63.1.At]) F rfl rfl sz_28 h81 (Nat.le_of_ble_eq_true rfl) (one_all rfl)) ?_
      rintro w332 a ⟨E333, h81, Z334⟩ F
      have B := B.size Z334
      have h4 := SL.ev h4 E333 (by show ¬ (0 = m + 2); omega) (by show ¬ (0 = m + 2); omega)
      have h277 := SL.ev h277 E333 (by show ¬ (m + 3 = m + 2); omega) (by show ¬ (0 = m + 2); omega)
      have h281 := SL.ev h281 E333 (by show ¬ (m + 4 = m + 2); omega) (by show ¬ (0 = m + 2); omega)
      have h285 := SL.ev h285 E333 (by show ¬ (m + 5 = m + 2); omega) (by show ¬ (0 = m + 2); omega)
      have h310 := SL.ev h310 E333 (by show ¬ (0 = m + 2); omega) (by show ¬ (0 = m + 2); omega)
      have h313 := SL.ev h313 E333 (by show ¬ (0 = m + 2); omega) (by show ¬ (0 = m + 2); omega)
      have h306 := AT.ev h306 E333 (by show ¬ (0 = m + 2); omega)
      have h322 := SL.ev h322 E333 (by show ¬ (0 = m + 2); omega) (by show ¬ (0 = m + 2); omega)
      have h325 := SL.ev h325 E333 (by show ¬ (0 = m + 2); omega) (by show ¬ (0 = m + 2); omega)
      have h326 := TB.ev h326 E333 (by show ¬ (m + 1 = m + 2); omega) (by show ¬ (0 = m + 2); omega)
      have E := E.trans E333 (fun x q => by replace q : x = m + 2 := q; show False ∨ m ≤ x; omega)
      have h81 : AT true (m + 2) c328 w332 qa79 [.bool t63.1.Done, .slice A320 t63.1.Key.length C321, .slice A323 t63.1.Value.length C324, .int .i64 t63.1.Rev, .int .i64 t63.1.At] := h81
      refine q_val F rfl rfl (by decide) (r_assign F rfl) fun a F => ?_
      refine nil ?_
      refine hK301 _ _ ?_
      refine wp_seq_k fun K335 hK335 => ?_
      refine wp_seq_k fun K336 hK336 => ?_
      refine reg ?_
      refine q_val F rfl rfl (by decide) (r_move F rfl) fun a F => ?_
      refine q_val F rfl rfl (by decide) (r_neq F rfl rfl) fun a F => ?_
      refine nil ?_
      refine hK336 _ _ ?_
      by_cases hb337 : t63.2.1 = 0
      · have H := (if_pos hb337).symm.trans H
        refine wp_cond_false ((F.ev rfl).trans (congrArg Value.bool (congrArg not (decide_eq_true hb337)))) ?_
        refine wp_skip ?_
        refine hK335 _ _ ?_
        refine wp_seq_k fun K372 hK372 => ?_
        have J426 : ∀ (c427 : Nat → Nat) (w428 : World) (a : Act) (l425 : List api_Op) (A422 : Option Addr) (C423 : Nat), Fr a 140 [(0, .slice A2 a1.length C3), (1, .int .i64 a5), (5, .pointer p25), (6, .slice A422 l425.length C423), (7, .slice A279 l278.length C280), (8, .slice A283 l282.length C284), (9, .int .i64 i286), (10, .pointer (some qa79))] → Ev (fun x => False ∨ m ≤ x) c0 w0 c427 w428 → CB (m + 8) c427 w428 → AT true (m + 2) c427 w428 qa79 [.bool t63.1.Done, .slice A320 t63.1.Key.length C321, .slice A323 t63.1.Value.length C324, .int .i64 t63.1.Rev, .int .i64 t63.1.At] → SL false K_api_Op 0 0 c427 w428 A2 C3 a1 → TB (m + 1) c427 w428 p25 t63.2.2 → SL true K_api_Answer (m + 4) 0 c427 w428 A279 C280 l278 → SL true K_api_Op (m + 5) 0 c427 w428 A283 C284 l282 → SL false (Kint .u8) 0 0 c427 w428 A320 C321 t63.1.Key → SL false (Kint .u8) 0 0 c427 w428 A323 C324 t63.1.Value → SL true K_api_Op (m + 3) 0 c427 w428 A422 C423 l425 → haulagelaw13_TablePlace.j5 a1 t63 l278 l282 i286 l425 = some ctl292 → K372 a w428 := by
          intro c427 w428 a l425 A422 C423 F E B h81 h4 h326 h281 h285 h322 h325 h424 H
          unfold haulagelaw13_TablePlace.j5 at H
          refine hK372 _ _ ?_
          refine wp_seq_k fun K429 hK429 => ?_
          refine wp_seq_k fun K430 hK430 => ?_
          have J458 : ∀ (c459 : Nat → Nat) (w460 : World) (a : Act) (b457 : Bool), Fr a 140 [(0, .slice A2 a1.length C3), (1, .int .i64 a5), (5, .pointer p25), (6, .slice A422 l425.length C423), (7, .slice A279 l278.length C280), (8, .slice A283 l282.length C284), (9, .int .i64 i286), (10, .pointer (some qa79)), (83, .bool b457)] → Ev (fun x => False ∨ m ≤ x) c0 w0 c459 w460 → CB (m + 8) c459 w460 → AT true (m + 2) c459 w460 qa79 [.bool t63.1.Done, .slice A320 t63.1.Key.length C321, .slice A323 t63.1.Value.length C324, .int .i64 t63.1.Rev, .int .i64 t63.1.At] → SL false K_api_Op 0 0 c459 w460 A2 C3 a1 → TB (m + 1) c459 w460 p25 t63.2.2 → SL true K_api_Op (m + 3) 0 c459 w460 A422 C423 l425 → SL true K_api_Answer (m + 4) 0 c459 w460 A279 C280 l278 → SL true K_api_Op (m + 5) 0 c459 w460 A283 C284 l282 → SL false (Kint .u8) 0 0 c459 w460 A320 C321 t63.1.Key → SL false (Kint .u8) 0 0 c459 w460 A323 C324 t63.1.Value → haulagelaw13_TablePlace.j6 a1 t63 l278 l282 i286 l425 b457 = some ctl292 → K430 a w460 := by
            intro c459 w460 a b457 F E B h81 h4 h326 h424 h281 h285 h322 h325 H
            unfold haulagelaw13_TablePlace.j6 at H
            refine hK430 _ _ ?_
            by_cases hb461 : b457 = true
            · have H := (if_pos hb461).symm.trans H
              refine wp_cond_true ((F.ev rfl).trans (congrArg Value.bool hb461)) ?_
              refine wp_seq_k fun K462 hK462 => ?_
              refine reg ?_
              refine q_val F rfl rfl (by decide) (r_assign F rfl) fun a F => ?_
              refine nil ?_
              refine hK462 _ _ ?_
              refine wp_ret ?_
              refine thenR ?_
              refine inbR ?_
              refine thenR ?_
              refine thenR ?_
              refine inbR ?_
              refine thenR ?_
              have hx_ := HD291 _ (Option.some.inj H).symm
              have H := HR295
              rw [← hx_] at H
              replace H : some false = some r := H
              have H := Option.some.inj H
              subst H
              refine out1 F rfl rfl ?_
              exact ⟨fun b_ => (fun x_ => if x_ < m then x_ else 0) (c459 b_), rfl, E.leave B0 (fun x_ => if x_ < m then x_ else 0) (by intro x_ hx_; show (if x_ < m then x_ else 0) = x_; ((repeat' split) <;> omega)), (fun b_ hb_ => by show (if (c459 b_) < m then (c459 b_) else 0) < m; ((repeat' split) <;> omega))⟩
            · have H := (if_neg hb461).symm.trans H
              refine wp_cond_false ((F.ev rfl).trans (congrArg Value.bool (bfalse hb461))) ?_
              refine wp_skip ?_
              refine hK429 _ _ ?_
              refine wp_seq_k fun K463 hK463 => ?_
              refine reg ?_
              refine q_val F rfl rfl (by decide) (r_move F rfl) fun a F => ?_
              refine q_val F rfl rfl (by decide) (r_loads (cs := [.bool t63.1.Done, .slice A320 t63.1.Key.length C321, .slice A323 t63.1.Value.length C324, .int .i64 t63.1.Rev, .int .i64 t63.1.At]) F rfl ag_28 sz_28 h81) fun a F => ?_
              refine q_eff F rfl rfl (by decide) (e_buildSlice (n := 1) (e := 28) (c := c459) (k := K_api_Answer) (i := 0) F [(0, .agg #[.bool t63.1.Done, .slice A320 t63.1.Key.length C321, .slice A323 t63.1.Value.length C324, .int .i64 t63.1.Rev, .int .i64 t63.1.At])] [.bool t63.1.Done, .slice A320 t63.1.Key.length C321, .slice A323 t63.1.Value.length C324, .int .i64 t63.1.Rev, .int .i64 t63.1.At] ([t63.1] : List api_Answer) (by exact ⟨rfl, rfl, trivial⟩) (fun w => by kernel_rfl) rfl (by decide) rfl ⟨⟨A320, C321, A323, C324, rfl, (SL.fl h322 (fun q => q)), (SL.fl h325 (fun q => q))⟩, trivial⟩ (fun q => q) 0) ?_
              rintro v w465 a ⟨c464, A466, C467, rfl, E468, h469, B470⟩ F
              have B := B470 _ B (by omega)
              have h81 := AT.ev h81 E468 (fun q => q.elim)
              have h4 := SL.ev h4 E468 (fun q => q.elim) (fun q => q.elim)
              have h326 := TB.ev h326 E468 (fun q => q.elim) (fun q => q.elim)
              have h424 := SL.ev h424 E468 (fun q => q.elim) (fun q => q.elim)
              have h281 := SL.ev h281 E468 (fun q => q.elim) (fun q => q.elim)
              have h285 := SL.ev h285 E468 (fun q => q.elim) (fun q => q.elim)
              have h322 := SL.ev h322 E468 (fun q => q.elim) (fun q => q.elim)
              have h325 := SL.ev h325 E468 (fun q => q.elim) (fun q => q.elim)
              have E := E.trans E468 (fun x q => q.elim)
              obtain ⟨g234, H⟩ := ifN H
              refine q_eff F rfl rfl (by decide) (e_append (k := K_api_Answer) (xs := l278) (ys := [t63.1]) (c := c464) (j := (m + 4)) (i := 0) F et_41 rfl rfl h281 h469 (by simpa using g234) (by have g_ := g234; unfold maxLen; simp at g_ ⊢; omega) (by omega)) ?_
              rintro v w472 a ⟨c471, A473, C474, rfl, E475, h476, B477⟩ F
              have B := B477 _ B (by omega)
              have h81 := AT.ev h81 E475 (by show ¬ (m + 2 = m + 4); omega)
              have h4 := SL.ev h4 E475 (by show ¬ (0 = m + 4); omega) (by show ¬ (0 = m + 4); omega)
              have h326 := TB.ev h326 E475 (by show ¬ (m + 1 = m + 4); omega) (by show ¬ (0 = m + 4); omega)
              have h424 := SL.ev h424 E475 (by show ¬ (m + 3 = m + 4); omega) (by show ¬ (0 = m + 4); omega)
              have h285 := SL.ev h285 E475 (by show ¬ (m + 5 = m + 4); omega) (by show ¬ (0 = m + 4); omega)
              have h322 := SL.ev h322 E475 (by show ¬ (0 = m + 4); omega) (by show ¬ (0 = m + 4); omega)
              have h325 := SL.ev h325 E475 (by show ¬ (0 = m + 4); omega) (by show ¬ (0 = m + 4); omega)
              have h469 := SL.ev h469 E475 (by show ¬ (0 = m + 4); omega) (by show ¬ (0 = m + 4); omega)
              have E := E.trans E475 (fun x q => by replace q : x = m + 4 := q; show False ∨ m ≤ x; omega)
              refine q_val F rfl rfl (by decide) (r_assign F rfl) fun a F => ?_
              refine nil ?_
              refine hK463 _ _ ?_
              refine reg ?_
              refine q_val F rfl rfl (by decide) (r_move F rfl) fun a F => ?_
              refine q_val F rfl rfl (by decide) (r_move F rfl) fun a F => ?_
              refine q_val F rfl rfl (by decide) (r_move F rfl) fun a F => ?_
              obtain ⟨g478, H⟩ := ifN H
              obtain ⟨ad479, cs480, e481, h482, r483⟩ := SL.at h4 i286 g478.1 g478.2
              obtain ⟨A484, C485, A487, C488, rfl, h486, h489⟩ := r483
              have h486 := SL.fl (i' := 0) h486 (fun q => q)
              have h489 := SL.fl (i' := 0) h489 (fun q => q)
              obtain ⟨qa490, qqa490⟩ : ∃ q, q = (ad479.add (i286.toNat * 4)) := ⟨_, rfl⟩
              have h482 : AT false 0 c471 w472 qa490 [.int .i64 ((rd a1 i286).Kind), .slice A484 ((rd a1 i286).Key).length C485, .slice A487 ((rd a1 i286).Value).length C488, .int .i64 ((rd a1 i286).Rev)] := by rw [qqa490]; exact h482
              refine q_val F rfl rfl (by decide) (r_indexAddr' F Try.underlying22 sz_33 rfl rfl g478.1 g478.2 e481 qqa490) fun a F => ?_
              refine q_val F rfl rfl (by decide) (r_loads (cs := [.int .i64 ((rd a1 i286).Kind), .slice A484 ((rd a1 i286).Key).length C485, .slice A487 ((rd a1 i286).Value).length C488, .int .i64 ((rd a1 i286).Rev)]) F rfl ag_33 sz_33 h482) fun a F => ?_
              refine q_eff F rfl rfl (by decide) (e_buildSlice (n := 1) (e := 33) (c := c471) (k := K_api_Op) (i := 0) F [(0, .agg #[.int .i64 ((rd a1 i286).Kind), .slice A484 ((rd a1 i286).Key).length C485, .slice A487 ((rd a1 i286).Value).length C488, .int .i64 ((rd a1 i286).Rev)])] [.int .i64 ((rd a1 i286).Kind), .slice A484 ((rd a1 i286).Key).length C485, .slice A487 ((rd a1 i286).Value).length C488, .int .i64 ((rd a1 i286).Rev)] ([(rd a1 i286)] : List api_Op) (by exact ⟨rfl, rfl, trivial⟩) (fun w => by kernel_rfl) rfl (by decide) rfl ⟨⟨A484, C485, A487, C488, rfl, (SL.fl h486 (fun q => q)), (SL.fl h489 (fun q => q))⟩, trivial⟩ (fun q => q) 0) ?_
              rintro v w493 a ⟨c492, A494, C495, rfl, E496, h497, B498⟩ F
              have B := B498 _ B (by omega)
              have h81 := AT.ev h81 E496 (fun q => q.elim)
              have h4 := SL.ev h4 E496 (fun q => q.elim) (fun q => q.elim)
              have h326 := TB.ev h326 E496 (fun q => q.elim) (fun q => q.elim)
              have h424 := SL.ev h424 E496 (fun q => q.elim) (fun q => q.elim)
              have h285 := SL.ev h285 E496 (fun q => q.elim) (fun q => q.elim)
              have h322 := SL.ev h322 E496 (fun q => q.elim) (fun q => q.elim)
              have h325 := SL.ev h325 E496 (fun q => q.elim) (fun q => q.elim)
              have h469 := SL.ev h469 E496 (fun q => q.elim) (fun q => q.elim)
              have h476 := SL.ev h476 E496 (fun q => q.elim) (fun q => q.elim)
              have h486 := SL.ev h486 E496 (fun q => q.elim) (fun q => q.elim)
              have h489 := SL.ev h489 E496 (fun q => q.elim) (fun q => q.elim)
              have h482 := AT.ev h482 E496 (fun q => q.elim)
              have E := E.trans E496 (fun x q => q.elim)
              obtain ⟨g263, H⟩ := ifN H
              refine q_eff F rfl rfl (by decide) (e_append (k := K_api_Op) (xs := l282) (ys := [(rd a1 i286)]) (c := c492) (j := (m + 5)) (i := 0) F et_22 rfl rfl h285 h497 (by simpa using g263) (by have g_ := g263; unfold maxLen; simp at g_ ⊢; omega) (by omega)) ?_
              rintro v w500 a ⟨c499, A501, C502, rfl, E503, h504, B505⟩ F
              have B := B505 _ B (by omega)
              have h81 := AT.ev h81 E503 (by show ¬ (m + 2 = m + 5); omega)
              have h4 := SL.ev h4 E503 (by show ¬ (0 = m + 5); omega) (by show ¬ (0 = m + 5); omega)
              have h326 := TB.ev h326 E503 (by show ¬ (m + 1 = m + 5); omega) (by show ¬ (0 = m + 5); omega)
              have h424 := SL.ev h424 E503 (by show ¬ (m + 3 = m + 5); omega) (by show ¬ (0 = m + 5); omega)
              have h322 := SL.ev h322 E503 (by show ¬ (0 = m + 5); omega) (by show ¬ (0 = m + 5); omega)
              have h325 := SL.ev h325 E503 (by show ¬ (0 = m + 5); omega) (by show ¬ (0 = m + 5); omega)
              have h469 := SL.ev h469 E503 (by show ¬ (0 = m + 5); omega) (by show ¬ (0 = m + 5); omega)
              have h476 := SL.ev h476 E503 (by show ¬ (m + 4 = m + 5); omega) (by show ¬ (0 = m + 5); omega)
              have h486 := SL.ev h486 E503 (by show ¬ (0 = m + 5); omega) (by show ¬ (0 = m + 5); omega)
              have h489 := SL.ev h489 E503 (by show ¬ (0 = m + 5); omega) (by show ¬ (0 = m + 5); omega)
              have h482 := AT.ev h482 E503 (by show ¬ (0 = m + 5); omega)
              have h497 := SL.ev h497 E503 (by show ¬ (0 = m + 5); omega) (by show ¬ (0 = m + 5); omega)
              have E := E.trans E503 (fun x q => by replace q : x = m + 5 := q; show False ∨ m ≤ x; omega)
              refine q_val F rfl rfl (by decide) (r_assign F rfl) fun a F => ?_
              refine nil ?_
              refine hK300 _ _ ?_
              refine reg ?_
              refine q_val F rfl rfl (by decide) (r_move F rfl) fun a F => ?_
              refine q_val F rfl rfl (by decide) (r_add F rfl rfl) fun a F => ?_
              refine q_val F rfl rfl (by decide) (r_assign F rfl) fun a F => ?_
              refine nil ?_
              have H := HN290 _ (Option.some.inj H).symm
              exact hX289 _ _ _ (Nat.lt_succ_self _) ⟨t63.2.2, l425, A422, C423, (l278 ++ [t63.1]), A473, C474, (l282 ++ [(rd a1 i286)]), A501, C502, (IntKind.i64.wrap (i286 + 1)), c499, F.sub ⟨rfl, rfl, rfl, rfl, rfl, rfl, rfl, trivial⟩, E, B, h4, h326, h424, h476, h504, H⟩
          refine reg ?_
          refine q_val F rfl rfl (by decide) (r_fieldAddr F rfl ff_28_4) fun a F => ?_
          refine q_val F rfl rfl (by decide) (r_load F rfl ag_3 (AT.cell h81 rfl)) fun a F => ?_
          refine q_val F rfl rfl (by decide) (r_move F rfl) fun a F => ?_
          refine q_val F rfl rfl (by decide) (r_lensl F Try.underlying22 rfl) fun a F => ?_
          refine q_val F rfl rfl (by decide) (r_neq F rfl rfl) fun a F => ?_
          refine q_val F rfl rfl (by decide) (r_move F rfl) fun a F => ?_
          by_cases hb431 : t63.1.At = (l425.length : Int)
          · have H := (if_pos hb431).symm.trans H
            refine q_yes F rfl (by decide) rfl (congrArg not (decide_eq_true hb431)) ?_
            refine q_val F rfl rfl (by decide) (r_move F rfl) fun a F => ?_
            obtain ⟨t191, q192, H⟩ := bind_some H
            refine q_yes F rfl (by decide) rfl (congrArg not (decide_eq_true hb431)) ?_
            refine q_call F rfl rfl (by decide) (r_call F Try.func23 rfl (by kernel_rfl) rfl) (table_Table_Rev.calls (m := m + 8) (by omega) B h326 (by omega) _ q192) ?_
            rintro e w433 ⟨c432, rfl, E434, B435⟩
            refine ⟨_, rfl, fun a F => ?_⟩
            have B := B435
            have h81 := AT.ev h81 E434 (fun q => q.elim)
            have h4 := SL.ev h4 E434 (fun q => q.elim) (fun q => q.elim)
            have h326 := TB.ev h326 E434 (fun q => q.elim) (fun q => q.elim)
            have h281 := SL.ev h281 E434 (fun q => q.elim) (fun q => q.elim)
            have h285 := SL.ev h285 E434 (fun q => q.elim) (fun q => q.elim)
            have h322 := SL.ev h322 E434 (fun q => q.elim) (fun q => q.elim)
            have h325 := SL.ev h325 E434 (fun q => q.elim) (fun q => q.elim)
            have h424 := SL.ev h424 E434 (fun q => q.elim) (fun q => q.elim)
            have E := E.trans E434 (fun x q => q.elim)
            refine q_yes F rfl (by decide) rfl (congrArg not (decide_eq_true hb431)) ?_
            refine q_val F rfl rfl (by decide) (r_move F rfl) fun a F => ?_
            refine q_yes F rfl (by decide) rfl (congrArg not (decide_eq_true hb431)) ?_
            refine q_val F rfl rfl (by decide) (r_lensl F Try.underlying22 rfl) fun a F => ?_
            refine q_yes F rfl (by decide) rfl (congrArg not (decide_eq_true hb431)) ?_
            refine q_val F rfl rfl (by decide) (r_neq F rfl rfl) fun a F => ?_
            refine q_val F rfl rfl (by decide) (r_pick_f F rfl (congrArg not (decide_eq_true hb431)) rfl) fun a F => ?_
            refine q_val F rfl rfl (by decide) (r_move F rfl) fun a F => ?_
            by_cases hb437 : t191 = (l425.length : Int)
            · have H := (if_pos hb437).symm.trans H
              refine q_yes F rfl (by decide) rfl (congrArg not (decide_eq_true hb437)) ?_
              refine q_val F rfl rfl (by decide) (r_move F rfl) fun a F => ?_
              refine q_yes F rfl (by decide) rfl (congrArg not (decide_eq_true hb437)) ?_
              refine q_val F rfl rfl (by decide) (r_move F rfl) fun a F => ?_
              obtain ⟨g438, H⟩ := ifN H
              obtain ⟨ad439, cs440, e441, h442, r443⟩ := SL.at h4 i286 g438.1 g438.2
              obtain ⟨A444, C445, A447, C448, rfl, h446, h449⟩ := r443
              have h446 := SL.fl (i' := 0) h446 (fun q => q)
              have h449 := SL.fl (i' := 0) h449 (fun q => q)
              obtain ⟨qa450, qqa450⟩ : ∃ q, q = (ad439.add (i286.toNat * 4)) := ⟨_, rfl⟩
              have h442 : AT false 0 c432 w433 qa450 [.int .i64 ((rd a1 i286).Kind), .slice A444 ((rd a1 i286).Key).length C445, .slice A447 ((rd a1 i286).Value).length C448, .int .i64 ((rd a1 i286).Rev)] := by rw [qqa450]; exact h442
              refine q_yes F rfl (by decide) rfl (congrArg not (decide_eq_true hb437)) ?_
              refine q_val F rfl rfl (by decide) (r_indexAddr' F Try.underlying22 sz_33 rfl rfl g438.1 g438.2 e441 qqa450) fun a F => ?_
              refine q_yes F rfl (by decide) rfl (congrArg not (decide_eq_true hb437)) ?_
              refine q_val F rfl rfl (by decide) (r_loads (cs := [.int .i64 ((rd a1 i286).Kind), .slice A444 ((rd a1 i286).Key).length C445, .slice A447 ((rd a1 i286).Value).length C448, .int .i64 ((rd a1 i286).Rev)]) F rfl ag_33 sz_33 h442) fun a F => ?_
              obtain ⟨t213, q214, H⟩ := bind_some H
              refine q_yes F rfl (by decide) rfl (congrArg not (decide_eq_true hb437)) ?_
              refine q_call F rfl rfl (by decide) (r_call F Try.func16 rfl (by kernel_rfl) rfl) (table_Right.calls (m := m + 8) (by omega) B h446 h449 _ q214) ?_
              rintro e w453 ⟨c452, rfl, E454, B455⟩
              refine ⟨_, rfl, fun a F => ?_⟩
              have B := B455
              have h81 := AT.ev h81 E454 (fun q => q.elim)
              have h4 := SL.ev h4 E454 (fun q => q.elim) (fun q => q.elim)
              have h326 := TB.ev h326 E454 (fun q => q.elim) (fun q => q.elim)
              have h281 := SL.ev h281 E454 (fun q => q.elim) (fun q => q.elim)
              have h285 := SL.ev h285 E454 (fun q => q.elim) (fun q => q.elim)
              have h322 := SL.ev h322 E454 (fun q => q.elim) (fun q => q.elim)
              have h325 := SL.ev h325 E454 (fun q => q.elim) (fun q => q.elim)
              have h424 := SL.ev h424 E454 (fun q => q.elim) (fun q => q.elim)
              have h446 := SL.ev h446 E454 (fun q => q.elim) (fun q => q.elim)
              have h449 := SL.ev h449 E454 (fun q => q.elim) (fun q => q.elim)
              have h442 := AT.ev h442 E454 (fun q => q.elim)
              have E := E.trans E454 (fun x q => q.elim)
              refine q_yes F rfl (by decide) rfl (congrArg not (decide_eq_true hb437)) ?_
              refine q_val F rfl rfl (by decide) (r_not F rfl) fun a F => ?_
              refine q_val F rfl rfl (by decide) (r_pick_f F rfl (congrArg not (decide_eq_true hb437)) rfl) fun a F => ?_
              refine nil ?_
              exact J458 c452 w453 a (!t213) (F.sub ⟨rfl, rfl, rfl, rfl, rfl, rfl, rfl, rfl, rfl, trivial⟩) E B h81 h4 h326 h424 h281 h285 h322 h325 H
            · have H := (if_neg hb437).symm.trans H
              refine q_no F rfl (by decide) rfl (congrArg not (decide_eq_false hb437)) (by decide) fun a F => ?_
              refine q_no F rfl (by decide) rfl (congrArg not (decide_eq_false hb437)) (by decide) fun a F => ?_
              refine q_no F rfl (by decide) rfl (congrArg not (decide_eq_false hb437)) (by decide) fun a F => ?_
              refine q_no F rfl (by decide) rfl (congrArg not (decide_eq_false hb437)) (by decide) fun a F => ?_
              refine q_no F rfl (by decide) rfl (congrArg not (decide_eq_false hb437)) (by decide) fun a F => ?_
              refine q_no F rfl (by decide) rfl (congrArg not (decide_eq_false hb437)) (by decide) fun a F => ?_
              refine q_val F rfl rfl (by decide) (r_pick_t F rfl (congrArg not (decide_eq_false hb437)) rfl) fun a F => ?_
              refine nil ?_
              exact J458 c432 w433 a true (F.sub ⟨rfl, rfl, rfl, rfl, rfl, rfl, rfl, rfl, rfl, trivial⟩) E B h81 h4 h326 h424 h281 h285 h322 h325 H
          · have H := (if_neg hb431).symm.trans H
            refine q_no F rfl (by decide) rfl (congrArg not (decide_eq_false hb431)) (by decide) fun a F => ?_
            refine q_no F rfl (by decide) rfl (congrArg not (decide_eq_false hb431)) (by decide) fun a F => ?_
            refine q_no F rfl (by decide) rfl (congrArg not (decide_eq_false hb431)) (by decide) fun a F => ?_
            refine q_no F rfl (by decide) rfl (congrArg not (decide_eq_false hb431)) (by decide) fun a F => ?_
            refine q_no F rfl (by decide) rfl (congrArg not (decide_eq_false hb431)) (by decide) fun a F => ?_
            refine q_val F rfl rfl (by decide) (r_pick_t F rfl (congrArg not (decide_eq_false hb431)) rfl) fun a F => ?_
            refine q_val F rfl rfl (by decide) (r_move F rfl) fun a F => ?_
            refine q_no F rfl (by decide) rfl rfl (by decide) fun a F => ?_
            refine q_no F rfl (by decide) rfl rfl (by decide) fun a F => ?_
            refine q_no F rfl (by decide) rfl rfl (by decide) fun a F => ?_
            refine q_no F rfl (by decide) rfl rfl (by decide) fun a F => ?_
            refine q_no F rfl (by decide) rfl rfl (by decide) fun a F => ?_
            refine q_no F rfl (by decide) rfl rfl (by decide) fun a F => ?_
            refine q_val F rfl rfl (by decide) (r_pick_t F rfl rfl rfl) fun a F => ?_
            refine nil ?_
            exact J458 c427 w428 a true (F.sub ⟨rfl, rfl, rfl, rfl, rfl, rfl, rfl, rfl, rfl, trivial⟩) E B h81 h4 h326 h424 h281 h285 h322 h325 H
        refine wp_seq_k fun K373 hK373 => ?_
        refine reg ?_
        refine q_val F rfl rfl (by decide) (r_move F rfl) fun a F => ?_
        refine q_val F rfl rfl (by decide) (r_move F rfl) fun a F => ?_
        obtain ⟨g374, H⟩ := ifN H
        obtain ⟨ad375, cs376, e377, h378, r379⟩ := SL.at h4 i286 g374.1 g374.2
        obtain ⟨A380, C381, A383, C384, rfl, h382, h385⟩ := r379
        have h382 := SL.fl (i' := 0) h382 (fun q => q)
        have h385 := SL.fl (i' := 0) h385 (fun q => q)
        obtain ⟨qa386, qqa386⟩ : ∃ q, q = (ad375.add (i286.toNat * 4)) := ⟨_, rfl⟩
        have h378 : AT false 0 c328 w332 qa386 [.int .i64 ((rd a1 i286).Kind), .slice A380 ((rd a1 i286).Key).length C381, .slice A383 ((rd a1 i286).Value).length C384, .int .i64 ((rd a1 i286).Rev)] := by rw [qqa386]; exact h378
        refine q_val F rfl rfl (by decide) (r_indexAddr' F Try.underlying22 sz_33 rfl rfl g374.1 g374.2 e377 qqa386) fun a F => ?_
        refine q_val F rfl rfl (by decide) (r_loads (cs := [.int .i64 ((rd a1 i286).Kind), .slice A380 ((rd a1 i286).Key).length C381, .slice A383 ((rd a1 i286).Value).length C384, .int .i64 ((rd a1 i286).Rev)]) F rfl ag_33 sz_33 h378) fun a F => ?_
        obtain ⟨t144, q145, H⟩ := bind_some H
        refine q_call F rfl rfl (by decide) (r_call F Try.func17 rfl (by kernel_rfl) rfl) (haulagelaw13_writes.calls (m := m + 8) (by omega) B h382 h385 _ q145) ?_
        rintro e w389 ⟨c388, rfl, E390, B391⟩
        refine ⟨_, rfl, fun a F => ?_⟩
        have B := B391
        have h4 := SL.ev h4 E390 (fun q => q.elim) (fun q => q.elim)
        have h277 := SL.ev h277 E390 (fun q => q.elim) (fun q => q.elim)
        have h281 := SL.ev h281 E390 (fun q => q.elim) (fun q => q.elim)
        have h285 := SL.ev h285 E390 (fun q => q.elim) (fun q => q.elim)
        have h310 := SL.ev h310 E390 (fun q => q.elim) (fun q => q.elim)
        have h313 := SL.ev h313 E390 (fun q => q.elim) (fun q => q.elim)
        have h306 := AT.ev h306 E390 (fun q => q.elim)
        have h322 := SL.ev h322 E390 (fun q => q.elim) (fun q => q.elim)
        have h325 := SL.ev h325 E390 (fun q => q.elim) (fun q => q.elim)
        have h326 := TB.ev h326 E390 (fun q => q.elim) (fun q => q.elim)
        have h81 := AT.ev h81 E390 (fun q => q.elim)
        have h382 := SL.ev h382 E390 (fun q => q.elim) (fun q => q.elim)
        have h385 := SL.ev h385 E390 (fun q => q.elim) (fun q => q.elim)
        have h378 := AT.ev h378 E390 (fun q => q.elim)
        have E := E.trans E390 (fun x q => q.elim)
        refine nil ?_
        refine hK373 _ _ ?_
        by_cases hb393 : t144 = true
        · have H := (if_pos hb393).symm.trans H
          refine wp_cond_true ((F.ev rfl).trans (congrArg Value.bool hb393)) ?_
          refine reg ?_
          refine q_val F rfl rfl (by decide) (r_move F rfl) fun a F => ?_
          refine q_val F rfl rfl (by decide) (r_move F rfl) fun a F => ?_
          refine q_val F rfl rfl (by decide) (r_move F rfl) fun a F => ?_
          obtain ⟨g394, H⟩ := ifN H
          obtain ⟨ad395, cs396, e397, h398, r399⟩ := SL.at h4 i286 g394.1 g394.2
          obtain ⟨A400, C401, A403, C404, rfl, h402, h405⟩ := r399
          have h402 := SL.fl (i' := 0) h402 (fun q => q)
          have h405 := SL.fl (i' := 0) h405 (fun q => q)
          obtain ⟨qa406, qqa406⟩ : ∃ q, q = (ad395.add (i286.toNat * 4)) := ⟨_, rfl⟩
          have h398 : AT false 0 c388 w389 qa406 [.int .i64 ((rd a1 i286).Kind), .slice A400 ((rd a1 i286).Key).length C401, .slice A403 ((rd a1 i286).Value).length C404, .int .i64 ((rd a1 i286).Rev)] := by rw [qqa406]; exact h398
          refine q_val F rfl rfl (by decide) (r_indexAddr' F Try.underlying22 sz_33 rfl rfl g394.1 g394.2 e397 qqa406) fun a F => ?_
          refine q_val F rfl rfl (by decide) (r_loads (cs := [.int .i64 ((rd a1 i286).Kind), .slice A400 ((rd a1 i286).Key).length C401, .slice A403 ((rd a1 i286).Value).length C404, .int .i64 ((rd a1 i286).Rev)]) F rfl ag_33 sz_33 h398) fun a F => ?_
          refine q_eff F rfl rfl (by decide) (e_buildSlice (n := 1) (e := 33) (c := c388) (k := K_api_Op) (i := 0) F [(0, .agg #[.int .i64 ((rd a1 i286).Kind), .slice A400 ((rd a1 i286).Key).length C401, .slice A403 ((rd a1 i286).Value).length C404, .int .i64 ((rd a1 i286).Rev)])] [.int .i64 ((rd a1 i286).Kind), .slice A400 ((rd a1 i286).Key).length C401, .slice A403 ((rd a1 i286).Value).length C404, .int .i64 ((rd a1 i286).Rev)] ([(rd a1 i286)] : List api_Op) (by exact ⟨rfl, rfl, trivial⟩) (fun w => by kernel_rfl) rfl (by decide) rfl ⟨⟨A400, C401, A403, C404, rfl, (SL.fl h402 (fun q => q)), (SL.fl h405 (fun q => q))⟩, trivial⟩ (fun q => q) 0) ?_
          rintro v w409 a ⟨c408, A410, C411, rfl, E412, h413, B414⟩ F
          have B := B414 _ B (by omega)
          have h4 := SL.ev h4 E412 (fun q => q.elim) (fun q => q.elim)
          have h277 := SL.ev h277 E412 (fun q => q.elim) (fun q => q.elim)
          have h281 := SL.ev h281 E412 (fun q => q.elim) (fun q => q.elim)
          have h285 := SL.ev h285 E412 (fun q => q.elim) (fun q => q.elim)
          have h310 := SL.ev h310 E412 (fun q => q.elim) (fun q => q.elim)
          have h313 := SL.ev h313 E412 (fun q => q.elim) (fun q => q.elim)
          have h306 := AT.ev h306 E412 (fun q => q.elim)
          have h322 := SL.ev h322 E412 (fun q => q.elim) (fun q => q.elim)
          have h325 := SL.ev h325 E412 (fun q => q.elim) (fun q => q.elim)
          have h326 := TB.ev h326 E412 (fun q => q.elim) (fun q => q.elim)
          have h81 := AT.ev h81 E412 (fun q => q.elim)
          have h382 := SL.ev h382 E412 (fun q => q.elim) (fun q => q.elim)
          have h385 := SL.ev h385 E412 (fun q => q.elim) (fun q => q.elim)
          have h378 := AT.ev h378 E412 (fun q => q.elim)
          have h402 := SL.ev h402 E412 (fun q => q.elim) (fun q => q.elim)
          have h405 := SL.ev h405 E412 (fun q => q.elim) (fun q => q.elim)
          have h398 := AT.ev h398 E412 (fun q => q.elim)
          have E := E.trans E412 (fun x q => q.elim)
          obtain ⟨g173, H⟩ := ifN H
          refine q_eff F rfl rfl (by decide) (e_append (k := K_api_Op) (xs := l274) (ys := [(rd a1 i286)]) (c := c408) (j := (m + 3)) (i := 0) F et_22 rfl rfl h277 h413 (by simpa using g173) (by have g_ := g173; unfold maxLen; simp at g_ ⊢; omega) (by omega)) ?_
          rintro v w416 a ⟨c415, A417, C418, rfl, E419, h420, B421⟩ F
          have B := B421 _ B (by omega)
          have h4 := SL.ev h4 E419 (by show ¬ (0 = m + 3); omega) (by show ¬ (0 = m + 3); omega)
          have h281 := SL.ev h281 E419 (by show ¬ (m + 4 = m + 3); omega) (by show ¬ (0 = m + 3); omega)
          have h285 := SL.ev h285 E419 (by show ¬ (m + 5 = m + 3); omega) (by show ¬ (0 = m + 3); omega)
          have h310 := SL.ev h310 E419 (by show ¬ (0 = m + 3); omega) (by show ¬ (0 = m + 3); omega)
          have h313 := SL.ev h313 E419 (by show ¬ (0 = m + 3); omega) (by show ¬ (0 = m + 3); omega)
          have h306 := AT.ev h306 E419 (by show ¬ (0 = m + 3); omega)
          have h322 := SL.ev h322 E419 (by show ¬ (0 = m + 3); omega) (by show ¬ (0 = m + 3); omega)
          have h325 := SL.ev h325 E419 (by show ¬ (0 = m + 3); omega) (by show ¬ (0 = m + 3); omega)
          have h326 := TB.ev h326 E419 (by show ¬ (m + 1 = m + 3); omega) (by show ¬ (0 = m + 3); omega)
          have h81 := AT.ev h81 E419 (by show ¬ (m + 2 = m + 3); omega)
          have h382 := SL.ev h382 E419 (by show ¬ (0 = m + 3); omega) (by show ¬ (0 = m + 3); omega)
          have h385 := SL.ev h385 E419 (by show ¬ (0 = m + 3); omega) (by show ¬ (0 = m + 3); omega)
          have h378 := AT.ev h378 E419 (by show ¬ (0 = m + 3); omega)
          have h402 := SL.ev h402 E419 (by show ¬ (0 = m + 3); omega) (by show ¬ (0 = m + 3); omega)
          have h405 := SL.ev h405 E419 (by show ¬ (0 = m + 3); omega) (by show ¬ (0 = m + 3); omega)
          have h398 := AT.ev h398 E419 (by show ¬ (0 = m + 3); omega)
          have h413 := SL.ev h413 E419 (by show ¬ (0 = m + 3); omega) (by show ¬ (0 = m + 3); omega)
          have E := E.trans E419 (fun x q => by replace q : x = m + 3 := q; show False ∨ m ≤ x; omega)
          refine q_val F rfl rfl (by decide) (r_assign F rfl) fun a F => ?_
          refine nil ?_
          exact J426 c415 w416 a (l274 ++ [(rd a1 i286)]) A417 C418 (F.sub ⟨rfl, rfl, rfl, rfl, rfl, rfl, rfl, rfl, trivial⟩) E B h81 h4 h326 h281 h285 h322 h325 h420 H
        · have H := (if_neg hb393).symm.trans H
          refine wp_cond_false ((F.ev rfl).trans (congrArg Value.bool (bfalse hb393))) ?_
          refine wp_skip ?_
          exact J426 c388 w389 a l274 A275 C276 (F.sub ⟨rfl, rfl, rfl, rfl, rfl, rfl, rfl, rfl, trivial⟩) E B h81 h4 h326 h281 h285 h322 h325 h277 H
      · have H := (if_neg hb337).symm.trans H
        refine wp_cond_true ((F.ev rfl).trans (congrArg Value.bool (congrArg not (decide_eq_false hb337)))) ?_
        refine wp_seq_k fun K338 hK338 => ?_
        refine wp_seq_k fun K339 hK339 => ?_
        have J367 : ∀ (c368 : Nat → Nat) (w369 : World) (a : Act) (b366 : Bool), Fr a 140 [(0, .slice A2 a1.length C3), (1, .int .i64 a5), (5, .pointer p25), (6, .slice A275 l274.length C276), (7, .slice A279 l278.length C280), (8, .slice A283 l282.length C284), (9, .int .i64 i286), (51, .bool b366)] → Ev (fun x => False ∨ m ≤ x) c0 w0 c368 w369 → CB (m + 8) c368 w369 → SL false K_api_Op 0 0 c368 w369 A2 C3 a1 → TB (m + 1) c368 w369 p25 t63.2.2 → SL true K_api_Op (m + 3) 0 c368 w369 A275 C276 l274 → SL true K_api_Answer (m + 4) 0 c368 w369 A279 C280 l278 → SL true K_api_Op (m + 5) 0 c368 w369 A283 C284 l282 → haulagelaw13_TablePlace.j4 t63 l274 l278 l282 i286 b366 = some ctl292 → K339 a w369 := by
          intro c368 w369 a b366 F E B h4 h326 h277 h281 h285 H
          unfold haulagelaw13_TablePlace.j4 at H
          refine hK339 _ _ ?_
          by_cases hb370 : b366 = true
          · have H := (if_pos hb370).symm.trans H
            refine wp_cond_true ((F.ev rfl).trans (congrArg Value.bool hb370)) ?_
            refine wp_seq_k fun K371 hK371 => ?_
            refine reg ?_
            refine q_val F rfl rfl (by decide) (r_assign F rfl) fun a F => ?_
            refine nil ?_
            refine hK371 _ _ ?_
            refine wp_ret ?_
            refine thenR ?_
            refine thenR ?_
            refine inbR ?_
            refine thenR ?_
            refine thenR ?_
            refine inbR ?_
            refine thenR ?_
            have hx_ := HD291 _ (Option.some.inj H).symm
            have H := HR295
            rw [← hx_] at H
            replace H : some false = some r := H
            have H := Option.some.inj H
            subst H
            refine out1 F rfl rfl ?_
            exact ⟨fun b_ => (fun x_ => if x_ < m then x_ else 0) (c368 b_), rfl, E.leave B0 (fun x_ => if x_ < m then x_ else 0) (by intro x_ hx_; show (if x_ < m then x_ else 0) = x_; ((repeat' split) <;> omega)), (fun b_ hb_ => by show (if (c368 b_) < m then (c368 b_) else 0) < m; ((repeat' split) <;> omega))⟩
          · have H := (if_neg hb370).symm.trans H
            refine wp_cond_false ((F.ev rfl).trans (congrArg Value.bool (bfalse hb370))) ?_
            refine wp_skip ?_
            refine hK338 _ _ ?_
            refine wp_exit ?_
            refine thenE ?_
            refine inbE ?_
            refine hK300 _ _ ?_
            refine reg ?_
            refine q_val F rfl rfl (by decide) (r_move F rfl) fun a F => ?_
            refine q_val F rfl rfl (by decide) (r_add F rfl rfl) fun a F => ?_
            refine q_val F rfl rfl (by decide) (r_assign F rfl) fun a F => ?_
            refine nil ?_
            have H := HN290 _ (Option.some.inj H).symm
            exact hX289 _ _ _ (Nat.lt_succ_self _) ⟨t63.2.2, l274, A275, C276, l278, A279, C280, l282, A283, C284, (IntKind.i64.wrap (i286 + 1)), c368, F.sub ⟨rfl, rfl, rfl, rfl, rfl, rfl, rfl, trivial⟩, E, B, h4, h326, h277, h281, h285, H⟩
        refine reg ?_
        refine q_val F rfl rfl (by decide) (r_move F rfl) fun a F => ?_
        refine q_val F rfl rfl (by decide) (r_move F rfl) fun a F => ?_
        obtain ⟨g340, H⟩ := ifN H
        obtain ⟨ad341, cs342, e343, h344, r345⟩ := SL.at h4 i286 g340.1 g340.2
        obtain ⟨A346, C347, A349, C350, rfl, h348, h351⟩ := r345
        have h348 := SL.fl (i' := 0) h348 (fun q => q)
        have h351 := SL.fl (i' := 0) h351 (fun q => q)
        obtain ⟨qa352, qqa352⟩ : ∃ q, q = (ad341.add (i286.toNat * 4)) := ⟨_, rfl⟩
        have h344 : AT false 0 c328 w332 qa352 [.int .i64 ((rd a1 i286).Kind), .slice A346 ((rd a1 i286).Key).length C347, .slice A349 ((rd a1 i286).Value).length C350, .int .i64 ((rd a1 i286).Rev)] := by rw [qqa352]; exact h344
        refine q_val F rfl rfl (by decide) (r_indexAddr' F Try.underlying22 sz_33 rfl rfl g340.1 g340.2 e343 qqa352) fun a F => ?_
        refine q_val F rfl rfl (by decide) (r_loads (cs := [.int .i64 ((rd a1 i286).Kind), .slice A346 ((rd a1 i286).Key).length C347, .slice A349 ((rd a1 i286).Value).length C350, .int .i64 ((rd a1 i286).Rev)]) F rfl ag_33 sz_33 h344) fun a F => ?_
        obtain ⟨t106, q107, H⟩ := bind_some H
        refine q_call F rfl rfl (by decide) (r_call F Try.func16 rfl (by kernel_rfl) rfl) (table_Right.calls (m := m + 8) (by omega) B h348 h351 _ q107) ?_
        rintro e w355 ⟨c354, rfl, E356, B357⟩
        refine ⟨_, rfl, fun a F => ?_⟩
        have B := B357
        have h4 := SL.ev h4 E356 (fun q => q.elim) (fun q => q.elim)
        have h277 := SL.ev h277 E356 (fun q => q.elim) (fun q => q.elim)
        have h281 := SL.ev h281 E356 (fun q => q.elim) (fun q => q.elim)
        have h285 := SL.ev h285 E356 (fun q => q.elim) (fun q => q.elim)
        have h310 := SL.ev h310 E356 (fun q => q.elim) (fun q => q.elim)
        have h313 := SL.ev h313 E356 (fun q => q.elim) (fun q => q.elim)
        have h306 := AT.ev h306 E356 (fun q => q.elim)
        have h322 := SL.ev h322 E356 (fun q => q.elim) (fun q => q.elim)
        have h325 := SL.ev h325 E356 (fun q => q.elim) (fun q => q.elim)
        have h326 := TB.ev h326 E356 (fun q => q.elim) (fun q => q.elim)
        have h81 := AT.ev h81 E356 (fun q => q.elim)
        have h348 := SL.ev h348 E356 (fun q => q.elim) (fun q => q.elim)
        have h351 := SL.ev h351 E356 (fun q => q.elim) (fun q => q.elim)
        have h344 := AT.ev h344 E356 (fun q => q.elim)
        have E := E.trans E356 (fun x q => q.elim)
        refine q_val F rfl rfl (by decide) (r_move F rfl) fun a F => ?_
        by_cases hb359 : t106 = true
        · have H := (if_pos hb359).symm.trans H
          refine q_no F rfl (by decide) rfl hb359 (by decide) fun a F => ?_
          refine q_no F rfl (by decide) rfl hb359 (by decide) fun a F => ?_
          refine q_val F rfl rfl (by decide) (r_pick_t F rfl hb359 rfl) fun a F => ?_
          refine q_val F rfl rfl (by decide) (r_move F rfl) fun a F => ?_
          refine q_no F rfl (by decide) rfl rfl (by decide) fun a F => ?_
          refine q_no F rfl (by decide) rfl rfl (by decide) fun a F => ?_
          refine q_no F rfl (by decide) rfl rfl (by decide) fun a F => ?_
          refine q_no F rfl (by decide) rfl rfl (by decide) fun a F => ?_
          refine q_val F rfl rfl (by decide) (r_pick_t F rfl rfl rfl) fun a F => ?_
          refine nil ?_
          exact J367 c354 w355 a true (F.sub ⟨rfl, rfl, rfl, rfl, rfl, rfl, rfl, rfl, trivial⟩) E B h4 h326 h277 h281 h285 H
        · have H := (if_neg hb359).symm.trans H
          refine q_yes F rfl (by decide) rfl (bfalse hb359) ?_
          refine q_val F rfl rfl (by decide) (r_move F rfl) fun a F => ?_
          refine q_yes F rfl (by decide) rfl (bfalse hb359) ?_
          refine q_val F rfl rfl (by decide) (r_neq F rfl rfl) fun a F => ?_
          refine q_val F rfl rfl (by decide) (r_pick_f F rfl (bfalse hb359) rfl) fun a F => ?_
          refine q_val F rfl rfl (by decide) (r_move F rfl) fun a F => ?_
          by_cases hb360 : t63.2.1 = 131
          · have H := (if_pos hb360).symm.trans H
            refine q_yes F rfl (by decide) rfl (congrArg not (decide_eq_true hb360)) ?_
            refine q_val F rfl rfl (by decide) (r_loads (cs := [.bool t63.1.Done, .slice A320 t63.1.Key.length C321, .slice A323 t63.1.Value.length C324, .int .i64 t63.1.Rev, .int .i64 t63.1.At]) F rfl ag_28 sz_28 h81) fun a F => ?_
            refine q_yes F rfl (by decide) rfl (congrArg not (decide_eq_true hb360)) ?_
            refine q_val F rfl rfl (by decide) (r_build (v := .agg #[.bool false, .slice none 0 0, .slice none 0 0, .int .i64 0, .int .i64 0]) F [] (by exact trivial) (fun w => by kernel_rfl)) fun a F => ?_
            obtain ⟨t115, q116, H⟩ := bind_some H
            refine q_yes F rfl (by decide) rfl (congrArg not (decide_eq_true hb360)) ?_
            refine q_call F rfl rfl (by decide) (r_call F Try.func22 rfl (by kernel_rfl) rfl) (haulagelaw13_sameAnswer.calls k (m := m + 8) (by omega) B h322 h325 SL.nil SL.nil _ q116) ?_
            rintro e w362 ⟨c361, rfl, E363, B364⟩
            refine ⟨_, rfl, fun a F => ?_⟩
            have B := B364
            have h4 := SL.ev h4 E363 (fun q => q.elim) (fun q => q.elim)
            have h277 := SL.ev h277 E363 (fun q => q.elim) (fun q => q.elim)
            have h281 := SL.ev h281 E363 (fun q => q.elim) (fun q => q.elim)
            have h285 := SL.ev h285 E363 (fun q => q.elim) (fun q => q.elim)
            have h310 := SL.ev h310 E363 (fun q => q.elim) (fun q => q.elim)
            have h313 := SL.ev h313 E363 (fun q => q.elim) (fun q => q.elim)
            have h306 := AT.ev h306 E363 (fun q => q.elim)
            have h322 := SL.ev h322 E363 (fun q => q.elim) (fun q => q.elim)
            have h325 := SL.ev h325 E363 (fun q => q.elim) (fun q => q.elim)
            have h326 := TB.ev h326 E363 (fun q => q.elim) (fun q => q.elim)
            have h81 := AT.ev h81 E363 (fun q => q.elim)
            have h348 := SL.ev h348 E363 (fun q => q.elim) (fun q => q.elim)
            have h351 := SL.ev h351 E363 (fun q => q.elim) (fun q => q.elim)
            have h344 := AT.ev h344 E363 (fun q => q.elim)
            have E := E.trans E363 (fun x q => q.elim)
            refine q_yes F rfl (by decide) rfl (congrArg not (decide_eq_true hb360)) ?_
            refine q_val F rfl rfl (by decide) (r_not F rfl) fun a F => ?_
            refine q_val F rfl rfl (by decide) (r_pick_f F rfl (congrArg not (decide_eq_true hb360)) rfl) fun a F => ?_
            refine nil ?_
            exact J367 c361 w362 a (!t115) (F.sub ⟨rfl, rfl, rfl, rfl, rfl, rfl, rfl, rfl, trivial⟩) E B h4 h326 h277 h281 h285 H
          · have H := (if_neg hb360).symm.trans H
            refine q_no F rfl (by decide) rfl (congrArg not (decide_eq_false hb360)) (by decide) fun a F => ?_
            refine q_no F rfl (by decide) rfl (congrArg not (decide_eq_false hb360)) (by decide) fun a F => ?_
            refine q_no F rfl (by decide) rfl (congrArg not (decide_eq_false hb360)) (by decide) fun a F => ?_
            refine q_no F rfl (by decide) rfl (congrArg not (decide_eq_false hb360)) (by decide) fun a F => ?_
            refine q_val F rfl rfl (by decide) (r_pick_t F rfl (congrArg not (decide_eq_false hb360)) rfl) fun a F => ?_
            refine nil ?_
            exact J367 c354 w355 a true (F.sub ⟨rfl, rfl, rfl, rfl, rfl, rfl, rfl, rfl, trivial⟩) E B h4 h326 h277 h281 h285 H
    · have H := (if_neg hb299).symm.trans H
      refine wp_cond_false ((F.ev rfl).trans (congrArg Value.bool (decide_eq_false hb299))) ?_
      refine wp_exit ?_
      refine thenE ?_
      refine thenE ?_
      refine inbE ?_
      have hx_ := HD291 _ (Option.some.inj H).symm
      have H := HR295
      rw [← hx_] at H
      exact J536 c287 w288 a o273 l274 A275 C276 l278 A279 C280 l282 A283 C284 (F.sub ⟨rfl, rfl, rfl, rfl, rfl, trivial⟩) E B h272 h277 h281 h285 H
  · have H := (if_neg hb16).symm.trans H
    refine wp_cond_true ((F.ev rfl).trans (congrArg Value.bool (congrArg not (bfalse hb16)))) ?_
    refine wp_seq_k fun K17 hK17 => ?_
    refine reg ?_
    refine q_val F rfl rfl (by decide) (r_assign F rfl) fun a F => ?_
    refine nil ?_
    refine hK17 _ _ ?_
    refine wp_ret ?_
    refine thenR ?_
    have H := Option.some.inj H
    subst H
    refine out1 F rfl rfl ?_
    exact ⟨fun b_ => (fun x_ => if x_ < m then x_ else 0) (c11 b_), rfl, E.leave B0 (fun x_ => if x_ < m then x_ else 0) (by intro x_ hx_; show (if x_ < m then x_ else 0) = x_; ((repeat' split) <;> omega)), (fun b_ hb_ => by show (if (c11 b_) < m then (c11 b_) else 0) < m; ((repeat' split) <;> omega))⟩
end Go.Proofs.Ytcolmmjcdlmcoaa.G
/-! awake; TableCopies; TableSwaps. -/
namespace Go.Proofs.Ytcolmmjcdlmcoaa.G
open Go
set_option linter.unusedVariables false
set_option linter.unusedSimpArgs false
theorem loop_inv {S X : Type} {f : S → Option (Ctl S X)} {I : Nat → S → Prop} {P : X → Prop} {N : Nat}
    (step : ∀ i s, i < N → I i s → (∃ s', f s = some (.next s') ∧ I (i + 1) s') ∨ (∃ x, f s = some (.done x) ∧ P x))
    (last : ∀ s, I N s → ∃ x, f s = some (.done x) ∧ P x) : ∀ (n i : Nat) (s : S) (m : Nat), I i s → i + n = N → n < m → ∃ x, loop f m s = some x ∧ P x
  | _, _, _, 0, _, _, h => absurd h (by omega)
  | 0, i, s, m + 1, hI, hN, _ => by
    obtain rfl : i = N := by omega
    obtain ⟨x, h1, h2⟩ := last s hI
    exact ⟨x, loop_done h1, h2⟩
  | n + 1, i, s, m + 1, hI, hN, hm => by
    rcases step i s (by omega) hI with ⟨s', h1, h2⟩ | ⟨x, h1, h2⟩
    · rw [loop_next h1]
      exact loop_inv step last n (i + 1) s' m h2 (by omega) (by omega)
    · exact ⟨x, loop_done h1, h2⟩
theorem act1 : act [] 0 (api_Op.mk 2 [97] [49] 0) = (⟨true, [], [], 0, 1⟩, 0, [(bs [97], ⟨[49], 1⟩)], 1) := by
  simp [act, right, keyok, look, ins, told]
theorem act2 : act [(bs [97], ⟨[49], 1⟩)] 1 (api_Op.mk 2 [97] [50] 0) = (⟨true, sb (bs [97]), [49], 1, 2⟩, 0, [(bs [97], ⟨[50], 2⟩)], 2) := by
  simp [act, right, keyok, look, ins, told, lt_irr]
theorem act3 : act [(bs [97], ⟨[50], 2⟩)] 2 (api_Op.mk 1 [97] [] 0) = (⟨true, sb (bs [97]), [50], 2, 2⟩, 0, [(bs [97], ⟨[50], 2⟩)], 2) := by
  simp [act, right, keyok, look, ins, told, lt_irr]
theorem act4 : act [(bs [97], ⟨[50], 2⟩)] 2 (api_Op.mk 0 [] [] 0) = (zeroA, 131, [(bs [97], ⟨[50], 2⟩)], 2) := by
  simp [act, right, keyok]
theorem awake_eq {k : Nat} (hk : Fuel k) : haulagelaw13_awake.f k = some true := by
  obtain ⟨t0, e0, R0⟩ := new_rep
  obtain ⟨t1, e1, R1⟩ := do_eq hk (by omega) R0 (api_Op.mk 2 [97] [49] 0)
  rw [act1] at e1 R1
  obtain ⟨t2, e2, R2⟩ := do_eq hk (by simp) R1 (api_Op.mk 2 [97] [50] 0)
  rw [act2] at e2 R2
  obtain ⟨t3, e3, R3⟩ := do_eq hk (by simp) R2 (api_Op.mk 1 [97] [] 0)
  rw [act3] at e3 R3
  obtain ⟨t4, e4, R4⟩ := do_eq hk (by simp) R3 (api_Op.mk 0 [] [] 0)
  rw [act4] at e4 R4
  have R4' : RepS t4 ([(bs [97], ⟨[50], 2⟩)], 2) := R4
  have eb := bytes_eq hk (by simp) R4'
  have ef : form ([(bs [97], ⟨[50], 2⟩)], 2) = [2, 1, 1, 97, 1, 50, 2] := by decide
  unfold haulagelaw13_awake.f haulagelaw13_put.f haulagelaw13_get.f
  rw [bind_eq e0, Option.bind_some, bind_eq e1, Option.bind_some, bind_eq e2, Option.bind_some, bind_eq e3, bind_eq e4]
  simp only [if_true]
  rw [bind_eq (same_eq hk _ _ (by simp)), if_pos (by simp), bind_eq (same_eq hk _ _ (by simp)), if_pos (by simp), bind_eq eb, ef, bind_eq (same_eq hk _ _ (by simp))]
  simp
/-! ### TableCopies -/
theorem run_lt {ops : List api_Op} {n : Nat} (h : ops.length < n) : (run ([], 0) ops).2 < n := by
  have := run_r ops ([], 0)
  simp only at this; omega
theorem half {k : Nat} (hk : Fuel k) {ahead ops : List api_Op} {i : Nat} {t : Option Tab} (hl : ahead.length + ops.length < 4000000) (hR : RepS t (run ([], 0) (ahead ++ ops.take i))) :
    (i < ops.length → ∃ x y t', table_Table_Do.f k t (rd ops (i : Int)) = some (x, y, t') ∧ RepS t' (run ([], 0) (ahead ++ ops.take (i + 1)))) ∧ (¬ i < ops.length → RepS t (run ([], 0) (ahead ++ ops.take (i + 1)))) := by
  refine ⟨fun h => ?_, fun h => ?_⟩
  · have hr : (run ([], 0) (ahead ++ ops.take i)).2 < 4000000 := run_lt (by simp; omega)
    obtain ⟨t', e, R⟩ := do_step hk (by omega) hR ops[i]
    refine ⟨_, _, t', by rw [rd_eq h]; exact e, ?_⟩
    rw [take_one h, ← List.append_assoc, run_snoc]; exact R
  · rw [List.take_of_length_le (by omega)] at hR ⊢; exact hR
theorem form_short {s : St} (hs : s.2 < 4194304) {t : Option Tab} (hR : RepS t s) : (form s).length < 4000000000 := by
  obtain ⟨rows, rfl, hw, hl, hI⟩ := hR
  have hlen := hI.len
  have hsz := sz_le hI.ent
  have h1 := nm_le s.2; have h2 := nm_le s.1.length
  have f1 := fm_len s.2; have f2 := fm_len s.1.length
  have hfl := flat_len s.1
  unfold form
  simp only [List.length_append]; omega
theorem TableCopies_true {k : Nat} (hk : Fuel k) (ahead one two : List api_Op) (h1 : ahead.length + one.length < 4000000) (h2 : ahead.length + two.length < 4000000) :
    haulagelaw13_TableCopies.f k ahead one two = some true := by
  have h24 : 1099511627776 ≤ k := hk
  obtain ⟨t, et, Rt⟩ := made_eq hk ahead (by omega)
  unfold haulagelaw13_TableCopies.f
  rw [bind_eq (awake_eq hk), if_pos rfl, bind_eq et, bind_eq (copy_eq Rt)]
  have hns : Option.isNone t = false := by obtain ⟨rows, rfl, _⟩ := Rt; rfl
  rw [if_neg (by rw [hns]; simp)]
  have L := loop_inv (f := fun (s_ : (Option Tab) × (Option Tab) × Int) => haulagelaw13_TableCopies.b5 k one two s_.1 s_.2.1 s_.2.2)
    (I := fun i s => s.2.2 = (i : Int) ∧ RepS s.1 (run ([], 0) (ahead ++ one.take i)) ∧ RepS s.2.1 (run ([], 0) (ahead ++ two.take i)))
    (P := fun x => RepS x.1 (run ([], 0) (ahead ++ one)) ∧ RepS x.2 (run ([], 0) (ahead ++ two))) (N := max one.length two.length) ?_ ?_ (max one.length two.length) 0 (t, t, 0) k ⟨rfl, by simpa using Rt, by simpa using Rt⟩ (by omega) (by omega)
  · obtain ⟨x, ex, r1, r2⟩ := L
    rw [bind_eq ex]
    unfold haulagelaw13_TableCopies.j6
    obtain ⟨v, ev, Rv⟩ := made_eq hk (ahead ++ one) (by simp; omega)
    obtain ⟨w, ew, Rw⟩ := made_eq hk (ahead ++ two) (by simp; omega)
    have g1 : (run ([], 0) (ahead ++ one)).2 < 4194304 := run_lt (by simp; omega)
    have g2 : (run ([], 0) (ahead ++ two)).2 < 4194304 := run_lt (by simp; omega)
    simp only [List.nil_append]
    rw [if_pos (by omega), if_pos (by omega), bind_eq ev, if_pos (by omega), if_pos (by omega), bind_eq ew, bind_eq (bytes_eq hk g1 r1), bind_eq (bytes_eq hk g1 Rv)]
    rw [bind_eq (same_eq hk _ _ (Or.inl (form_short g1 r1))), if_pos (by simp), bind_eq (bytes_eq hk g2 r2), bind_eq (bytes_eq hk g2 Rw), bind_eq (same_eq hk _ _ (Or.inl (form_short g2 r2)))]
    simp
  · rintro i ⟨a, b, c⟩ hi ⟨rfl, r1, r2⟩
    left
    simp only at r1 r2
    have m1 := half hk h1 r1
    have m2 := half hk h2 r2
    have hj : ∀ a', RepS a' (run ([], 0) (ahead ++ one.take (i + 1))) → ∃ s', haulagelaw13_TableCopies.j4 k two b (i : Int) a' = some (.next s') ∧ s'.2.2 = ((i + 1 : Nat) : Int) ∧ RepS s'.1 (run ([], 0) (ahead ++ one.take (i + 1))) ∧ RepS s'.2.1 (run ([], 0) (ahead ++ two.take (i + 1))) := by
      intro a' ra
      unfold haulagelaw13_TableCopies.j4
      by_cases c : i < two.length
      · obtain ⟨x, y, b', eb, rb⟩ := m2.1 c
        rw [if_pos (by omega), if_pos (by omega), bind_eq eb, wrS i (by omega)]
        exact ⟨_, rfl, rfl, ra, rb⟩
      · rw [if_neg (by omega), wrS i (by omega)]
        exact ⟨_, rfl, rfl, ra, m2.2 c⟩
    have hb : haulagelaw13_TableCopies.b5 k one two a b (i : Int) = haulagelaw13_TableCopies.j3 k one two a b (i : Int) true := by
      unfold haulagelaw13_TableCopies.b5
      by_cases c : i < one.length
      · rw [if_pos (by omega)]
      · rw [if_neg (by omega), decide_eq_true (by omega)]
    show ∃ s', haulagelaw13_TableCopies.b5 k one two a b (i : Int) = _ ∧ _
    rw [hb]
    unfold haulagelaw13_TableCopies.j3
    rw [if_pos rfl]
    by_cases c : i < one.length
    · obtain ⟨x, y, a', ea, ra⟩ := m1.1 c
      rw [if_pos (by omega), if_pos (by omega), bind_eq ea]
      exact hj a' ra
    · rw [if_neg (by omega)]
      exact hj a (m1.2 c)
  · rintro ⟨a, b, c⟩ ⟨rfl, r1, r2⟩
    simp only at r1 r2
    rw [List.take_of_length_le (by omega)] at r1 r2
    refine ⟨(a, b), ?_, r1, r2⟩
    show haulagelaw13_TableCopies.b5 k one two a b ((max one.length two.length : Nat) : Int) = _
    have q1 := Nat.le_max_left one.length two.length; have q2 := Nat.le_max_right one.length two.length
    unfold haulagelaw13_TableCopies.b5 haulagelaw13_TableCopies.j3
    rw [if_neg (by omega), decide_eq_false (by omega), if_neg (by simp)]
end Go.Proofs.Ytcolmmjcdlmcoaa.G
/-! TablePlace. -/
namespace Go.Proofs.Ytcolmmjcdlmcoaa.G
open Go
set_option linter.unusedVariables false
set_option linter.unusedSimpArgs false
theorem act_wrong {L : List Ent} {r : Nat} {o : api_Op} (h : right o = false) : act L r o = (zeroA, 131, L, r) := by
  unfold act; rw [if_pos h]
theorem told_At (r : Int) (k : ByteArray) (q : Option table_cell) : (told r k q).At = r := by cases q <;> rfl
theorem act_write {L : List Ent} {r : Nat} {o : api_Op} (h : right o = true) (hw : isW o = true) : (act L r o).1.At = (r : Int) + 1 ∧ (act L r o).2.1 = 0 ∧ (act L r o).2.2.2 = r + 1 := by
  have hkind : o.Kind ≠ 5 ∧ o.Kind ≠ 1 := by
    unfold isW at hw
    simp at hw
    omega
  unfold act
  rw [if_neg (by simp [h]), if_neg hkind.1, if_neg hkind.2]
  split
  · exact ⟨told_At .., rfl, rfl⟩
  · split
    · exact ⟨told_At .., rfl, rfl⟩
    · exact ⟨told_At .., rfl, rfl⟩
theorem act_read {L : List Ent} {r : Nat} {o : api_Op} (h : right o = true) (hw : isW o = false) : (act L r o).1.At = (r : Int) ∧ (act L r o).2.1 = 0 ∧ (act L r o).2.2 = (L, r) := by
  have hkind := (right_key h).2.2.2
  unfold isW at hw
  simp at hw
  unfold act
  rw [if_neg (by simp [h])]
  split
  · refine ⟨?_, rfl, rfl⟩
    cases above (bs o.Key) L <;> exact told_At ..
  · rw [if_pos (by omega)]
    exact ⟨told_At .., rfl, rfl⟩
theorem told_short {L : List Ent} {n : Nat} (hI : Inv L n) {r : Int} {K : ByteArray} (hK : K.size ≤ 65) : (told r K (look K L)).Key.length ≤ 65 ∧ (told r K (look K L)).Value.length ≤ 256 := by
  cases h : look K L with
  | none => simp [told]
  | some c => have := hI.look h; exact ⟨by show (sb K).length ≤ 65; rw [sb_len]; omega, this.2.2.1⟩
theorem act_short {L : List Ent} {r : Nat} {o : api_Op} (hI : Inv L r) : (act L r o).1.Key.length ≤ 65 ∧ (act L r o).1.Value.length ≤ 256 := by
  by_cases hR : right o = true
  · have hk : (bs o.Key).size ≤ 65 := by rw [bs_size]; exact (right_key hR).1
    unfold act
    rw [if_neg (by simp [hR])]
    split
    · cases hA : above (bs o.Key) L with
      | nil => simp [told]
      | cons e M =>
        have := hI.ent e (above_mem hA)
        exact ⟨by show (sb e.1).length ≤ 65; rw [sb_len]; omega, this.2.2.1⟩
    · split
      · exact told_short hI hk
      · split
        · exact told_short hI hk
        · split
          · exact told_short (r := (r : Int) + 1) hI hk
          · exact told_short (r := (r : Int) + 1) hI hk
  · rw [act_wrong (by simpa using hR)]; simp [zeroA]
theorem round_eq {a : Int} {n : Nat} (hn : 0 < n) (hb : n < 4000000) : ∃ i, i < n ∧ haulagelaw13_round.f a (n : Int) = some ((i : Nat) : Int) := by
  unfold haulagelaw13_round.f
  rw [if_pos (by omega)]
  have h1 : Int.tmod a n < n := Int.tmod_lt_of_pos a (by omega)
  have h2 : -(n : Int) < Int.tmod a n := by
    have := Int.neg_tmod a n
    have h3 : Int.tmod (-a) n < n := Int.tmod_lt_of_pos (-a) (by omega)
    omega
  by_cases c : Int.tmod a n < 0
  · rw [if_pos c, wr (by omega) (by omega)]
    exact ⟨(Int.tmod a n + n).toNat, by omega, by congr 1; omega⟩
  · rw [if_neg c]
    exact ⟨(Int.tmod a n).toNat, by omega, by congr 1; omega⟩
def Told (done : List api_Op) (a : api_Answer) (o : api_Op) : Prop :=
  right o = true ∧ ∃ m : Nat, m ≤ done.length ∧ a.At = (if isW o = true then (m : Int) + 1 else (m : Int)) ∧ (act (run ([], 0) (done.take m)).1 (run ([], 0) (done.take m)).2 o).1 = a ∧ a.Key.length ≤ 65 ∧ a.Value.length ≤ 256
theorem Told.more {done : List api_Op} {a : api_Answer} {o p : api_Op} (h : Told done a o) : Told (done ++ [p]) a o := by
  obtain ⟨h1, m, h2, h3, h4, h5⟩ := h
  refine ⟨h1, m, by simp; omega, h3, ?_, h5⟩
  rw [List.take_append_of_le_length h2]; exact h4
structure Pl (i : Nat) (s : St) (done : List api_Op) (answers : List api_Answer) (asked : List api_Op) : Prop where
  same : run ([], 0) done = s
  rev : s.2 = done.length
  len : done.length ≤ asked.length
  le : asked.length ≤ i
  two : answers.length = asked.length
  all : ∀ j (h : j < asked.length) (h' : j < answers.length), Told done answers[j] asked[j]
theorem TablePlace_true {k : Nat} (hk : Fuel k) (ops : List api_Op) (which : Int) (hn : ops.length < 3000000) : haulagelaw13_TablePlace.f k ops which = some true := by
  have h24 : 1099511627776 ≤ k := hk
  obtain ⟨t, et, Rt⟩ := new_rep
  unfold haulagelaw13_TablePlace.f
  rw [bind_eq (awake_eq hk), if_pos rfl, bind_eq et]
  have L := loop_inv (f := fun (s_ : (Option Tab) × (List api_Op) × (List api_Answer) × (List api_Op) × Int) => haulagelaw13_TablePlace.b7 k ops s_.1 s_.2.1 s_.2.2.1 s_.2.2.2.1 s_.2.2.2.2)
    (I := fun i s => s.2.2.2.2 = (i : Int) ∧ RepS s.1 (run ([], 0) (ops.take i)) ∧ Pl i (run ([], 0) (ops.take i)) s.2.1 s.2.2.1 s.2.2.2.1)
    (P := fun x => ∃ y, x = Sum.inl y ∧ RepS y.1 (run ([], 0) ops) ∧ Pl ops.length (run ([], 0) ops) y.2.1 y.2.2.1 y.2.2.2) (N := ops.length) ?_ ?_ ops.length 0 (t, [], [], [], 0) k
      ⟨rfl, Rt, ⟨rfl, rfl, Nat.le_refl _, Nat.le_refl _, rfl, fun j h => by simp at h⟩⟩ (by omega) (by omega)
  · obtain ⟨x, ex, ⟨u, done, answers, asked⟩, rfl, Ru, hP⟩ := L
    rw [bind_eq ex]
    simp only at Ru hP ⊢
    unfold haulagelaw13_TablePlace.j8
    have hle := hP.le; have hdl := hP.len; have htwo := hP.two
    by_cases c0 : asked.length = 0
    · rw [if_pos (by omega), bind_eq (Len_eq Ru)]
      have : done = [] := List.length_eq_zero_iff.1 (by omega)
      have hs := hP.same
      rw [this] at hs
      rw [← hs]
      rfl
    · rw [if_neg (by omega)]
      obtain ⟨i, hi, er⟩ := round_eq (a := which) (n := asked.length) (by omega) (by omega)
      rw [bind_eq er, if_pos (by omega), if_pos (by omega), rd_eq hi, bind_eq (writes_eq' _), rd_eq (show i < answers.length by omega)]
      obtain ⟨hR, m, hm, hAt, hact, hl1, hl2⟩ := hP.all i hi (by omega)
      generalize hoo : asked[i] = o at hR hAt hact
      generalize haa : answers[i]'(by omega) = a at hAt hact hl1 hl2
      have fin : haulagelaw13_TablePlace.j9 k done answers asked (i : Int) (m : Int) = some true := by
        unfold haulagelaw13_TablePlace.j9
        rw [if_pos (by omega), Int.toNat_natCast]
        obtain ⟨v, ev, Rv⟩ := made_eq hk (done.take m) (by rw [List.length_take]; omega)
        have hr : (run ([], 0) (done.take m)).2 < 3000000 := run_lt (by rw [List.length_take]; omega)
        obtain ⟨v', ev', Rv'⟩ := do_step hk (by omega) Rv o
        rw [bind_eq ev, if_pos (by omega), rd_eq hi, hoo, bind_eq ev']
        have he : (act (run ([], 0) (done.take m)).1 (run ([], 0) (done.take m)).2 o).2.1 = 0 := by
          by_cases hw : isW o = true
          · exact (act_write hR hw).2.1
          · exact (act_read hR (by simpa using hw)).2.1
        rw [if_pos he, if_pos (by omega), rd_eq (show i < answers.length by omega), haa, hact, bind_eq (sameAnswer_eq hk _ _ (Or.inl (by omega)) (Or.inl (by omega)))]
        simp
      by_cases hw : isW o = true
      · rw [if_pos hw, hAt, if_pos hw, wr (by omega) (by omega), show (m : Int) + 1 - 1 = (m : Int) by omega]
        exact fin
      · rw [if_neg hw, hAt, if_neg hw]
        exact fin
  · rintro i ⟨u, done, answers, asked, j⟩ hi ⟨rfl, r1, hP⟩
    left
    simp only at r1 hP
    have hlt : (run ([], 0) (ops.take i)).2 < 4000000 := run_lt (by rw [List.length_take]; omega)
    obtain ⟨u', eu, ru⟩ := do_step hk (by omega) r1 ops[i]
    have htk : run ([], 0) (ops.take (i + 1)) = stepS (run ([], 0) (ops.take i)) ops[i] := by rw [take_one hi, run_snoc]
    rw [htk]
    generalize hss : run ([], 0) (ops.take i) = s at r1 hP ru eu hlt
    have hI : Inv s.1 s.2 := by obtain ⟨rows, _, _, _, hI⟩ := r1; exact hI
    generalize ho : ops[i] = o at eu ru
    have hrd : rd ops (i : Int) = o := by rw [rd_eq hi, ho]
    have hle := hP.le; have hdl := hP.len; have htwo := hP.two
    have hsh := act_short (o := o) hI
    show ∃ s', haulagelaw13_TablePlace.b7 k ops u done answers asked (i : Int) = _ ∧ _
    unfold haulagelaw13_TablePlace.b7
    rw [if_pos (by omega), if_pos (by omega), hrd, bind_eq eu]
    by_cases hR : right o = true
    · by_cases hw : isW o = true
      · obtain ⟨w1, w2, w3⟩ := act_write (L := s.1) (r := s.2) hR hw
        rw [if_pos w2, if_pos (by omega), bind_eq (writes_eq' o), if_pos hw, if_pos (by omega), if_pos (by simp; omega)]
        unfold haulagelaw13_TablePlace.j5
        have hrev := hP.rev
        rw [if_pos (by rw [w1]; simp; omega), bind_eq (Rev_eq ru), if_pos (by show (((act s.1 s.2 o).2.2.2 : Nat) : Int) = _; rw [w3]; simp; omega), if_pos (by omega), hrd, bind_eq (right_eq o), hR]
        unfold haulagelaw13_TablePlace.j6
        rw [if_neg (by simp), if_pos (by simp; omega), if_pos (by omega), hrd, if_pos (by simp; omega), wrS i (by omega)]
        refine ⟨_, rfl, rfl, ru, ?_⟩
        have hsm : run ([], 0) (done ++ [o]) = stepS s o := by rw [run_snoc, hP.same]
        refine ⟨hsm, by show (act s.1 s.2 o).2.2.2 = _; rw [w3]; simp; omega, by simp; omega, by simp; omega, by simp; omega, fun j h h' => ?_⟩
        simp only [List.length_append, List.length_singleton] at h h'
        by_cases hj : j < asked.length
        · have := (hP.all j hj (by omega)).more (p := o)
          simp only [List.getElem_append_left hj, List.getElem_append_left (show j < answers.length by omega)]
          exact this
        · have hj' : j = asked.length := by omega
          subst hj'
          have g1 : (asked ++ [o])[asked.length]'(by simp) = o := by simp
          have g2 : (answers ++ [(act s.1 s.2 o).1])[asked.length]'(by simp; omega) = (act s.1 s.2 o).1 := by simp [← htwo]
          show Told (done ++ [o]) ((answers ++ [(act s.1 s.2 o).1])[asked.length]'(by simp; omega)) ((asked ++ [o])[asked.length]'(by simp))
          rw [g1, g2]
          refine ⟨hR, done.length, by simp, ?_, ?_, hsh⟩
          · rw [if_pos hw, w1]; omega
          · rw [List.take_left, hP.same]
      · obtain ⟨w1, w2, w3⟩ := act_read (L := s.1) (r := s.2) hR (by simpa using hw)
        rw [if_pos w2, if_pos (by omega), bind_eq (writes_eq' o), if_neg hw]
        unfold haulagelaw13_TablePlace.j5
        have hrev := hP.rev
        have hst : stepS s o = s := w3
        rw [hst] at ru ⊢
        rw [if_pos (by rw [w1]; omega), bind_eq (Rev_eq ru), if_pos (by omega), if_pos (by omega), hrd, bind_eq (right_eq o), hR]
        unfold haulagelaw13_TablePlace.j6
        rw [if_neg (by simp), if_pos (by simp; omega), if_pos (by omega), hrd, if_pos (by simp; omega), wrS i (by omega)]
        refine ⟨_, rfl, rfl, ru, ?_⟩
        refine ⟨hP.same, hrev, by simp; omega, by simp; omega, by simp; omega, fun j h h' => ?_⟩
        simp only [List.length_append, List.length_singleton] at h h'
        by_cases hj : j < asked.length
        · have := hP.all j hj (by omega)
          simp only [List.getElem_append_left hj, List.getElem_append_left (show j < answers.length by omega)]
          exact this
        · have hj' : j = asked.length := by omega
          subst hj'
          have g1 : (asked ++ [o])[asked.length]'(by simp) = o := by simp
          have g2 : (answers ++ [(act s.1 s.2 o).1])[asked.length]'(by simp; omega) = (act s.1 s.2 o).1 := by simp [← htwo]
          show Told done ((answers ++ [(act s.1 s.2 o).1])[asked.length]'(by simp; omega)) ((asked ++ [o])[asked.length]'(by simp))
          rw [g1, g2]
          refine ⟨hR, done.length, by omega, ?_, ?_, hsh⟩
          · rw [if_neg hw, w1]; omega
          · rw [List.take_length, hP.same]
    · have hw := act_wrong (L := s.1) (r := s.2) (by simpa using hR : right o = false)
      have hst : stepS s o = s := by unfold stepS; rw [hw]
      rw [hst] at ru ⊢
      rw [if_neg (by rw [hw]; simp), if_pos (by omega), bind_eq (right_eq o), if_neg hR, if_pos (by rw [hw])]
      rw [bind_eq (sameAnswer_eq hk _ _ (Or.inr (by simp)) (Or.inr (by simp))), hw]
      unfold haulagelaw13_TablePlace.j4
      rw [if_neg (by simp [zeroA]), wrS i (by omega)]
      exact ⟨_, rfl, rfl, ru, ⟨hP.same, hP.rev, hdl, Nat.le_succ_of_le hle, htwo, hP.all⟩⟩
  · rintro ⟨u, done, answers, asked, j⟩ ⟨rfl, r1, hP⟩
    simp only at r1 hP
    rw [List.take_of_length_le (Nat.le_refl _)] at r1 hP
    refine ⟨Sum.inl (u, done, answers, asked), ?_, _, rfl, r1, hP⟩
    show haulagelaw13_TablePlace.b7 k ops u done answers asked ((ops.length : Nat) : Int) = _
    unfold haulagelaw13_TablePlace.b7
    rw [if_neg (by omega)]
end Go.Proofs.Ytcolmmjcdlmcoaa.G
/- The row of 'TablePlace' (its '..UptoSaid'): whatever the input of bulk at most 1048576, the law returns true and the input reads as it did. -/
namespace Go.Proofs.Ytcolmmjcdlmcoaa.tablePlace
open Go.ChangeShapes Go.WideShapes Go.ChangeAt Go.RowKit
set_option linter.unusedVariables false
set_option maxRecDepth 100000 in
theorem contract (H : Type) (enc : TypeId × Value → H) (W : World) (base : Nat) (args : Array Value) (ds gs : List (DataW H)) (before : List MemPlace)
    (hval : ∀ (j : Nat) t v, Try.f5.params[j]? = some t → args[j]? = some v → Value.okWide Try.prog W .any base t v)
    (hW : DataW.Whole enc Try.prog Try.f5.params.toList Rows.tablePlaceSpec.vars false W args.toList ds gs before) (hk : Rows.uptoSmall H (ds ++ gs) = true) :
    Calls Try.prog 5 args W fun e W' => ∃ v, e = .returned v ∧ Rows.tablePlaceSpec.post enc Try.prog Try.f5 false true false false W args v W' := by
  have hW' := hW
  obtain ⟨p, q, hA0, hV, rfl, hfz, hnd⟩ := hW
  have hA : DataW.TrodAll enc Try.prog W 0 (fun _ => true) true Try.f5.params.toList args.toList ds p := hA0
  rw [Try.params5] at hA hval
  obtain ⟨v0, vs0, d0, ds0, p0, q0, hargs, rfl, rfl, h0, r0⟩ := trodAll_cons hA
  obtain ⟨v1, vs1, d1, ds1, p1, q1, rfl, rfl, rfl, h1, r1⟩ := trodAll_cons r0
  obtain ⟨rfl, rfl, rfl⟩ := trodAll_nil r1
  obtain rfl : args = #[v0, v1] := by cases args; simp_all
  obtain ⟨rfl, rfl⟩ := trodVars_none hV
  have k0 := h0
  have lt0 : ∀ x ∈ p0, x.block < W.heap.size := by obtain ⟨m, hm⟩ := k0; exact DataW.trod_lt m _ _ _ hm
  obtain ⟨A0, C0, a0, rfl, s0, b0, o0⟩ := G.arg_ops (okWide_slice Try.underlying22 (hval 0 22 v0 rfl rfl)) h0
  have l0 := G.opsum_len a0
  obtain ⟨a1, rfl, rfl, rfl, w1⟩ := open_int Try.underlying3 (hval 1 3 v1 rfl rfl) h1
  have hb : Rows.uptoBulkAll [d0, (DataW.lit (H := H) (.int .i64 a1))] ≤ 1048576 := of_decide_eq_true hk
  simp only [Rows.uptoBulkAll] at hb
  refine (G.haulagelaw13_TablePlace.calls 1099511627776 (m := 1) (c0 := G.c0) (w0 := W) (Nat.lt_succ_self 0) (fun _ _ => Nat.lt_succ_self 0) s0 true (G.TablePlace_true (k := 1099511627776) (Nat.le_refl _) a0 a1 (by omega))).mono fun e W' ⟨c_, he, ev_, _⟩ => ?_
  subst he
  have bel : Below W.heap.size W W' := G.Ev.below ev_
  exact ⟨_, rfl, _, _, _, [], _, [], hW', trodAll_mk1 (shut_bool Try.underlying4 _), (trodAll_cons_mk (Below.trod G.row_laidOut (by kernel_rfl) (of_decide_eq_true (by kernel_rfl)) k0 bel lt0) (trodAll_cons_mk (shut_int Try.underlying3 w1) trodAll_mk0)), rfl, bel.frame _, fun h => by cases h⟩
set_option maxRecDepth 100000 in
theorem lifted (os : Os) (started : os.Started) (H : Type) (enc : TypeId × Value → H) (F : Stop.Interp) :
    ReturnsInHanded {} Try.checked os 5 .any ((Rows.OpenSpec.upto Rows.tablePlaceSpec).pre6 enc Try.prog Try.f5 Rows.tablePlaceUptoRow.domain false) (((Rows.OpenSpec.upto Rows.tablePlaceSpec).at F).post enc Try.prog Try.f5 false true false false) := by
  refine returnsInHanded_of_cond (C := Try.checked) (s := Rows.OpenSpec.upto Rows.tablePlaceSpec) (k := Rows.uptoSmall) rfl G.row_own started (by kernel_rfl) Try.func5
    (OpenSpec.witness (enc := enc) (C := Try.checked) (s := Rows.OpenSpec.upto Rows.tablePlaceSpec) (k := Rows.uptoSmall) rfl false ⟨#[], #[.slice none 0 0, .int .i64 0], []⟩ 8 (by kernel_rfl) (by kernel_rfl) (by kernel_rfl)
      (x := ([.nil, .lit (.int .i64 0)], [], [])) (by kernel_rfl) rfl (by kernel_rfl)) ?_
  intro W base args ds gs before hval hW _ hk _
  exact contract H enc W base args ds gs before hval hW hk
theorem over : Rows.tablePlaceUptoRow.holds Try.pinned (Rows.OpenSpec.upto Rows.tablePlaceSpec) :=
  OpenClaim.holds_of_cond 5 Try.f5 rfl rfl rfl rfl rfl rfl rfl ⟨rfl, rfl, rfl, rfl, rfl⟩ rfl rfl rfl rfl rfl (by kernel_rfl) Try.func5 (by kernel_rfl)
    (of_decide_eq_true (by kernel_rfl)) (by unfold Func.isWrapper; first | (rw [if_pos (by decide +kernel)]; kernel_rfl) | (rw [if_neg (by decide +kernel)]; exact ⟨rfl, rfl⟩))
    (fun os started H enc _ F => lifted os started H enc F)
theorem proved : Rows.TablePlaceUptoSaid := over
end Go.Proofs.Ytcolmmjcdlmcoaa.tablePlace
namespace Go.Proofs.Ytcolmmjcdlmcoaa
/-- The row, under a short name, for the claim. -/
theorem tablePlace_holds : Rows.TablePlaceUptoSaid := tablePlace.proved
end Go.Proofs.Ytcolmmjcdlmcoaa
