/- The row of 'TableMap', its '..UptoSaid': whatever the input of bulk at most 1048576, the law returns true and the input reads as it did; its walk, its plain law, the row. -/
import Derived.Test.YtcolmmjcdlmcoaaMB
import Derived.Test.YtcolmmjcdlmcoaaMC5
import Derived.Test.YtcolmmjcdlmcoaaMC4
import Derived.Test.YtcolmmjcdlmcoaaMC2
import Derived.Test.YtcolmmjcdlmcoaaMC3
import Derived.Test.YtcolmmjcdlmcoaaMT
import Derived.Test.YtcolmmjcdlmcoaaRows
import Derived.WalkKit
import Derived.ProofKit
import Derived.OpenShut
import Derived.JoinedCond
import Derived.Below
import Derived.ChangeOld
namespace Go.Proofs.Ytcolmmjcdlmcoaa.G
open Go Go.RowKit
set_option linter.unusedVariables false
set_option linter.unusedSimpArgs false
set_option maxRecDepth 100000 in
set_option maxHeartbeats 4000000 in
theorem haulagelaw13_TableMap.calls (k : Nat) {m : Nat} {c0 : Nat → Nat} {w0 : World} {A2 : Option Addr} {C3 : Nat} {a1 : List api_Op} (hm0 : 0 < m) (B0 : CB m c0 w0) (h4 : SL false K_api_Op 0 0 c0 w0 A2 C3 a1) (r : Bool) (H : haulagelaw13_TableMap.f k a1 = some r) : Calls Try.prog 7 #[.slice A2 a1.length C3] w0 (fun e w_ => ∃ (c_ : Nat → Nat), e = .returned (.bool r) ∧ Ev (fun x => False) c0 w0 c_ w_ ∧ CB m c_ w_) := by
  unfold haulagelaw13_TableMap.f at H
  have B := B0.mono (show m ≤ m + 5 by omega)
  have E : Ev (fun x => False ∨ m ≤ x) c0 w0 c0 w0 := Ev.refl
  refine enter (N := 224) (l := [.slice A2 a1.length C3]) Try.func7 rfl rfl (Nat.le_of_ble_eq_true rfl) fun a F => ?_
  refine wp_seq_k fun K5 hK5 => ?_
  refine reg ?_
  refine q_val F rfl rfl (by decide) (r_assign F rfl) fun a F => ?_
  refine nil ?_
  refine hK5 _ _ ?_
  refine wp_seq_k fun K6 hK6 => ?_
  refine wp_seq_k fun K7 hK7 => ?_
  refine reg ?_
  obtain ⟨t8, q9, H⟩ := bind_some H
  refine q_call F rfl rfl (by decide) (r_call F Try.func12 rfl (by kernel_rfl) rfl) (haulagelaw13_awake.calls k (m := m + 5) (by omega) B _ q9) ?_
  rintro e w11 ⟨c10, rfl, E12, B13⟩
  refine ⟨_, rfl, fun a F => ?_⟩
  have B := B13
  have h4 := SL.ev h4 E12 (fun q => q.elim) (fun q => q.elim)
  have E := E.trans E12 (fun x q => q.elim)
  refine q_val F rfl rfl (by decide) (r_not F rfl) fun a F => ?_
  refine nil ?_
  refine hK7 _ _ ?_
  by_cases hb15 : t8 = true
  · have H := (if_pos hb15).symm.trans H
    refine wp_cond_false ((F.ev rfl).trans (congrArg Value.bool (congrArg not hb15))) ?_
    refine wp_skip ?_
    refine hK6 _ _ ?_
    refine wp_seq_k fun K17 hK17 => ?_
    refine reg ?_
    obtain ⟨t18, q19, H⟩ := bind_some H
    refine q_call F rfl rfl (by decide) (r_call F Try.func21 rfl (by kernel_rfl) rfl) (table_New.calls (m := m + 5) (by omega) B (m + 1) (by omega) _ q19) ?_
    rintro e w21 ⟨c20, p24, rfl, E22, B23, h25⟩
    refine ⟨_, rfl, fun a F => ?_⟩
    have B := B23
    have h4 := SL.ev h4 E22 (fun q => q.elim) (fun q => q.elim)
    have E := E.trans E22 (fun x q => q.elim)
    refine q_val F rfl rfl (by decide) (r_assign F rfl) fun a F => ?_
    refine nil ?_
    refine hK17 _ _ ?_
    refine wp_seq_k fun K27 hK27 => ?_
    refine reg ?_
    refine q_val F rfl rfl (by decide) (r_assign F rfl) fun a F => ?_
    refine nil ?_
    refine hK27 _ _ ?_
    refine wp_seq_k fun K28 hK28 => ?_
    refine reg ?_
    refine q_val F rfl rfl (by decide) (r_assign F rfl) fun a F => ?_
    refine nil ?_
    refine hK28 _ _ ?_
    refine wp_seq_k fun K29 hK29 => ?_
    refine wp_seq_k fun K30 hK30 => ?_
    refine reg ?_
    refine q_val F rfl rfl (by decide) (r_assign F rfl) fun a F => ?_
    refine nil ?_
    refine hK30 _ _ ?_
    refine wp_block ?_
    obtain ⟨x288, HL, HR287⟩ := bind_some H
    have J541 : ∀ (c542 : Nat → Nat) (w543 : World) (a : Act) (o535 : Option Tab) (l537 : List api_Row) (A538 : Option Addr) (C539 : Nat) (i540 : Int), Fr a 224 [(3, .pointer p24), (4, .slice A538 l537.length C539), (5, .int .i64 i540)] → Ev (fun x => False ∨ m ≤ x) c0 w0 c542 w543 → CB (m + 5) c542 w543 → TB (m + 1) c542 w543 p24 o535 → SL true K_api_Row (m + 4) 0 c542 w543 A538 C539 l537 → haulagelaw13_TableMap.j14 k o535 l537 i540 = some r → K29 a w543 := by
      intro c542 w543 a o535 l537 A538 C539 i540 F E B h534 h536 H
      unfold haulagelaw13_TableMap.j14 at H
      refine hK29 _ _ ?_
      refine wp_seq_k fun K544 hK544 => ?_
      refine reg ?_
      refine q_val F rfl rfl (by decide) (r_move F rfl) fun a F => ?_
      obtain ⟨t545, q546, H⟩ := bind_some H
      refine q_call F rfl rfl (by decide) (r_call F Try.func26 rfl (by kernel_rfl) rfl) (table_Table_Rows.calls (m := m + 5) (by omega) B h534 (by omega) 0 (by omega) _ q546) ?_
      rintro e w548 ⟨c547, A551, C552, rfl, E549, B550, h553⟩
      refine ⟨_, rfl, fun a F => ?_⟩
      have B := B550
      have h534 := TB.ev h534 E549 (fun q => q.elim) (fun q => q.elim)
      have h536 := SL.ev h536 E549 (fun q => q.elim) (fun q => q.elim)
      have E := E.trans E549 (fun x q => q.elim)
      refine q_val F rfl rfl (by decide) (r_assign F rfl) fun a F => ?_
      refine nil ?_
      refine hK544 _ _ ?_
      refine wp_seq_k fun K555 hK555 => ?_
      refine reg ?_
      refine q_val F rfl rfl (by decide) (r_assign F rfl) fun a F => ?_
      refine nil ?_
      refine hK555 _ _ ?_
      refine wp_seq_k fun K556 hK556 => ?_
      refine wp_seq_k fun K557 hK557 => ?_
      refine reg ?_
      refine q_val F rfl rfl (by decide) (r_assign F rfl) fun a F => ?_
      refine nil ?_
      refine hK557 _ _ ?_
      refine wp_block ?_
      obtain ⟨x569, HL, HR568⟩ := bind_some H
      have J661 : ∀ (c662 : Nat → Nat) (w663 : World) (a : Act) (i660 : Int), Fr a 224 [(3, .pointer p24), (5, .int .i64 i540), (13, .slice A551 t545.length C552), (14, .int .i64 i660)] → Ev (fun x => False ∨ m ≤ x) c0 w0 c662 w663 → CB (m + 5) c662 w663 → TB (m + 1) c662 w663 p24 o535 → SL true K_api_Row 0 0 c662 w663 A551 C552 t545 → haulagelaw13_TableMap.j18 k o535 i540 t545 i660 = some r → K556 a w663 := by
        intro c662 w663 a i660 F E B h534 h553 H
        unfold haulagelaw13_TableMap.j18 at H
        refine hK556 _ _ ?_
        refine wp_seq_k fun K664 hK664 => ?_
        refine wp_seq_k fun K665 hK665 => ?_
        refine reg ?_
        refine q_val F rfl rfl (by decide) (r_assign F rfl) fun a F => ?_
        refine nil ?_
        refine hK665 _ _ ?_
        refine wp_block ?_
        obtain ⟨x676, HL, HR675⟩ := bind_some H
        have J722 : ∀ (c723 : Nat → Nat) (w724 : World) (a : Act), Fr a 224 [(3, .pointer p24), (5, .int .i64 i540), (13, .slice A551 t545.length C552), (14, .int .i64 i660)] → Ev (fun x => False ∨ m ≤ x) c0 w0 c723 w724 → CB (m + 5) c723 w724 → TB (m + 1) c723 w724 p24 o535 → SL true K_api_Row 0 0 c723 w724 A551 C552 t545 → haulagelaw13_TableMap.j20 o535 i540 t545 i660 = some r → K664 a w724 := by
          intro c723 w724 a  F E B h534 h553 H
          unfold haulagelaw13_TableMap.j20 at H
          refine hK664 _ _ ?_
          refine wp_seq_k fun K725 hK725 => ?_
          refine reg ?_
          refine q_val F rfl rfl (by decide) (r_move F rfl) fun a F => ?_
          refine q_val F rfl rfl (by decide) (r_lensl F Try.underlying46 rfl) fun a F => ?_
          refine q_val F rfl rfl (by decide) (r_move F rfl) fun a F => ?_
          refine q_val F rfl rfl (by decide) (r_eql F rfl rfl) fun a F => ?_
          refine q_val F rfl rfl (by decide) (r_move F rfl) fun a F => ?_
          by_cases hb726 : (t545.length : Int) = i660
          · have H := (if_pos hb726).symm.trans H
            refine q_yes F rfl (by decide) rfl (decide_eq_true hb726) ?_
            refine q_val F rfl rfl (by decide) (r_move F rfl) fun a F => ?_
            obtain ⟨t727, q728, H⟩ := bind_some H
            refine q_yes F rfl (by decide) rfl (decide_eq_true hb726) ?_
            refine q_call F rfl rfl (by decide) (r_call F Try.func24 rfl (by kernel_rfl) rfl) (table_Table_Len.calls (m := m + 5) (by omega) B h534 (by omega) _ q728) ?_
            rintro e w730 ⟨c729, rfl, E731, B732⟩
            refine ⟨_, rfl, fun a F => ?_⟩
            have B := B732
            have h534 := TB.ev h534 E731 (fun q => q.elim) (fun q => q.elim)
            have h553 := SL.ev h553 E731 (fun q => q.elim) (fun q => q.elim)
            have E := E.trans E731 (fun x q => q.elim)
            refine q_yes F rfl (by decide) rfl (decide_eq_true hb726) ?_
            refine q_val F rfl rfl (by decide) (r_move F rfl) fun a F => ?_
            refine q_yes F rfl (by decide) rfl (decide_eq_true hb726) ?_
            refine q_val F rfl rfl (by decide) (r_eql F rfl rfl) fun a F => ?_
            refine q_val F rfl rfl (by decide) (r_pick_t F rfl (decide_eq_true hb726) rfl) fun a F => ?_
            refine q_val F rfl rfl (by decide) (r_move F rfl) fun a F => ?_
            by_cases hb734 : t727 = i660
            · have H := (if_pos hb734).symm.trans H
              refine q_yes F rfl (by decide) rfl (decide_eq_true hb734) ?_
              refine q_val F rfl rfl (by decide) (r_move F rfl) fun a F => ?_
              obtain ⟨t735, q736, H⟩ := bind_some H
              refine q_yes F rfl (by decide) rfl (decide_eq_true hb734) ?_
              refine q_call F rfl rfl (by decide) (r_call F Try.func23 rfl (by kernel_rfl) rfl) (table_Table_Rev.calls (m := m + 5) (by omega) B h534 (by omega) _ q736) ?_
              rintro e w738 ⟨c737, rfl, E739, B740⟩
              refine ⟨_, rfl, fun a F => ?_⟩
              have B := B740
              have h534 := TB.ev h534 E739 (fun q => q.elim) (fun q => q.elim)
              have h553 := SL.ev h553 E739 (fun q => q.elim) (fun q => q.elim)
              have E := E.trans E739 (fun x q => q.elim)
              refine q_yes F rfl (by decide) rfl (decide_eq_true hb734) ?_
              refine q_val F rfl rfl (by decide) (r_move F rfl) fun a F => ?_
              refine q_yes F rfl (by decide) rfl (decide_eq_true hb734) ?_
              refine q_val F rfl rfl (by decide) (r_eql F rfl rfl) fun a F => ?_
              refine q_val F rfl rfl (by decide) (r_pick_t F rfl (decide_eq_true hb734) rfl) fun a F => ?_
              refine q_val F rfl rfl (by decide) (r_assign F rfl) fun a F => ?_
              refine nil ?_
              refine hK725 _ _ ?_
              refine wp_ret ?_
              have H := Option.some.inj H
              subst H
              refine out1 F rfl rfl ?_
              exact ⟨fun b_ => (fun x_ => if x_ < m then x_ else 0) (c737 b_), rfl, E.leave B0 (fun x_ => if x_ < m then x_ else 0) (by intro x_ hx_; show (if x_ < m then x_ else 0) = x_; ((repeat' split) <;> omega)), (fun b_ hb_ => by show (if (c737 b_) < m then (c737 b_) else 0) < m; ((repeat' split) <;> omega))⟩
            · have H := (if_neg hb734).symm.trans H
              refine q_no F rfl (by decide) rfl (decide_eq_false hb734) (by decide) fun a F => ?_
              refine q_no F rfl (by decide) rfl (decide_eq_false hb734) (by decide) fun a F => ?_
              refine q_no F rfl (by decide) rfl (decide_eq_false hb734) (by decide) fun a F => ?_
              refine q_no F rfl (by decide) rfl (decide_eq_false hb734) (by decide) fun a F => ?_
              refine q_val F rfl rfl (by decide) (r_pick_f F rfl (decide_eq_false hb734) rfl) fun a F => ?_
              refine q_val F rfl rfl (by decide) (r_assign F rfl) fun a F => ?_
              refine nil ?_
              refine hK725 _ _ ?_
              refine wp_ret ?_
              have H := Option.some.inj H
              subst H
              refine out1 F rfl rfl ?_
              exact ⟨fun b_ => (fun x_ => if x_ < m then x_ else 0) (c729 b_), rfl, E.leave B0 (fun x_ => if x_ < m then x_ else 0) (by intro x_ hx_; show (if x_ < m then x_ else 0) = x_; ((repeat' split) <;> omega)), (fun b_ hb_ => by show (if (c729 b_) < m then (c729 b_) else 0) < m; ((repeat' split) <;> omega))⟩
          · have H := (if_neg hb726).symm.trans H
            refine q_no F rfl (by decide) rfl (decide_eq_false hb726) (by decide) fun a F => ?_
            refine q_no F rfl (by decide) rfl (decide_eq_false hb726) (by decide) fun a F => ?_
            refine q_no F rfl (by decide) rfl (decide_eq_false hb726) (by decide) fun a F => ?_
            refine q_no F rfl (by decide) rfl (decide_eq_false hb726) (by decide) fun a F => ?_
            refine q_val F rfl rfl (by decide) (r_pick_f F rfl (decide_eq_false hb726) rfl) fun a F => ?_
            refine q_val F rfl rfl (by decide) (r_move F rfl) fun a F => ?_
            refine q_no F rfl (by decide) rfl rfl (by decide) fun a F => ?_
            refine q_no F rfl (by decide) rfl rfl (by decide) fun a F => ?_
            refine q_no F rfl (by decide) rfl rfl (by decide) fun a F => ?_
            refine q_no F rfl (by decide) rfl rfl (by decide) fun a F => ?_
            refine q_val F rfl rfl (by decide) (r_pick_f F rfl rfl rfl) fun a F => ?_
            refine q_val F rfl rfl (by decide) (r_assign F rfl) fun a F => ?_
            refine nil ?_
            refine hK725 _ _ ?_
            refine wp_ret ?_
            have H := Option.some.inj H
            subst H
            refine out1 F rfl rfl ?_
            exact ⟨fun b_ => (fun x_ => if x_ < m then x_ else 0) (c723 b_), rfl, E.leave B0 (fun x_ => if x_ < m then x_ else 0) (by intro x_ hx_; show (if x_ < m then x_ else 0) = x_; ((repeat' split) <;> omega)), (fun b_ hb_ => by show (if (c723 b_) < m then (c723 b_) else 0) < m; ((repeat' split) <;> omega))⟩
        refine loop_fuel (I := fun n a w => ∃ (i666 : Int) (c : Nat → Nat), Fr a 224 [(3, .pointer p24), (5, .int .i64 i540), (13, .slice A551 t545.length C552), (14, .int .i64 i660), (18, .int .i64 i666)] ∧ Ev (fun x => False ∨ m ≤ x) c0 w0 c w ∧ CB (m + 5) c w ∧ TB (m + 1) c w p24 o535 ∧ SL true K_api_Row 0 0 c w A551 C552 t545 ∧ loop (fun (s_ : Int) => haulagelaw13_TableMap.b19 k t545 s_) n i666 = some x676) (k := k) ⟨1, c662, F.sub ⟨rfl, rfl, rfl, rfl, rfl, trivial⟩, E, B, h534, h553, HL⟩ ?_
        clear HL H E F B
        intro n673 X669 hX669 a w668 ⟨i666, c667, F, E, B, h534, h553, HL⟩
        obtain ⟨n674, ctl672, rfl, HB, HN670, HD671⟩ := loop_some HL
        have H : haulagelaw13_TableMap.b19 k t545 i666 = some ctl672 := HB
        clear HB HL
        unfold haulagelaw13_TableMap.b19 at H
        refine wp_seq_k fun K677 hK677 => ?_
        refine wp_seq_k fun K678 hK678 => ?_
        refine reg ?_
        refine q_val F rfl rfl (by decide) (r_move F rfl) fun a F => ?_
        refine q_val F rfl rfl (by decide) (r_move F rfl) fun a F => ?_
        refine q_val F rfl rfl (by decide) (r_lensl F Try.underlying46 rfl) fun a F => ?_
        refine q_val F rfl rfl (by decide) (r_lss F rfl rfl) fun a F => ?_
        refine nil ?_
        refine hK678 _ _ ?_
        by_cases hb679 : i666 < (t545.length : Int)
        · have H := (if_pos hb679).symm.trans H
          refine wp_cond_true ((F.ev rfl).trans (congrArg Value.bool (decide_eq_true hb679))) ?_
          refine wp_skip ?_
          refine hK677 _ _ ?_
          refine wp_seq_k fun K680 hK680 => ?_
          refine wp_block ?_
          refine wp_seq_k fun K681 hK681 => ?_
          refine regD (SB No c667 w668) 13 (.q 0 (.q 1 (.q 2 (.q 3 (.q 4 (.q 5 (.q 6 (.q 7 (.q 8 (.q 9 (.q 10 (.e 11 (.q 12 .nil))))))))))))) Try_hm (by decide +kernel) ?_
          intro w682 w1_ w2_ w3_ w4_
          have E683 : Ev No c667 w668 c667 w682 := Ev.same w1_ w2_ w3_ w4_
          have B := B.same w1_
          have zh534 := h534
          have zh553 := h553
          have ER : Ev No c667 w668 c667 w682 := Ev.same w1_ w2_ w3_ w4_
          have h534 := TB.ev h534 E683 (fun q => q.elim) (fun q => q.elim)
          have h553 := SL.ev h553 E683 (fun q => q.elim) (fun q => q.elim)
          have E := E.trans E683 (fun x q => q.elim)
          refine d_q F rfl rfl rfl (by decide) (fun wq hS => r_move F rfl) ER.sb fun a F => ?_
          refine d_q F rfl rfl rfl (by decide) (fun wq hS => r_move F rfl) ER.sb fun a F => ?_
          refine d_q F rfl rfl rfl (by decide) (fun wq hS => r_sub F rfl rfl) ER.sb fun a F => ?_
          obtain ⟨g684, H⟩ := ifN H
          obtain ⟨ad685, cs686, e687, h688, r689⟩ := SL.at zh553 (IntKind.i64.wrap (i666 - 1)) g684.1 g684.2
          obtain ⟨A690, C691, A693, C694, rfl, h692, h695⟩ := r689
          have h692 := SL.fl (i' := 0) h692 (fun q => q)
          have h695 := SL.fl (i' := 0) h695 (fun q => q)
          obtain ⟨qa696, qqa696⟩ : ∃ q, q = (ad685.add ((IntKind.i64.wrap (i666 - 1)).toNat * 3)) := ⟨_, rfl⟩
          have h688 : AT true 0 c667 w668 qa696 [.slice A690 ((rd t545 (IntKind.i64.wrap (i666 - 1))).Key).length C691, .slice A693 ((rd t545 (IntKind.i64.wrap (i666 - 1))).Value).length C694, .int .i64 ((rd t545 (IntKind.i64.wrap (i666 - 1))).Rev)] := by rw [qqa696]; exact h688
          have zh692 := h692
          have h692 := SL.ev h692 ER (fun q => q.elim) (fun q => q.elim)
          have zh695 := h695
          have h695 := SL.ev h695 ER (fun q => q.elim) (fun q => q.elim)
          have zh688 := h688
          have h688 := AT.ev h688 ER (fun q => q.elim)
          refine d_q F rfl rfl rfl (by decide) (fun wq hS => r_indexAddr' F Try.underlying46 sz_50 rfl rfl g684.1 g684.2 e687 qqa696) ER.sb fun a F => ?_
          refine d_q F rfl rfl rfl (by decide) (fun wq hS => r_fieldAddr F rfl ff_50_0) ER.sb fun a F => ?_
          refine d_q F rfl rfl rfl (by decide) (fun wq hS => r_load F rfl ag_23 (AT.cell (AT.sb zh688 hS (fun q => q.elim)) rfl)) ER.sb fun a F => ?_
          refine d_q F rfl rfl rfl (by decide) (fun wq hS => r_move F rfl) ER.sb fun a F => ?_
          refine d_q F rfl rfl rfl (by decide) (fun wq hS => r_move F rfl) ER.sb fun a F => ?_
          obtain ⟨g698, H⟩ := ifN H
          obtain ⟨ad699, cs700, e701, h702, r703⟩ := SL.at zh553 i666 g698.1 g698.2
          obtain ⟨A704, C705, A707, C708, rfl, h706, h709⟩ := r703
          have h706 := SL.fl (i' := 0) h706 (fun q => q)
          have h709 := SL.fl (i' := 0) h709 (fun q => q)
          obtain ⟨qa710, qqa710⟩ : ∃ q, q = (ad699.add (i666.toNat * 3)) := ⟨_, rfl⟩
          have h702 : AT true 0 c667 w668 qa710 [.slice A704 ((rd t545 i666).Key).length C705, .slice A707 ((rd t545 i666).Value).length C708, .int .i64 ((rd t545 i666).Rev)] := by rw [qqa710]; exact h702
          have zh706 := h706
          have h706 := SL.ev h706 ER (fun q => q.elim) (fun q => q.elim)
          have zh709 := h709
          have h709 := SL.ev h709 ER (fun q => q.elim) (fun q => q.elim)
          have zh702 := h702
          have h702 := AT.ev h702 ER (fun q => q.elim)
          refine d_q F rfl rfl rfl (by decide) (fun wq hS => r_indexAddr' F Try.underlying46 sz_50 rfl rfl g698.1 g698.2 e701 qqa710) ER.sb fun a F => ?_
          refine d_q F rfl rfl rfl (by decide) (fun wq hS => r_fieldAddr F rfl ff_50_0) ER.sb fun a F => ?_
          refine d_q F rfl rfl rfl (by decide) (fun wq hS => r_load F rfl ag_23 (AT.cell (AT.sb zh702 hS (fun q => q.elim)) rfl)) ER.sb fun a F => ?_
          refine d_e ?_
          obtain ⟨t712, q713, H⟩ := bind_some H
          refine o_call F rfl (wanted_none rfl) rfl (by decide) (r_call F Try.func28 rfl (by kernel_rfl) rfl) (haulagelaw13_comes.calls k (m := m + 5) (by omega) B h692 h706 _ q713) ?_
          rintro e w715 ⟨c714, rfl, E716, B717⟩
          refine ⟨_, rfl, fun a F => ?_⟩
          have B := B717
          have ER := ER.trans E716 (fun x q => q.elim)
          have h534 := TB.ev h534 E716 (fun q => q.elim) (fun q => q.elim)
          have h553 := SL.ev h553 E716 (fun q => q.elim) (fun q => q.elim)
          have h692 := SL.ev h692 E716 (fun q => q.elim) (fun q => q.elim)
          have h695 := SL.ev h695 E716 (fun q => q.elim) (fun q => q.elim)
          have h688 := AT.ev h688 E716 (fun q => q.elim)
          have h706 := SL.ev h706 E716 (fun q => q.elim) (fun q => q.elim)
          have h709 := SL.ev h709 E716 (fun q => q.elim) (fun q => q.elim)
          have h702 := AT.ev h702 E716 (fun q => q.elim)
          have E := E.trans E716 (fun x q => q.elim)
          refine ⟨fun _ => ER.sb, ?_⟩
          refine d_q F rfl rfl rfl (by decide) (fun wq hS => r_not F rfl) ER.sb fun a F => ?_
          refine d_nil ?_
          refine hK681 _ _ ?_
          by_cases hb719 : t712 = true
          · have H := (if_pos hb719).symm.trans H
            refine wp_cond_false ((F.ev rfl).trans (congrArg Value.bool (congrArg not hb719))) ?_
            refine wp_skip ?_
            refine hK680 _ _ ?_
            refine reg ?_
            refine q_val F rfl rfl (by decide) (r_move F rfl) fun a F => ?_
            refine q_val F rfl rfl (by decide) (r_add F rfl rfl) fun a F => ?_
            refine q_val F rfl rfl (by decide) (r_assign F rfl) fun a F => ?_
            refine nil ?_
            have H := HN670 _ (Option.some.inj H).symm
            exact hX669 _ _ _ (Nat.lt_succ_self _) ⟨(IntKind.i64.wrap (i666 + 1)), c714, F.sub ⟨rfl, rfl, rfl, rfl, rfl, trivial⟩, E, B, h534, h553, H⟩
          · have H := (if_neg hb719).symm.trans H
            refine wp_cond_true ((F.ev rfl).trans (congrArg Value.bool (congrArg not (bfalse hb719)))) ?_
            refine wp_seq_k fun K720 hK720 => ?_
            refine reg ?_
            refine q_val F rfl rfl (by decide) (r_assign F rfl) fun a F => ?_
            refine nil ?_
            refine hK720 _ _ ?_
            refine wp_ret ?_
            refine inbR ?_
            refine thenR ?_
            refine thenR ?_
            refine inbR ?_
            refine thenR ?_
            have hx_ := HD671 _ (Option.some.inj H).symm
            have H := HR675
            rw [← hx_] at H
            replace H : some false = some r := H
            have H := Option.some.inj H
            subst H
            refine out1 F rfl rfl ?_
            exact ⟨fun b_ => (fun x_ => if x_ < m then x_ else 0) (c714 b_), rfl, E.leave B0 (fun x_ => if x_ < m then x_ else 0) (by intro x_ hx_; show (if x_ < m then x_ else 0) = x_; ((repeat' split) <;> omega)), (fun b_ hb_ => by show (if (c714 b_) < m then (c714 b_) else 0) < m; ((repeat' split) <;> omega))⟩
        · have H := (if_neg hb679).symm.trans H
          refine wp_cond_false ((F.ev rfl).trans (congrArg Value.bool (decide_eq_false hb679))) ?_
          refine wp_exit ?_
          refine thenE ?_
          refine thenE ?_
          refine inbE ?_
          have hx_ := HD671 _ (Option.some.inj H).symm
          have H := HR675
          rw [← hx_] at H
          exact J722 c667 w668 a  (F.sub ⟨rfl, rfl, rfl, rfl, trivial⟩) E B h534 h553 H
      refine loop_fuel (I := fun n a w => ∃ (i558 : Int) (i559 : Int) (c : Nat → Nat), Fr a 224 [(3, .pointer p24), (4, .slice A538 l537.length C539), (5, .int .i64 i540), (13, .slice A551 t545.length C552), (14, .int .i64 i558), (15, .int .i64 i559)] ∧ Ev (fun x => False ∨ m ≤ x) c0 w0 c w ∧ CB (m + 5) c w ∧ TB (m + 1) c w p24 o535 ∧ SL true K_api_Row (m + 4) 0 c w A538 C539 l537 ∧ SL true K_api_Row 0 0 c w A551 C552 t545 ∧ loop (fun (s_ : Int × Int) => haulagelaw13_TableMap.b17 k l537 t545 s_.1 s_.2) n (i558, i559) = some x569) (k := k) ⟨0, 0, c547, F.sub ⟨rfl, rfl, rfl, rfl, rfl, rfl, trivial⟩, E, B, h534, h536, h553, HL⟩ ?_
      clear HL H E F B
      intro n566 X562 hX562 a w561 ⟨i558, i559, c560, F, E, B, h534, h536, h553, HL⟩
      obtain ⟨n567, ctl565, rfl, HB, HN563, HD564⟩ := loop_some HL
      have H : haulagelaw13_TableMap.b17 k l537 t545 i558 i559 = some ctl565 := HB
      clear HB HL
      unfold haulagelaw13_TableMap.b17 at H
      refine wp_seq_k fun K570 hK570 => ?_
      refine wp_seq_k fun K571 hK571 => ?_
      refine reg ?_
      refine q_val F rfl rfl (by decide) (r_move F rfl) fun a F => ?_
      refine q_val F rfl rfl (by decide) (r_move F rfl) fun a F => ?_
      refine q_val F rfl rfl (by decide) (r_lensl F Try.underlying46 rfl) fun a F => ?_
      refine q_val F rfl rfl (by decide) (r_lss F rfl rfl) fun a F => ?_
      refine nil ?_
      refine hK571 _ _ ?_
      by_cases hb572 : i559 < (l537.length : Int)
      · have H := (if_pos hb572).symm.trans H
        refine wp_cond_true ((F.ev rfl).trans (congrArg Value.bool (decide_eq_true hb572))) ?_
        refine wp_skip ?_
        refine hK570 _ _ ?_
        refine wp_seq_k fun K573 hK573 => ?_
        refine wp_block ?_
        refine wp_seq_k fun K574 hK574 => ?_
        refine wp_seq_k fun K575 hK575 => ?_
        refine reg ?_
        refine q_val F rfl rfl (by decide) (r_move F rfl) fun a F => ?_
        refine q_val F rfl rfl (by decide) (r_move F rfl) fun a F => ?_
        obtain ⟨g576, H⟩ := ifN H
        obtain ⟨ad577, cs578, e579, h580, r581⟩ := SL.at h536 i559 g576.1 g576.2
        obtain ⟨A582, C583, A585, C586, rfl, h584, h587⟩ := r581
        have h584 := SL.fl (i' := 0) h584 (fun q => q)
        have h587 := SL.fl (i' := 0) h587 (fun q => q)
        obtain ⟨qa588, qqa588⟩ : ∃ q, q = (ad577.add (i559.toNat * 3)) := ⟨_, rfl⟩
        have h580 : AT true (m + 4) c560 w561 qa588 [.slice A582 ((rd l537 i559).Key).length C583, .slice A585 ((rd l537 i559).Value).length C586, .int .i64 ((rd l537 i559).Rev)] := by rw [qqa588]; exact h580
        refine q_val F rfl rfl (by decide) (r_indexAddr' F Try.underlying46 sz_50 rfl rfl g576.1 g576.2 e579 qqa588) fun a F => ?_
        refine q_val F rfl rfl (by decide) (r_fieldAddr F rfl ff_50_2) fun a F => ?_
        refine q_val F rfl rfl (by decide) (r_load F rfl ag_3 (AT.cell h580 rfl)) fun a F => ?_
        refine q_val F rfl rfl (by decide) (r_eql F rfl rfl) fun a F => ?_
        refine nil ?_
        refine hK575 _ _ ?_
        by_cases hb590 : ((rd l537 i559).Rev) = 0
        · have H := (if_pos hb590).symm.trans H
          refine wp_cond_true ((F.ev rfl).trans (congrArg Value.bool (decide_eq_true hb590))) ?_
          refine wp_exit ?_
          refine thenE ?_
          refine inbE ?_
          refine hK573 _ _ ?_
          refine reg ?_
          refine q_val F rfl rfl (by decide) (r_move F rfl) fun a F => ?_
          refine q_val F rfl rfl (by decide) (r_add F rfl rfl) fun a F => ?_
          refine q_val F rfl rfl (by decide) (r_assign F rfl) fun a F => ?_
          refine nil ?_
          have H := HN563 _ (Option.some.inj H).symm
          exact hX562 _ _ _ (Nat.lt_succ_self _) ⟨i558, (IntKind.i64.wrap (i559 + 1)), c560, F.sub ⟨rfl, rfl, rfl, rfl, rfl, rfl, trivial⟩, E, B, h534, h536, h553, H⟩
        · have H := (if_neg hb590).symm.trans H
          refine wp_cond_false ((F.ev rfl).trans (congrArg Value.bool (decide_eq_false hb590))) ?_
          refine wp_skip ?_
          refine hK574 _ _ ?_
          refine wp_seq_k fun K591 hK591 => ?_
          refine reg ?_
          refine q_val F rfl rfl (by decide) (r_move F rfl) fun a F => ?_
          refine q_val F rfl rfl (by decide) (r_add F rfl rfl) fun a F => ?_
          refine q_val F rfl rfl (by decide) (r_assign F rfl) fun a F => ?_
          refine nil ?_
          refine hK591 _ _ ?_
          refine wp_seq_k fun K592 hK592 => ?_
          refine reg ?_
          refine q_val F rfl rfl (by decide) (r_assign F rfl) fun a F => ?_
          refine nil ?_
          refine hK592 _ _ ?_
          refine wp_seq_k fun K593 hK593 => ?_
          refine wp_seq_k fun K594 hK594 => ?_
          refine reg ?_
          refine q_val F rfl rfl (by decide) (r_assign F rfl) fun a F => ?_
          refine nil ?_
          refine hK594 _ _ ?_
          refine wp_block ?_
          obtain ⟨x606, HL, HR605⟩ := bind_some H
          have J652 : ∀ (c653 : Nat → Nat) (w654 : World) (a : Act) (b651 : Bool), Fr a 224 [(3, .pointer p24), (4, .slice A538 l537.length C539), (5, .int .i64 i540), (13, .slice A551 t545.length C552), (14, .int .i64 (IntKind.i64.wrap (i558 + 1))), (15, .int .i64 i559), (16, .bool b651)] → Ev (fun x => False ∨ m ≤ x) c0 w0 c653 w654 → CB (m + 5) c653 w654 → TB (m + 1) c653 w654 p24 o535 → SL true K_api_Row (m + 4) 0 c653 w654 A538 C539 l537 → SL true K_api_Row 0 0 c653 w654 A551 C552 t545 → haulagelaw13_TableMap.j16 i558 i559 b651 = some ctl565 → K593 a w654 := by
            intro c653 w654 a b651 F E B h534 h536 h553 H
            unfold haulagelaw13_TableMap.j16 at H
            refine hK593 _ _ ?_
            refine wp_seq_k fun K655 hK655 => ?_
            refine reg ?_
            refine q_val F rfl rfl (by decide) (r_move F rfl) fun a F => ?_
            refine q_val F rfl rfl (by decide) (r_not F rfl) fun a F => ?_
            refine nil ?_
            refine hK655 _ _ ?_
            by_cases hb656 : b651 = true
            · have H := (if_pos hb656).symm.trans H
              refine wp_cond_false ((F.ev rfl).trans (congrArg Value.bool (congrArg not hb656))) ?_
              refine wp_skip ?_
              refine hK573 _ _ ?_
              refine reg ?_
              refine q_val F rfl rfl (by decide) (r_move F rfl) fun a F => ?_
              refine q_val F rfl rfl (by decide) (r_add F rfl rfl) fun a F => ?_
              refine q_val F rfl rfl (by decide) (r_assign F rfl) fun a F => ?_
              refine nil ?_
              have H := HN563 _ (Option.some.inj H).symm
              exact hX562 _ _ _ (Nat.lt_succ_self _) ⟨(IntKind.i64.wrap (i558 + 1)), (IntKind.i64.wrap (i559 + 1)), c653, F.sub ⟨rfl, rfl, rfl, rfl, rfl, rfl, trivial⟩, E, B, h534, h536, h553, H⟩
            · have H := (if_neg hb656).symm.trans H
              refine wp_cond_true ((F.ev rfl).trans (congrArg Value.bool (congrArg not (bfalse hb656)))) ?_
              refine wp_seq_k fun K657 hK657 => ?_
              refine reg ?_
              refine q_val F rfl rfl (by decide) (r_assign F rfl) fun a F => ?_
              refine nil ?_
              refine hK657 _ _ ?_
              refine wp_ret ?_
              refine inbR ?_
              refine thenR ?_
              refine thenR ?_
              refine inbR ?_
              refine thenR ?_
              have hx_ := HD564 _ (Option.some.inj H).symm
              have H := HR568
              rw [← hx_] at H
              replace H : some false = some r := H
              have H := Option.some.inj H
              subst H
              refine out1 F rfl rfl ?_
              exact ⟨fun b_ => (fun x_ => if x_ < m then x_ else 0) (c653 b_), rfl, E.leave B0 (fun x_ => if x_ < m then x_ else 0) (by intro x_ hx_; show (if x_ < m then x_ else 0) = x_; ((repeat' split) <;> omega)), (fun b_ hb_ => by show (if (c653 b_) < m then (c653 b_) else 0) < m; ((repeat' split) <;> omega))⟩
          refine loop_fuel (I := fun n a w => ∃ (b595 : Bool) (i596 : Int) (c : Nat → Nat), Fr a 224 [(3, .pointer p24), (4, .slice A538 l537.length C539), (5, .int .i64 i540), (13, .slice A551 t545.length C552), (14, .int .i64 (IntKind.i64.wrap (i558 + 1))), (15, .int .i64 i559), (16, .bool b595), (17, .int .i64 i596)] ∧ Ev (fun x => False ∨ m ≤ x) c0 w0 c w ∧ CB (m + 5) c w ∧ TB (m + 1) c w p24 o535 ∧ SL true K_api_Row (m + 4) 0 c w A538 C539 l537 ∧ SL true K_api_Row 0 0 c w A551 C552 t545 ∧ loop (fun (s_ : Bool × Int) => haulagelaw13_TableMap.b15 k l537 t545 i559 s_.1 s_.2) n (b595, i596) = some x606) (k := k) ⟨false, 0, c560, F.sub ⟨rfl, rfl, rfl, rfl, rfl, rfl, rfl, rfl, trivial⟩, E, B, h534, h536, h553, HL⟩ ?_
          clear HL H E F B
          intro n603 X599 hX599 a w598 ⟨b595, i596, c597, F, E, B, h534, h536, h553, HL⟩
          obtain ⟨n604, ctl602, rfl, HB, HN600, HD601⟩ := loop_some HL
          have H : haulagelaw13_TableMap.b15 k l537 t545 i559 b595 i596 = some ctl602 := HB
          clear HB HL
          unfold haulagelaw13_TableMap.b15 at H
          refine wp_seq_k fun K607 hK607 => ?_
          refine wp_seq_k fun K608 hK608 => ?_
          refine reg ?_
          refine q_val F rfl rfl (by decide) (r_move F rfl) fun a F => ?_
          refine q_val F rfl rfl (by decide) (r_move F rfl) fun a F => ?_
          refine q_val F rfl rfl (by decide) (r_lensl F Try.underlying46 rfl) fun a F => ?_
          refine q_val F rfl rfl (by decide) (r_lss F rfl rfl) fun a F => ?_
          refine nil ?_
          refine hK608 _ _ ?_
          by_cases hb609 : i596 < (t545.length : Int)
          · have H := (if_pos hb609).symm.trans H
            refine wp_cond_true ((F.ev rfl).trans (congrArg Value.bool (decide_eq_true hb609))) ?_
            refine wp_skip ?_
            refine hK607 _ _ ?_
            refine wp_seq_k fun K610 hK610 => ?_
            refine wp_block ?_
            refine regD (SB No c597 w598) 13 (.q 0 (.q 1 (.q 2 (.q 3 (.q 4 (.q 5 (.q 6 (.q 7 (.q 8 (.q 9 (.e 10 (.q 11 (.q 12 .nil))))))))))))) Try_hm (by decide +kernel) ?_
            intro w611 w1_ w2_ w3_ w4_
            have E612 : Ev No c597 w598 c597 w611 := Ev.same w1_ w2_ w3_ w4_
            have B := B.same w1_
            have zh534 := h534
            have zh536 := h536
            have zh553 := h553
            have ER : Ev No c597 w598 c597 w611 := Ev.same w1_ w2_ w3_ w4_
            have h534 := TB.ev h534 E612 (fun q => q.elim) (fun q => q.elim)
            have h536 := SL.ev h536 E612 (fun q => q.elim) (fun q => q.elim)
            have h553 := SL.ev h553 E612 (fun q => q.elim) (fun q => q.elim)
            have E := E.trans E612 (fun x q => q.elim)
            refine d_q F rfl rfl rfl (by decide) (fun wq hS => r_move F rfl) ER.sb fun a F => ?_
            refine d_q F rfl rfl rfl (by decide) (fun wq hS => r_move F rfl) ER.sb fun a F => ?_
            by_cases hb613 : b595 = true
            · have H := (if_pos hb613).symm.trans H
              refine d_qn F rfl rfl rfl (by decide) rfl hb613 rfl (by decide) ER.sb fun a F => ?_
              refine d_qn F rfl rfl rfl (by decide) rfl hb613 rfl (by decide) ER.sb fun a F => ?_
              refine d_qn F rfl rfl rfl (by decide) rfl hb613 rfl (by decide) ER.sb fun a F => ?_
              refine d_qn F rfl rfl rfl (by decide) rfl hb613 rfl (by decide) ER.sb fun a F => ?_
              refine d_qn F rfl rfl rfl (by decide) rfl hb613 rfl (by decide) ER.sb fun a F => ?_
              refine d_qn F rfl rfl rfl (by decide) rfl hb613 rfl (by decide) ER.sb fun a F => ?_
              refine d_qn F rfl rfl rfl (by decide) rfl hb613 rfl (by decide) ER.sb fun a F => ?_
              refine d_qn F rfl rfl rfl (by decide) rfl hb613 rfl (by decide) ER.sb fun a F => ?_
              refine d_e ?_
              refine o_no F rfl rfl rfl (by decide) rfl hb613 rfl (by decide) fun a F => ?_
              refine ⟨fun _ => ER.sb, ?_⟩
              refine d_q F rfl rfl rfl (by decide) (fun wq hS => r_pick_t F rfl hb613 rfl) ER.sb fun a F => ?_
              refine d_q F rfl rfl rfl (by decide) (fun wq hS => r_assign F rfl) ER.sb fun a F => ?_
              refine d_nil ?_
              refine hK610 _ _ ?_
              refine reg ?_
              refine q_val F rfl rfl (by decide) (r_move F rfl) fun a F => ?_
              refine q_val F rfl rfl (by decide) (r_add F rfl rfl) fun a F => ?_
              refine q_val F rfl rfl (by decide) (r_assign F rfl) fun a F => ?_
              refine nil ?_
              have H := HN600 _ (Option.some.inj H).symm
              exact hX599 _ _ _ (Nat.lt_succ_self _) ⟨true, (IntKind.i64.wrap (i596 + 1)), c597, F.sub ⟨rfl, rfl, rfl, rfl, rfl, rfl, rfl, rfl, trivial⟩, E, B, h534, h536, h553, H⟩
            · have H := (if_neg hb613).symm.trans H
              refine d_qy F rfl rfl rfl (by decide) rfl (bfalse hb613) rfl (by decide) (fun wq hS => r_move F rfl) ER.sb fun a F => ?_
              refine d_qy F rfl rfl rfl (by decide) rfl (bfalse hb613) rfl (by decide) (fun wq hS => r_move F rfl) ER.sb fun a F => ?_
              obtain ⟨g614, H⟩ := ifN H
              obtain ⟨ad615, cs616, e617, h618, r619⟩ := SL.at zh553 i596 g614.1 g614.2
              obtain ⟨A620, C621, A623, C624, rfl, h622, h625⟩ := r619
              have h622 := SL.fl (i' := 0) h622 (fun q => q)
              have h625 := SL.fl (i' := 0) h625 (fun q => q)
              obtain ⟨qa626, qqa626⟩ : ∃ q, q = (ad615.add (i596.toNat * 3)) := ⟨_, rfl⟩
              have h618 : AT true 0 c597 w598 qa626 [.slice A620 ((rd t545 i596).Key).length C621, .slice A623 ((rd t545 i596).Value).length C624, .int .i64 ((rd t545 i596).Rev)] := by rw [qqa626]; exact h618
              have zh622 := h622
              have h622 := SL.ev h622 ER (fun q => q.elim) (fun q => q.elim)
              have zh625 := h625
              have h625 := SL.ev h625 ER (fun q => q.elim) (fun q => q.elim)
              have zh618 := h618
              have h618 := AT.ev h618 ER (fun q => q.elim)
              refine d_qy F rfl rfl rfl (by decide) rfl (bfalse hb613) rfl (by decide) (fun wq hS => r_indexAddr' F Try.underlying46 sz_50 rfl rfl g614.1 g614.2 e617 qqa626) ER.sb fun a F => ?_
              refine d_qy F rfl rfl rfl (by decide) rfl (bfalse hb613) rfl (by decide) (fun wq hS => r_loads (cs := [.slice A620 ((rd t545 i596).Key).length C621, .slice A623 ((rd t545 i596).Value).length C624, .int .i64 ((rd t545 i596).Rev)]) F rfl ag_50 sz_50 (AT.sb zh618 hS (fun q => q.elim))) ER.sb fun a F => ?_
              refine d_qy F rfl rfl rfl (by decide) rfl (bfalse hb613) rfl (by decide) (fun wq hS => r_move F rfl) ER.sb fun a F => ?_
              refine d_qy F rfl rfl rfl (by decide) rfl (bfalse hb613) rfl (by decide) (fun wq hS => r_move F rfl) ER.sb fun a F => ?_
              obtain ⟨g628, H⟩ := ifN H
              obtain ⟨ad629, cs630, e631, h632, r633⟩ := SL.at zh536 i559 g628.1 g628.2
              obtain ⟨A634, C635, A637, C638, rfl, h636, h639⟩ := r633
              have h636 := SL.fl (i' := 0) h636 (fun q => q)
              have h639 := SL.fl (i' := 0) h639 (fun q => q)
              obtain ⟨qa640, qqa640⟩ : ∃ q, q = (ad629.add (i559.toNat * 3)) := ⟨_, rfl⟩
              have h632 : AT true (m + 4) c597 w598 qa640 [.slice A634 ((rd l537 i559).Key).length C635, .slice A637 ((rd l537 i559).Value).length C638, .int .i64 ((rd l537 i559).Rev)] := by rw [qqa640]; exact h632
              have zh636 := h636
              have h636 := SL.ev h636 ER (fun q => q.elim) (fun q => q.elim)
              have zh639 := h639
              have h639 := SL.ev h639 ER (fun q => q.elim) (fun q => q.elim)
              have zh632 := h632
              have h632 := AT.ev h632 ER (fun q => q.elim)
              refine d_qy F rfl rfl rfl (by decide) rfl (bfalse hb613) rfl (by decide) (fun wq hS => r_indexAddr' F Try.underlying46 sz_50 rfl rfl g628.1 g628.2 e631 qqa640) ER.sb fun a F => ?_
              refine d_qy F rfl rfl rfl (by decide) rfl (bfalse hb613) rfl (by decide) (fun wq hS => r_loads (cs := [.slice A634 ((rd l537 i559).Key).length C635, .slice A637 ((rd l537 i559).Value).length C638, .int .i64 ((rd l537 i559).Rev)]) F rfl ag_50 sz_50 (AT.sb zh632 hS (fun q => q.elim))) ER.sb fun a F => ?_
              refine d_e ?_
              obtain ⟨t642, q643, H⟩ := bind_some H
              refine o_call F rfl (wanted_yes F rfl rfl (by decide) rfl (bfalse hb613)) rfl (by decide) (r_call F Try.func27 rfl (by kernel_rfl) rfl) (haulagelaw13_sameRow.calls k (m := m + 5) (by omega) B h622 h625 h636 h639 _ q643) ?_
              rintro e w645 ⟨c644, rfl, E646, B647⟩
              refine ⟨_, rfl, fun a F => ?_⟩
              have B := B647
              have ER := ER.trans E646 (fun x q => q.elim)
              have h534 := TB.ev h534 E646 (fun q => q.elim) (fun q => q.elim)
              have h536 := SL.ev h536 E646 (fun q => q.elim) (fun q => q.elim)
              have h553 := SL.ev h553 E646 (fun q => q.elim) (fun q => q.elim)
              have h622 := SL.ev h622 E646 (fun q => q.elim) (fun q => q.elim)
              have h625 := SL.ev h625 E646 (fun q => q.elim) (fun q => q.elim)
              have h618 := AT.ev h618 E646 (fun q => q.elim)
              have h636 := SL.ev h636 E646 (fun q => q.elim) (fun q => q.elim)
              have h639 := SL.ev h639 E646 (fun q => q.elim) (fun q => q.elim)
              have h632 := AT.ev h632 E646 (fun q => q.elim)
              have E := E.trans E646 (fun x q => q.elim)
              refine ⟨fun _ => ER.sb, ?_⟩
              refine d_q F rfl rfl rfl (by decide) (fun wq hS => r_pick_f F rfl (bfalse hb613) rfl) ER.sb fun a F => ?_
              refine d_q F rfl rfl rfl (by decide) (fun wq hS => r_assign F rfl) ER.sb fun a F => ?_
              refine d_nil ?_
              refine hK610 _ _ ?_
              refine reg ?_
              refine q_val F rfl rfl (by decide) (r_move F rfl) fun a F => ?_
              refine q_val F rfl rfl (by decide) (r_add F rfl rfl) fun a F => ?_
              refine q_val F rfl rfl (by decide) (r_assign F rfl) fun a F => ?_
              refine nil ?_
              have H := HN600 _ (Option.some.inj H).symm
              exact hX599 _ _ _ (Nat.lt_succ_self _) ⟨t642, (IntKind.i64.wrap (i596 + 1)), c644, F.sub ⟨rfl, rfl, rfl, rfl, rfl, rfl, rfl, rfl, trivial⟩, E, B, h534, h536, h553, H⟩
          · have H := (if_neg hb609).symm.trans H
            refine wp_cond_false ((F.ev rfl).trans (congrArg Value.bool (decide_eq_false hb609))) ?_
            refine wp_exit ?_
            refine thenE ?_
            refine thenE ?_
            refine inbE ?_
            have hx_ := HD601 _ (Option.some.inj H).symm
            have H := HR605
            rw [← hx_] at H
            exact J652 c597 w598 a b595 (F.sub ⟨rfl, rfl, rfl, rfl, rfl, rfl, rfl, trivial⟩) E B h534 h536 h553 H
      · have H := (if_neg hb572).symm.trans H
        refine wp_cond_false ((F.ev rfl).trans (congrArg Value.bool (decide_eq_false hb572))) ?_
        refine wp_exit ?_
        refine thenE ?_
        refine thenE ?_
        refine inbE ?_
        have hx_ := HD564 _ (Option.some.inj H).symm
        have H := HR568
        rw [← hx_] at H
        exact J661 c560 w561 a i558 (F.sub ⟨rfl, rfl, rfl, rfl, trivial⟩) E B h534 h553 H
    refine loop_fuel (I := fun n a w => ∃ (o272 : Option Tab) (l273 : List api_Row) (A274 : Option Addr) (C275 : Nat) (i277 : Int) (i278 : Int) (c : Nat → Nat), Fr a 224 [(0, .slice A2 a1.length C3), (3, .pointer p24), (4, .slice A274 l273.length C275), (5, .int .i64 i277), (6, .int .i64 i278)] ∧ Ev (fun x => False ∨ m ≤ x) c0 w0 c w ∧ CB (m + 5) c w ∧ SL false K_api_Op 0 0 c w A2 C3 a1 ∧ TB (m + 1) c w p24 o272 ∧ SL true K_api_Row (m + 4) 0 c w A274 C275 l273 ∧ loop (fun (s_ : (Option Tab) × (List api_Row) × Int × Int) => haulagelaw13_TableMap.b13 k a1 s_.1 s_.2.1 s_.2.2.1 s_.2.2.2) n (o272, l273, i277, i278) = some x288) (k := k) ⟨t18, [], none, 0, 0, 0, c20, F.sub ⟨rfl, rfl, rfl, rfl, rfl, trivial⟩, E, B, h4, h25, SL.nil, HL⟩ ?_
    clear HL H E F B
    intro n285 X281 hX281 a w280 ⟨o272, l273, A274, C275, i277, i278, c279, F, E, B, h4, h271, h276, HL⟩
    obtain ⟨n286, ctl284, rfl, HB, HN282, HD283⟩ := loop_some HL
    have H : haulagelaw13_TableMap.b13 k a1 o272 l273 i277 i278 = some ctl284 := HB
    clear HB HL
    unfold haulagelaw13_TableMap.b13 at H
    refine wp_seq_k fun K289 hK289 => ?_
    refine wp_seq_k fun K290 hK290 => ?_
    refine reg ?_
    refine q_val F rfl rfl (by decide) (r_move F rfl) fun a F => ?_
    refine q_val F rfl rfl (by decide) (r_move F rfl) fun a F => ?_
    refine q_val F rfl rfl (by decide) (r_lensl F Try.underlying22 rfl) fun a F => ?_
    refine q_val F rfl rfl (by decide) (r_lss F rfl rfl) fun a F => ?_
    refine nil ?_
    refine hK290 _ _ ?_
    by_cases hb291 : i278 < (a1.length : Int)
    · have H := (if_pos hb291).symm.trans H
      refine wp_cond_true ((F.ev rfl).trans (congrArg Value.bool (decide_eq_true hb291))) ?_
      refine wp_skip ?_
      refine hK289 _ _ ?_
      refine wp_seq_k fun K292 hK292 => ?_
      refine wp_block ?_
      refine wp_seq_k fun K293 hK293 => ?_
      refine reg ?_
      refine q_val F rfl rfl (by decide) (r_move F rfl) fun a F => ?_
      refine q_val F rfl rfl (by decide) (r_move F rfl) fun a F => ?_
      obtain ⟨g294, H⟩ := ifN H
      obtain ⟨ad295, cs296, e297, h298, r299⟩ := SL.at h4 i278 g294.1 g294.2
      obtain ⟨A300, C301, A303, C304, rfl, h302, h305⟩ := r299
      have h302 := SL.fl (i' := 0) h302 (fun q => q)
      have h305 := SL.fl (i' := 0) h305 (fun q => q)
      obtain ⟨qa306, qqa306⟩ : ∃ q, q = (ad295.add (i278.toNat * 4)) := ⟨_, rfl⟩
      have h298 : AT false 0 c279 w280 qa306 [.int .i64 ((rd a1 i278).Kind), .slice A300 ((rd a1 i278).Key).length C301, .slice A303 ((rd a1 i278).Value).length C304, .int .i64 ((rd a1 i278).Rev)] := by rw [qqa306]; exact h298
      refine q_val F rfl rfl (by decide) (r_indexAddr' F Try.underlying22 sz_33 rfl rfl g294.1 g294.2 e297 qqa306) fun a F => ?_
      refine q_val F rfl rfl (by decide) (r_loads (cs := [.int .i64 ((rd a1 i278).Kind), .slice A300 ((rd a1 i278).Key).length C301, .slice A303 ((rd a1 i278).Value).length C304, .int .i64 ((rd a1 i278).Rev)]) F rfl ag_33 sz_33 h298) fun a F => ?_
      refine q_eff F rfl rfl (by decide) (e_alloc F zv_33 c279 (m + 2)) ?_
      rintro v w309 a ⟨c308, qa64, rfl, E310, h66, B311⟩ F
      have B := B311 _ B (by omega)
      have h4 := SL.ev h4 E310 (fun q => q.elim) (fun q => q.elim)
      have h271 := TB.ev h271 E310 (fun q => q.elim) (fun q => q.elim)
      have h276 := SL.ev h276 E310 (fun q => q.elim) (fun q => q.elim)
      have h302 := SL.ev h302 E310 (fun q => q.elim) (fun q => q.elim)
      have h305 := SL.ev h305 E310 (fun q => q.elim) (fun q => q.elim)
      have h298 := AT.ev h298 E310 (fun q => q.elim)
      have E := E.trans E310 (fun x q => q.elim)
      have h66 : AT true (m + 2) c308 w309 qa64 [.int .i64 0, .slice none 0 0, .slice none 0 0, .int .i64 0] := h66
      refine q_eff0 F rfl rfl (e_storeN0 (us := [.int .i64 ((rd a1 i278).Kind), .slice A300 ((rd a1 i278).Key).length C301, .slice A303 ((rd a1 i278).Value).length C304, .int .i64 ((rd a1 i278).Rev)]) F rfl rfl sz_33 h66 (Nat.le_of_ble_eq_true rfl) (one_all rfl)) ?_
      rintro w312 a ⟨E313, h66, Z314⟩ F
      have B := B.size Z314
      have h4 := SL.ev h4 E313 (by show ¬ (0 = m + 2); omega) (by show ¬ (0 = m + 2); omega)
      have h271 := TB.ev h271 E313 (by show ¬ (m + 1 = m + 2); omega) (by show ¬ (0 = m + 2); omega)
      have h276 := SL.ev h276 E313 (by show ¬ (m + 4 = m + 2); omega) (by show ¬ (0 = m + 2); omega)
      have h302 := SL.ev h302 E313 (by show ¬ (0 = m + 2); omega) (by show ¬ (0 = m + 2); omega)
      have h305 := SL.ev h305 E313 (by show ¬ (0 = m + 2); omega) (by show ¬ (0 = m + 2); omega)
      have h298 := AT.ev h298 E313 (by show ¬ (0 = m + 2); omega)
      have E := E.trans E313 (fun x q => by replace q : x = m + 2 := q; show False ∨ m ≤ x; omega)
      have h66 : AT true (m + 2) c308 w312 qa64 [.int .i64 ((rd a1 i278).Kind), .slice A300 ((rd a1 i278).Key).length C301, .slice A303 ((rd a1 i278).Value).length C304, .int .i64 ((rd a1 i278).Rev)] := h66
      refine nil ?_
      refine hK293 _ _ ?_
      refine wp_seq_k fun K315 hK315 => ?_
      refine reg ?_
      refine q_val F rfl rfl (by decide) (r_move F rfl) fun a F => ?_
      refine q_val F rfl rfl (by decide) (r_loads (cs := [.int .i64 ((rd a1 i278).Kind), .slice A300 ((rd a1 i278).Key).length C301, .slice A303 ((rd a1 i278).Value).length C304, .int .i64 ((rd a1 i278).Rev)]) F rfl ag_33 sz_33 h66) fun a F => ?_
      obtain ⟨t73, q74, H⟩ := bind_some H
      refine q_call F rfl rfl (by decide) (r_call F Try.func14 rfl (by kernel_rfl) rfl) (table_Table_Do.calls k (m := m + 5) (by omega) B h271 h302 h305 (by omega) _ q74) ?_
      rintro e w317 ⟨c316, A320, C321, A323, C324, rfl, E318, B319, h322, h325, h326⟩
      refine ⟨_, rfl, fun a F => ?_⟩
      have B := B319
      have h4 := SL.ev h4 E318 (by show ¬ (0 = m + 1); omega) (by show ¬ (0 = m + 1); omega)
      have h276 := SL.ev h276 E318 (by show ¬ (m + 4 = m + 1); omega) (by show ¬ (0 = m + 1); omega)
      have h302 := SL.ev h302 E318 (by show ¬ (0 = m + 1); omega) (by show ¬ (0 = m + 1); omega)
      have h305 := SL.ev h305 E318 (by show ¬ (0 = m + 1); omega) (by show ¬ (0 = m + 1); omega)
      have h298 := AT.ev h298 E318 (by show ¬ (0 = m + 1); omega)
      have h66 := AT.ev h66 E318 (by show ¬ (m + 2 = m + 1); omega)
      have E := E.trans E318 (fun x q => by replace q : x = m + 1 := q; show False ∨ m ≤ x; omega)
      refine q_val F rfl rfl (by decide) (r_move F rfl) fun a F => ?_
      refine q_val F rfl rfl (by decide) (r_extract F rfl rfl) fun a F => ?_
      refine q_val F rfl rfl (by decide) (r_extract F rfl rfl) fun a F => ?_
      refine q_eff F rfl rfl (by decide) (e_alloc F zv_28 c316 (m + 3)) ?_
      rintro v w329 a ⟨c328, qa89, rfl, E330, h91, B331⟩ F
      have B := B331 _ B (by omega)
      have h4 := SL.ev h4 E330 (fun q => q.elim) (fun q => q.elim)
      have h276 := SL.ev h276 E330 (fun q => q.elim) (fun q => q.elim)
      have h302 := SL.ev h302 E330 (fun q => q.elim) (fun q => q.elim)
      have h305 := SL.ev h305 E330 (fun q => q.elim) (fun q => q.elim)
      have h298 := AT.ev h298 E330 (fun q => q.elim)
      have h66 := AT.ev h66 E330 (fun q => q.elim)
      have h322 := SL.ev h322 E330 (fun q => q.elim) (fun q => q.elim)
      have h325 := SL.ev h325 E330 (fun q => q.elim) (fun q => q.elim)
      have h326 := TB.ev h326 E330 (fun q => q.elim) (fun q => q.elim)
      have E := E.trans E330 (fun x q => q.elim)
      have h91 : AT true (m + 3) c328 w329 qa89 [.bool false, .slice none 0 0, .slice none 0 0, .int .i64 0, .int .i64 0] := h91
      refine q_eff0 F rfl rfl (e_storeN0 (us := [.bool t73.1.Done, .slice A320 t73.1.Key.length C321, .slice A323 t73.1.Value.length C324, .int .i64 t73.1.Rev, .int .i64 t73.1.At]) F rfl rfl sz_28 h91 (Nat.le_of_ble_eq_true rfl) (one_all rfl)) ?_
      rintro w332 a ⟨E333, h91, Z334⟩ F
      have B := B.size Z334
      have h4 := SL.ev h4 E333 (by show ¬ (0 = m + 3); omega) (by show ¬ (0 = m + 3); omega)
      have h276 := SL.ev h276 E333 (by show ¬ (m + 4 = m + 3); omega) (by show ¬ (0 = m + 3); omega)
      have h302 := SL.ev h302 E333 (by show ¬ (0 = m + 3); omega) (by show ¬ (0 = m + 3); omega)
      have h305 := SL.ev h305 E333 (by show ¬ (0 = m + 3); omega) (by show ¬ (0 = m + 3); omega)
      have h298 := AT.ev h298 E333 (by show ¬ (0 = m + 3); omega)
      have h66 := AT.ev h66 E333 (by show ¬ (m + 2 = m + 3); omega)
      have h322 := SL.ev h322 E333 (by show ¬ (0 = m + 3); omega) (by show ¬ (0 = m + 3); omega)
      have h325 := SL.ev h325 E333 (by show ¬ (0 = m + 3); omega) (by show ¬ (0 = m + 3); omega)
      have h326 := TB.ev h326 E333 (by show ¬ (m + 1 = m + 3); omega) (by show ¬ (0 = m + 3); omega)
      have E := E.trans E333 (fun x q => by replace q : x = m + 3 := q; show False ∨ m ≤ x; omega)
      have h91 : AT true (m + 3) c328 w332 qa89 [.bool t73.1.Done, .slice A320 t73.1.Key.length C321, .slice A323 t73.1.Value.length C324, .int .i64 t73.1.Rev, .int .i64 t73.1.At] := h91
      refine q_val F rfl rfl (by decide) (r_assign F rfl) fun a F => ?_
      refine nil ?_
      refine hK315 _ _ ?_
      refine wp_seq_k fun K335 hK335 => ?_
      refine wp_seq_k fun K336 hK336 => ?_
      have J344 : ∀ (c345 : Nat → Nat) (w346 : World) (a : Act) (b343 : Bool), Fr a 224 [(0, .slice A2 a1.length C3), (3, .pointer p24), (4, .slice A274 l273.length C275), (5, .int .i64 i277), (6, .int .i64 i278), (7, .pointer (some qa64)), (8, .pointer (some qa89)), (44, .bool b343)] → Ev (fun x => False ∨ m ≤ x) c0 w0 c345 w346 → CB (m + 5) c345 w346 → AT true (m + 2) c345 w346 qa64 [.int .i64 ((rd a1 i278).Kind), .slice A300 ((rd a1 i278).Key).length C301, .slice A303 ((rd a1 i278).Value).length C304, .int .i64 ((rd a1 i278).Rev)] → AT true (m + 3) c345 w346 qa89 [.bool t73.1.Done, .slice A320 t73.1.Key.length C321, .slice A323 t73.1.Value.length C324, .int .i64 t73.1.Rev, .int .i64 t73.1.At] → SL false K_api_Op 0 0 c345 w346 A2 C3 a1 → TB (m + 1) c345 w346 p24 t73.2.2 → SL true K_api_Row (m + 4) 0 c345 w346 A274 C275 l273 → SL false (Kint .u8) 0 0 c345 w346 A300 C301 ((rd a1 i278).Key) → SL false (Kint .u8) 0 0 c345 w346 A303 C304 ((rd a1 i278).Value) → SL false (Kint .u8) 0 0 c345 w346 A320 C321 t73.1.Key → SL false (Kint .u8) 0 0 c345 w346 A323 C324 t73.1.Value → haulagelaw13_TableMap.j7 k a1 t73 l273 i277 i278 b343 = some ctl284 → K336 a w346 := by
        intro c345 w346 a b343 F E B h66 h91 h4 h326 h276 h302 h305 h322 h325 H
        unfold haulagelaw13_TableMap.j7 at H
        refine hK336 _ _ ?_
        by_cases hb347 : b343 = true
        · have H := (if_pos hb347).symm.trans H
          refine wp_cond_true ((F.ev rfl).trans (congrArg Value.bool hb347)) ?_
          refine wp_exit ?_
          refine thenE ?_
          refine inbE ?_
          refine hK292 _ _ ?_
          refine reg ?_
          refine q_val F rfl rfl (by decide) (r_move F rfl) fun a F => ?_
          refine q_val F rfl rfl (by decide) (r_add F rfl rfl) fun a F => ?_
          refine q_val F rfl rfl (by decide) (r_assign F rfl) fun a F => ?_
          refine nil ?_
          have H := HN282 _ (Option.some.inj H).symm
          exact hX281 _ _ _ (Nat.lt_succ_self _) ⟨t73.2.2, l273, A274, C275, i277, (IntKind.i64.wrap (i278 + 1)), c345, F.sub ⟨rfl, rfl, rfl, rfl, rfl, trivial⟩, E, B, h4, h326, h276, H⟩
        · have H := (if_neg hb347).symm.trans H
          refine wp_cond_false ((F.ev rfl).trans (congrArg Value.bool (bfalse hb347))) ?_
          refine wp_skip ?_
          refine hK335 _ _ ?_
          refine wp_seq_k fun K348 hK348 => ?_
          refine reg ?_
          refine q_val F rfl rfl (by decide) (r_move F rfl) fun a F => ?_
          refine q_val F rfl rfl (by decide) (r_add F rfl rfl) fun a F => ?_
          refine q_val F rfl rfl (by decide) (r_assign F rfl) fun a F => ?_
          refine nil ?_
          refine hK348 _ _ ?_
          refine wp_seq_k fun K349 hK349 => ?_
          refine reg ?_
          refine q_val F rfl rfl (by decide) (r_assign F rfl) fun a F => ?_
          refine nil ?_
          refine hK349 _ _ ?_
          refine wp_seq_k fun K350 hK350 => ?_
          refine wp_seq_k fun K351 hK351 => ?_
          refine reg ?_
          refine q_val F rfl rfl (by decide) (r_assign F rfl) fun a F => ?_
          refine nil ?_
          refine hK351 _ _ ?_
          refine wp_block ?_
          obtain ⟨x363, HL, HR362⟩ := bind_some H
          have J396 : ∀ (c397 : Nat → Nat) (w398 : World) (a : Act) (i395 : Int), Fr a 224 [(0, .slice A2 a1.length C3), (3, .pointer p24), (4, .slice A274 l273.length C275), (5, .int .i64 (IntKind.i64.wrap (i277 + 1))), (6, .int .i64 i278), (7, .pointer (some qa64)), (8, .pointer (some qa89)), (10, .int .i64 i395)] → Ev (fun x => False ∨ m ≤ x) c0 w0 c397 w398 → CB (m + 5) c397 w398 → AT true (m + 2) c397 w398 qa64 [.int .i64 ((rd a1 i278).Kind), .slice A300 ((rd a1 i278).Key).length C301, .slice A303 ((rd a1 i278).Value).length C304, .int .i64 ((rd a1 i278).Rev)] → AT true (m + 3) c397 w398 qa89 [.bool t73.1.Done, .slice A320 t73.1.Key.length C321, .slice A323 t73.1.Value.length C324, .int .i64 t73.1.Rev, .int .i64 t73.1.At] → SL false K_api_Op 0 0 c397 w398 A2 C3 a1 → TB (m + 1) c397 w398 p24 t73.2.2 → SL true K_api_Row (m + 4) 0 c397 w398 A274 C275 l273 → SL false (Kint .u8) 0 0 c397 w398 A300 C301 ((rd a1 i278).Key) → SL false (Kint .u8) 0 0 c397 w398 A303 C304 ((rd a1 i278).Value) → SL false (Kint .u8) 0 0 c397 w398 A320 C321 t73.1.Key → SL false (Kint .u8) 0 0 c397 w398 A323 C324 t73.1.Value → haulagelaw13_TableMap.j9 k a1 t73 l273 i277 i278 i395 = some ctl284 → K350 a w398 := by
            intro c397 w398 a i395 F E B h66 h91 h4 h326 h276 h302 h305 h322 h325 H
            unfold haulagelaw13_TableMap.j9 at H
            refine hK350 _ _ ?_
            refine wp_seq_k fun K399 hK399 => ?_
            have J422 : ∀ (c423 : Nat → Nat) (w424 : World) (a : Act) (l420 : List api_Row) (A417 : Option Addr) (C418 : Nat) (i421 : Int), Fr a 224 [(0, .slice A2 a1.length C3), (3, .pointer p24), (4, .slice A417 l420.length C418), (5, .int .i64 (IntKind.i64.wrap (i277 + 1))), (6, .int .i64 i278), (7, .pointer (some qa64)), (8, .pointer (some qa89)), (10, .int .i64 i421)] → Ev (fun x => False ∨ m ≤ x) c0 w0 c423 w424 → CB (m + 5) c423 w424 → AT true (m + 2) c423 w424 qa64 [.int .i64 ((rd a1 i278).Kind), .slice A300 ((rd a1 i278).Key).length C301, .slice A303 ((rd a1 i278).Value).length C304, .int .i64 ((rd a1 i278).Rev)] → AT true (m + 3) c423 w424 qa89 [.bool t73.1.Done, .slice A320 t73.1.Key.length C321, .slice A323 t73.1.Value.length C324, .int .i64 t73.1.Rev, .int .i64 t73.1.At] → SL false K_api_Op 0 0 c423 w424 A2 C3 a1 → TB (m + 1) c423 w424 p24 t73.2.2 → SL false (Kint .u8) 0 0 c423 w424 A300 C301 ((rd a1 i278).Key) → SL false (Kint .u8) 0 0 c423 w424 A303 C304 ((rd a1 i278).Value) → SL false (Kint .u8) 0 0 c423 w424 A320 C321 t73.1.Key → SL false (Kint .u8) 0 0 c423 w424 A323 C324 t73.1.Value → SL true K_api_Row (m + 4) 0 c423 w424 A417 C418 l420 → haulagelaw13_TableMap.j10 k a1 t73 i277 i278 l420 i421 = some ctl284 → K399 a w424 := by
              intro c423 w424 a l420 A417 C418 i421 F E B h66 h91 h4 h326 h302 h305 h322 h325 h419 H
              unfold haulagelaw13_TableMap.j10 at H
              refine hK399 _ _ ?_
              refine wp_seq_k fun K425 hK425 => ?_
              refine wp_seq_k fun K426 hK426 => ?_
              have J466 : ∀ (c467 : Nat → Nat) (w468 : World) (a : Act) (b465 : Bool), Fr a 224 [(0, .slice A2 a1.length C3), (3, .pointer p24), (4, .slice A417 l420.length C418), (5, .int .i64 (IntKind.i64.wrap (i277 + 1))), (6, .int .i64 i278), (7, .pointer (some qa64)), (8, .pointer (some qa89)), (10, .int .i64 i421), (106, .bool b465)] → Ev (fun x => False ∨ m ≤ x) c0 w0 c467 w468 → CB (m + 5) c467 w468 → AT true (m + 2) c467 w468 qa64 [.int .i64 ((rd a1 i278).Kind), .slice A300 ((rd a1 i278).Key).length C301, .slice A303 ((rd a1 i278).Value).length C304, .int .i64 ((rd a1 i278).Rev)] → AT true (m + 3) c467 w468 qa89 [.bool t73.1.Done, .slice A320 t73.1.Key.length C321, .slice A323 t73.1.Value.length C324, .int .i64 t73.1.Rev, .int .i64 t73.1.At] → SL false K_api_Op 0 0 c467 w468 A2 C3 a1 → TB (m + 1) c467 w468 p24 t73.2.2 → SL true K_api_Row (m + 4) 0 c467 w468 A417 C418 l420 → SL false (Kint .u8) 0 0 c467 w468 A300 C301 ((rd a1 i278).Key) → SL false (Kint .u8) 0 0 c467 w468 A303 C304 ((rd a1 i278).Value) → SL false (Kint .u8) 0 0 c467 w468 A320 C321 t73.1.Key → SL false (Kint .u8) 0 0 c467 w468 A323 C324 t73.1.Value → haulagelaw13_TableMap.j11 a1 t73 i277 i278 l420 i421 b465 = some ctl284 → K426 a w468 := by
                intro c467 w468 a b465 F E B h66 h91 h4 h326 h419 h302 h305 h322 h325 H
                unfold haulagelaw13_TableMap.j11 at H
                refine hK426 _ _ ?_
                by_cases hb469 : b465 = true
                · have H := (if_pos hb469).symm.trans H
                  refine wp_cond_true ((F.ev rfl).trans (congrArg Value.bool hb469)) ?_
                  refine wp_seq_k fun K470 hK470 => ?_
                  refine reg ?_
                  refine q_val F rfl rfl (by decide) (r_assign F rfl) fun a F => ?_
                  refine nil ?_
                  refine hK470 _ _ ?_
                  refine wp_ret ?_
                  refine thenR ?_
                  refine inbR ?_
                  refine thenR ?_
                  refine thenR ?_
                  refine inbR ?_
                  refine thenR ?_
                  have hx_ := HD283 _ (Option.some.inj H).symm
                  have H := HR287
                  rw [← hx_] at H
                  replace H : some false = some r := H
                  have H := Option.some.inj H
                  subst H
                  refine out1 F rfl rfl ?_
                  exact ⟨fun b_ => (fun x_ => if x_ < m then x_ else 0) (c467 b_), rfl, E.leave B0 (fun x_ => if x_ < m then x_ else 0) (by intro x_ hx_; show (if x_ < m then x_ else 0) = x_; ((repeat' split) <;> omega)), (fun b_ hb_ => by show (if (c467 b_) < m then (c467 b_) else 0) < m; ((repeat' split) <;> omega))⟩
                · have H := (if_neg hb469).symm.trans H
                  refine wp_cond_false ((F.ev rfl).trans (congrArg Value.bool (bfalse hb469))) ?_
                  refine wp_skip ?_
                  refine hK425 _ _ ?_
                  refine wp_seq_k fun K471 hK471 => ?_
                  have J478 : ∀ (c479 : Nat → Nat) (w480 : World) (a : Act) (b477 : Bool), Fr a 224 [(0, .slice A2 a1.length C3), (3, .pointer p24), (4, .slice A417 l420.length C418), (5, .int .i64 (IntKind.i64.wrap (i277 + 1))), (6, .int .i64 i278), (7, .pointer (some qa64)), (8, .pointer (some qa89)), (10, .int .i64 i421), (12, .bool b477)] → Ev (fun x => False ∨ m ≤ x) c0 w0 c479 w480 → CB (m + 5) c479 w480 → AT true (m + 2) c479 w480 qa64 [.int .i64 ((rd a1 i278).Kind), .slice A300 ((rd a1 i278).Key).length C301, .slice A303 ((rd a1 i278).Value).length C304, .int .i64 ((rd a1 i278).Rev)] → AT true (m + 3) c479 w480 qa89 [.bool t73.1.Done, .slice A320 t73.1.Key.length C321, .slice A323 t73.1.Value.length C324, .int .i64 t73.1.Rev, .int .i64 t73.1.At] → SL false K_api_Op 0 0 c479 w480 A2 C3 a1 → TB (m + 1) c479 w480 p24 t73.2.2 → SL true K_api_Row (m + 4) 0 c479 w480 A417 C418 l420 → SL false (Kint .u8) 0 0 c479 w480 A300 C301 ((rd a1 i278).Key) → SL false (Kint .u8) 0 0 c479 w480 A303 C304 ((rd a1 i278).Value) → SL false (Kint .u8) 0 0 c479 w480 A320 C321 t73.1.Key → SL false (Kint .u8) 0 0 c479 w480 A323 C324 t73.1.Value → haulagelaw13_TableMap.j12 a1 t73 i277 i278 l420 i421 b477 = some ctl284 → K471 a w480 := by
                    intro c479 w480 a b477 F E B h66 h91 h4 h326 h419 h302 h305 h322 h325 H
                    unfold haulagelaw13_TableMap.j12 at H
                    refine hK471 _ _ ?_
                    refine wp_seq_k fun K481 hK481 => ?_
                    refine wp_seq_k fun K482 hK482 => ?_
                    refine reg ?_
                    refine q_val F rfl rfl (by decide) (r_fieldAddr F rfl ff_28_0) fun a F => ?_
                    refine q_val F rfl rfl (by decide) (r_load F rfl ag_4 (AT.cell h91 rfl)) fun a F => ?_
                    refine q_val F rfl rfl (by decide) (r_move F rfl) fun a F => ?_
                    refine q_val F rfl rfl (by decide) (r_bneq F Try.underlying4 rfl rfl) fun a F => ?_
                    refine nil ?_
                    refine hK482 _ _ ?_
                    by_cases hb483 : (t73.1.Done == b477) = true
                    · have H := (if_pos hb483).symm.trans H
                      refine wp_cond_false ((F.ev rfl).trans (congrArg Value.bool (congrArg not hb483))) ?_
                      refine wp_skip ?_
                      refine hK481 _ _ ?_
                      refine wp_seq_k fun K485 hK485 => ?_
                      refine reg ?_
                      refine q_val F rfl rfl (by decide) (r_fieldAddr F rfl ff_33_0) fun a F => ?_
                      refine q_val F rfl rfl (by decide) (r_load F rfl ag_3 (AT.cell h66 rfl)) fun a F => ?_
                      refine q_val F rfl rfl (by decide) (r_eql F rfl rfl) fun a F => ?_
                      refine nil ?_
                      refine hK485 _ _ ?_
                      by_cases hb486 : ((rd a1 i278).Kind) = 3
                      · have H := (if_pos hb486).symm.trans H
                        refine wp_cond_true ((F.ev rfl).trans (congrArg Value.bool (decide_eq_true hb486))) ?_
                        refine reg ?_
                        refine q_val F rfl rfl (by decide) (r_move F rfl) fun a F => ?_
                        refine q_val F rfl rfl (by decide) (r_move F rfl) fun a F => ?_
                        obtain ⟨g487, H⟩ := ifN H
                        obtain ⟨ad488, cs489, e490, h491, r492⟩ := SL.at h419 i421 g487.1 g487.2
                        obtain ⟨A493, C494, A496, C497, rfl, h495, h498⟩ := r492
                        have h495 := SL.fl (i' := 0) h495 (fun q => q)
                        have h498 := SL.fl (i' := 0) h498 (fun q => q)
                        obtain ⟨qa499, qqa499⟩ : ∃ q, q = (ad488.add (i421.toNat * 3)) := ⟨_, rfl⟩
                        have h491 : AT true (m + 4) c479 w480 qa499 [.slice A493 ((rd l420 i421).Key).length C494, .slice A496 ((rd l420 i421).Value).length C497, .int .i64 ((rd l420 i421).Rev)] := by rw [qqa499]; exact h491
                        refine q_val F rfl rfl (by decide) (r_indexAddr' F Try.underlying46 sz_50 rfl rfl g487.1 g487.2 e490 qqa499) fun a F => ?_
                        refine q_val F rfl rfl (by decide) (r_fieldAddr F rfl ff_50_2) fun a F => ?_
                        refine q_eff0 F rfl rfl (e_storeel (k := K_api_Row) F rfl rfl sz_3 h419 g487.1 g487.2 e490 qqa499 h491 rfl (Nat.le_of_ble_eq_true rfl) rfl (api_Row.mk ((rd l420 i421).Key) ((rd l420 i421).Value) 0) ⟨A493, C494, A496, C497, rfl, (SL.fl h495 (fun q => q)), (SL.fl h498 (fun q => q))⟩ (by omega)) ?_
                        rintro w501 a ⟨E502, h419, Z503⟩ F
                        have B := B.size Z503
                        have h66 := AT.ev h66 E502 (by show ¬ (m + 2 = m + 4); omega)
                        have h91 := AT.ev h91 E502 (by show ¬ (m + 3 = m + 4); omega)
                        have h4 := SL.ev h4 E502 (by show ¬ (0 = m + 4); omega) (by show ¬ (0 = m + 4); omega)
                        have h326 := TB.ev h326 E502 (by show ¬ (m + 1 = m + 4); omega) (by show ¬ (0 = m + 4); omega)
                        have h302 := SL.ev h302 E502 (by show ¬ (0 = m + 4); omega) (by show ¬ (0 = m + 4); omega)
                        have h305 := SL.ev h305 E502 (by show ¬ (0 = m + 4); omega) (by show ¬ (0 = m + 4); omega)
                        have h322 := SL.ev h322 E502 (by show ¬ (0 = m + 4); omega) (by show ¬ (0 = m + 4); omega)
                        have h325 := SL.ev h325 E502 (by show ¬ (0 = m + 4); omega) (by show ¬ (0 = m + 4); omega)
                        have h495 := SL.ev h495 E502 (by show ¬ (0 = m + 4); omega) (by show ¬ (0 = m + 4); omega)
                        have h498 := SL.ev h498 E502 (by show ¬ (0 = m + 4); omega) (by show ¬ (0 = m + 4); omega)
                        have E := E.trans E502 (fun x q => by replace q : x = m + 4 := q; show False ∨ m ≤ x; omega)
                        have hl504 : l420.length = (l420.set i421.toNat (api_Row.mk ((rd l420 i421).Key) ((rd l420 i421).Value) 0)).length := by simp
                        have F := F.sub (L' := [(0, .slice A2 a1.length C3), (3, .pointer p24), (4, .slice A417 (l420.set i421.toNat (api_Row.mk ((rd l420 i421).Key) ((rd l420 i421).Value) 0)).length C418), (5, .int .i64 (IntKind.i64.wrap (i277 + 1))), (6, .int .i64 i278), (7, .pointer (some qa64)), (8, .pointer (some qa89)), (10, .int .i64 i421), (12, .bool b477), (132, .pointer (some (qa89.add 0))), (133, .bool t73.1.Done), (134, .bool b477), (135, .bool (!(t73.1.Done == b477))), (136, .pointer (some (qa64.add 0))), (137, .int .i64 ((rd a1 i278).Kind)), (138, .bool (decide (((rd a1 i278).Kind) = 3))), (139, .slice A417 (l420.set i421.toNat (api_Row.mk ((rd l420 i421).Key) ((rd l420 i421).Value) 0)).length C418), (140, .int .i64 i421)]) ⟨rfl, rfl, (by rw [← hl504]; rfl), rfl, rfl, rfl, rfl, rfl, rfl, rfl, rfl, rfl, rfl, rfl, rfl, rfl, (by rw [← hl504]; rfl), rfl, trivial⟩
                        refine nil ?_
                        refine hK292 _ _ ?_
                        refine reg ?_
                        refine q_val F rfl rfl (by decide) (r_move F rfl) fun a F => ?_
                        refine q_val F rfl rfl (by decide) (r_add F rfl rfl) fun a F => ?_
                        refine q_val F rfl rfl (by decide) (r_assign F rfl) fun a F => ?_
                        refine nil ?_
                        have H := HN282 _ (Option.some.inj H).symm
                        exact hX281 _ _ _ (Nat.lt_succ_self _) ⟨t73.2.2, (l420.set i421.toNat (api_Row.mk ((rd l420 i421).Key) ((rd l420 i421).Value) 0)), A417, C418, (IntKind.i64.wrap (i277 + 1)), (IntKind.i64.wrap (i278 + 1)), c479, F.sub ⟨rfl, rfl, rfl, rfl, rfl, trivial⟩, E, B, h4, h326, h419, H⟩
                      · have H := (if_neg hb486).symm.trans H
                        refine wp_cond_false ((F.ev rfl).trans (congrArg Value.bool (decide_eq_false hb486))) ?_
                        refine wp_seq_k fun K505 hK505 => ?_
                        refine reg ?_
                        refine q_val F rfl rfl (by decide) (r_move F rfl) fun a F => ?_
                        refine nil ?_
                        refine hK505 _ _ ?_
                        by_cases hb506 : b477 = true
                        · have H := (if_pos hb506).symm.trans H
                          refine wp_cond_true ((F.ev rfl).trans (congrArg Value.bool hb506)) ?_
                          refine reg ?_
                          refine q_val F rfl rfl (by decide) (r_move F rfl) fun a F => ?_
                          refine q_val F rfl rfl (by decide) (r_move F rfl) fun a F => ?_
                          refine q_val F rfl rfl (by decide) (r_fieldAddr F rfl ff_33_1) fun a F => ?_
                          refine q_val F rfl rfl (by decide) (r_load F rfl ag_23 (AT.cell h66 rfl)) fun a F => ?_
                          refine q_val F rfl rfl (by decide) (r_fieldAddr F rfl ff_33_2) fun a F => ?_
                          refine q_val F rfl rfl (by decide) (r_load F rfl ag_23 (AT.cell h66 rfl)) fun a F => ?_
                          refine q_val F rfl rfl (by decide) (r_move F rfl) fun a F => ?_
                          refine q_val F rfl rfl (by decide) (r_build (v := .agg #[.slice A300 ((rd a1 i278).Key).length C301, .slice A303 ((rd a1 i278).Value).length C304, .int .i64 (IntKind.i64.wrap (i277 + 1))]) F [(0, .slice A300 ((rd a1 i278).Key).length C301), (1, .slice A303 ((rd a1 i278).Value).length C304), (2, .int .i64 (IntKind.i64.wrap (i277 + 1)))] (by exact ⟨rfl, rfl, rfl, rfl, rfl, rfl, trivial⟩) (fun w => by kernel_rfl)) fun a F => ?_
                          obtain ⟨g507, H⟩ := ifN H
                          obtain ⟨ad508, cs509, e510, h511, r512⟩ := SL.at h419 i421 g507.1 g507.2
                          obtain ⟨A513, C514, A516, C517, rfl, h515, h518⟩ := r512
                          have h515 := SL.fl (i' := 0) h515 (fun q => q)
                          have h518 := SL.fl (i' := 0) h518 (fun q => q)
                          obtain ⟨qa519, qqa519⟩ : ∃ q, q = (ad508.add (i421.toNat * 3)) := ⟨_, rfl⟩
                          have h511 : AT true (m + 4) c479 w480 qa519 [.slice A513 ((rd l420 i421).Key).length C514, .slice A516 ((rd l420 i421).Value).length C517, .int .i64 ((rd l420 i421).Rev)] := by rw [qqa519]; exact h511
                          refine q_val F rfl rfl (by decide) (r_indexAddr' F Try.underlying46 sz_50 rfl rfl g507.1 g507.2 e510 qqa519) fun a F => ?_
                          refine q_eff0 F rfl rfl (e_storeelN (us := [.slice A300 ((rd a1 i278).Key).length C301, .slice A303 ((rd a1 i278).Value).length C304, .int .i64 (IntKind.i64.wrap (i277 + 1))]) (k := K_api_Row) F rfl rfl sz_50 h419 g507.1 g507.2 e510 qqa519 h511 rfl (Nat.le_of_ble_eq_true rfl) (one_all rfl) (api_Row.mk ((rd a1 i278).Key) ((rd a1 i278).Value) (IntKind.i64.wrap (i277 + 1))) ⟨A300, C301, A303, C304, rfl, (SL.fl h302 (fun q => q)), (SL.fl h305 (fun q => q))⟩ (by omega)) ?_
                          rintro w521 a ⟨E522, h419, Z523⟩ F
                          have B := B.size Z523
                          have h66 := AT.ev h66 E522 (by show ¬ (m + 2 = m + 4); omega)
                          have h91 := AT.ev h91 E522 (by show ¬ (m + 3 = m + 4); omega)
                          have h4 := SL.ev h4 E522 (by show ¬ (0 = m + 4); omega) (by show ¬ (0 = m + 4); omega)
                          have h326 := TB.ev h326 E522 (by show ¬ (m + 1 = m + 4); omega) (by show ¬ (0 = m + 4); omega)
                          have h302 := SL.ev h302 E522 (by show ¬ (0 = m + 4); omega) (by show ¬ (0 = m + 4); omega)
                          have h305 := SL.ev h305 E522 (by show ¬ (0 = m + 4); omega) (by show ¬ (0 = m + 4); omega)
                          have h322 := SL.ev h322 E522 (by show ¬ (0 = m + 4); omega) (by show ¬ (0 = m + 4); omega)
                          have h325 := SL.ev h325 E522 (by show ¬ (0 = m + 4); omega) (by show ¬ (0 = m + 4); omega)
                          have h515 := SL.ev h515 E522 (by show ¬ (0 = m + 4); omega) (by show ¬ (0 = m + 4); omega)
                          have h518 := SL.ev h518 E522 (by show ¬ (0 = m + 4); omega) (by show ¬ (0 = m + 4); omega)
                          have E := E.trans E522 (fun x q => by replace q : x = m + 4 := q; show False ∨ m ≤ x; omega)
                          have hl524 : l420.length = (l420.set i421.toNat (api_Row.mk ((rd a1 i278).Key) ((rd a1 i278).Value) (IntKind.i64.wrap (i277 + 1)))).length := by simp
                          have F := F.sub (L' := [(0, .slice A2 a1.length C3), (3, .pointer p24), (4, .slice A417 (l420.set i421.toNat (api_Row.mk ((rd a1 i278).Key) ((rd a1 i278).Value) (IntKind.i64.wrap (i277 + 1)))).length C418), (5, .int .i64 (IntKind.i64.wrap (i277 + 1))), (6, .int .i64 i278), (7, .pointer (some qa64)), (8, .pointer (some qa89)), (10, .int .i64 i421), (12, .bool b477), (132, .pointer (some (qa89.add 0))), (133, .bool t73.1.Done), (134, .bool b477), (135, .bool (!(t73.1.Done == b477))), (136, .pointer (some (qa64.add 0))), (137, .int .i64 ((rd a1 i278).Kind)), (138, .bool (decide (((rd a1 i278).Kind) = 3))), (143, .bool b477), (144, .slice A417 (l420.set i421.toNat (api_Row.mk ((rd a1 i278).Key) ((rd a1 i278).Value) (IntKind.i64.wrap (i277 + 1)))).length C418), (145, .int .i64 i421), (146, .pointer (some (qa64.add 1))), (147, .slice A300 ((rd a1 i278).Key).length C301), (148, .pointer (some (qa64.add 2))), (149, .slice A303 ((rd a1 i278).Value).length C304), (150, .int .i64 (IntKind.i64.wrap (i277 + 1))), (151, .agg #[.slice A300 ((rd a1 i278).Key).length C301, .slice A303 ((rd a1 i278).Value).length C304, .int .i64 (IntKind.i64.wrap (i277 + 1))])]) ⟨rfl, rfl, (by rw [← hl524]; rfl), rfl, rfl, rfl, rfl, rfl, rfl, rfl, rfl, rfl, rfl, rfl, rfl, rfl, rfl, (by rw [← hl524]; rfl), rfl, rfl, rfl, rfl, rfl, rfl, rfl, trivial⟩
                          refine nil ?_
                          refine hK292 _ _ ?_
                          refine reg ?_
                          refine q_val F rfl rfl (by decide) (r_move F rfl) fun a F => ?_
                          refine q_val F rfl rfl (by decide) (r_add F rfl rfl) fun a F => ?_
                          refine q_val F rfl rfl (by decide) (r_assign F rfl) fun a F => ?_
                          refine nil ?_
                          have H := HN282 _ (Option.some.inj H).symm
                          exact hX281 _ _ _ (Nat.lt_succ_self _) ⟨t73.2.2, (l420.set i421.toNat (api_Row.mk ((rd a1 i278).Key) ((rd a1 i278).Value) (IntKind.i64.wrap (i277 + 1)))), A417, C418, (IntKind.i64.wrap (i277 + 1)), (IntKind.i64.wrap (i278 + 1)), c479, F.sub ⟨rfl, rfl, rfl, rfl, rfl, trivial⟩, E, B, h4, h326, h419, H⟩
                        · have H := (if_neg hb506).symm.trans H
                          refine wp_cond_false ((F.ev rfl).trans (congrArg Value.bool (bfalse hb506))) ?_
                          refine wp_skip ?_
                          refine hK292 _ _ ?_
                          refine reg ?_
                          refine q_val F rfl rfl (by decide) (r_move F rfl) fun a F => ?_
                          refine q_val F rfl rfl (by decide) (r_add F rfl rfl) fun a F => ?_
                          refine q_val F rfl rfl (by decide) (r_assign F rfl) fun a F => ?_
                          refine nil ?_
                          have H := HN282 _ (Option.some.inj H).symm
                          exact hX281 _ _ _ (Nat.lt_succ_self _) ⟨t73.2.2, l420, A417, C418, (IntKind.i64.wrap (i277 + 1)), (IntKind.i64.wrap (i278 + 1)), c479, F.sub ⟨rfl, rfl, rfl, rfl, rfl, trivial⟩, E, B, h4, h326, h419, H⟩
                    · have H := (if_neg hb483).symm.trans H
                      refine wp_cond_true ((F.ev rfl).trans (congrArg Value.bool (congrArg not (bfalse hb483)))) ?_
                      refine wp_seq_k fun K484 hK484 => ?_
                      refine reg ?_
                      refine q_val F rfl rfl (by decide) (r_assign F rfl) fun a F => ?_
                      refine nil ?_
                      refine hK484 _ _ ?_
                      refine wp_ret ?_
                      refine thenR ?_
                      refine inbR ?_
                      refine thenR ?_
                      refine thenR ?_
                      refine inbR ?_
                      refine thenR ?_
                      have hx_ := HD283 _ (Option.some.inj H).symm
                      have H := HR287
                      rw [← hx_] at H
                      replace H : some false = some r := H
                      have H := Option.some.inj H
                      subst H
                      refine out1 F rfl rfl ?_
                      exact ⟨fun b_ => (fun x_ => if x_ < m then x_ else 0) (c479 b_), rfl, E.leave B0 (fun x_ => if x_ < m then x_ else 0) (by intro x_ hx_; show (if x_ < m then x_ else 0) = x_; ((repeat' split) <;> omega)), (fun b_ hb_ => by show (if (c479 b_) < m then (c479 b_) else 0) < m; ((repeat' split) <;> omega))⟩
                  refine reg ?_
                  refine q_val F rfl rfl (by decide) (r_fieldAddr F rfl ff_33_0) fun a F => ?_
                  refine q_val F rfl rfl (by decide) (r_load F rfl ag_3 (AT.cell h66 rfl)) fun a F => ?_
                  refine q_val F rfl rfl (by decide) (r_eql F rfl rfl) fun a F => ?_
                  refine q_val F rfl rfl (by decide) (r_move F rfl) fun a F => ?_
                  by_cases hb472 : ((rd a1 i278).Kind) = 2
                  · have H := (if_pos hb472).symm.trans H
                    refine q_no F rfl (by decide) rfl (decide_eq_true hb472) (by decide) fun a F => ?_
                    refine q_no F rfl (by decide) rfl (decide_eq_true hb472) (by decide) fun a F => ?_
                    refine q_no F rfl (by decide) rfl (decide_eq_true hb472) (by decide) fun a F => ?_
                    refine q_no F rfl (by decide) rfl (decide_eq_true hb472) (by decide) fun a F => ?_
                    refine q_nu F rfl (by decide) rfl (by decide) fun a F => ?_
                    refine q_nu F rfl (by decide) rfl (by decide) fun a F => ?_
                    refine q_nu F rfl (by decide) rfl (by decide) fun a F => ?_
                    refine q_no F rfl (by decide) rfl (decide_eq_true hb472) (by decide) fun a F => ?_
                    refine q_val F rfl rfl (by decide) (r_pick_t F rfl (decide_eq_true hb472) rfl) fun a F => ?_
                    refine q_val F rfl rfl (by decide) (r_move F rfl) fun a F => ?_
                    refine q_no F rfl (by decide) rfl rfl (by decide) fun a F => ?_
                    refine q_no F rfl (by decide) rfl rfl (by decide) fun a F => ?_
                    refine q_no F rfl (by decide) rfl rfl (by decide) fun a F => ?_
                    refine q_no F rfl (by decide) rfl rfl (by decide) fun a F => ?_
                    refine q_nu F rfl (by decide) rfl (by decide) fun a F => ?_
                    refine q_nu F rfl (by decide) rfl (by decide) fun a F => ?_
                    refine q_nu F rfl (by decide) rfl (by decide) fun a F => ?_
                    refine q_nu F rfl (by decide) rfl (by decide) fun a F => ?_
                    refine q_nu F rfl (by decide) rfl (by decide) fun a F => ?_
                    refine q_no F rfl (by decide) rfl rfl (by decide) fun a F => ?_
                    refine q_val F rfl rfl (by decide) (r_pick_t F rfl rfl rfl) fun a F => ?_
                    refine q_val F rfl rfl (by decide) (r_assign F rfl) fun a F => ?_
                    refine nil ?_
                    exact J478 c467 w468 a true (F.sub ⟨rfl, rfl, rfl, rfl, rfl, rfl, rfl, rfl, rfl, trivial⟩) E B h66 h91 h4 h326 h419 h302 h305 h322 h325 H
                  · have H := (if_neg hb472).symm.trans H
                    refine q_yes F rfl (by decide) rfl (decide_eq_false hb472) ?_
                    refine q_val F rfl rfl (by decide) (r_fieldAddr F rfl ff_33_0) fun a F => ?_
                    refine q_yes F rfl (by decide) rfl (decide_eq_false hb472) ?_
                    refine q_val F rfl rfl (by decide) (r_load F rfl ag_3 (AT.cell h66 rfl)) fun a F => ?_
                    refine q_yes F rfl (by decide) rfl (decide_eq_false hb472) ?_
                    refine q_val F rfl rfl (by decide) (r_eql F rfl rfl) fun a F => ?_
                    refine q_yes F rfl (by decide) rfl (decide_eq_false hb472) ?_
                    refine q_val F rfl rfl (by decide) (r_move F rfl) fun a F => ?_
                    by_cases hb473 : ((rd a1 i278).Kind) = 3
                    · have H := (if_pos hb473).symm.trans H
                      refine q_yes F rfl (by decide) rfl (decide_eq_true hb473) ?_
                      refine q_val F rfl rfl (by decide) (r_fieldAddr F rfl ff_28_3) fun a F => ?_
                      refine q_yes F rfl (by decide) rfl (decide_eq_true hb473) ?_
                      refine q_val F rfl rfl (by decide) (r_load F rfl ag_3 (AT.cell h91 rfl)) fun a F => ?_
                      refine q_yes F rfl (by decide) rfl (decide_eq_true hb473) ?_
                      refine q_val F rfl rfl (by decide) (r_gtr F rfl rfl) fun a F => ?_
                      refine q_yes F rfl (by decide) rfl (decide_eq_false hb472) ?_
                      refine q_val F rfl rfl (by decide) (r_pick_t F rfl (decide_eq_true hb473) rfl) fun a F => ?_
                      refine q_val F rfl rfl (by decide) (r_pick_f F rfl (decide_eq_false hb472) rfl) fun a F => ?_
                      refine q_val F rfl rfl (by decide) (r_move F rfl) fun a F => ?_
                      by_cases hb474 : 0 < t73.1.Rev
                      · have H := (if_pos hb474).symm.trans H
                        refine q_no F rfl (by decide) rfl (decide_eq_true hb474) (by decide) fun a F => ?_
                        refine q_no F rfl (by decide) rfl (decide_eq_true hb474) (by decide) fun a F => ?_
                        refine q_no F rfl (by decide) rfl (decide_eq_true hb474) (by decide) fun a F => ?_
                        refine q_no F rfl (by decide) rfl (decide_eq_true hb474) (by decide) fun a F => ?_
                        refine q_nu F rfl (by decide) rfl (by decide) fun a F => ?_
                        refine q_nu F rfl (by decide) rfl (by decide) fun a F => ?_
                        refine q_nu F rfl (by decide) rfl (by decide) fun a F => ?_
                        refine q_nu F rfl (by decide) rfl (by decide) fun a F => ?_
                        refine q_nu F rfl (by decide) rfl (by decide) fun a F => ?_
                        refine q_no F rfl (by decide) rfl (decide_eq_true hb474) (by decide) fun a F => ?_
                        refine q_val F rfl rfl (by decide) (r_pick_t F rfl (decide_eq_true hb474) rfl) fun a F => ?_
                        refine q_val F rfl rfl (by decide) (r_assign F rfl) fun a F => ?_
                        refine nil ?_
                        exact J478 c467 w468 a true (F.sub ⟨rfl, rfl, rfl, rfl, rfl, rfl, rfl, rfl, rfl, trivial⟩) E B h66 h91 h4 h326 h419 h302 h305 h322 h325 H
                      · have H := (if_neg hb474).symm.trans H
                        refine q_yes F rfl (by decide) rfl (decide_eq_false hb474) ?_
                        refine q_val F rfl rfl (by decide) (r_fieldAddr F rfl ff_33_0) fun a F => ?_
                        refine q_yes F rfl (by decide) rfl (decide_eq_false hb474) ?_
                        refine q_val F rfl rfl (by decide) (r_load F rfl ag_3 (AT.cell h66 rfl)) fun a F => ?_
                        refine q_yes F rfl (by decide) rfl (decide_eq_false hb474) ?_
                        refine q_val F rfl rfl (by decide) (r_eql F rfl rfl) fun a F => ?_
                        refine q_yes F rfl (by decide) rfl (decide_eq_false hb474) ?_
                        refine q_val F rfl rfl (by decide) (r_move F rfl) fun a F => ?_
                        by_cases hb475 : ((rd a1 i278).Kind) = 4
                        · have H := (if_pos hb475).symm.trans H
                          refine q_yes F rfl (by decide) rfl (decide_eq_true hb475) ?_
                          refine q_val F rfl rfl (by decide) (r_fieldAddr F rfl ff_28_3) fun a F => ?_
                          refine q_yes F rfl (by decide) rfl (decide_eq_true hb475) ?_
                          refine q_val F rfl rfl (by decide) (r_load F rfl ag_3 (AT.cell h91 rfl)) fun a F => ?_
                          refine q_yes F rfl (by decide) rfl (decide_eq_true hb475) ?_
                          refine q_val F rfl rfl (by decide) (r_fieldAddr F rfl ff_33_3) fun a F => ?_
                          refine q_yes F rfl (by decide) rfl (decide_eq_true hb475) ?_
                          refine q_val F rfl rfl (by decide) (r_load F rfl ag_3 (AT.cell h66 rfl)) fun a F => ?_
                          refine q_yes F rfl (by decide) rfl (decide_eq_true hb475) ?_
                          refine q_val F rfl rfl (by decide) (r_eql F rfl rfl) fun a F => ?_
                          refine q_yes F rfl (by decide) rfl (decide_eq_false hb474) ?_
                          refine q_val F rfl rfl (by decide) (r_pick_t F rfl (decide_eq_true hb475) rfl) fun a F => ?_
                          refine q_val F rfl rfl (by decide) (r_pick_f F rfl (decide_eq_false hb474) rfl) fun a F => ?_
                          refine q_val F rfl rfl (by decide) (r_assign F rfl) fun a F => ?_
                          refine nil ?_
                          exact J478 c467 w468 a (decide (t73.1.Rev = ((rd a1 i278).Rev))) (F.sub ⟨rfl, rfl, rfl, rfl, rfl, rfl, rfl, rfl, rfl, trivial⟩) E B h66 h91 h4 h326 h419 h302 h305 h322 h325 H
                        · have H := (if_neg hb475).symm.trans H
                          refine q_no F rfl (by decide) rfl (decide_eq_false hb475) (by decide) fun a F => ?_
                          refine q_no F rfl (by decide) rfl (decide_eq_false hb475) (by decide) fun a F => ?_
                          refine q_no F rfl (by decide) rfl (decide_eq_false hb475) (by decide) fun a F => ?_
                          refine q_no F rfl (by decide) rfl (decide_eq_false hb475) (by decide) fun a F => ?_
                          refine q_no F rfl (by decide) rfl (decide_eq_false hb475) (by decide) fun a F => ?_
                          refine q_yes F rfl (by decide) rfl (decide_eq_false hb474) ?_
                          refine q_val F rfl rfl (by decide) (r_pick_f F rfl (decide_eq_false hb475) rfl) fun a F => ?_
                          refine q_val F rfl rfl (by decide) (r_pick_f F rfl (decide_eq_false hb474) rfl) fun a F => ?_
                          refine q_val F rfl rfl (by decide) (r_assign F rfl) fun a F => ?_
                          refine nil ?_
                          exact J478 c467 w468 a false (F.sub ⟨rfl, rfl, rfl, rfl, rfl, rfl, rfl, rfl, rfl, trivial⟩) E B h66 h91 h4 h326 h419 h302 h305 h322 h325 H
                    · have H := (if_neg hb473).symm.trans H
                      refine q_no F rfl (by decide) rfl (decide_eq_false hb473) (by decide) fun a F => ?_
                      refine q_no F rfl (by decide) rfl (decide_eq_false hb473) (by decide) fun a F => ?_
                      refine q_no F rfl (by decide) rfl (decide_eq_false hb473) (by decide) fun a F => ?_
                      refine q_yes F rfl (by decide) rfl (decide_eq_false hb472) ?_
                      refine q_val F rfl rfl (by decide) (r_pick_f F rfl (decide_eq_false hb473) rfl) fun a F => ?_
                      refine q_val F rfl rfl (by decide) (r_pick_f F rfl (decide_eq_false hb472) rfl) fun a F => ?_
                      refine q_val F rfl rfl (by decide) (r_move F rfl) fun a F => ?_
                      refine q_yes F rfl (by decide) rfl rfl ?_
                      refine q_val F rfl rfl (by decide) (r_fieldAddr F rfl ff_33_0) fun a F => ?_
                      refine q_yes F rfl (by decide) rfl rfl ?_
                      refine q_val F rfl rfl (by decide) (r_load F rfl ag_3 (AT.cell h66 rfl)) fun a F => ?_
                      refine q_yes F rfl (by decide) rfl rfl ?_
                      refine q_val F rfl rfl (by decide) (r_eql F rfl rfl) fun a F => ?_
                      refine q_yes F rfl (by decide) rfl rfl ?_
                      refine q_val F rfl rfl (by decide) (r_move F rfl) fun a F => ?_
                      by_cases hb476 : ((rd a1 i278).Kind) = 4
                      · have H := (if_pos hb476).symm.trans H
                        refine q_yes F rfl (by decide) rfl (decide_eq_true hb476) ?_
                        refine q_val F rfl rfl (by decide) (r_fieldAddr F rfl ff_28_3) fun a F => ?_
                        refine q_yes F rfl (by decide) rfl (decide_eq_true hb476) ?_
                        refine q_val F rfl rfl (by decide) (r_load F rfl ag_3 (AT.cell h91 rfl)) fun a F => ?_
                        refine q_yes F rfl (by decide) rfl (decide_eq_true hb476) ?_
                        refine q_val F rfl rfl (by decide) (r_fieldAddr F rfl ff_33_3) fun a F => ?_
                        refine q_yes F rfl (by decide) rfl (decide_eq_true hb476) ?_
                        refine q_val F rfl rfl (by decide) (r_load F rfl ag_3 (AT.cell h66 rfl)) fun a F => ?_
                        refine q_yes F rfl (by decide) rfl (decide_eq_true hb476) ?_
                        refine q_val F rfl rfl (by decide) (r_eql F rfl rfl) fun a F => ?_
                        refine q_yes F rfl (by decide) rfl rfl ?_
                        refine q_val F rfl rfl (by decide) (r_pick_t F rfl (decide_eq_true hb476) rfl) fun a F => ?_
                        refine q_val F rfl rfl (by decide) (r_pick_f F rfl rfl rfl) fun a F => ?_
                        refine q_val F rfl rfl (by decide) (r_assign F rfl) fun a F => ?_
                        refine nil ?_
                        exact J478 c467 w468 a (decide (t73.1.Rev = ((rd a1 i278).Rev))) (F.sub ⟨rfl, rfl, rfl, rfl, rfl, rfl, rfl, rfl, rfl, trivial⟩) E B h66 h91 h4 h326 h419 h302 h305 h322 h325 H
                      · have H := (if_neg hb476).symm.trans H
                        refine q_no F rfl (by decide) rfl (decide_eq_false hb476) (by decide) fun a F => ?_
                        refine q_no F rfl (by decide) rfl (decide_eq_false hb476) (by decide) fun a F => ?_
                        refine q_no F rfl (by decide) rfl (decide_eq_false hb476) (by decide) fun a F => ?_
                        refine q_no F rfl (by decide) rfl (decide_eq_false hb476) (by decide) fun a F => ?_
                        refine q_no F rfl (by decide) rfl (decide_eq_false hb476) (by decide) fun a F => ?_
                        refine q_yes F rfl (by decide) rfl rfl ?_
                        refine q_val F rfl rfl (by decide) (r_pick_f F rfl (decide_eq_false hb476) rfl) fun a F => ?_
                        refine q_val F rfl rfl (by decide) (r_pick_f F rfl rfl rfl) fun a F => ?_
                        refine q_val F rfl rfl (by decide) (r_assign F rfl) fun a F => ?_
                        refine nil ?_
                        exact J478 c467 w468 a false (F.sub ⟨rfl, rfl, rfl, rfl, rfl, rfl, rfl, rfl, rfl, trivial⟩) E B h66 h91 h4 h326 h419 h302 h305 h322 h325 H
              refine regD (SB No c423 w424) 34 (.q 0 (.q 1 (.q 2 (.q 3 (.q 4 (.q 5 (.q 6 (.q 7 (.q 8 (.q 9 (.q 10 (.q 11 (.q 12 (.q 13 (.q 14 (.q 15 (.q 16 (.q 17 (.q 18 (.q 19 (.e 20 (.q 21 (.q 22 (.q 23 (.q 24 (.q 25 (.q 26 (.q 27 (.q 28 (.q 29 (.q 30 (.q 31 (.q 32 (.q 33 .nil)))))))))))))))))))))))))))))))))) Try_hm (by decide +kernel) ?_
              intro w427 w1_ w2_ w3_ w4_
              have E428 : Ev No c423 w424 c423 w427 := Ev.same w1_ w2_ w3_ w4_
              have B := B.same w1_
              have zh66 := h66
              have zh91 := h91
              have zh4 := h4
              have zh326 := h326
              have zh302 := h302
              have zh305 := h305
              have zh322 := h322
              have zh325 := h325
              have zh419 := h419
              have ER : Ev No c423 w424 c423 w427 := Ev.same w1_ w2_ w3_ w4_
              have h66 := AT.ev h66 E428 (fun q => q.elim)
              have h91 := AT.ev h91 E428 (fun q => q.elim)
              have h4 := SL.ev h4 E428 (fun q => q.elim) (fun q => q.elim)
              have h326 := TB.ev h326 E428 (fun q => q.elim) (fun q => q.elim)
              have h302 := SL.ev h302 E428 (fun q => q.elim) (fun q => q.elim)
              have h305 := SL.ev h305 E428 (fun q => q.elim) (fun q => q.elim)
              have h322 := SL.ev h322 E428 (fun q => q.elim) (fun q => q.elim)
              have h325 := SL.ev h325 E428 (fun q => q.elim) (fun q => q.elim)
              have h419 := SL.ev h419 E428 (fun q => q.elim) (fun q => q.elim)
              have E := E.trans E428 (fun x q => q.elim)
              refine d_q F rfl rfl rfl (by decide) (fun wq hS => r_fieldAddr F rfl ff_28_3) ER.sb fun a F => ?_
              refine d_q F rfl rfl rfl (by decide) (fun wq hS => r_load F rfl ag_3 (AT.cell (AT.sb zh91 hS (fun q => q.elim)) rfl)) ER.sb fun a F => ?_
              refine d_q F rfl rfl rfl (by decide) (fun wq hS => r_move F rfl) ER.sb fun a F => ?_
              refine d_q F rfl rfl rfl (by decide) (fun wq hS => r_move F rfl) ER.sb fun a F => ?_
              obtain ⟨g429, H⟩ := ifN H
              obtain ⟨ad430, cs431, e432, h433, r434⟩ := SL.at zh419 i421 g429.1 g429.2
              obtain ⟨A435, C436, A438, C439, rfl, h437, h440⟩ := r434
              have h437 := SL.fl (i' := 0) h437 (fun q => q)
              have h440 := SL.fl (i' := 0) h440 (fun q => q)
              obtain ⟨qa441, qqa441⟩ : ∃ q, q = (ad430.add (i421.toNat * 3)) := ⟨_, rfl⟩
              have h433 : AT true (m + 4) c423 w424 qa441 [.slice A435 ((rd l420 i421).Key).length C436, .slice A438 ((rd l420 i421).Value).length C439, .int .i64 ((rd l420 i421).Rev)] := by rw [qqa441]; exact h433
              have zh437 := h437
              have h437 := SL.ev h437 ER (fun q => q.elim) (fun q => q.elim)
              have zh440 := h440
              have h440 := SL.ev h440 ER (fun q => q.elim) (fun q => q.elim)
              have zh433 := h433
              have h433 := AT.ev h433 ER (fun q => q.elim)
              refine d_q F rfl rfl rfl (by decide) (fun wq hS => r_indexAddr' F Try.underlying46 sz_50 rfl rfl g429.1 g429.2 e432 qqa441) ER.sb fun a F => ?_
              refine d_q F rfl rfl rfl (by decide) (fun wq hS => r_fieldAddr F rfl ff_50_2) ER.sb fun a F => ?_
              refine d_q F rfl rfl rfl (by decide) (fun wq hS => r_load F rfl ag_3 (AT.cell (AT.sb zh433 hS (fun q => q.elim)) rfl)) ER.sb fun a F => ?_
              refine d_q F rfl rfl rfl (by decide) (fun wq hS => r_neq F rfl rfl) ER.sb fun a F => ?_
              refine d_q F rfl rfl rfl (by decide) (fun wq hS => r_move F rfl) ER.sb fun a F => ?_
              by_cases hb443 : t73.1.Rev = ((rd l420 i421).Rev)
              · have H := (if_pos hb443).symm.trans H
                refine d_qy F rfl rfl rfl (by decide) rfl (congrArg not (decide_eq_true hb443)) rfl (by decide) (fun wq hS => r_fieldAddr F rfl ff_28_3) ER.sb fun a F => ?_
                refine d_qy F rfl rfl rfl (by decide) rfl (congrArg not (decide_eq_true hb443)) rfl (by decide) (fun wq hS => r_load F rfl ag_3 (AT.cell (AT.sb zh91 hS (fun q => q.elim)) rfl)) ER.sb fun a F => ?_
                refine d_qy F rfl rfl rfl (by decide) rfl (congrArg not (decide_eq_true hb443)) rfl (by decide) (fun wq hS => r_gtr F rfl rfl) ER.sb fun a F => ?_
                refine d_qy F rfl rfl rfl (by decide) rfl (congrArg not (decide_eq_true hb443)) rfl (by decide) (fun wq hS => r_move F rfl) ER.sb fun a F => ?_
                by_cases hb444 : 0 < t73.1.Rev
                · have H := (if_pos hb444).symm.trans H
                  refine d_qy F rfl rfl rfl (by decide) rfl (decide_eq_true hb444) rfl (by decide) (fun wq hS => r_fieldAddr F rfl ff_28_2) ER.sb fun a F => ?_
                  refine d_qy F rfl rfl rfl (by decide) rfl (decide_eq_true hb444) rfl (by decide) (fun wq hS => r_load F rfl ag_23 (AT.cell (AT.sb zh91 hS (fun q => q.elim)) rfl)) ER.sb fun a F => ?_
                  refine d_qy F rfl rfl rfl (by decide) rfl (decide_eq_true hb444) rfl (by decide) (fun wq hS => r_move F rfl) ER.sb fun a F => ?_
                  refine d_qy F rfl rfl rfl (by decide) rfl (decide_eq_true hb444) rfl (by decide) (fun wq hS => r_move F rfl) ER.sb fun a F => ?_
                  obtain ⟨g445, H⟩ := ifN H
                  obtain ⟨ad446, cs447, e448, h449, r450⟩ := SL.at zh419 i421 g445.1 g445.2
                  obtain ⟨A451, C452, A454, C455, rfl, h453, h456⟩ := r450
                  have h453 := SL.fl (i' := 0) h453 (fun q => q)
                  have h456 := SL.fl (i' := 0) h456 (fun q => q)
                  obtain ⟨qa457, qqa457⟩ : ∃ q, q = (ad446.add (i421.toNat * 3)) := ⟨_, rfl⟩
                  have h449 : AT true (m + 4) c423 w424 qa457 [.slice A451 ((rd l420 i421).Key).length C452, .slice A454 ((rd l420 i421).Value).length C455, .int .i64 ((rd l420 i421).Rev)] := by rw [qqa457]; exact h449
                  have zh453 := h453
                  have h453 := SL.ev h453 ER (fun q => q.elim) (fun q => q.elim)
                  have zh456 := h456
                  have h456 := SL.ev h456 ER (fun q => q.elim) (fun q => q.elim)
                  have zh449 := h449
                  have h449 := AT.ev h449 ER (fun q => q.elim)
                  refine d_qy F rfl rfl rfl (by decide) rfl (decide_eq_true hb444) rfl (by decide) (fun wq hS => r_indexAddr' F Try.underlying46 sz_50 rfl rfl g445.1 g445.2 e448 qqa457) ER.sb fun a F => ?_
                  refine d_qy F rfl rfl rfl (by decide) rfl (decide_eq_true hb444) rfl (by decide) (fun wq hS => r_fieldAddr F rfl ff_50_1) ER.sb fun a F => ?_
                  refine d_qy F rfl rfl rfl (by decide) rfl (decide_eq_true hb444) rfl (by decide) (fun wq hS => r_load F rfl ag_23 (AT.cell (AT.sb zh449 hS (fun q => q.elim)) rfl)) ER.sb fun a F => ?_
                  refine d_e ?_
                  obtain ⟨t202, q203, H⟩ := bind_some H
                  refine o_call F rfl (wanted_yes F rfl rfl (by decide) rfl (decide_eq_true hb444)) rfl (by decide) (r_call F Try.func18 rfl (by kernel_rfl) rfl) (haulagelaw13_same.calls k (m := m + 5) (by omega) B h325 h456 _ q203) ?_
                  rintro e w460 ⟨c459, rfl, E461, B462⟩
                  refine ⟨_, rfl, fun a F => ?_⟩
                  have B := B462
                  have ER := ER.trans E461 (fun x q => q.elim)
                  have h66 := AT.ev h66 E461 (fun q => q.elim)
                  have h91 := AT.ev h91 E461 (fun q => q.elim)
                  have h4 := SL.ev h4 E461 (fun q => q.elim) (fun q => q.elim)
                  have h326 := TB.ev h326 E461 (fun q => q.elim) (fun q => q.elim)
                  have h302 := SL.ev h302 E461 (fun q => q.elim) (fun q => q.elim)
                  have h305 := SL.ev h305 E461 (fun q => q.elim) (fun q => q.elim)
                  have h322 := SL.ev h322 E461 (fun q => q.elim) (fun q => q.elim)
                  have h325 := SL.ev h325 E461 (fun q => q.elim) (fun q => q.elim)
                  have h419 := SL.ev h419 E461 (fun q => q.elim) (fun q => q.elim)
                  have h437 := SL.ev h437 E461 (fun q => q.elim) (fun q => q.elim)
                  have h440 := SL.ev h440 E461 (fun q => q.elim) (fun q => q.elim)
                  have h433 := AT.ev h433 E461 (fun q => q.elim)
                  have h453 := SL.ev h453 E461 (fun q => q.elim) (fun q => q.elim)
                  have h456 := SL.ev h456 E461 (fun q => q.elim) (fun q => q.elim)
                  have h449 := AT.ev h449 E461 (fun q => q.elim)
                  have E := E.trans E461 (fun x q => q.elim)
                  refine ⟨fun _ => ER.sb, ?_⟩
                  refine d_qy F rfl rfl rfl (by decide) rfl (decide_eq_true hb444) rfl (by decide) (fun wq hS => r_not F rfl) ER.sb fun a F => ?_
                  refine d_qy F rfl rfl rfl (by decide) rfl (congrArg not (decide_eq_true hb443)) rfl (by decide) (fun wq hS => r_pick_t F rfl (decide_eq_true hb444) rfl) ER.sb fun a F => ?_
                  refine d_q F rfl rfl rfl (by decide) (fun wq hS => r_pick_f F rfl (congrArg not (decide_eq_true hb443)) rfl) ER.sb fun a F => ?_
                  refine d_q F rfl rfl rfl (by decide) (fun wq hS => r_move F rfl) ER.sb fun a F => ?_
                  by_cases hb464 : t202 = true
                  · have H := (if_pos hb464).symm.trans H
                    refine d_qy F rfl rfl rfl (by decide) rfl (congrArg not hb464) rfl (by decide) (fun wq hS => r_fieldAddr F rfl ff_28_1) ER.sb fun a F => ?_
                    refine d_qy F rfl rfl rfl (by decide) rfl (congrArg not hb464) rfl (by decide) (fun wq hS => r_load F rfl ag_23 (AT.cell (AT.sb zh91 hS (fun q => q.elim)) rfl)) ER.sb fun a F => ?_
                    refine d_qy F rfl rfl rfl (by decide) rfl (congrArg not hb464) rfl (by decide) (fun wq hS => r_lensl F Try.underlying23 rfl) ER.sb fun a F => ?_
                    refine d_qy F rfl rfl rfl (by decide) rfl (congrArg not hb464) rfl (by decide) (fun wq hS => r_gtr F rfl rfl) ER.sb fun a F => ?_
                    refine d_qy F rfl rfl rfl (by decide) rfl (congrArg not hb464) rfl (by decide) (fun wq hS => r_fieldAddr F rfl ff_28_3) ER.sb fun a F => ?_
                    refine d_qy F rfl rfl rfl (by decide) rfl (congrArg not hb464) rfl (by decide) (fun wq hS => r_load F rfl ag_3 (AT.cell (AT.sb zh91 hS (fun q => q.elim)) rfl)) ER.sb fun a F => ?_
                    refine d_qy F rfl rfl rfl (by decide) rfl (congrArg not hb464) rfl (by decide) (fun wq hS => r_gtr F rfl rfl) ER.sb fun a F => ?_
                    refine d_qy F rfl rfl rfl (by decide) rfl (congrArg not hb464) rfl (by decide) (fun wq hS => r_bneq F Try.underlying4 rfl rfl) ER.sb fun a F => ?_
                    refine d_q F rfl rfl rfl (by decide) (fun wq hS => r_pick_f F rfl (congrArg not hb464) rfl) ER.sb fun a F => ?_
                    refine d_nil ?_
                    exact J466 c459 w460 a (!((decide (0 < (t73.1.Key.length : Int))) == (decide (0 < t73.1.Rev)))) (F.sub ⟨rfl, rfl, rfl, rfl, rfl, rfl, rfl, rfl, rfl, trivial⟩) E B h66 h91 h4 h326 h419 h302 h305 h322 h325 H
                  · have H := (if_neg hb464).symm.trans H
                    refine d_qn F rfl rfl rfl (by decide) rfl (congrArg not (bfalse hb464)) rfl (by decide) ER.sb fun a F => ?_
                    refine d_qn F rfl rfl rfl (by decide) rfl (congrArg not (bfalse hb464)) rfl (by decide) ER.sb fun a F => ?_
                    refine d_qn F rfl rfl rfl (by decide) rfl (congrArg not (bfalse hb464)) rfl (by decide) ER.sb fun a F => ?_
                    refine d_qn F rfl rfl rfl (by decide) rfl (congrArg not (bfalse hb464)) rfl (by decide) ER.sb fun a F => ?_
                    refine d_qn F rfl rfl rfl (by decide) rfl (congrArg not (bfalse hb464)) rfl (by decide) ER.sb fun a F => ?_
                    refine d_qn F rfl rfl rfl (by decide) rfl (congrArg not (bfalse hb464)) rfl (by decide) ER.sb fun a F => ?_
                    refine d_qn F rfl rfl rfl (by decide) rfl (congrArg not (bfalse hb464)) rfl (by decide) ER.sb fun a F => ?_
                    refine d_qn F rfl rfl rfl (by decide) rfl (congrArg not (bfalse hb464)) rfl (by decide) ER.sb fun a F => ?_
                    refine d_q F rfl rfl rfl (by decide) (fun wq hS => r_pick_t F rfl (congrArg not (bfalse hb464)) rfl) ER.sb fun a F => ?_
                    refine d_nil ?_
                    exact J466 c459 w460 a true (F.sub ⟨rfl, rfl, rfl, rfl, rfl, rfl, rfl, rfl, rfl, trivial⟩) E B h66 h91 h4 h326 h419 h302 h305 h322 h325 H
                · have H := (if_neg hb444).symm.trans H
                  refine d_qn F rfl rfl rfl (by decide) rfl (decide_eq_false hb444) rfl (by decide) ER.sb fun a F => ?_
                  refine d_qn F rfl rfl rfl (by decide) rfl (decide_eq_false hb444) rfl (by decide) ER.sb fun a F => ?_
                  refine d_qn F rfl rfl rfl (by decide) rfl (decide_eq_false hb444) rfl (by decide) ER.sb fun a F => ?_
                  refine d_qn F rfl rfl rfl (by decide) rfl (decide_eq_false hb444) rfl (by decide) ER.sb fun a F => ?_
                  refine d_qn F rfl rfl rfl (by decide) rfl (decide_eq_false hb444) rfl (by decide) ER.sb fun a F => ?_
                  refine d_qn F rfl rfl rfl (by decide) rfl (decide_eq_false hb444) rfl (by decide) ER.sb fun a F => ?_
                  refine d_qn F rfl rfl rfl (by decide) rfl (decide_eq_false hb444) rfl (by decide) ER.sb fun a F => ?_
                  refine d_e ?_
                  refine o_no F rfl rfl rfl (by decide) rfl (decide_eq_false hb444) rfl (by decide) fun a F => ?_
                  refine ⟨fun _ => ER.sb, ?_⟩
                  refine d_qn F rfl rfl rfl (by decide) rfl (decide_eq_false hb444) rfl (by decide) ER.sb fun a F => ?_
                  refine d_qy F rfl rfl rfl (by decide) rfl (congrArg not (decide_eq_true hb443)) rfl (by decide) (fun wq hS => r_pick_f F rfl (decide_eq_false hb444) rfl) ER.sb fun a F => ?_
                  refine d_q F rfl rfl rfl (by decide) (fun wq hS => r_pick_f F rfl (congrArg not (decide_eq_true hb443)) rfl) ER.sb fun a F => ?_
                  refine d_q F rfl rfl rfl (by decide) (fun wq hS => r_move F rfl) ER.sb fun a F => ?_
                  refine d_qy F rfl rfl rfl (by decide) rfl rfl rfl (by decide) (fun wq hS => r_fieldAddr F rfl ff_28_1) ER.sb fun a F => ?_
                  refine d_qy F rfl rfl rfl (by decide) rfl rfl rfl (by decide) (fun wq hS => r_load F rfl ag_23 (AT.cell (AT.sb zh91 hS (fun q => q.elim)) rfl)) ER.sb fun a F => ?_
                  refine d_qy F rfl rfl rfl (by decide) rfl rfl rfl (by decide) (fun wq hS => r_lensl F Try.underlying23 rfl) ER.sb fun a F => ?_
                  refine d_qy F rfl rfl rfl (by decide) rfl rfl rfl (by decide) (fun wq hS => r_gtr F rfl rfl) ER.sb fun a F => ?_
                  refine d_qy F rfl rfl rfl (by decide) rfl rfl rfl (by decide) (fun wq hS => r_fieldAddr F rfl ff_28_3) ER.sb fun a F => ?_
                  refine d_qy F rfl rfl rfl (by decide) rfl rfl rfl (by decide) (fun wq hS => r_load F rfl ag_3 (AT.cell (AT.sb zh91 hS (fun q => q.elim)) rfl)) ER.sb fun a F => ?_
                  refine d_qy F rfl rfl rfl (by decide) rfl rfl rfl (by decide) (fun wq hS => r_gtr F rfl rfl) ER.sb fun a F => ?_
                  refine d_qy F rfl rfl rfl (by decide) rfl rfl rfl (by decide) (fun wq hS => r_bneq F Try.underlying4 rfl rfl) ER.sb fun a F => ?_
                  refine d_q F rfl rfl rfl (by decide) (fun wq hS => r_pick_f F rfl rfl rfl) ER.sb fun a F => ?_
                  refine d_nil ?_
                  exact J466 c423 w427 a (!((decide (0 < (t73.1.Key.length : Int))) == (decide (0 < t73.1.Rev)))) (F.sub ⟨rfl, rfl, rfl, rfl, rfl, rfl, rfl, rfl, rfl, trivial⟩) E B h66 h91 h4 h326 h419 h302 h305 h322 h325 H
              · have H := (if_neg hb443).symm.trans H
                refine d_qn F rfl rfl rfl (by decide) rfl (congrArg not (decide_eq_false hb443)) rfl (by decide) ER.sb fun a F => ?_
                refine d_qn F rfl rfl rfl (by decide) rfl (congrArg not (decide_eq_false hb443)) rfl (by decide) ER.sb fun a F => ?_
                refine d_qn F rfl rfl rfl (by decide) rfl (congrArg not (decide_eq_false hb443)) rfl (by decide) ER.sb fun a F => ?_
                refine d_qn F rfl rfl rfl (by decide) rfl (congrArg not (decide_eq_false hb443)) rfl (by decide) ER.sb fun a F => ?_
                refine d_qnu F rfl rfl rfl (by decide) rfl rfl (by decide) ER.sb fun a F => ?_
                refine d_qnu F rfl rfl rfl (by decide) rfl rfl (by decide) ER.sb fun a F => ?_
                refine d_qnu F rfl rfl rfl (by decide) rfl rfl (by decide) ER.sb fun a F => ?_
                refine d_qnu F rfl rfl rfl (by decide) rfl rfl (by decide) ER.sb fun a F => ?_
                refine d_qnu F rfl rfl rfl (by decide) rfl rfl (by decide) ER.sb fun a F => ?_
                refine d_qnu F rfl rfl rfl (by decide) rfl rfl (by decide) ER.sb fun a F => ?_
                refine d_qnu F rfl rfl rfl (by decide) rfl rfl (by decide) ER.sb fun a F => ?_
                refine d_e ?_
                refine o_nu F rfl rfl rfl (by decide) rfl rfl (by decide) fun a F => ?_
                refine ⟨fun _ => ER.sb, ?_⟩
                refine d_qnu F rfl rfl rfl (by decide) rfl rfl (by decide) ER.sb fun a F => ?_
                refine d_qn F rfl rfl rfl (by decide) rfl (congrArg not (decide_eq_false hb443)) rfl (by decide) ER.sb fun a F => ?_
                refine d_q F rfl rfl rfl (by decide) (fun wq hS => r_pick_t F rfl (congrArg not (decide_eq_false hb443)) rfl) ER.sb fun a F => ?_
                refine d_q F rfl rfl rfl (by decide) (fun wq hS => r_move F rfl) ER.sb fun a F => ?_
                refine d_qn F rfl rfl rfl (by decide) rfl rfl rfl (by decide) ER.sb fun a F => ?_
                refine d_qn F rfl rfl rfl (by decide) rfl rfl rfl (by decide) ER.sb fun a F => ?_
                refine d_qn F rfl rfl rfl (by decide) rfl rfl rfl (by decide) ER.sb fun a F => ?_
                refine d_qn F rfl rfl rfl (by decide) rfl rfl rfl (by decide) ER.sb fun a F => ?_
                refine d_qn F rfl rfl rfl (by decide) rfl rfl rfl (by decide) ER.sb fun a F => ?_
                refine d_qn F rfl rfl rfl (by decide) rfl rfl rfl (by decide) ER.sb fun a F => ?_
                refine d_qn F rfl rfl rfl (by decide) rfl rfl rfl (by decide) ER.sb fun a F => ?_
                refine d_qn F rfl rfl rfl (by decide) rfl rfl rfl (by decide) ER.sb fun a F => ?_
                refine d_q F rfl rfl rfl (by decide) (fun wq hS => r_pick_t F rfl rfl rfl) ER.sb fun a F => ?_
                refine d_nil ?_
                exact J466 c423 w427 a true (F.sub ⟨rfl, rfl, rfl, rfl, rfl, rfl, rfl, rfl, rfl, trivial⟩) E B h66 h91 h4 h326 h419 h302 h305 h322 h325 H
            refine wp_seq_k fun K400 hK400 => ?_
            refine reg ?_
            refine q_val F rfl rfl (by decide) (r_move F rfl) fun a F => ?_
            refine q_val F rfl rfl (by decide) (r_lss F rfl rfl) fun a F => ?_
            refine nil ?_
            refine hK400 _ _ ?_
            by_cases hb401 : i395 < 0
            · have H := (if_pos hb401).symm.trans H
              refine wp_cond_true ((F.ev rfl).trans (congrArg Value.bool (decide_eq_true hb401))) ?_
              refine wp_seq_k fun K402 hK402 => ?_
              refine reg ?_
              refine q_val F rfl rfl (by decide) (r_move F rfl) fun a F => ?_
              refine q_val F rfl rfl (by decide) (r_fieldAddr F rfl ff_33_1) fun a F => ?_
              refine q_val F rfl rfl (by decide) (r_load F rfl ag_23 (AT.cell h66 rfl)) fun a F => ?_
              refine q_val F rfl rfl (by decide) (r_build (v := .agg #[.slice A300 ((rd a1 i278).Key).length C301, .slice none 0 0, .int .i64 0]) F [(0, .slice A300 ((rd a1 i278).Key).length C301)] (by exact ⟨rfl, rfl, trivial⟩) (fun w => by kernel_rfl)) fun a F => ?_
              refine q_eff F rfl rfl (by decide) (e_buildSlice (n := 1) (e := 50) (c := c397) (k := K_api_Row) (i := 0) F [(0, .agg #[.slice A300 ((rd a1 i278).Key).length C301, .slice none 0 0, .int .i64 0])] [.slice A300 ((rd a1 i278).Key).length C301, .slice none 0 0, .int .i64 0] ([api_Row.mk ((rd a1 i278).Key) [] 0] : List api_Row) (by exact ⟨rfl, rfl, trivial⟩) (fun w => by kernel_rfl) rfl (by decide) rfl ⟨⟨A300, C301, none, 0, rfl, (SL.fl h302 (fun q => q)), SL.nil⟩, trivial⟩ (fun q => q) 0) ?_
              rintro v w404 a ⟨c403, A405, C406, rfl, E407, h408, B409⟩ F
              have B := B409 _ B (by omega)
              have h66 := AT.ev h66 E407 (fun q => q.elim)
              have h91 := AT.ev h91 E407 (fun q => q.elim)
              have h4 := SL.ev h4 E407 (fun q => q.elim) (fun q => q.elim)
              have h326 := TB.ev h326 E407 (fun q => q.elim) (fun q => q.elim)
              have h276 := SL.ev h276 E407 (fun q => q.elim) (fun q => q.elim)
              have h302 := SL.ev h302 E407 (fun q => q.elim) (fun q => q.elim)
              have h305 := SL.ev h305 E407 (fun q => q.elim) (fun q => q.elim)
              have h322 := SL.ev h322 E407 (fun q => q.elim) (fun q => q.elim)
              have h325 := SL.ev h325 E407 (fun q => q.elim) (fun q => q.elim)
              have E := E.trans E407 (fun x q => q.elim)
              obtain ⟨g152, H⟩ := ifN H
              refine q_eff F rfl rfl (by decide) (e_append (k := K_api_Row) (xs := l273) (ys := [api_Row.mk ((rd a1 i278).Key) [] 0]) (c := c403) (j := (m + 4)) (i := 0) F et_46 rfl rfl h276 h408 (by simpa using g152) (by have g_ := g152; unfold maxLen; simp at g_ ⊢; omega) (by omega)) ?_
              rintro v w411 a ⟨c410, A412, C413, rfl, E414, h415, B416⟩ F
              have B := B416 _ B (by omega)
              have h66 := AT.ev h66 E414 (by show ¬ (m + 2 = m + 4); omega)
              have h91 := AT.ev h91 E414 (by show ¬ (m + 3 = m + 4); omega)
              have h4 := SL.ev h4 E414 (by show ¬ (0 = m + 4); omega) (by show ¬ (0 = m + 4); omega)
              have h326 := TB.ev h326 E414 (by show ¬ (m + 1 = m + 4); omega) (by show ¬ (0 = m + 4); omega)
              have h302 := SL.ev h302 E414 (by show ¬ (0 = m + 4); omega) (by show ¬ (0 = m + 4); omega)
              have h305 := SL.ev h305 E414 (by show ¬ (0 = m + 4); omega) (by show ¬ (0 = m + 4); omega)
              have h322 := SL.ev h322 E414 (by show ¬ (0 = m + 4); omega) (by show ¬ (0 = m + 4); omega)
              have h325 := SL.ev h325 E414 (by show ¬ (0 = m + 4); omega) (by show ¬ (0 = m + 4); omega)
              have h408 := SL.ev h408 E414 (by show ¬ (0 = m + 4); omega) (by show ¬ (0 = m + 4); omega)
              have E := E.trans E414 (fun x q => by replace q : x = m + 4 := q; show False ∨ m ≤ x; omega)
              refine q_val F rfl rfl (by decide) (r_assign F rfl) fun a F => ?_
              refine nil ?_
              refine hK402 _ _ ?_
              refine reg ?_
              refine q_val F rfl rfl (by decide) (r_move F rfl) fun a F => ?_
              refine q_val F rfl rfl (by decide) (r_lensl F Try.underlying46 rfl) fun a F => ?_
              refine q_val F rfl rfl (by decide) (r_sub F rfl rfl) fun a F => ?_
              refine q_val F rfl rfl (by decide) (r_assign F rfl) fun a F => ?_
              refine nil ?_
              exact J422 c410 w411 a (l273 ++ [api_Row.mk ((rd a1 i278).Key) [] 0]) A412 C413 (IntKind.i64.wrap (((l273 ++ [api_Row.mk ((rd a1 i278).Key) [] 0]).length : Int) - 1)) (F.sub ⟨rfl, rfl, rfl, rfl, rfl, rfl, rfl, rfl, trivial⟩) E B h66 h91 h4 h326 h302 h305 h322 h325 h415 H
            · have H := (if_neg hb401).symm.trans H
              refine wp_cond_false ((F.ev rfl).trans (congrArg Value.bool (decide_eq_false hb401))) ?_
              refine wp_skip ?_
              exact J422 c397 w398 a l273 A274 C275 i395 (F.sub ⟨rfl, rfl, rfl, rfl, rfl, rfl, rfl, rfl, trivial⟩) E B h66 h91 h4 h326 h302 h305 h322 h325 h276 H
          refine loop_fuel (I := fun n a w => ∃ (i352 : Int) (i353 : Int) (c : Nat → Nat), Fr a 224 [(0, .slice A2 a1.length C3), (3, .pointer p24), (4, .slice A274 l273.length C275), (5, .int .i64 (IntKind.i64.wrap (i277 + 1))), (6, .int .i64 i278), (7, .pointer (some qa64)), (8, .pointer (some qa89)), (10, .int .i64 i352), (11, .int .i64 i353)] ∧ Ev (fun x => False ∨ m ≤ x) c0 w0 c w ∧ CB (m + 5) c w ∧ AT true (m + 2) c w qa64 [.int .i64 ((rd a1 i278).Kind), .slice A300 ((rd a1 i278).Key).length C301, .slice A303 ((rd a1 i278).Value).length C304, .int .i64 ((rd a1 i278).Rev)] ∧ AT true (m + 3) c w qa89 [.bool t73.1.Done, .slice A320 t73.1.Key.length C321, .slice A323 t73.1.Value.length C324, .int .i64 t73.1.Rev, .int .i64 t73.1.At] ∧ SL false K_api_Op 0 0 c w A2 C3 a1 ∧ TB (m + 1) c w p24 t73.2.2 ∧ SL true K_api_Row (m + 4) 0 c w A274 C275 l273 ∧ SL false (Kint .u8) 0 0 c w A300 C301 ((rd a1 i278).Key) ∧ SL false (Kint .u8) 0 0 c w A303 C304 ((rd a1 i278).Value) ∧ SL false (Kint .u8) 0 0 c w A320 C321 t73.1.Key ∧ SL false (Kint .u8) 0 0 c w A323 C324 t73.1.Value ∧ loop (fun (s_ : Int × Int) => haulagelaw13_TableMap.b8 k a1 l273 i278 s_.1 s_.2) n (i352, i353) = some x363) (k := k) ⟨(-1), 0, c345, F.sub ⟨rfl, rfl, rfl, rfl, rfl, rfl, rfl, rfl, rfl, trivial⟩, E, B, h66, h91, h4, h326, h276, h302, h305, h322, h325, HL⟩ ?_
          clear HL H E F B
          intro n360 X356 hX356 a w355 ⟨i352, i353, c354, F, E, B, h66, h91, h4, h326, h276, h302, h305, h322, h325, HL⟩
          obtain ⟨n361, ctl359, rfl, HB, HN357, HD358⟩ := loop_some HL
          have H : haulagelaw13_TableMap.b8 k a1 l273 i278 i352 i353 = some ctl359 := HB
          clear HB HL
          unfold haulagelaw13_TableMap.b8 at H
          refine wp_seq_k fun K364 hK364 => ?_
          refine wp_seq_k fun K365 hK365 => ?_
          refine reg ?_
          refine q_val F rfl rfl (by decide) (r_move F rfl) fun a F => ?_
          refine q_val F rfl rfl (by decide) (r_move F rfl) fun a F => ?_
          refine q_val F rfl rfl (by decide) (r_lensl F Try.underlying46 rfl) fun a F => ?_
          refine q_val F rfl rfl (by decide) (r_lss F rfl rfl) fun a F => ?_
          refine nil ?_
          refine hK365 _ _ ?_
          by_cases hb366 : i353 < (l273.length : Int)
          · have H := (if_pos hb366).symm.trans H
            refine wp_cond_true ((F.ev rfl).trans (congrArg Value.bool (decide_eq_true hb366))) ?_
            refine wp_skip ?_
            refine hK364 _ _ ?_
            refine wp_seq_k fun K367 hK367 => ?_
            refine wp_block ?_
            refine wp_seq_k fun K368 hK368 => ?_
            refine regD (SB No c354 w355) 8 (.q 0 (.q 1 (.q 2 (.q 3 (.q 4 (.q 5 (.q 6 (.e 7 .nil)))))))) Try_hm (by decide +kernel) ?_
            intro w369 w1_ w2_ w3_ w4_
            have E370 : Ev No c354 w355 c354 w369 := Ev.same w1_ w2_ w3_ w4_
            have B := B.same w1_
            have zh66 := h66
            have zh91 := h91
            have zh4 := h4
            have zh326 := h326
            have zh276 := h276
            have zh302 := h302
            have zh305 := h305
            have zh322 := h322
            have zh325 := h325
            have ER : Ev No c354 w355 c354 w369 := Ev.same w1_ w2_ w3_ w4_
            have h66 := AT.ev h66 E370 (fun q => q.elim)
            have h91 := AT.ev h91 E370 (fun q => q.elim)
            have h4 := SL.ev h4 E370 (fun q => q.elim) (fun q => q.elim)
            have h326 := TB.ev h326 E370 (fun q => q.elim) (fun q => q.elim)
            have h276 := SL.ev h276 E370 (fun q => q.elim) (fun q => q.elim)
            have h302 := SL.ev h302 E370 (fun q => q.elim) (fun q => q.elim)
            have h305 := SL.ev h305 E370 (fun q => q.elim) (fun q => q.elim)
            have h322 := SL.ev h322 E370 (fun q => q.elim) (fun q => q.elim)
            have h325 := SL.ev h325 E370 (fun q => q.elim) (fun q => q.elim)
            have E := E.trans E370 (fun x q => q.elim)
            refine d_q F rfl rfl rfl (by decide) (fun wq hS => r_move F rfl) ER.sb fun a F => ?_
            refine d_q F rfl rfl rfl (by decide) (fun wq hS => r_move F rfl) ER.sb fun a F => ?_
            obtain ⟨g371, H⟩ := ifN H
            obtain ⟨ad372, cs373, e374, h375, r376⟩ := SL.at zh276 i353 g371.1 g371.2
            obtain ⟨A377, C378, A380, C381, rfl, h379, h382⟩ := r376
            have h379 := SL.fl (i' := 0) h379 (fun q => q)
            have h382 := SL.fl (i' := 0) h382 (fun q => q)
            obtain ⟨qa383, qqa383⟩ : ∃ q, q = (ad372.add (i353.toNat * 3)) := ⟨_, rfl⟩
            have h375 : AT true (m + 4) c354 w355 qa383 [.slice A377 ((rd l273 i353).Key).length C378, .slice A380 ((rd l273 i353).Value).length C381, .int .i64 ((rd l273 i353).Rev)] := by rw [qqa383]; exact h375
            have zh379 := h379
            have h379 := SL.ev h379 ER (fun q => q.elim) (fun q => q.elim)
            have zh382 := h382
            have h382 := SL.ev h382 ER (fun q => q.elim) (fun q => q.elim)
            have zh375 := h375
            have h375 := AT.ev h375 ER (fun q => q.elim)
            refine d_q F rfl rfl rfl (by decide) (fun wq hS => r_indexAddr' F Try.underlying46 sz_50 rfl rfl g371.1 g371.2 e374 qqa383) ER.sb fun a F => ?_
            refine d_q F rfl rfl rfl (by decide) (fun wq hS => r_fieldAddr F rfl ff_50_0) ER.sb fun a F => ?_
            refine d_q F rfl rfl rfl (by decide) (fun wq hS => r_load F rfl ag_23 (AT.cell (AT.sb zh375 hS (fun q => q.elim)) rfl)) ER.sb fun a F => ?_
            refine d_q F rfl rfl rfl (by decide) (fun wq hS => r_fieldAddr F rfl ff_33_1) ER.sb fun a F => ?_
            refine d_q F rfl rfl rfl (by decide) (fun wq hS => r_load F rfl ag_23 (AT.cell (AT.sb zh66 hS (fun q => q.elim)) rfl)) ER.sb fun a F => ?_
            refine d_e ?_
            obtain ⟨t385, q386, H⟩ := bind_some H
            refine o_call F rfl (wanted_none rfl) rfl (by decide) (r_call F Try.func18 rfl (by kernel_rfl) rfl) (haulagelaw13_same.calls k (m := m + 5) (by omega) B h379 h302 _ q386) ?_
            rintro e w388 ⟨c387, rfl, E389, B390⟩
            refine ⟨_, rfl, fun a F => ?_⟩
            have B := B390
            have ER := ER.trans E389 (fun x q => q.elim)
            have h66 := AT.ev h66 E389 (fun q => q.elim)
            have h91 := AT.ev h91 E389 (fun q => q.elim)
            have h4 := SL.ev h4 E389 (fun q => q.elim) (fun q => q.elim)
            have h326 := TB.ev h326 E389 (fun q => q.elim) (fun q => q.elim)
            have h276 := SL.ev h276 E389 (fun q => q.elim) (fun q => q.elim)
            have h302 := SL.ev h302 E389 (fun q => q.elim) (fun q => q.elim)
            have h305 := SL.ev h305 E389 (fun q => q.elim) (fun q => q.elim)
            have h322 := SL.ev h322 E389 (fun q => q.elim) (fun q => q.elim)
            have h325 := SL.ev h325 E389 (fun q => q.elim) (fun q => q.elim)
            have h379 := SL.ev h379 E389 (fun q => q.elim) (fun q => q.elim)
            have h382 := SL.ev h382 E389 (fun q => q.elim) (fun q => q.elim)
            have h375 := AT.ev h375 E389 (fun q => q.elim)
            have E := E.trans E389 (fun x q => q.elim)
            refine ⟨fun _ => ER.sb, ?_⟩
            refine d_nil ?_
            refine hK368 _ _ ?_
            by_cases hb392 : t385 = true
            · have H := (if_pos hb392).symm.trans H
              refine wp_cond_true ((F.ev rfl).trans (congrArg Value.bool hb392)) ?_
              refine reg ?_
              refine q_val F rfl rfl (by decide) (r_move F rfl) fun a F => ?_
              refine q_val F rfl rfl (by decide) (r_assign F rfl) fun a F => ?_
              refine nil ?_
              refine hK367 _ _ ?_
              refine reg ?_
              refine q_val F rfl rfl (by decide) (r_move F rfl) fun a F => ?_
              refine q_val F rfl rfl (by decide) (r_add F rfl rfl) fun a F => ?_
              refine q_val F rfl rfl (by decide) (r_assign F rfl) fun a F => ?_
              refine nil ?_
              have H := HN357 _ (Option.some.inj H).symm
              exact hX356 _ _ _ (Nat.lt_succ_self _) ⟨i353, (IntKind.i64.wrap (i353 + 1)), c387, F.sub ⟨rfl, rfl, rfl, rfl, rfl, rfl, rfl, rfl, rfl, trivial⟩, E, B, h66, h91, h4, h326, h276, h302, h305, h322, h325, H⟩
            · have H := (if_neg hb392).symm.trans H
              refine wp_cond_false ((F.ev rfl).trans (congrArg Value.bool (bfalse hb392))) ?_
              refine wp_skip ?_
              refine hK367 _ _ ?_
              refine reg ?_
              refine q_val F rfl rfl (by decide) (r_move F rfl) fun a F => ?_
              refine q_val F rfl rfl (by decide) (r_add F rfl rfl) fun a F => ?_
              refine q_val F rfl rfl (by decide) (r_assign F rfl) fun a F => ?_
              refine nil ?_
              have H := HN357 _ (Option.some.inj H).symm
              exact hX356 _ _ _ (Nat.lt_succ_self _) ⟨i352, (IntKind.i64.wrap (i353 + 1)), c387, F.sub ⟨rfl, rfl, rfl, rfl, rfl, rfl, rfl, rfl, rfl, trivial⟩, E, B, h66, h91, h4, h326, h276, h302, h305, h322, h325, H⟩
          · have H := (if_neg hb366).symm.trans H
            refine wp_cond_false ((F.ev rfl).trans (congrArg Value.bool (decide_eq_false hb366))) ?_
            refine wp_exit ?_
            refine thenE ?_
            refine thenE ?_
            refine inbE ?_
            have hx_ := HD358 _ (Option.some.inj H).symm
            have H := HR362
            rw [← hx_] at H
            exact J396 c354 w355 a i352 (F.sub ⟨rfl, rfl, rfl, rfl, rfl, rfl, rfl, rfl, trivial⟩) E B h66 h91 h4 h326 h276 h302 h305 h322 h325 H
      refine reg ?_
      refine q_val F rfl rfl (by decide) (r_move F rfl) fun a F => ?_
      refine q_val F rfl rfl (by decide) (r_neq F rfl rfl) fun a F => ?_
      refine q_val F rfl rfl (by decide) (r_move F rfl) fun a F => ?_
      by_cases hb337 : t73.2.1 = 0
      · have H := (if_pos hb337).symm.trans H
        refine q_yes F rfl (by decide) rfl (congrArg not (decide_eq_true hb337)) ?_
        refine q_val F rfl rfl (by decide) (r_loads (cs := [.int .i64 ((rd a1 i278).Kind), .slice A300 ((rd a1 i278).Key).length C301, .slice A303 ((rd a1 i278).Value).length C304, .int .i64 ((rd a1 i278).Rev)]) F rfl ag_33 sz_33 h66) fun a F => ?_
        obtain ⟨t100, q101, H⟩ := bind_some H
        refine q_yes F rfl (by decide) rfl (congrArg not (decide_eq_true hb337)) ?_
        refine q_call F rfl rfl (by decide) (r_call F Try.func17 rfl (by kernel_rfl) rfl) (haulagelaw13_writes.calls (m := m + 5) (by omega) B h302 h305 _ q101) ?_
        rintro e w339 ⟨c338, rfl, E340, B341⟩
        refine ⟨_, rfl, fun a F => ?_⟩
        have B := B341
        have h4 := SL.ev h4 E340 (fun q => q.elim) (fun q => q.elim)
        have h276 := SL.ev h276 E340 (fun q => q.elim) (fun q => q.elim)
        have h302 := SL.ev h302 E340 (fun q => q.elim) (fun q => q.elim)
        have h305 := SL.ev h305 E340 (fun q => q.elim) (fun q => q.elim)
        have h298 := AT.ev h298 E340 (fun q => q.elim)
        have h66 := AT.ev h66 E340 (fun q => q.elim)
        have h322 := SL.ev h322 E340 (fun q => q.elim) (fun q => q.elim)
        have h325 := SL.ev h325 E340 (fun q => q.elim) (fun q => q.elim)
        have h326 := TB.ev h326 E340 (fun q => q.elim) (fun q => q.elim)
        have h91 := AT.ev h91 E340 (fun q => q.elim)
        have E := E.trans E340 (fun x q => q.elim)
        refine q_yes F rfl (by decide) rfl (congrArg not (decide_eq_true hb337)) ?_
        refine q_val F rfl rfl (by decide) (r_not F rfl) fun a F => ?_
        refine q_val F rfl rfl (by decide) (r_pick_f F rfl (congrArg not (decide_eq_true hb337)) rfl) fun a F => ?_
        refine nil ?_
        exact J344 c338 w339 a (!t100) (F.sub ⟨rfl, rfl, rfl, rfl, rfl, rfl, rfl, rfl, trivial⟩) E B h66 h91 h4 h326 h276 h302 h305 h322 h325 H
      · have H := (if_neg hb337).symm.trans H
        refine q_no F rfl (by decide) rfl (congrArg not (decide_eq_false hb337)) (by decide) fun a F => ?_
        refine q_no F rfl (by decide) rfl (congrArg not (decide_eq_false hb337)) (by decide) fun a F => ?_
        refine q_no F rfl (by decide) rfl (congrArg not (decide_eq_false hb337)) (by decide) fun a F => ?_
        refine q_val F rfl rfl (by decide) (r_pick_t F rfl (congrArg not (decide_eq_false hb337)) rfl) fun a F => ?_
        refine nil ?_
        exact J344 c328 w332 a true (F.sub ⟨rfl, rfl, rfl, rfl, rfl, rfl, rfl, rfl, trivial⟩) E B h66 h91 h4 h326 h276 h302 h305 h322 h325 H
    · have H := (if_neg hb291).symm.trans H
      refine wp_cond_false ((F.ev rfl).trans (congrArg Value.bool (decide_eq_false hb291))) ?_
      refine wp_exit ?_
      refine thenE ?_
      refine thenE ?_
      refine inbE ?_
      have hx_ := HD283 _ (Option.some.inj H).symm
      have H := HR287
      rw [← hx_] at H
      exact J541 c279 w280 a o272 l273 A274 C275 i277 (F.sub ⟨rfl, rfl, rfl, trivial⟩) E B h271 h276 H
  · have H := (if_neg hb15).symm.trans H
    refine wp_cond_true ((F.ev rfl).trans (congrArg Value.bool (congrArg not (bfalse hb15)))) ?_
    refine wp_seq_k fun K16 hK16 => ?_
    refine reg ?_
    refine q_val F rfl rfl (by decide) (r_assign F rfl) fun a F => ?_
    refine nil ?_
    refine hK16 _ _ ?_
    refine wp_ret ?_
    refine thenR ?_
    have H := Option.some.inj H
    subst H
    refine out1 F rfl rfl ?_
    exact ⟨fun b_ => (fun x_ => if x_ < m then x_ else 0) (c10 b_), rfl, E.leave B0 (fun x_ => if x_ < m then x_ else 0) (by intro x_ hx_; show (if x_ < m then x_ else 0) = x_; ((repeat' split) <;> omega)), (fun b_ hb_ => by show (if (c10 b_) < m then (c10 b_) else 0) < m; ((repeat' split) <;> omega))⟩
end Go.Proofs.Ytcolmmjcdlmcoaa.G
/-! awake; TableCopies; TableSwaps. -/
namespace Go.Proofs.Ytcolmmjcdlmcoaa.G
open Go
set_option linter.unusedVariables false
set_option linter.unusedSimpArgs false
theorem loop_inv {S X : Type} {f : S → Option (Ctl S X)} {I : Nat → S → Prop} {P : X → Prop} {N : Nat}
    (step : ∀ i s, i < N → I i s → (∃ s', f s = some (.next s') ∧ I (i + 1) s') ∨ (∃ x, f s = some (.done x) ∧ P x))
    (last : ∀ s, I N s → ∃ x, f s = some (.done x) ∧ P x) : ∀ (n i : Nat) (s : S) (m : Nat), I i s → i + n = N → n < m → ∃ x, loop f m s = some x ∧ P x
  | _, _, _, 0, _, _, h => absurd h (by omega)
  | 0, i, s, m + 1, hI, hN, _ => by
    obtain rfl : i = N := by omega
    obtain ⟨x, h1, h2⟩ := last s hI
    exact ⟨x, loop_done h1, h2⟩
  | n + 1, i, s, m + 1, hI, hN, hm => by
    rcases step i s (by omega) hI with ⟨s', h1, h2⟩ | ⟨x, h1, h2⟩
    · rw [loop_next h1]
      exact loop_inv step last n (i + 1) s' m h2 (by omega) (by omega)
    · exact ⟨x, loop_done h1, h2⟩
theorem act1 : act [] 0 (api_Op.mk 2 [97] [49] 0) = (⟨true, [], [], 0, 1⟩, 0, [(bs [97], ⟨[49], 1⟩)], 1) := by
  simp [act, right, keyok, look, ins, told]
theorem act2 : act [(bs [97], ⟨[49], 1⟩)] 1 (api_Op.mk 2 [97] [50] 0) = (⟨true, sb (bs [97]), [49], 1, 2⟩, 0, [(bs [97], ⟨[50], 2⟩)], 2) := by
  simp [act, right, keyok, look, ins, told, lt_irr]
theorem act3 : act [(bs [97], ⟨[50], 2⟩)] 2 (api_Op.mk 1 [97] [] 0) = (⟨true, sb (bs [97]), [50], 2, 2⟩, 0, [(bs [97], ⟨[50], 2⟩)], 2) := by
  simp [act, right, keyok, look, ins, told, lt_irr]
theorem act4 : act [(bs [97], ⟨[50], 2⟩)] 2 (api_Op.mk 0 [] [] 0) = (zeroA, 131, [(bs [97], ⟨[50], 2⟩)], 2) := by
  simp [act, right, keyok]
theorem awake_eq {k : Nat} (hk : Fuel k) : haulagelaw13_awake.f k = some true := by
  obtain ⟨t0, e0, R0⟩ := new_rep
  obtain ⟨t1, e1, R1⟩ := do_eq hk (by omega) R0 (api_Op.mk 2 [97] [49] 0)
  rw [act1] at e1 R1
  obtain ⟨t2, e2, R2⟩ := do_eq hk (by simp) R1 (api_Op.mk 2 [97] [50] 0)
  rw [act2] at e2 R2
  obtain ⟨t3, e3, R3⟩ := do_eq hk (by simp) R2 (api_Op.mk 1 [97] [] 0)
  rw [act3] at e3 R3
  obtain ⟨t4, e4, R4⟩ := do_eq hk (by simp) R3 (api_Op.mk 0 [] [] 0)
  rw [act4] at e4 R4
  have R4' : RepS t4 ([(bs [97], ⟨[50], 2⟩)], 2) := R4
  have eb := bytes_eq hk (by simp) R4'
  have ef : form ([(bs [97], ⟨[50], 2⟩)], 2) = [2, 1, 1, 97, 1, 50, 2] := by decide
  unfold haulagelaw13_awake.f haulagelaw13_put.f haulagelaw13_get.f
  rw [bind_eq e0, Option.bind_some, bind_eq e1, Option.bind_some, bind_eq e2, Option.bind_some, bind_eq e3, bind_eq e4]
  simp only [if_true]
  rw [bind_eq (same_eq hk _ _ (by simp)), if_pos (by simp), bind_eq (same_eq hk _ _ (by simp)), if_pos (by simp), bind_eq eb, ef, bind_eq (same_eq hk _ _ (by simp))]
  simp
/-! ### TableCopies -/
theorem run_lt {ops : List api_Op} {n : Nat} (h : ops.length < n) : (run ([], 0) ops).2 < n := by
  have := run_r ops ([], 0)
  simp only at this; omega
theorem half {k : Nat} (hk : Fuel k) {ahead ops : List api_Op} {i : Nat} {t : Option Tab} (hl : ahead.length + ops.length < 4000000) (hR : RepS t (run ([], 0) (ahead ++ ops.take i))) :
    (i < ops.length → ∃ x y t', table_Table_Do.f k t (rd ops (i : Int)) = some (x, y, t') ∧ RepS t' (run ([], 0) (ahead ++ ops.take (i + 1)))) ∧ (¬ i < ops.length → RepS t (run ([], 0) (ahead ++ ops.take (i + 1)))) := by
  refine ⟨fun h => ?_, fun h => ?_⟩
  · have hr : (run ([], 0) (ahead ++ ops.take i)).2 < 4000000 := run_lt (by simp; omega)
    obtain ⟨t', e, R⟩ := do_step hk (by omega) hR ops[i]
    refine ⟨_, _, t', by rw [rd_eq h]; exact e, ?_⟩
    rw [take_one h, ← List.append_assoc, run_snoc]; exact R
  · rw [List.take_of_length_le (by omega)] at hR ⊢; exact hR
theorem form_short {s : St} (hs : s.2 < 4194304) {t : Option Tab} (hR : RepS t s) : (form s).length < 4000000000 := by
  obtain ⟨rows, rfl, hw, hl, hI⟩ := hR
  have hlen := hI.len
  have hsz := sz_le hI.ent
  have h1 := nm_le s.2; have h2 := nm_le s.1.length
  have f1 := fm_len s.2; have f2 := fm_len s.1.length
  have hfl := flat_len s.1
  unfold form
  simp only [List.length_append]; omega
theorem TableCopies_true {k : Nat} (hk : Fuel k) (ahead one two : List api_Op) (h1 : ahead.length + one.length < 4000000) (h2 : ahead.length + two.length < 4000000) :
    haulagelaw13_TableCopies.f k ahead one two = some true := by
  have h24 : 1099511627776 ≤ k := hk
  obtain ⟨t, et, Rt⟩ := made_eq hk ahead (by omega)
  unfold haulagelaw13_TableCopies.f
  rw [bind_eq (awake_eq hk), if_pos rfl, bind_eq et, bind_eq (copy_eq Rt)]
  have hns : Option.isNone t = false := by obtain ⟨rows, rfl, _⟩ := Rt; rfl
  rw [if_neg (by rw [hns]; simp)]
  have L := loop_inv (f := fun (s_ : (Option Tab) × (Option Tab) × Int) => haulagelaw13_TableCopies.b5 k one two s_.1 s_.2.1 s_.2.2)
    (I := fun i s => s.2.2 = (i : Int) ∧ RepS s.1 (run ([], 0) (ahead ++ one.take i)) ∧ RepS s.2.1 (run ([], 0) (ahead ++ two.take i)))
    (P := fun x => RepS x.1 (run ([], 0) (ahead ++ one)) ∧ RepS x.2 (run ([], 0) (ahead ++ two))) (N := max one.length two.length) ?_ ?_ (max one.length two.length) 0 (t, t, 0) k ⟨rfl, by simpa using Rt, by simpa using Rt⟩ (by omega) (by omega)
  · obtain ⟨x, ex, r1, r2⟩ := L
    rw [bind_eq ex]
    unfold haulagelaw13_TableCopies.j6
    obtain ⟨v, ev, Rv⟩ := made_eq hk (ahead ++ one) (by simp; omega)
    obtain ⟨w, ew, Rw⟩ := made_eq hk (ahead ++ two) (by simp; omega)
    have g1 : (run ([], 0) (ahead ++ one)).2 < 4194304 := run_lt (by simp; omega)
    have g2 : (run ([], 0) (ahead ++ two)).2 < 4194304 := run_lt (by simp; omega)
    simp only [List.nil_append]
    rw [if_pos (by omega), if_pos (by omega), bind_eq ev, if_pos (by omega), if_pos (by omega), bind_eq ew, bind_eq (bytes_eq hk g1 r1), bind_eq (bytes_eq hk g1 Rv)]
    rw [bind_eq (same_eq hk _ _ (Or.inl (form_short g1 r1))), if_pos (by simp), bind_eq (bytes_eq hk g2 r2), bind_eq (bytes_eq hk g2 Rw), bind_eq (same_eq hk _ _ (Or.inl (form_short g2 r2)))]
    simp
  · rintro i ⟨a, b, c⟩ hi ⟨rfl, r1, r2⟩
    left
    simp only at r1 r2
    have m1 := half hk h1 r1
    have m2 := half hk h2 r2
    have hj : ∀ a', RepS a' (run ([], 0) (ahead ++ one.take (i + 1))) → ∃ s', haulagelaw13_TableCopies.j4 k two b (i : Int) a' = some (.next s') ∧ s'.2.2 = ((i + 1 : Nat) : Int) ∧ RepS s'.1 (run ([], 0) (ahead ++ one.take (i + 1))) ∧ RepS s'.2.1 (run ([], 0) (ahead ++ two.take (i + 1))) := by
      intro a' ra
      unfold haulagelaw13_TableCopies.j4
      by_cases c : i < two.length
      · obtain ⟨x, y, b', eb, rb⟩ := m2.1 c
        rw [if_pos (by omega), if_pos (by omega), bind_eq eb, wrS i (by omega)]
        exact ⟨_, rfl, rfl, ra, rb⟩
      · rw [if_neg (by omega), wrS i (by omega)]
        exact ⟨_, rfl, rfl, ra, m2.2 c⟩
    have hb : haulagelaw13_TableCopies.b5 k one two a b (i : Int) = haulagelaw13_TableCopies.j3 k one two a b (i : Int) true := by
      unfold haulagelaw13_TableCopies.b5
      by_cases c : i < one.length
      · rw [if_pos (by omega)]
      · rw [if_neg (by omega), decide_eq_true (by omega)]
    show ∃ s', haulagelaw13_TableCopies.b5 k one two a b (i : Int) = _ ∧ _
    rw [hb]
    unfold haulagelaw13_TableCopies.j3
    rw [if_pos rfl]
    by_cases c : i < one.length
    · obtain ⟨x, y, a', ea, ra⟩ := m1.1 c
      rw [if_pos (by omega), if_pos (by omega), bind_eq ea]
      exact hj a' ra
    · rw [if_neg (by omega)]
      exact hj a (m1.2 c)
  · rintro ⟨a, b, c⟩ ⟨rfl, r1, r2⟩
    simp only at r1 r2
    rw [List.take_of_length_le (by omega)] at r1 r2
    refine ⟨(a, b), ?_, r1, r2⟩
    show haulagelaw13_TableCopies.b5 k one two a b ((max one.length two.length : Nat) : Int) = _
    have q1 := Nat.le_max_left one.length two.length; have q2 := Nat.le_max_right one.length two.length
    unfold haulagelaw13_TableCopies.b5 haulagelaw13_TableCopies.j3
    rw [if_neg (by omega), decide_eq_false (by omega), if_neg (by simp)]
end Go.Proofs.Ytcolmmjcdlmcoaa.G
/-! TableSwaps. -/
namespace Go.Proofs.Ytcolmmjcdlmcoaa.G
open Go
set_option linter.unusedVariables false
set_option linter.unusedSimpArgs false
theorem step_ge (s : St) (o : api_Op) : s.2 ≤ (stepS s o).2 := by rcases step_r s o with h | h <;> omega
theorem run_ge : ∀ (ops : List api_Op) (s : St), s.2 ≤ (run s ops).2
  | [], s => Nat.le_refl _
  | o :: ops, s => Nat.le_trans (step_ge s o) (run_ge ops (stepS s o))
theorem act_right {L : List Ent} {r : Nat} {o : api_Op} : (act L r o).2.1 = if right o = true then 0 else 131 := by
  unfold act
  cases right o <;> simp
  repeat' split
  all_goals rfl
theorem act_other {L : List Ent} {r : Nat} {o : api_Op} {K : ByteArray} (hI : Inv L r) (h : right o = false ∨ isW o = false ∨ bs o.Key ≠ K) : look K (act L r o).2.2.1 = look K L := by
  unfold act
  split
  · rfl
  · rename_i c0
    split
    · rfl
    · rename_i c5
      split
      · rfl
      · rename_i c1
        have hk : bs o.Key ≠ K := by
          rcases h with h | h | h
          · exact absurd h c0
          · have hr : right o = true := by simpa using c0
            have := (right_key hr).2.2.2
            unfold isW at h
            simp at h
            omega
          · exact h
        split
        · exact look_del_ne (Ne.symm hk) L hI.ord
        · split
          · exact look_ins_ne _ (Ne.symm hk) L
          · rfl
theorem act_key {L : List Ent} {r : Nat} {o : api_Op} (hI : Inv L r) (h : right o = true) (hw : isW o = true) :
    ((act L r o).1.Done = false → look (bs o.Key) (act L r o).2.2.1 = look (bs o.Key) L) ∧
    ((act L r o).1.Done = true → look (bs o.Key) (act L r o).2.2.1 = none ∨ ∃ c, look (bs o.Key) (act L r o).2.2.1 = some c ∧ c.rev = (r : Int) + 1) := by
  have hkind : o.Kind ≠ 5 ∧ o.Kind ≠ 1 := by
    unfold isW at hw
    simp at hw
    omega
  unfold act
  rw [if_neg (by simp [h]), if_neg hkind.1, if_neg hkind.2]
  split
  · refine ⟨fun hd => ?_, fun _ => Or.inl (look_del L hI.ord)⟩
    cases hq : look (bs o.Key) L with
    | none => rw [del_none L hq]; exact hq
    | some c => rw [hq] at hd; simp [told] at hd
  · split
    · refine ⟨fun hd => by simp at hd, fun _ => Or.inr ⟨_, look_ins _ _ L, rfl⟩⟩
    · exact ⟨fun _ => rfl, fun hd => by simp at hd⟩
def brange (xs : List Int) : Prop := ∀ n ∈ xs, 0 ≤ n ∧ n ≤ 255
theorem sb_bs {xs : List Int} (h : brange xs) : sb (bs xs) = xs := by
  unfold sb bs
  simp only [List.map_map]
  have : ∀ l : List Int, brange l → l.map ((fun b : UInt8 => (b.toNat : Int)) ∘ fun n => UInt8.ofNat n.toNat) = l := by
    intro l
    induction l with
    | nil => intro _; rfl
    | cons a l ih =>
      intro hl
      have ha := hl a (by simp)
      rw [List.map_cons, ih (fun n hn => hl n (by simp [hn]))]
      congr 1
      show ((UInt8.ofNat a.toNat).toNat : Int) = a
      rw [UInt8.toNat_ofNat']
      omega
  exact this xs h
theorem bs_inj {a b : List Int} (ha : brange a) (hb : brange b) (h : bs a = bs b) : a = b := by rw [← sb_bs ha, ← sb_bs hb, h]
theorem TableSwaps_true {k : Nat} (hk : Fuel k) (ahead : List api_Op) (key value : List Int) (between : List api_Op) (hn : ahead.length + between.length < 1200000) (hkl : key.length < 3000000) (hvl : value.length < 3000000)
    (hkr : brange key) (hbr : ∀ o ∈ between, brange o.Key) : haulagelaw13_TableSwaps.f k ahead key value between = some true := by
  have h24 : 1099511627776 ≤ k := hk
  obtain ⟨t, et, Rt⟩ := made_eq hk ahead (by omega)
  have hr0 : (run ([], 0) ahead).2 < 1200000 := run_lt (by omega)
  generalize run ([], 0) ahead = s0 at Rt hr0
  have hI0 : Inv s0.1 s0.2 := by obtain ⟨rows, _, _, _, hI⟩ := Rt; exact hI
  unfold haulagelaw13_TableSwaps.f haulagelaw13_get.f
  rw [bind_eq (awake_eq hk), if_pos rfl, bind_eq et, Option.bind_some]
  obtain ⟨t1, e1, R1⟩ := do_step hk (by omega) Rt (api_Op.mk 1 key [] 0)
  rw [bind_eq e1]
  have hright : right (api_Op.mk 1 key [] 0) = keyok (api_Op.mk 1 key [] 0) := by simp [right]
  by_cases hko : keyok (api_Op.mk 1 key [] 0) = true
  · have ha : act s0.1 s0.2 (api_Op.mk 1 key [] 0) = (told s0.2 (bs key) (look (bs key) s0.1), 0, s0.1, s0.2) := by
      unfold act
      rw [if_neg (by rw [hright, hko]; simp), if_neg (by simp), if_pos rfl]
    unfold stepS at R1
    rw [ha] at R1
    rw [ha]
    have R1' : RepS t1 s0 := R1
    rw [if_pos rfl]
    have L := loop_inv (f := fun (s_ : (Option Tab) × Bool × Int) => haulagelaw13_TableSwaps.b3 k key between s_.1 s_.2.1 s_.2.2)
      (I := fun i s => s.2.2 = (i : Int) ∧ RepS s.1 (run s0 (between.take i)) ∧ (s.2.1 = false → look (bs key) (run s0 (between.take i)).1 = look (bs key) s0.1) ∧ (s.2.1 = true → look (bs key) (run s0 (between.take i)).1 = none ∨ ∃ c, look (bs key) (run s0 (between.take i)).1 = some c ∧ (s0.2 : Int) < c.rev))
      (P := fun x => RepS x.1 (run s0 between) ∧ (x.2 = false → look (bs key) (run s0 between).1 = look (bs key) s0.1) ∧ (x.2 = true → look (bs key) (run s0 between).1 = none ∨ ∃ c, look (bs key) (run s0 between).1 = some c ∧ (s0.2 : Int) < c.rev)) (N := between.length) ?_ ?_ between.length 0 (t1, false, 0) k ⟨rfl, R1', fun _ => rfl, fun h => by simp at h⟩ (by omega) (by omega)
    · obtain ⟨⟨u, ch⟩, ex, Ru, hf, ht⟩ := L
      rw [bind_eq ex]
      simp only at Ru hf ht
      have hrs : (run s0 between).2 < 3500000 := by have := run_r between s0; omega
      generalize run s0 between = s at Ru hf ht hrs
      have hI : Inv s.1 s.2 := by obtain ⟨rows, _, _, _, hI⟩ := Ru; exact hI
      unfold haulagelaw13_TableSwaps.j4 haulagelaw13_get.f
      have hrev : (told s0.2 (bs key) (look (bs key) s0.1)).Rev = (look (bs key) s0.1).elim 0 (fun c => c.rev) := by cases look (bs key) s0.1 <;> rfl
      have hdone : (told s0.2 (bs key) (look (bs key) s0.1)).Done = (look (bs key) s0.1).isSome := by cases look (bs key) s0.1 <;> rfl
      have hrange : 0 ≤ (look (bs key) s0.1).elim 0 (fun c => c.rev) ∧ (look (bs key) s0.1).elim 0 (fun c => c.rev) ≤ (s0.2 : Int) := by
        cases hq : look (bs key) s0.1 with
        | none => simp
        | some c => have := hI0.look hq; exact ⟨by show 0 ≤ c.rev; omega, by show c.rev ≤ _; omega⟩
      simp only [hrev, hdone]
      generalize hq0 : look (bs key) s0.1 = q0 at hf hrange
      obtain ⟨u1, eu, Ru1⟩ := do_step hk (by omega) Ru (api_Op.mk 4 key value (q0.elim 0 (fun c => c.rev)))
      rw [bind_eq eu]
      have hsw : right (api_Op.mk 4 key value (q0.elim 0 (fun c => c.rev))) = decide (value.length ≤ 256) := by
        unfold right
        rw [if_pos rfl]
        have : keyok (api_Op.mk 4 key value (q0.elim 0 (fun c => c.rev))) = true := hko
        rw [this, decide_eq_true (show 0 ≤ (api_Op.mk 4 key value (q0.elim 0 (fun c => c.rev))).Rev from hrange.1), decide_eq_true (show (api_Op.mk 4 key value (q0.elim 0 (fun c => c.rev))).Rev ≤ 1099511627776 from by show q0.elim 0 (fun c => c.rev) ≤ _; omega)]
        simp
      by_cases hv : value.length ≤ 256
      · have hact : act s.1 s.2 (api_Op.mk 4 key value (q0.elim 0 (fun c => c.rev))) = if (look (bs key) s.1).elim 0 (fun c => c.rev) = q0.elim 0 (fun c => c.rev) then ({ told ((s.2 : Int) + 1) (bs key) (look (bs key) s.1) with Done := true }, 0, ins (bs key) ⟨value, s.2 + 1⟩ s.1, s.2 + 1) else ({ told ((s.2 : Int) + 1) (bs key) (look (bs key) s.1) with Done := false }, 0, s.1, s.2 + 1) := by
          unfold act
          rw [if_neg (by rw [hsw]; simp [hv]), if_neg (by simp), if_neg (by simp), if_neg (by simp)]
          simp
        have hr2 : (stepS s (api_Op.mk 4 key value (q0.elim 0 (fun c => c.rev)))).2 < 4000000 := by rcases step_r s (api_Op.mk 4 key value (q0.elim 0 (fun c => c.rev))) with h | h <;> omega
        obtain ⟨u2, eu2, Ru2⟩ := do_step hk (by omega) Ru1 (api_Op.mk 1 key [] 0)
        have hget : ∀ s' : St, act s'.1 s'.2 (api_Op.mk 1 key [] 0) = (told s'.2 (bs key) (look (bs key) s'.1), 0, s'.1, s'.2) := by
          intro s'
          unfold act
          rw [if_neg (by rw [hright, hko]; simp), if_neg (by simp), if_pos rfl]
        rw [hget] at eu2
        unfold stepS at eu2
        rw [hact] at eu2
        rw [hact]
        by_cases c : (look (bs key) s.1).elim 0 (fun c => c.rev) = q0.elim 0 (fun c => c.rev)
        · rw [if_pos c] at eu2 ⊢
          rw [if_pos rfl, Option.bind_some, bind_eq eu2, if_pos rfl]
          simp only [look_ins, if_true]
          have e3 : (told ((s.2 + 1 : Nat) : Int) (bs key) (some ⟨value, (s.2 : Int) + 1⟩)) = ⟨true, sb (bs key), value, (s.2 : Int) + 1, ((s.2 + 1 : Nat) : Int)⟩ := rfl
          simp only [e3, if_true]
          rw [bind_eq (same_eq hk _ _ (by omega)), if_pos (by simp), if_pos (by show (s.2 : Int) + 1 = (told ((s.2 : Int) + 1) (bs key) (look (bs key) s.1)).At; cases look (bs key) s.1 <;> rfl)]
          cases ch with
          | false => simp
          | true =>
            rw [if_pos rfl]
            cases q0 with
            | none => simp
            | some c0 =>
              exfalso
              have h0 := hI0.look hq0
              simp only [Option.elim] at c hrange
              rcases ht rfl with h | ⟨c1, h1, h2⟩
              · rw [h] at c; simp only at c; omega
              · rw [h1] at c; simp only at c; omega
        · rw [if_neg c] at eu2 ⊢
          rw [if_pos rfl, Option.bind_some, bind_eq eu2, if_pos rfl]
          rw [if_neg (by simp)]
          cases ch with
          | false => exact absurd (by rw [hf rfl]) c
          | true =>
            rw [if_pos rfl]
            rw [if_pos (by cases look (bs key) s.1 <;> rfl)]
            have hval : (told ((s.2 + 1 : Nat) : Int) (bs key) (look (bs key) s.1)).Value = (told ((s.2 : Int) + 1) (bs key) (look (bs key) s.1)).Value := by cases look (bs key) s.1 <;> rfl
            have hlen : (told ((s.2 + 1 : Nat) : Int) (bs key) (look (bs key) s.1)).Value.length < 4000000000 := by
              cases hq : look (bs key) s.1 with
              | none => simp [told]
              | some c1 => have := hI.look hq; show c1.value.length < _; omega
            rw [bind_eq (same_eq hk _ _ (Or.inl hlen)), if_pos (by simp [hval])]
            by_cases hp : 0 < q0.elim 0 (fun c => c.rev)
            · rw [if_pos hp]
            · rw [if_neg hp]
              cases hq : look (bs key) s.1 with
              | none => rw [hq] at c; exact absurd (by simp only [Option.elim] at hrange hp ⊢; omega) c
              | some c1 => rfl
      · rw [if_neg]
        · simp; omega
        · rw [act_right, hsw]; simp [hv]
    · rintro i ⟨a, ch, j⟩ hi ⟨rfl, r1, r2, r3⟩
      left
      simp only at r1 r2 r3
      have hlt : (run s0 (between.take i)).2 < 4000000 := by
        have := run_r (between.take i) s0
        rw [List.length_take] at this; omega
      obtain ⟨a', ea, ra⟩ := do_step hk (by omega) r1 between[i]
      have htk : run s0 (between.take (i + 1)) = stepS (run s0 (between.take i)) between[i] := by rw [take_one hi, run_snoc]
      rw [htk]
      have hge : s0.2 ≤ (run s0 (between.take i)).2 := run_ge _ _
      generalize run s0 (between.take i) = s at r1 r2 r3 ra ea hlt hge
      have hI : Inv s.1 s.2 := by obtain ⟨rows, _, _, _, hI⟩ := r1; exact hI
      have hmem : between[i] ∈ between := List.getElem_mem hi
      generalize ho : between[i] = o at ea ra hmem
      have hrd : rd between (i : Int) = o := by rw [rd_eq hi, ho]
      show ∃ s', haulagelaw13_TableSwaps.b3 k key between a ch (i : Int) = _ ∧ _
      unfold haulagelaw13_TableSwaps.b3
      rw [if_pos (by omega), if_pos (by omega), hrd, bind_eq ea]
      have keep : ∀ b, b = true → look (bs key) (stepS s o).1 = look (bs key) s.1 → ∃ s', haulagelaw13_TableSwaps.j2 ((act s.1 s.2 o).1, (act s.1 s.2 o).2.1, a') ch (i : Int) b = some (.next s') ∧ s'.2.2 = ((i + 1 : Nat) : Int) ∧ RepS s'.1 (stepS s o) ∧ (s'.2.1 = false → look (bs key) (stepS s o).1 = look (bs key) s0.1) ∧ (s'.2.1 = true → look (bs key) (stepS s o).1 = none ∨ ∃ c, look (bs key) (stepS s o).1 = some c ∧ (s0.2 : Int) < c.rev) := by
        intro b hb hl
        subst hb
        unfold haulagelaw13_TableSwaps.j2
        rw [if_pos rfl, wrS i (by omega), hl]
        exact ⟨_, rfl, rfl, ra, r2, r3⟩
      by_cases hR : right o = true
      · rw [if_pos (by rw [act_right, if_pos hR])]
        rw [if_pos (by omega), bind_eq (writes_eq' o)]
        by_cases hw : isW o = true
        · rw [if_pos hw, if_pos (by omega)]
          have hkk := (right_key hR).1
          rw [bind_eq (same_eq hk _ _ (Or.inl (by omega)))]
          by_cases hkey : o.Key = key
          · have K := act_key hI hR hw
            rw [hkey] at K
            unfold haulagelaw13_TableSwaps.j2
            rw [if_neg (by simp [hkey]), wrS i (by omega)]
            cases ch with
            | true =>
              rw [if_pos rfl]
              refine ⟨_, rfl, rfl, ra, fun h => by simp at h, fun _ => ?_⟩
              cases hd : (act s.1 s.2 o).1.Done with
              | false =>
                show look (bs key) (act s.1 s.2 o).2.2.1 = none ∨ ∃ c, look (bs key) (act s.1 s.2 o).2.2.1 = some c ∧ _
                rw [K.1 hd]; exact r3 rfl
              | true =>
                rcases K.2 hd with h | ⟨c, h1, h2⟩
                · exact Or.inl h
                · exact Or.inr ⟨c, h1, by omega⟩
            | false =>
              rw [if_neg (by simp)]
              refine ⟨_, rfl, rfl, ra, fun hd => ?_, fun hd => ?_⟩
              · show look (bs key) (act s.1 s.2 o).2.2.1 = _
                rw [K.1 hd]; exact r2 rfl
              · rcases K.2 hd with h | ⟨c, h1, h2⟩
                · exact Or.inl h
                · exact Or.inr ⟨c, h1, by omega⟩
          · exact keep _ (by simp [hkey]) (act_other hI (Or.inr (Or.inr (fun h => hkey (bs_inj (hbr o hmem) hkr h)))))
        · rw [if_neg hw]
          exact keep _ rfl (act_other hI (Or.inr (Or.inl (by simpa using hw))))
      · rw [if_neg (by rw [act_right, if_neg hR]; simp)]
        exact keep _ rfl (act_other hI (Or.inl (by simpa using hR)))
    · rintro ⟨a, ch, j⟩ ⟨rfl, r1, r2, r3⟩
      simp only at r1 r2 r3
      rw [List.take_of_length_le (by omega)] at r1 r2 r3
      refine ⟨(a, ch), ?_, r1, r2, r3⟩
      show haulagelaw13_TableSwaps.b3 k key between a ch ((between.length : Nat) : Int) = _
      unfold haulagelaw13_TableSwaps.b3
      rw [if_neg (by omega)]
  · have ha : act s0.1 s0.2 (api_Op.mk 1 key [] 0) = (zeroA, 131, s0.1, s0.2) := by
      unfold act
      rw [if_pos (by rw [hright]; simpa using hko)]
    rw [ha, if_neg (by simp), Option.bind_some, bind_eq (right_eq _), hright]
    simp only [Bool.not_eq_true] at hko
    rw [hko]; rfl
end Go.Proofs.Ytcolmmjcdlmcoaa.G
/-! TableMap. -/
namespace Go.Proofs.Ytcolmmjcdlmcoaa.G
open Go
set_option linter.unusedVariables false
set_option linter.unusedSimpArgs false
def cellOf (ρ : api_Row) : Option table_cell := if ρ.Rev = 0 then none else some ⟨ρ.Value, ρ.Rev⟩
structure Mp (s : St) (R : List api_Row) : Prop where
  dis : ∀ i j (hi : i < R.length) (hj : j < R.length), i ≠ j → R[i].Key ≠ R[j].Key
  rng : ∀ i (hi : i < R.length), brange R[i].Key
  cel : ∀ i (hi : i < R.length), cellOf R[i] = look (bs R[i].Key) s.1
  cov : ∀ e ∈ s.1, ∃ i, ∃ hi : i < R.length, bs R[i].Key = e.1
theorem Mp.set {s s' : St} {R : List api_Row} (h : Mp s R) {n : Nat} (hn : n < R.length) {ρ : api_Row} (hk : ρ.Key = R[n].Key) (h1 : ∀ K, K ≠ bs R[n].Key → look K s'.1 = look K s.1) (h2 : cellOf ρ = look (bs R[n].Key) s'.1)
    (h3 : ∀ e ∈ s'.1, e ∈ s.1 ∨ e.1 = bs R[n].Key) : Mp s' (R.set n ρ) := by
  have key : ∀ i (hi : i < (R.set n ρ).length), (R.set n ρ)[i].Key = (R[i]'(by simpa using hi)).Key := by
    intro i hi
    rw [List.getElem_set]
    split
    · rename_i e; subst e; exact hk
    · rfl
  refine ⟨fun i j hi hj hij => ?_, fun i hi => ?_, fun i hi => ?_, fun e he => ?_⟩
  · rw [key, key]; exact h.dis i j _ _ hij
  · rw [key]; exact h.rng i _
  · have hi' : i < R.length := by simpa using hi
    rw [key]
    by_cases e : n = i
    · subst e
      rw [List.getElem_set, if_pos rfl]; exact h2
    · rw [List.getElem_set, if_neg e, h.cel i hi', h1]
      intro q
      exact h.dis i n hi' hn (Ne.symm e) (bs_inj (h.rng i hi') (h.rng n hn) q)
  · rcases h3 e he with q | q
    · obtain ⟨i, hi, g⟩ := h.cov e q
      exact ⟨i, by simpa using hi, by rw [key]; exact g⟩
    · exact ⟨n, by simpa using hn, by rw [key]; exact q.symm⟩
theorem Mp.push {s : St} {R : List api_Row} (h : Mp s R) {key : List Int} (hr : brange key) (hn : ∀ i (hi : i < R.length), R[i].Key ≠ key) : Mp s (R ++ [⟨key, [], 0⟩]) := by
  have lt : ∀ i (hi : i < (R ++ [api_Row.mk key [] 0]).length), i < R.length ∨ i = R.length := by intro i hi; simp at hi; omega
  have gl : ∀ i (hi : i < R.length) (hi' : i < (R ++ [api_Row.mk key [] 0]).length), (R ++ [api_Row.mk key [] 0])[i] = R[i] := fun i hi hi' => List.getElem_append_left hi
  have gr : ∀ (hi' : R.length < (R ++ [api_Row.mk key [] 0]).length), (R ++ [api_Row.mk key [] 0])[R.length] = ⟨key, [], 0⟩ := fun hi' => by simp
  refine ⟨fun i j hi hj hij => ?_, fun i hi => ?_, fun i hi => ?_, fun e he => ?_⟩
  · rcases lt i hi with a | a <;> rcases lt j hj with b | b
    · rw [gl i a, gl j b]; exact h.dis i j a b hij
    · subst b; rw [gl i a, gr]; exact hn i a
    · subst a; rw [gl j b, gr]; exact Ne.symm (hn j b)
    · omega
  · rcases lt i hi with a | a
    · rw [gl i a]; exact h.rng i a
    · subst a; rw [gr]; exact hr
  · rcases lt i hi with a | a
    · rw [gl i a]; exact h.cel i a
    · subst a; rw [gr]
      show none = look (bs key) s.1
      cases hq : look (bs key) s.1 with
      | none => rfl
      | some c =>
        obtain ⟨i, hi, g⟩ := h.cov _ (look_mem s.1 hq)
        exact absurd (bs_inj (h.rng i hi) hr g) (hn i hi)
  · obtain ⟨i, hi, g⟩ := h.cov e he
    exact ⟨i, by simp; omega, by rw [gl i hi]; exact g⟩
/-! ### finding a row -/
theorem find_eq {k : Nat} (hk : Fuel k) (ops : List api_Op) (i : Nat) (R : List api_Row) (hR : R.length < 3000000) (hi : i < ops.length) (hl : ops[i].Key.length < 4000000) :
    ∃ x, loop (fun (s_ : Int × Int) => haulagelaw13_TableMap.b8 k ops R (i : Int) s_.1 s_.2) k ((-1), 0) = some x ∧ ((x = -1 ∧ ∀ m (hm : m < R.length), R[m].Key ≠ ops[i].Key) ∨ ∃ n, ∃ hn : n < R.length, x = (n : Int) ∧ R[n].Key = ops[i].Key) := by
  have h24 : 1099511627776 ≤ k := hk
  refine loop_inv (f := fun (s_ : Int × Int) => haulagelaw13_TableMap.b8 k ops R (i : Int) s_.1 s_.2)
    (I := fun j q => q.2 = (j : Int) ∧ ((q.1 = -1 ∧ ∀ m (hm : m < R.length), m < j → R[m].Key ≠ ops[i].Key) ∨ ∃ n, ∃ hn : n < R.length, q.1 = (n : Int) ∧ R[n].Key = ops[i].Key)) (N := R.length) ?_ ?_ R.length 0 (-1, 0) k ⟨rfl, Or.inl ⟨rfl, fun m hm h => by omega⟩⟩ (by omega) (by omega)
  · rintro j ⟨a, b⟩ hj ⟨rfl, h⟩
    left
    show ∃ s', haulagelaw13_TableMap.b8 k ops R (i : Int) a (j : Int) = _ ∧ _
    unfold haulagelaw13_TableMap.b8
    rw [if_pos (by omega), if_pos (by omega), rd_eq hj, rd_eq hi, bind_eq (same_eq hk _ _ (Or.inr (by omega)))]
    by_cases c : R[j].Key = ops[i].Key
    · rw [if_pos (by simp [c]), wrS j (by omega)]
      exact ⟨_, rfl, rfl, Or.inr ⟨j, hj, rfl, c⟩⟩
    · rw [if_neg (by simp [c]), wrS j (by omega)]
      refine ⟨_, rfl, rfl, ?_⟩
      rcases h with ⟨h1, h2⟩ | h
      · left
        refine ⟨h1, fun m hm hlt => ?_⟩
        by_cases e : m = j
        · subst e; exact c
        · exact h2 m hm (by omega)
      · exact Or.inr h
  · rintro ⟨a, b⟩ ⟨rfl, h⟩
    refine ⟨a, ?_, ?_⟩
    · show haulagelaw13_TableMap.b8 k ops R (i : Int) a ((R.length : Nat) : Int) = _
      unfold haulagelaw13_TableMap.b8
      rw [if_neg (by omega)]
    · rcases h with ⟨h1, h2⟩ | h
      · exact Or.inl ⟨h1, fun m hm => h2 m hm hm⟩
      · exact Or.inr h
/-! ### one write -/
theorem step_put {s : St} {R : List api_Row} (hM : Mp s R) {n : Nat} (hn : n < R.length) {o : api_Op} (hk : R[n].Key = o.Key) {s' : St} (hs : s'.1 = ins (bs o.Key) ⟨o.Value, (s.2 : Int) + 1⟩ s.1) : Mp s' (R.set n ⟨o.Key, o.Value, (s.2 : Int) + 1⟩) := by
  refine hM.set hn hk.symm (fun K hK => ?_) ?_ (fun e he => ?_)
  · rw [hs, look_ins_ne]; rw [← hk]; exact hK
  · rw [hs, hk, look_ins]
    unfold cellOf
    rw [if_neg (by show ¬ ((s.2 : Int) + 1 = 0); omega)]
  · rw [hs] at he
    rcases mem_ins s.1 he with rfl | h
    · right; rw [hk]
    · exact Or.inl h
theorem step_del {s : St} {R : List api_Row} (hM : Mp s R) (hI : Inv s.1 s.2) {n : Nat} (hn : n < R.length) {o : api_Op} (hk : R[n].Key = o.Key) {s' : St} (hs : s'.1 = del (bs o.Key) s.1) : Mp s' (R.set n ⟨R[n].Key, R[n].Value, 0⟩) := by
  refine hM.set hn rfl (fun K hK => ?_) ?_ (fun e he => ?_)
  · rw [hs]; exact look_del_ne (by rw [← hk]; exact hK) s.1 hI.ord
  · rw [hs, hk, look_del s.1 hI.ord]; rfl
  · rw [hs] at he; exact Or.inl (mem_del s.1 he)
theorem Mp.look {s s' : St} {R : List api_Row} (h : Mp s R) (e : s'.1 = s.1) : Mp s' R := ⟨h.dis, h.rng, by rw [e]; exact h.cel, by rw [e]; exact h.cov⟩
/-- behind the search: what is checked, and what is next -/
theorem write_eq {k : Nat} (hk : Fuel k) (ops : List api_Op) (i : Nat) (hi : i < ops.length) (hb : ops.length < 3000000) {s : St} (hI : Inv s.1 s.2) (hr : s.2 < 4000000) {R : List api_Row} (hM : Mp s R) {n : Nat} (hn : n < R.length)
    (hkey : R[n].Key = ops[i].Key) (hR : right ops[i] = true) (hw : isW ops[i] = true) (t' : Option Tab) :
    ∃ R', haulagelaw13_TableMap.j10 k ops ((act s.1 s.2 ops[i]).1, (act s.1 s.2 ops[i]).2.1, t') (s.2 : Int) (i : Int) R (n : Int) = some (.next (t', R', ((stepS s ops[i]).2 : Int), ((i + 1 : Nat) : Int))) ∧ Mp (stepS s ops[i]) R' ∧ R'.length = R.length := by
  have hrd : rd ops (i : Int) = ops[i] := rd_eq hi
  have hcel := hM.cel n hn
  generalize ho : ops[i] = o at hkey hR hw hrd ⊢
  rw [hkey] at hcel
  have hkk := right_key hR
  have hkind : o.Kind ≠ 5 ∧ o.Kind ≠ 1 := by
    unfold isW at hw
    simp at hw
    omega
  have hk1 := hkk.2.2.1 hkind.1
  have hK : ∀ q c, (told q (bs o.Key) (some c)).Key.length = o.Key.length := fun q c => by show (sb (bs o.Key)).length = _; rw [sb_len, bs_size]
  unfold haulagelaw13_TableMap.j10
  rw [if_pos (by omega)]
  have hRn : rd R (n : Int) = R[n] := rd_eq hn
  rw [hRn]
  -- the answer's row
  have hact : (act s.1 s.2 o).1.Rev = R[n].Rev ∧ (act s.1 s.2 o).1.At = (s.2 : Int) + 1 ∧ (0 < R[n].Rev → (act s.1 s.2 o).1.Value = R[n].Value ∧ 0 < (act s.1 s.2 o).1.Key.length ∧ (act s.1 s.2 o).1.Value.length ≤ 256) ∧ (¬ 0 < R[n].Rev → (act s.1 s.2 o).1.Key = []) ∧
      (act s.1 s.2 o).1 = { told ((s.2 : Int) + 1) (bs o.Key) (look (bs o.Key) s.1) with Done := (act s.1 s.2 o).1.Done } := by
    have base : (told ((s.2 : Int) + 1) (bs o.Key) (look (bs o.Key) s.1)).Rev = R[n].Rev ∧ (told ((s.2 : Int) + 1) (bs o.Key) (look (bs o.Key) s.1)).At = (s.2 : Int) + 1 ∧ (0 < R[n].Rev → (told ((s.2 : Int) + 1) (bs o.Key) (look (bs o.Key) s.1)).Value = R[n].Value ∧ 0 < (told ((s.2 : Int) + 1) (bs o.Key) (look (bs o.Key) s.1)).Key.length ∧ (told ((s.2 : Int) + 1) (bs o.Key) (look (bs o.Key) s.1)).Value.length ≤ 256) ∧ (¬ 0 < R[n].Rev → (told ((s.2 : Int) + 1) (bs o.Key) (look (bs o.Key) s.1)).Key = []) := by
      unfold cellOf at hcel
      by_cases c : R[n].Rev = 0
      · rw [if_pos c] at hcel
        rw [← hcel]
        exact ⟨c.symm, rfl, fun h => by omega, fun _ => rfl⟩
      · rw [if_neg c] at hcel
        have := hI.look hcel.symm
        rw [← hcel]
        exact ⟨rfl, rfl, fun _ => ⟨rfl, by rw [hK]; omega, this.2.2.1⟩, fun h => by have h4 : (1 : Int) ≤ R[n].Rev := this.2.2.2.1; omega⟩
    unfold act
    rw [if_neg (by simp [hR]), if_neg hkind.1, if_neg hkind.2]
    split
    · exact ⟨base.1, base.2.1, base.2.2.1, base.2.2.2, rfl⟩
    · split
      · exact ⟨base.1, base.2.1, base.2.2.1, base.2.2.2, rfl⟩
      · exact ⟨base.1, base.2.1, base.2.2.1, base.2.2.2, rfl⟩
  obtain ⟨a1, a2, a3, a4, a5⟩ := hact
  rw [if_pos a1]
  have j11 : ∃ R', haulagelaw13_TableMap.j11 ops ((act s.1 s.2 o).1, (act s.1 s.2 o).2.1, t') (s.2 : Int) (i : Int) R (n : Int) false = some (.next (t', R', ((stepS s o).2 : Int), ((i + 1 : Nat) : Int))) ∧ Mp (stepS s o) R' ∧ R'.length = R.length := by
    unfold haulagelaw13_TableMap.j11
    rw [if_neg (by simp), hrd]
    have hr1 : ((s.2 + 1 : Nat) : Int) = (s.2 : Int) + 1 := by omega
    have j12 : ∀ b, (act s.1 s.2 o).1.Done = b → (o.Kind = 3 → (stepS s o) = (del (bs o.Key) s.1, s.2 + 1)) → (o.Kind ≠ 3 → b = true → (stepS s o) = (ins (bs o.Key) ⟨o.Value, (s.2 : Int) + 1⟩ s.1, s.2 + 1)) → (o.Kind ≠ 3 → b = false → (stepS s o) = (s.1, s.2 + 1)) →
        ∃ R', haulagelaw13_TableMap.j12 ops ((act s.1 s.2 o).1, (act s.1 s.2 o).2.1, t') (s.2 : Int) (i : Int) R (n : Int) b = some (.next (t', R', ((stepS s o).2 : Int), ((i + 1 : Nat) : Int))) ∧ Mp (stepS s o) R' ∧ R'.length = R.length := by
      intro b hd h3 h4 h5
      unfold haulagelaw13_TableMap.j12
      rw [if_pos (by rw [hd]; simp), hrd, hRn, wrS i (by omega), wrS s.2 (by omega), Int.toNat_natCast]
      by_cases c3 : o.Kind = 3
      · rw [if_pos c3, if_pos (by omega), h3 c3]
        exact ⟨_, rfl, step_del hM hI hn hkey rfl, by simp⟩
      · rw [if_neg c3]
        cases b with
        | true =>
          rw [if_pos rfl, if_pos (by omega), h4 c3 rfl, hr1]
          exact ⟨_, by rfl, step_put hM hn hkey rfl, by simp⟩
        | false =>
          rw [if_neg (by simp), h5 c3 rfl]
          exact ⟨_, rfl, hM.look rfl, rfl⟩
    have hun : act s.1 s.2 o = if o.Kind = 3 then (told ((s.2 : Int) + 1) (bs o.Key) (look (bs o.Key) s.1), 0, del (bs o.Key) s.1, s.2 + 1)
        else if o.Kind = 2 ∨ (look (bs o.Key) s.1).elim 0 (fun c => c.rev) = o.Rev then ({ told ((s.2 : Int) + 1) (bs o.Key) (look (bs o.Key) s.1) with Done := true }, 0, ins (bs o.Key) ⟨o.Value, s.2 + 1⟩ s.1, s.2 + 1)
        else ({ told ((s.2 : Int) + 1) (bs o.Key) (look (bs o.Key) s.1) with Done := false }, 0, s.1, s.2 + 1) := by
      conv => lhs; unfold act
      rw [if_neg (by simp [hR]), if_neg hkind.1, if_neg hkind.2]
    have hel : (look (bs o.Key) s.1).elim 0 (fun c => c.rev) = R[n].Rev := by
      rw [← hcel]; unfold cellOf
      by_cases c : R[n].Rev = 0
      · rw [if_pos c, c]; rfl
      · rw [if_neg c]; rfl
    by_cases c2 : o.Kind = 2
    · rw [if_pos c2]
      have e : act s.1 s.2 o = ({ told ((s.2 : Int) + 1) (bs o.Key) (look (bs o.Key) s.1) with Done := true }, 0, ins (bs o.Key) ⟨o.Value, s.2 + 1⟩ s.1, s.2 + 1) := by
        rw [hun, if_neg (by omega), if_pos (Or.inl c2)]
      refine j12 true (by rw [e]) (fun h => by omega) (fun _ _ => ?_) (fun _ h => by cases h)
      unfold stepS; rw [e]
    · rw [if_neg c2]
      by_cases c3 : o.Kind = 3
      · rw [if_pos c3]
        have e : act s.1 s.2 o = (told ((s.2 : Int) + 1) (bs o.Key) (look (bs o.Key) s.1), 0, del (bs o.Key) s.1, s.2 + 1) := by rw [hun, if_pos c3]
        have hd : (act s.1 s.2 o).1.Done = decide (0 < R[n].Rev) := by
          rw [e, ← hcel]; unfold cellOf
          by_cases c : R[n].Rev = 0
          · rw [if_pos c, c]; rfl
          · rw [if_neg c]
            unfold cellOf at hcel
            rw [if_neg c] at hcel
            have h4 : (1 : Int) ≤ R[n].Rev := (hI.look hcel.symm).2.2.2.1
            rw [decide_eq_true (by omega)]; rfl
        by_cases c : 0 < R[n].Rev
        · rw [if_pos (by show 0 < (act s.1 s.2 o).1.Rev; rw [a1]; exact c)]
          refine j12 true (by rw [hd]; simp [c]) (fun _ => by unfold stepS; rw [e]) (fun h => absurd c3 h) (fun h => absurd c3 h)
        · rw [if_neg (by show ¬ 0 < (act s.1 s.2 o).1.Rev; rw [a1]; exact c), if_neg (by omega)]
          refine j12 false (by rw [hd]; simp [c]) (fun _ => by unfold stepS; rw [e]) (fun h => absurd c3 h) (fun h => absurd c3 h)
      · rw [if_neg c3]
        have c4 : o.Kind = 4 := by omega
        rw [if_pos c4]
        have hrv : ((act s.1 s.2 o).1, (act s.1 s.2 o).2.1, t').1.Rev = R[n].Rev := a1
        rw [hrv]
        by_cases c : R[n].Rev = o.Rev
        · have e : act s.1 s.2 o = ({ told ((s.2 : Int) + 1) (bs o.Key) (look (bs o.Key) s.1) with Done := true }, 0, ins (bs o.Key) ⟨o.Value, s.2 + 1⟩ s.1, s.2 + 1) := by
            rw [hun, if_neg c3, if_pos (Or.inr (by rw [hel]; exact c))]
          rw [decide_eq_true c]
          refine j12 true (by rw [e]) (fun h => by omega) (fun _ _ => ?_) (fun _ h => by cases h)
          unfold stepS; rw [e]
        · have e : act s.1 s.2 o = ({ told ((s.2 : Int) + 1) (bs o.Key) (look (bs o.Key) s.1) with Done := false }, 0, s.1, s.2 + 1) := by
            rw [hun, if_neg c3, if_neg (by rw [hel]; rintro (h | h); exact c2 h; exact c h)]
          rw [decide_eq_false c]
          refine j12 false (by rw [e]) (fun h => by omega) (fun _ h => by cases h) (fun _ _ => ?_)
          unfold stepS; rw [e]
  have hrv : ((act s.1 s.2 o).1, (act s.1 s.2 o).2.1, t').1.Rev = R[n].Rev := a1
  by_cases c : 0 < R[n].Rev
  · obtain ⟨b1, b2, b3⟩ := a3 c
    rw [hrv, if_pos c, if_pos (by omega)]
    have hsame : haulagelaw13_same.f k ((act s.1 s.2 o).1, (act s.1 s.2 o).2.1, t').1.Value R[n].Value = some true := by
      show haulagelaw13_same.f k (act s.1 s.2 o).1.Value R[n].Value = some true
      rw [same_eq hk _ _ (Or.inl (by omega)), b1]; simp
    rw [bind_eq hsame, if_pos rfl, decide_eq_true (show 0 < ((((act s.1 s.2 o).1, (act s.1 s.2 o).2.1, t').1.Key.length : Nat) : Int) by show 0 < (((act s.1 s.2 o).1.Key.length : Nat) : Int); omega), decide_eq_true c]
    exact j11
  · have b := a4 c
    rw [hrv, if_neg c, decide_eq_false c, decide_eq_false (show ¬ 0 < ((((act s.1 s.2 o).1, (act s.1 s.2 o).2.1, t').1.Key.length : Nat) : Int) by show ¬ 0 < (((act s.1 s.2 o).1.Key.length : Nat) : Int); rw [b]; simp)]
    exact j11
end Go.Proofs.Ytcolmmjcdlmcoaa.G
/-! TableMap: the loop; the end. -/
namespace Go.Proofs.Ytcolmmjcdlmcoaa.G
open Go
set_option linter.unusedVariables false
set_option linter.unusedSimpArgs false
theorem act_keep {s : St} {o : api_Op} (h : ¬ (right o = true ∧ isW o = true)) : stepS s o = s := by
  unfold stepS
  by_cases hR : right o = true
  · by_cases hw : isW o = true
    · exact absurd ⟨hR, hw⟩ h
    · have hkind := (right_key hR).2.2.2
      unfold isW at hw
      simp at hw
      unfold act
      rw [if_neg (by simp [hR])]
      split
      · rfl
      · rw [if_pos (by omega)]
  · unfold act
    rw [if_pos (by simpa using hR)]
/-! ### the order of keys as the law asks for it -/
def cm : List Int → List Int → Bool
  | [], [] => false
  | [], _ :: _ => true
  | _ :: _, [] => false
  | a :: x, b :: y => if a = b then cm x y else decide (a < b)
theorem cm_bl : ∀ x y : List UInt8, cm (x.map fun b => (b.toNat : Int)) (y.map fun b => (b.toNat : Int)) = Op.bytesLess x y
  | [], [] => rfl
  | [], _ :: _ => rfl
  | _ :: _, [] => rfl
  | a :: x, b :: y => by
    simp only [List.map_cons, cm, Op.bytesLess]
    by_cases c : a = b
    · subst c
      rw [if_pos rfl, cm_bl x y]
      simp
    · have h1 : ¬ ((a.toNat : Int) = (b.toNat : Int)) := fun h => c (UInt8.toNat_inj.1 (by omega))
      rw [if_neg h1]
      have h2 : (a == b) = false := by simpa using c
      rw [h2, Bool.false_and, Bool.or_false]
      apply decide_eq_decide.2
      rw [UInt8.lt_iff_toNat_lt]
      omega
theorem comes_loop (a b : List Int) (ha : a.length < 4000000) : ∀ (n i m : Nat), i + n = a.length → n < m → i ≤ b.length →
    (∃ x, loop (fun (s_ : Int) => haulagelaw13_comes.b2 a b s_) m (i : Int) = some x ∧ (match x with | .inl _ => haulagelaw13_comes.j3 a b | .inr q => some q) = some (cm (a.drop i) (b.drop i)))
  | _, _, 0, _, h, _ => absurd h (by omega)
  | 0, i, m + 1, h, _, hb => by
    refine ⟨Sum.inl (), loop_done ?_, ?_⟩
    · unfold haulagelaw13_comes.b2 haulagelaw13_comes.j1
      rw [if_neg (by omega), if_neg (by simp)]
    · show haulagelaw13_comes.j3 a b = _
      unfold haulagelaw13_comes.j3
      rw [List.drop_of_length_le (by omega)]
      congr 1
      by_cases c : i < b.length
      · rw [List.drop_eq_getElem_cons c, decide_eq_true (by omega)]; rfl
      · rw [List.drop_of_length_le (by omega), decide_eq_false (by omega)]; rfl
  | n + 1, i, m + 1, h, hm, hb => by
    have hi : i < a.length := by omega
    rw [List.drop_eq_getElem_cons hi]
    by_cases c : i < b.length
    · rw [List.drop_eq_getElem_cons c]
      by_cases e : a[i] = b[i]
      · rw [loop_next (s' := ((i + 1 : Nat) : Int))]
        · have := comes_loop a b ha n (i + 1) m (by omega) (by omega) (by omega)
          simp only [cm, e, if_true]
          exact this
        · unfold haulagelaw13_comes.b2 haulagelaw13_comes.j1
          rw [if_pos (by omega), if_pos (by simp; omega), if_pos (by omega), if_pos (by omega), rd_eq hi, rd_eq c, if_pos e, wrS i (by omega)]
      · refine ⟨Sum.inr (decide (a[i] < b[i])), loop_done ?_, ?_⟩
        · unfold haulagelaw13_comes.b2 haulagelaw13_comes.j1
          rw [if_pos (by omega), if_pos (by simp; omega), if_pos (by omega), if_pos (by omega), rd_eq hi, rd_eq c, if_neg e, if_pos (by omega), if_pos (by omega)]
        · simp only [cm, if_neg e]
    · refine ⟨Sum.inl (), loop_done ?_, ?_⟩
      · unfold haulagelaw13_comes.b2 haulagelaw13_comes.j1
        rw [if_pos (by omega), if_neg (by simp; omega)]
      · show haulagelaw13_comes.j3 a b = _
        unfold haulagelaw13_comes.j3
        rw [List.drop_of_length_le (show b.length ≤ i by omega)]
        congr 1
        rw [decide_eq_false (by omega)]; rfl
theorem comes_eq {k : Nat} (hk : Fuel k) (a b : List Int) (ha : a.length < 4000000) : haulagelaw13_comes.f k a b = some (cm a b) := by
  have h24 : 1099511627776 ≤ k := hk
  obtain ⟨x, e, h⟩ := comes_loop a b ha a.length 0 k (by omega) (by omega) (Nat.zero_le _)
  unfold haulagelaw13_comes.f
  rw [show (0 : Int) = ((0 : Nat) : Int) from rfl, bind_eq e]
  rw [List.drop_zero, List.drop_zero] at h
  cases x <;> exact h
/-! ### how many -/
theorem len_sub {α : Type} [DecidableEq α] : ∀ F G : List α, F.Nodup → (∀ x ∈ F, x ∈ G) → F.length ≤ G.length
  | [], G, _, _ => Nat.zero_le _
  | x :: F, G, hn, hs => by
    rw [List.nodup_cons] at hn
    have hx := hs x (by simp)
    have := len_sub F (G.erase x) hn.2 (fun y hy => (List.mem_erase_of_ne (fun e => hn.1 (by rw [← e]; exact hy))).2 (hs y (by simp [hy])))
    rw [List.length_erase_of_mem hx] at this
    have := List.length_pos_of_mem hx
    simp only [List.length_cons]; omega
def live (R : List api_Row) : List api_Row := R.filter fun ρ => decide (ρ.Rev ≠ 0)
theorem Mp.count {s : St} {R : List api_Row} (h : Mp s R) (hI : Inv s.1 s.2) : (live R).length = s.1.length := by
  have hpw : R.Pairwise fun a b => bs a.Key ≠ bs b.Key := by
    rw [List.pairwise_iff_getElem]
    intro i j hi hj hij q
    exact h.dis i j hi hj (by omega) (bs_inj (h.rng i hi) (h.rng j hj) q)
  have n1 : ((live R).map fun ρ => bs ρ.Key).Nodup := by
    unfold List.Nodup
    rw [List.pairwise_map]
    exact hpw.filter _
  have n2 : (s.1.map fun e => e.1).Nodup := by
    unfold List.Nodup
    rw [List.pairwise_map]
    exact hI.ord.imp (fun {a b} h => lt_ne h)
  have s1 : ∀ x ∈ (live R).map fun ρ => bs ρ.Key, x ∈ s.1.map fun e => e.1 := by
    intro x hx
    obtain ⟨ρ, hρ, rfl⟩ := List.mem_map.1 hx
    obtain ⟨hρ1, hρ2⟩ := List.mem_filter.1 hρ
    obtain ⟨i, hi, rfl⟩ := List.getElem_of_mem hρ1
    have hc := h.cel i hi
    unfold cellOf at hc
    rw [if_neg (by simpa using hρ2)] at hc
    exact List.mem_map.2 ⟨_, look_mem s.1 hc.symm, rfl⟩
  have s2 : ∀ x ∈ s.1.map fun e => e.1, x ∈ (live R).map fun ρ => bs ρ.Key := by
    intro x hx
    obtain ⟨e, he, rfl⟩ := List.mem_map.1 hx
    obtain ⟨i, hi, g⟩ := h.cov e he
    have hc := h.cel i hi
    rw [g, mem_look (k := e.1) (x := e.2) s.1 hI.ord he] at hc
    refine List.mem_map.2 ⟨R[i], List.mem_filter.2 ⟨List.getElem_mem hi, ?_⟩, g⟩
    unfold cellOf at hc
    by_cases c : R[i].Rev = 0
    · rw [if_pos c] at hc; cases hc
    · simpa using c
  have l1 := len_sub _ _ n1 s1
  have l2 := len_sub _ _ n2 s2
  simp only [List.length_map] at l1 l2
  omega
theorem live_snoc {R : List api_Row} {j : Nat} (hj : j < R.length) : (live (R.take (j + 1))).length = (live (R.take j)).length + (if R[j].Rev = 0 then 0 else 1) := by
  rw [take_one hj]
  unfold live
  rw [List.filter_append, List.length_append]
  congr 1
  by_cases c : R[j].Rev = 0
  · simp [c]
  · simp [c]
/-! ### a row is among those told -/
theorem among_eq {k : Nat} (hk : Fuel k) {s : St} (hI : Inv s.1 s.2) (hs : s.2 < 4000000) (R : List api_Row) (i : Nat) (hi : i < R.length) (hm : R[i] ∈ s.1.map rowOf) :
    loop (fun (s_ : Bool × Int) => haulagelaw13_TableMap.b15 k R (s.1.map rowOf) (i : Int) s_.1 s_.2) k (false, 0) = some true := by
  have h24 : 1099511627776 ≤ k := hk
  have hlen := hI.len
  have hml : (s.1.map rowOf).length = s.1.length := by simp
  have L := loop_inv (f := fun (s_ : Bool × Int) => haulagelaw13_TableMap.b15 k R (s.1.map rowOf) (i : Int) s_.1 s_.2)
    (I := fun j q => q.2 = (j : Int) ∧ (q.1 = true ∨ ∀ m (hm : m < (s.1.map rowOf).length), m < j → (s.1.map rowOf)[m] ≠ R[i])) (P := fun x => x = true) (N := s.1.length) ?_ ?_ s.1.length 0 (false, 0) k ⟨rfl, Or.inr (fun m hm h => by omega)⟩ (by omega) (by omega)
  · obtain ⟨x, ex, rfl⟩ := L
    exact ex
  · rintro j ⟨b, q⟩ hj ⟨rfl, h⟩
    left
    simp only at h
    have hj' : j < (s.1.map rowOf).length := by omega
    show ∃ s', haulagelaw13_TableMap.b15 k R (s.1.map rowOf) (i : Int) b (j : Int) = _ ∧ _
    unfold haulagelaw13_TableMap.b15
    rw [if_pos (by omega)]
    cases b with
    | true =>
      rw [if_pos rfl, wrS j (by omega)]
      exact ⟨_, rfl, rfl, Or.inl rfl⟩
    | false =>
      rw [if_neg (by simp), if_pos (by omega), if_pos (by omega), rd_eq hj', rd_eq hi]
      have hE := hI.ent _ (List.getElem_mem hj)
      have hsz : (s.1.map rowOf)[j].Key.length < 4000000000 ∧ (s.1.map rowOf)[j].Value.length < 4000000000 := by
        rw [List.getElem_map]
        exact ⟨by show (sb _).length < _; rw [sb_len]; omega, by show s.1[j].2.value.length < _; omega⟩
      rw [bind_eq (sameRow_eq hk _ _ (Or.inl hsz.1) (Or.inl hsz.2)), wrS j (by omega)]
      refine ⟨_, rfl, rfl, ?_⟩
      by_cases c : (s.1.map rowOf)[j] = R[i]
      · exact Or.inl (by simp [c])
      · right
        intro m hm hlt
        by_cases e : m = j
        · subst e; exact c
        · rcases h with h | h
          · cases h
          · exact h m hm (by omega)
  · rintro ⟨b, q⟩ ⟨rfl, h⟩
    simp only at h
    refine ⟨b, ?_, ?_⟩
    · show haulagelaw13_TableMap.b15 k R (s.1.map rowOf) (i : Int) b ((s.1.length : Nat) : Int) = _
      unfold haulagelaw13_TableMap.b15
      rw [if_neg (by omega)]
    · rcases h with h | h
      · exact h
      · obtain ⟨m, hm', e⟩ := List.getElem_of_mem hm
        exact absurd e (h m hm' (by omega))
theorem end_eq {k : Nat} (hk : Fuel k) {s : St} {t : Option Tab} (hT : RepS t s) (hs : s.2 < 4000000) {R : List api_Row} (hM : Mp s R) (hR : R.length < 4000000) : haulagelaw13_TableMap.j14 k t R (s.2 : Int) = some true := by
  have h24 : 1099511627776 ≤ k := hk
  have hI : Inv s.1 s.2 := by obtain ⟨rows, _, _, _, hI⟩ := hT; exact hI
  have hlen := hI.len
  have hml : (s.1.map rowOf).length = s.1.length := by simp
  have hcount := hM.count hI
  unfold haulagelaw13_TableMap.j14
  rw [bind_eq (Rows_eq (by omega) hT)]
  have L := loop_inv (f := fun (s_ : Int × Int) => haulagelaw13_TableMap.b17 k R (s.1.map rowOf) s_.1 s_.2)
    (I := fun j q => q.2 = (j : Int) ∧ q.1 = ((live (R.take j)).length : Int)) (P := fun x => x = Sum.inl (s.1.length : Int)) (N := R.length) ?_ ?_ R.length 0 (0, 0) k ⟨rfl, rfl⟩ (by omega) (by omega)
  · obtain ⟨x, ex, rfl⟩ := L
    rw [bind_eq ex]
    show haulagelaw13_TableMap.j18 k t (s.2 : Int) (s.1.map rowOf) (s.1.length : Int) = some true
    unfold haulagelaw13_TableMap.j18
    have L2 := loop_inv (f := fun (s_ : Int) => haulagelaw13_TableMap.b19 k (s.1.map rowOf) s_) (I := fun j q => q = ((j + 1 : Nat) : Int)) (P := fun x => x = Sum.inl ()) (N := s.1.length - 1) ?_ ?_ (s.1.length - 1) 0 1 k rfl (by omega) (by omega)
    · obtain ⟨x, ex2, rfl⟩ := L2
      rw [bind_eq ex2]
      show haulagelaw13_TableMap.j20 t (s.2 : Int) (s.1.map rowOf) (s.1.length : Int) = some true
      unfold haulagelaw13_TableMap.j20
      rw [if_pos (by rw [hml]), bind_eq (Len_eq hT), if_pos rfl, bind_eq (Rev_eq hT)]
      simp
    · rintro j q hj rfl
      left
      have hj1 : j + 1 < s.1.length := by omega
      have hj0 : j < s.1.length := by omega
      show ∃ s', haulagelaw13_TableMap.b19 k (s.1.map rowOf) (((j + 1 : Nat)) : Int) = _ ∧ _
      unfold haulagelaw13_TableMap.b19
      have e1 : IntKind.i64.wrap (((j + 1 : Nat) : Int) - 1) = (j : Int) := by rw [wr (by omega) (by omega)]; omega
      rw [e1, if_pos (by omega), if_pos (by omega), if_pos (by omega), rd_eq (show j < (s.1.map rowOf).length by omega), rd_eq (show j + 1 < (s.1.map rowOf).length by omega)]
      have hE := hI.ent _ (List.getElem_mem hj0)
      have hlt : lt s.1[j].1 s.1[j + 1].1 = true := by
        have := hI.ord
        unfold Ord at this
        rw [List.pairwise_iff_getElem] at this
        exact this j (j + 1) hj0 hj1 (by omega)
      have hcm : cm ((s.1.map rowOf)[j]'(by omega)).Key ((s.1.map rowOf)[j + 1]'(by omega)).Key = true := by
        rw [List.getElem_map, List.getElem_map]
        show cm (sb s.1[j].1) (sb s.1[j + 1].1) = true
        unfold lt at hlt
        rw [ByteArray.toList_eq, ByteArray.toList_eq] at hlt
        unfold sb
        rw [cm_bl]; exact hlt
      rw [bind_eq (comes_eq hk _ _ (by rw [List.getElem_map]; show (sb s.1[j].1).length < _; rw [sb_len]; omega)), hcm, if_pos rfl, wrS (j + 1) (by omega)]
      exact ⟨_, rfl, rfl⟩
    · rintro q rfl
      refine ⟨_, ?_, rfl⟩
      show haulagelaw13_TableMap.b19 k (s.1.map rowOf) (((s.1.length - 1 + 1 : Nat)) : Int) = _
      unfold haulagelaw13_TableMap.b19
      rw [if_neg (by omega)]
  · rintro j ⟨a, b⟩ hj ⟨rfl, ha⟩
    left
    simp only at ha
    subst ha
    have hle : (live (R.take j)).length ≤ R.length := by
      unfold live
      have h1 := List.length_filter_le (fun ρ : api_Row => decide (ρ.Rev ≠ 0)) (R.take j)
      rw [List.length_take] at h1; omega
    show ∃ s', haulagelaw13_TableMap.b17 k R (s.1.map rowOf) ((live (R.take j)).length : Int) (j : Int) = _ ∧ _
    unfold haulagelaw13_TableMap.b17
    rw [if_pos (by omega), if_pos (by omega), rd_eq hj]
    have hl := live_snoc hj
    by_cases c : R[j].Rev = 0
    · rw [if_pos c, wrS j (by omega)]
      rw [if_pos c] at hl
      exact ⟨_, rfl, rfl, by rw [hl]; rfl⟩
    · rw [if_neg c]
      rw [if_neg c] at hl
      have hc := hM.cel j hj
      unfold cellOf at hc
      rw [if_neg c] at hc
      have hmem : R[j] ∈ s.1.map rowOf := by
        refine List.mem_map.2 ⟨_, look_mem s.1 hc.symm, ?_⟩
        unfold rowOf
        simp only
        rw [sb_bs (hM.rng j hj)]
      rw [bind_eq (among_eq hk hI hs R j hj hmem)]
      unfold haulagelaw13_TableMap.j16
      rw [if_pos rfl, wrS _ (by omega), wrS j (by omega)]
      exact ⟨_, rfl, rfl, by rw [hl]⟩
  · rintro ⟨a, b⟩ ⟨rfl, ha⟩
    simp only at ha
    rw [List.take_length, hcount] at ha
    subst ha
    refine ⟨_, ?_, rfl⟩
    show haulagelaw13_TableMap.b17 k R (s.1.map rowOf) (s.1.length : Int) ((R.length : Nat) : Int) = _
    unfold haulagelaw13_TableMap.b17
    rw [if_neg (by omega)]
theorem TableMap_true {k : Nat} (hk : Fuel k) (ops : List api_Op) (hn : ops.length < 3000000) (hbr : ∀ o ∈ ops, brange o.Key) : haulagelaw13_TableMap.f k ops = some true := by
  have h24 : 1099511627776 ≤ k := hk
  obtain ⟨t, et, Rt⟩ := new_rep
  unfold haulagelaw13_TableMap.f
  rw [bind_eq (awake_eq hk), if_pos rfl, bind_eq et]
  have L := loop_inv (f := fun (s_ : (Option Tab) × (List api_Row) × Int × Int) => haulagelaw13_TableMap.b13 k ops s_.1 s_.2.1 s_.2.2.1 s_.2.2.2)
    (I := fun i q => q.2.2.2 = (i : Int) ∧ RepS q.1 (run ([], 0) (ops.take i)) ∧ q.2.2.1 = ((run ([], 0) (ops.take i)).2 : Int) ∧ Mp (run ([], 0) (ops.take i)) q.2.1 ∧ q.2.1.length ≤ i)
    (P := fun x => ∃ y, x = Sum.inl y ∧ RepS y.1 (run ([], 0) ops) ∧ y.2.2 = ((run ([], 0) ops).2 : Int) ∧ Mp (run ([], 0) ops) y.2.1 ∧ y.2.1.length ≤ ops.length) (N := ops.length) ?_ ?_ ops.length 0 (t, [], 0, 0) k
      ⟨rfl, Rt, rfl, ⟨fun i j hi => by simp at hi, fun i hi => by simp at hi, fun i hi => by simp at hi, fun e he => by simp [run] at he⟩, Nat.le_refl _⟩ (by omega) (by omega)
  · obtain ⟨x, ex, ⟨u, R, rev⟩, rfl, Ru, hrev, hM, hl⟩ := L
    rw [bind_eq ex]
    simp only at Ru hrev hM hl
    subst hrev
    have hs : (run ([], 0) ops).2 < 4000000 := run_lt (by omega)
    exact end_eq hk Ru hs hM (Nat.lt_of_le_of_lt hl (by omega))
  · rintro i ⟨u, R, rev, j⟩ hi ⟨rfl, r1, hrev, hM, hl⟩
    left
    simp only at r1 hrev hM hl
    subst hrev
    have hlt : (run ([], 0) (ops.take i)).2 < 4000000 := run_lt (by rw [List.length_take]; omega)
    obtain ⟨u', eu, ru⟩ := do_step hk (by omega) r1 ops[i]
    have htk : run ([], 0) (ops.take (i + 1)) = stepS (run ([], 0) (ops.take i)) ops[i] := by rw [take_one hi, run_snoc]
    rw [htk]
    generalize run ([], 0) (ops.take i) = s at r1 hM ru eu hlt
    have hI : Inv s.1 s.2 := by obtain ⟨rows, _, _, _, hI⟩ := r1; exact hI
    have hrd : rd ops (i : Int) = ops[i] := rd_eq hi
    show ∃ s', haulagelaw13_TableMap.b13 k ops u R (s.2 : Int) (i : Int) = _ ∧ _
    unfold haulagelaw13_TableMap.b13
    rw [if_pos (by omega), if_pos (by omega), hrd, bind_eq eu]
    have skip : ∀ b, b = true → ¬ (right ops[i] = true ∧ isW ops[i] = true) → ∃ s', haulagelaw13_TableMap.j7 k ops ((act s.1 s.2 ops[i]).1, (act s.1 s.2 ops[i]).2.1, u') R (s.2 : Int) (i : Int) b = some (.next s') ∧ s'.2.2.2 = ((i + 1 : Nat) : Int) ∧ RepS s'.1 (stepS s ops[i]) ∧ s'.2.2.1 = ((stepS s ops[i]).2 : Int) ∧ Mp (stepS s ops[i]) s'.2.1 ∧ s'.2.1.length ≤ i + 1 := by
      intro b hb hnot
      subst hb
      rw [act_keep hnot] at ru ⊢
      unfold haulagelaw13_TableMap.j7
      rw [if_pos rfl, wrS i (by omega)]
      exact ⟨_, rfl, rfl, ru, rfl, hM, Nat.le_succ_of_le hl⟩
    by_cases hR : right ops[i] = true
    · rw [if_pos (by rw [act_right, if_pos hR]), bind_eq (writes_eq' _)]
      by_cases hw : isW ops[i] = true
      · rw [hw]
        unfold haulagelaw13_TableMap.j7
        rw [if_neg (by simp)]
        have hkey := (right_key hR).1
        have hval := (right_key hR).2.1
        obtain ⟨x, ex, hx⟩ := find_eq hk ops i R (by omega) hi (by omega)
        rw [bind_eq ex]
        have fin : ∀ (R1 : List api_Row) (n : Nat) (hn1 : n < R1.length), Mp s R1 → R1[n].Key = ops[i].Key → R1.length ≤ i + 1 → ∃ s', haulagelaw13_TableMap.j10 k ops ((act s.1 s.2 ops[i]).1, (act s.1 s.2 ops[i]).2.1, u') (s.2 : Int) (i : Int) R1 (n : Int) = some (.next s') ∧ s'.2.2.2 = ((i + 1 : Nat) : Int) ∧ RepS s'.1 (stepS s ops[i]) ∧ s'.2.2.1 = ((stepS s ops[i]).2 : Int) ∧ Mp (stepS s ops[i]) s'.2.1 ∧ s'.2.1.length ≤ i + 1 := by
          intro R1 n hn1 hM1 hk1 hl1
          obtain ⟨R', e', hM', hl'⟩ := write_eq hk ops i hi hn hI (by omega) hM1 hn1 hk1 hR hw u'
          exact ⟨_, e', rfl, ru, rfl, hM', by show R'.length ≤ _; omega⟩
        unfold haulagelaw13_TableMap.j9
        rcases hx with ⟨rfl, hno⟩ | ⟨n, hnlt, rfl, hkn⟩
        · rw [if_pos (by omega), hrd, if_pos (by simp; omega)]
          have e1 : IntKind.i64.wrap (((R ++ [api_Row.mk ops[i].Key [] 0]).length : Int) - 1) = ((R.length : Nat) : Int) := by
            have el : (R ++ [api_Row.mk ops[i].Key [] 0]).length = R.length + 1 := by simp
            rw [el, wr (by omega) (by omega)]; omega
          rw [e1]
          exact fin _ R.length (by simp) (hM.push (hbr _ (List.getElem_mem hi)) hno) (by simp) (by simp; omega)
        · rw [if_neg (by omega)]
          exact fin R n hnlt hM hkn (by omega)
      · rw [show (!isW ops[i]) = true by simpa using hw]
        exact skip true rfl (fun h => hw h.2)
    · rw [if_neg (by rw [act_right, if_neg hR]; simp)]
      exact skip true rfl (fun h => hR h.1)
  · rintro ⟨u, R, rev, j⟩ ⟨rfl, r1, hrev, hM, hl⟩
    simp only at r1 hrev hM hl
    rw [List.take_of_length_le (Nat.le_refl _)] at r1 hrev hM
    refine ⟨Sum.inl (u, R, rev), ?_, _, rfl, r1, hrev, hM, hl⟩
    show haulagelaw13_TableMap.b13 k ops u R rev ((ops.length : Nat) : Int) = _
    unfold haulagelaw13_TableMap.b13
    rw [if_neg (by omega)]
end Go.Proofs.Ytcolmmjcdlmcoaa.G
/- The row of 'TableMap' (its '..UptoSaid'): whatever the input of bulk at most 1048576, the law returns true and the input reads as it did. -/
namespace Go.Proofs.Ytcolmmjcdlmcoaa.tableMap
open Go.ChangeShapes Go.WideShapes Go.ChangeAt Go.RowKit
set_option linter.unusedVariables false
set_option maxRecDepth 100000 in
theorem contract (H : Type) (enc : TypeId × Value → H) (W : World) (base : Nat) (args : Array Value) (ds gs : List (DataW H)) (before : List MemPlace)
    (hval : ∀ (j : Nat) t v, Try.f7.params[j]? = some t → args[j]? = some v → Value.okWide Try.prog W .any base t v)
    (hW : DataW.Whole enc Try.prog Try.f7.params.toList Rows.tableMapSpec.vars false W args.toList ds gs before) (hk : Rows.uptoSmall H (ds ++ gs) = true) :
    Calls Try.prog 7 args W fun e W' => ∃ v, e = .returned v ∧ Rows.tableMapSpec.post enc Try.prog Try.f7 false true false false W args v W' := by
  have hW' := hW
  obtain ⟨p, q, hA0, hV, rfl, hfz, hnd⟩ := hW
  have hA : DataW.TrodAll enc Try.prog W 0 (fun _ => true) true Try.f7.params.toList args.toList ds p := hA0
  rw [Try.params7] at hA hval
  obtain ⟨v0, vs0, d0, ds0, p0, q0, hargs, rfl, rfl, h0, r0⟩ := trodAll_cons hA
  obtain ⟨rfl, rfl, rfl⟩ := trodAll_nil r0
  obtain rfl : args = #[v0] := by cases args; simp_all
  obtain ⟨rfl, rfl⟩ := trodVars_none hV
  have k0 := h0
  have lt0 : ∀ x ∈ p0, x.block < W.heap.size := by obtain ⟨m, hm⟩ := k0; exact DataW.trod_lt m _ _ _ hm
  obtain ⟨A0, C0, a0, rfl, s0, b0, o0⟩ := G.arg_ops (okWide_slice Try.underlying22 (hval 0 22 v0 rfl rfl)) h0
  have l0 := G.opsum_len a0
  have hb : Rows.uptoBulkAll [d0] ≤ 1048576 := of_decide_eq_true hk
  simp only [Rows.uptoBulkAll] at hb
  refine (G.haulagelaw13_TableMap.calls 1099511627776 (m := 1) (c0 := G.c0) (w0 := W) (Nat.lt_succ_self 0) (fun _ _ => Nat.lt_succ_self 0) s0 true (G.TableMap_true (k := 1099511627776) (Nat.le_refl _) a0 (by omega) (fun o ho n hn => ((o0 o ho).1 n hn).range))).mono fun e W' ⟨c_, he, ev_, _⟩ => ?_
  subst he
  have bel : Below W.heap.size W W' := G.Ev.below ev_
  exact ⟨_, rfl, _, _, _, [], _, [], hW', trodAll_mk1 (shut_bool Try.underlying4 _), (trodAll_cons_mk (Below.trod G.row_laidOut (by kernel_rfl) (of_decide_eq_true (by kernel_rfl)) k0 bel lt0) trodAll_mk0), rfl, bel.frame _, fun h => by cases h⟩
set_option maxRecDepth 100000 in
theorem lifted (os : Os) (started : os.Started) (H : Type) (enc : TypeId × Value → H) (F : Stop.Interp) :
    ReturnsInHanded {} Try.checked os 7 .any ((Rows.OpenSpec.upto Rows.tableMapSpec).pre6 enc Try.prog Try.f7 Rows.tableMapUptoRow.domain false) (((Rows.OpenSpec.upto Rows.tableMapSpec).at F).post enc Try.prog Try.f7 false true false false) := by
  refine returnsInHanded_of_cond (C := Try.checked) (s := Rows.OpenSpec.upto Rows.tableMapSpec) (k := Rows.uptoSmall) rfl G.row_own started (by kernel_rfl) Try.func7
    (OpenSpec.witness (enc := enc) (C := Try.checked) (s := Rows.OpenSpec.upto Rows.tableMapSpec) (k := Rows.uptoSmall) rfl false ⟨#[], #[.slice none 0 0], []⟩ 8 (by kernel_rfl) (by kernel_rfl) (by kernel_rfl)
      (x := ([.nil], [], [])) (by kernel_rfl) rfl (by kernel_rfl)) ?_
  intro W base args ds gs before hval hW _ hk _
  exact contract H enc W base args ds gs before hval hW hk
theorem over : Rows.tableMapUptoRow.holds Try.pinned (Rows.OpenSpec.upto Rows.tableMapSpec) :=
  OpenClaim.holds_of_cond 7 Try.f7 rfl rfl rfl rfl rfl rfl rfl ⟨rfl, rfl, rfl, rfl, rfl⟩ rfl rfl rfl rfl rfl (by kernel_rfl) Try.func7 (by kernel_rfl)
    (of_decide_eq_true (by kernel_rfl)) (by unfold Func.isWrapper; first | (rw [if_pos (by decide +kernel)]; kernel_rfl) | (rw [if_neg (by decide +kernel)]; exact ⟨rfl, rfl⟩))
    (fun os started H enc _ F => lifted os started H enc F)
theorem proved : Rows.TableMapUptoSaid := over
end Go.Proofs.Ytcolmmjcdlmcoaa.tableMap
namespace Go.Proofs.Ytcolmmjcdlmcoaa
/-- The row, under a short name, for the claim. -/
theorem tableMap_holds : Rows.TableMapUptoSaid := tableMap.proved
end Go.Proofs.Ytcolmmjcdlmcoaa
