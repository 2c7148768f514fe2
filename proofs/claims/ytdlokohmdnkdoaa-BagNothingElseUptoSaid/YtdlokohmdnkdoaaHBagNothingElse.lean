/- The row of 'BagNothingElse', its '..UptoSaid': whatever the input of bulk at most 1048576, the law returns true and the input reads as it did; its condition: that bulk. -/
import Derived.Test.YtdlokohmdnkdoaaHBagNothingElseA
import Derived.Test.YtdlokohmdnkdoaaHBagNothingElseB
import Derived.Test.YtdlokohmdnkdoaaRows
import Derived.Deep.Slices
import Derived.ChangeArms
import Derived.KernelRfl
import Derived.Laws.OwnMore
import Derived.WalkKit
import Derived.ProofKit
import Derived.OpenShut
import Derived.JoinedCond
import Derived.Below
import Derived.ChangeOld
namespace Go.Proofs.Ytdlokohmdnkdoaa.G
open Go Go.RowKit
set_option linter.unusedVariables false
set_option linter.unusedSimpArgs false
set_option maxRecDepth 100000 in
set_option maxHeartbeats 4000000 in
theorem haulagelaw20_BagNothingElse.calls (k : Nat) {m : Nat} {c0 : Nat → Nat} {w0 : World} {A2 : Option Addr} {C3 : Nat} {a1 : List haulagelaw20_Op} (hm0 : 0 < m) (B0 : CB m c0 w0) (h4 : SL false K_haulagelaw20_Op 0 0 c0 w0 A2 C3 a1) (r : Bool) (H : haulagelaw20_BagNothingElse.f k a1 = some r) : Calls Try.prog 7 #[.slice A2 a1.length C3] w0 (fun e w_ => ∃ (c_ : Nat → Nat), e = .returned (.bool r) ∧ Ev (fun x => False) c0 w0 c_ w_ ∧ CB m c_ w_) := by
  unfold haulagelaw20_BagNothingElse.f at H
  have B := B0.mono (show m ≤ m + 9 by omega)
  have E : Ev (fun x => False ∨ m ≤ x) c0 w0 c0 w0 := Ev.refl
  refine enter (N := 306) (l := [.slice A2 a1.length C3]) Try.func7 rfl rfl (Nat.le_of_ble_eq_true rfl) fun a F => ?_
  refine wp_seq_k fun K5 hK5 => ?_
  refine reg ?_
  refine q_val F rfl rfl (by decide) (r_assign F rfl) fun a F => ?_
  refine nil ?_
  refine hK5 _ _ ?_
  refine wp_seq_k fun K6 hK6 => ?_
  refine wp_seq_k fun K7 hK7 => ?_
  refine reg ?_
  replace H := bind_some H
  obtain ⟨t8, q9, H⟩ := H
  refine q_call F rfl rfl (by decide) (r_call F Try.func8 rfl (by kernel_rfl) rfl) (haulagelaw20_known.calls (m := m + 9) (Nat.add_pos_left hm0 _) B _ q9) ?_
  rintro e w11 ⟨c10, rfl, E12, B13⟩
  refine ⟨_, rfl, fun a F => ?_⟩
  have B := B13
  replace h4 := SL.ev h4 E12 (fun q => q.elim) (fun q => q.elim)
  replace E := E.trans E12 (fun x q => q.elim)
  refine q_val F rfl rfl (by decide) (r_not F rfl) fun a F => ?_
  refine nil ?_
  refine hK7 _ _ ?_
  by_cases hb15 : t8 = true
  · replace H := (if_pos hb15).symm.trans H
    refine wp_cond_false ((F.ev rfl).trans (congrArg Value.bool (congrArg not hb15))) ?_
    refine wp_skip ?_
    refine hK6 _ _ ?_
    refine wp_seq_k fun K17 hK17 => ?_
    refine reg ?_
    replace H := bind_some H
    obtain ⟨t18, q19, H⟩ := H
    refine q_call F rfl rfl (by decide) (r_call F Try.func9 rfl (by kernel_rfl) rfl) (bag_New.calls (m := m + 9) (Nat.add_pos_left hm0 _) B (m + 1) (Nat.add_lt_add_left (by decide) m) (m + 2) (Nat.add_lt_add_left (by decide) m) _ q19) ?_
    rintro e w21 ⟨c20, p24, rfl, E22, B23, h25⟩
    refine ⟨_, rfl, fun a F => ?_⟩
    have B := B23
    replace h4 := SL.ev h4 E22 (fun q => q.elim) (fun q => q.elim)
    replace E := E.trans E22 (fun x q => q.elim)
    refine q_val F rfl rfl (by decide) (r_assign F rfl) fun a F => ?_
    refine nil ?_
    refine hK17 _ _ ?_
    refine wp_seq_k fun K27 hK27 => ?_
    refine reg ?_
    refine q_val F rfl rfl (by decide) (r_assign F rfl) fun a F => ?_
    refine nil ?_
    refine hK27 _ _ ?_
    refine wp_seq_k fun K28 hK28 => ?_
    refine reg ?_
    refine q_val F rfl rfl (by decide) (r_assign F rfl) fun a F => ?_
    refine nil ?_
    refine hK28 _ _ ?_
    refine wp_seq_k fun K29 hK29 => ?_
    refine reg ?_
    refine q_val F rfl rfl (by decide) (r_assign F rfl) fun a F => ?_
    refine nil ?_
    refine hK29 _ _ ?_
    refine wp_seq_k fun K30 hK30 => ?_
    refine wp_seq_k fun K31 hK31 => ?_
    refine reg ?_
    refine q_val F rfl rfl (by decide) (r_assign F rfl) fun a F => ?_
    refine nil ?_
    refine hK31 _ _ ?_
    refine wp_block ?_
    obtain ⟨x285, HL, HR284⟩ := bind_some H
    have J585 : ∀ (c586 : Nat → Nat) (w587 : World) (a : Act) (o580 : Option Bag) (l582 : List api_Letter) (A583 : Option Addr) (C584 : Nat), Fr a 306 [(3, .pointer p24), (4, .slice A583 l582.length C584)] → Ev (fun x => False ∨ m ≤ x) c0 w0 c586 w587 → CB (m + 9) c586 w587 → BG (m + 1) (m + 2) c586 w587 p24 o580 → SL true K_api_Letter (m + 4) 0 c586 w587 A583 C584 l582 → haulagelaw20_BagNothingElse.j10 k o580 l582 = some r → K30 a w587 := by
      intro c586 w587 a o580 l582 A583 C584 F E B h579 h581 H
      unfold haulagelaw20_BagNothingElse.j10 at H
      refine hK30 _ _ ?_
      refine wp_seq_k fun K588 hK588 => ?_
      refine reg ?_
      refine q_val F rfl rfl (by decide) (r_move F rfl) fun a F => ?_
      replace H := bind_some H
      obtain ⟨t589, q590, H⟩ := H
      refine q_call F rfl rfl (by decide) (r_call F Try.func15 rfl (by kernel_rfl) rfl) (bag_Bag_Waiting.calls (m := m + 9) (Nat.add_pos_left hm0 _) B h579 (by omega) (by omega) 0 (Nat.add_pos_left hm0 _) _ q590) ?_
      rintro e w592 ⟨c591, A595, C596, rfl, E593, B594, h597⟩
      refine ⟨_, rfl, fun a F => ?_⟩
      have B := B594
      replace h579 := BG.ev h579 E593 (fun q => q.elim) (fun q => q.elim) (fun q => q.elim)
      replace h581 := SL.ev h581 E593 (fun q => q.elim) (fun q => q.elim)
      replace E := E.trans E593 (fun x q => q.elim)
      refine q_val F rfl rfl (by decide) (r_assign F rfl) fun a F => ?_
      refine nil ?_
      refine hK588 _ _ ?_
      refine wp_seq_k fun K599 hK599 => ?_
      refine wp_seq_k fun K600 hK600 => ?_
      refine reg ?_
      refine q_val F rfl rfl (by decide) (r_move F rfl) fun a F => ?_
      refine q_val F rfl rfl (by decide) (r_lensl F Try.underlying34 rfl) fun a F => ?_
      refine q_val F rfl rfl (by decide) (r_move F rfl) fun a F => ?_
      replace H := bind_some H
      obtain ⟨t601, q602, H⟩ := H
      refine q_call F rfl rfl (by decide) (r_call F Try.func10 rfl (by kernel_rfl) rfl) (bag_Bag_Len.calls (m := m + 9) (Nat.add_pos_left hm0 _) B h579 (Nat.add_lt_add_left (by decide) m) ⟨(Nat.add_lt_add_left (by decide) m), (ne_mm (by decide))⟩ _ q602) ?_
      rintro e w604 ⟨c603, rfl, E605, B606⟩
      refine ⟨_, rfl, fun a F => ?_⟩
      have B := B606
      replace h579 := BG.ev h579 E605 (fun q => q.elim) (fun q => q.elim) (fun q => q.elim)
      replace h581 := SL.ev h581 E605 (fun q => q.elim) (fun q => q.elim)
      replace h597 := SL.ev h597 E605 (fun q => q.elim) (fun q => q.elim)
      replace E := E.trans E605 (fun x q => q.elim)
      refine q_val F rfl rfl (by decide) (r_neq F rfl rfl) fun a F => ?_
      refine nil ?_
      refine hK600 _ _ ?_
      by_cases hb608 : (t589.length : Int) = t601
      · replace H := (if_pos hb608).symm.trans H
        refine wp_cond_false ((F.ev rfl).trans (congrArg Value.bool (congrArg not (decide_eq_true hb608)))) ?_
        refine wp_skip ?_
        refine hK599 _ _ ?_
        refine wp_seq_k fun K610 hK610 => ?_
        refine wp_seq_k fun K611 hK611 => ?_
        refine reg ?_
        refine q_val F rfl rfl (by decide) (r_assign F rfl) fun a F => ?_
        refine nil ?_
        refine hK611 _ _ ?_
        refine wp_block ?_
        obtain ⟨x622, HL, HR621⟩ := bind_some H
        have J861 : ∀ (c862 : Nat → Nat) (w863 : World) (a : Act), Fr a 306 [] → Ev (fun x => False ∨ m ≤ x) c0 w0 c862 w863 → CB (m + 9) c862 w863 → haulagelaw20_BagNothingElse.j15 = some r → K610 a w863 := by
          intro c862 w863 a  F E B  H
          unfold haulagelaw20_BagNothingElse.j15 at H
          refine hK610 _ _ ?_
          refine wp_seq_k fun K864 hK864 => ?_
          refine reg ?_
          refine q_val F rfl rfl (by decide) (r_assign F rfl) fun a F => ?_
          refine nil ?_
          refine hK864 _ _ ?_
          refine wp_ret ?_
          replace H := Option.some.inj H
          subst H
          refine out1 F rfl rfl ?_
          exact ⟨fun b_ => (fun x_ => if x_ < m then x_ else 0) (c862 b_), rfl, E.leave B0 (fun x_ => if x_ < m then x_ else 0) (by intro x_ hx_; show (if x_ < m then x_ else 0) = x_; ((repeat' split) <;> omega)), (fun b_ hb_ => by show (if (c862 b_) < m then (c862 b_) else 0) < m; ((repeat' split) <;> omega))⟩
        refine loop_fuel (I := fun n a w => ∃ (i612 : Int) (c : Nat → Nat), Fr a 306 [(3, .pointer p24), (4, .slice A583 l582.length C584), (20, .slice A595 t589.length C596), (21, .int .i64 i612)] ∧ Ev (fun x => False ∨ m ≤ x) c0 w0 c w ∧ CB (m + 9) c w ∧ BG (m + 1) (m + 2) c w p24 o580 ∧ SL true K_api_Letter (m + 4) 0 c w A583 C584 l582 ∧ SL true K_api_Letter 0 0 c w A595 C596 t589 ∧ loop (fun (s_ : Int) => haulagelaw20_BagNothingElse.b14 k o580 l582 t589 s_) n i612 = some x622) (k := k) ⟨0, c603, F.sub ⟨rfl, rfl, rfl, rfl, trivial⟩, E, B, h579, h581, h597, HL⟩ ?_
        clear HL H E F B
        intro n619 X615 hX615 a w614 ⟨i612, c613, F, E, B, h579, h581, h597, HL⟩
        obtain ⟨n620, ctl618, rfl, HB, HN616, HD617⟩ := loop_some HL
        have H : haulagelaw20_BagNothingElse.b14 k o580 l582 t589 i612 = some ctl618 := HB
        clear HB HL
        unfold haulagelaw20_BagNothingElse.b14 at H
        refine wp_seq_k fun K623 hK623 => ?_
        refine wp_seq_k fun K624 hK624 => ?_
        refine reg ?_
        refine q_val F rfl rfl (by decide) (r_move F rfl) fun a F => ?_
        refine q_val F rfl rfl (by decide) (r_move F rfl) fun a F => ?_
        refine q_val F rfl rfl (by decide) (r_lensl F Try.underlying34 rfl) fun a F => ?_
        refine q_val F rfl rfl (by decide) (r_lss F rfl rfl) fun a F => ?_
        refine nil ?_
        refine hK624 _ _ ?_
        by_cases hb625 : i612 < (t589.length : Int)
        · replace H := (if_pos hb625).symm.trans H
          refine wp_cond_true ((F.ev rfl).trans (congrArg Value.bool (decide_eq_true hb625))) ?_
          refine wp_skip ?_
          refine hK623 _ _ ?_
          refine wp_seq_k fun K626 hK626 => ?_
          refine wp_block ?_
          refine wp_seq_k fun K627 hK627 => ?_
          refine wp_seq_k fun K628 hK628 => ?_
          have J782 : ∀ (c783 : Nat → Nat) (w784 : World) (a : Act) (b781 : Bool), Fr a 306 [(3, .pointer p24), (4, .slice A583 l582.length C584), (20, .slice A595 t589.length C596), (21, .int .i64 i612), (278, .bool b781)] → Ev (fun x => False ∨ m ≤ x) c0 w0 c783 w784 → CB (m + 9) c783 w784 → BG (m + 1) (m + 2) c783 w784 p24 o580 → SL true K_api_Letter (m + 4) 0 c783 w784 A583 C584 l582 → SL true K_api_Letter 0 0 c783 w784 A595 C596 t589 → haulagelaw20_BagNothingElse.j11 k o580 t589 i612 b781 = some ctl618 → K628 a w784 := by
            intro c783 w784 a b781 F E B h579 h581 h597 H
            unfold haulagelaw20_BagNothingElse.j11 at H
            refine hK628 _ _ ?_
            by_cases hb785 : b781 = true
            · replace H := (if_pos hb785).symm.trans H
              refine wp_cond_true ((F.ev rfl).trans (congrArg Value.bool hb785)) ?_
              refine wp_seq_k fun K786 hK786 => ?_
              refine reg ?_
              refine q_val F rfl rfl (by decide) (r_assign F rfl) fun a F => ?_
              refine nil ?_
              refine hK786 _ _ ?_
              refine wp_ret ?_
              refine thenR ?_
              refine inbR ?_
              refine thenR ?_
              refine thenR ?_
              refine inbR ?_
              refine thenR ?_
              have hx_ := HD617 _ (Option.some.inj H).symm
              have H := HR621
              rw [← hx_] at H
              replace H : some false = some r := H
              replace H := Option.some.inj H
              subst H
              refine out1 F rfl rfl ?_
              exact ⟨fun b_ => (fun x_ => if x_ < m then x_ else 0) (c783 b_), rfl, E.leave B0 (fun x_ => if x_ < m then x_ else 0) (by intro x_ hx_; show (if x_ < m then x_ else 0) = x_; ((repeat' split) <;> omega)), (fun b_ hb_ => by show (if (c783 b_) < m then (c783 b_) else 0) < m; ((repeat' split) <;> omega))⟩
            · replace H := (if_neg hb785).symm.trans H
              refine wp_cond_false ((F.ev rfl).trans (congrArg Value.bool (bfalse hb785))) ?_
              refine wp_skip ?_
              refine hK627 _ _ ?_
              refine wp_seq_k fun K787 hK787 => ?_
              refine reg ?_
              refine q_val F rfl rfl (by decide) (r_assign F rfl) fun a F => ?_
              refine nil ?_
              refine hK787 _ _ ?_
              refine wp_seq_k fun K788 hK788 => ?_
              refine reg ?_
              refine q_val F rfl rfl (by decide) (r_move F rfl) fun a F => ?_
              refine q_val F rfl rfl (by decide) (r_move F rfl) fun a F => ?_
              refine q_val F rfl rfl (by decide) (r_move F rfl) fun a F => ?_
              replace H := ifN H
              obtain ⟨g789, H⟩ := H
              obtain ⟨ad790, cs791, e792, h793, r794⟩ := SL.at h597 i612 g789.1 g789.2
              obtain ⟨A795, C796, rfl, h797⟩ := r794
              replace h797 := SL.fl (i' := 0) h797 (fun q => q)
              obtain ⟨qa798, qqa798⟩ : ∃ q, q = (ad790.add (i612.toNat * 4)) := ⟨_, rfl⟩
              have h793 : AT true 0 c783 w784 qa798 [.int .i64 ((rd t589 i612).Number), .int .i64 ((rd t589 i612).From), .int .i64 ((rd t589 i612).To), .slice A795 ((rd t589 i612).Data).length C796] := by rw [qqa798]; exact h793
              refine q_val F rfl rfl (by decide) (r_indexAddr' F Try.underlying34 sz_40 rfl rfl g789.1 g789.2 e792 qqa798) fun a F => ?_
              refine q_val F rfl rfl (by decide) (r_fieldAddr F rfl ff_40_2) fun a F => ?_
              refine q_val F rfl rfl (by decide) (r_load F rfl ag_3 (AT.cell h793 rfl)) fun a F => ?_
              replace H := bind_some H
              obtain ⟨t800, q801, H⟩ := H
              refine q_call F rfl rfl (by decide) (r_call F Try.func16 rfl (by kernel_rfl) rfl) (bag_Bag_For.calls (m := m + 9) (Nat.add_pos_left hm0 _) B h579 (by omega) (by omega) 0 (Nat.add_pos_left hm0 _) _ q801) ?_
              rintro e w803 ⟨c802, A806, C807, rfl, E804, B805, h808⟩
              refine ⟨_, rfl, fun a F => ?_⟩
              have B := B805
              replace h579 := BG.ev h579 E804 (fun q => q.elim) (fun q => q.elim) (fun q => q.elim)
              replace h581 := SL.ev h581 E804 (fun q => q.elim) (fun q => q.elim)
              replace h597 := SL.ev h597 E804 (fun q => q.elim) (fun q => q.elim)
              replace h797 := SL.ev h797 E804 (fun q => q.elim) (fun q => q.elim)
              replace h793 := AT.ev h793 E804 (fun q => q.elim)
              replace E := E.trans E804 (fun x q => q.elim)
              refine q_val F rfl rfl (by decide) (r_assign F rfl) fun a F => ?_
              refine nil ?_
              refine hK788 _ _ ?_
              replace F : Fr a 306 [(3, .pointer p24), (4, .slice A583 l582.length C584), (20, .slice A595 t589.length C596), (21, .int .i64 i612), (22, .int .i64 0), (23, .slice A806 t800.length C807)] := F.sub ⟨rfl, rfl, rfl, rfl, rfl, rfl, trivial⟩
              refine wp_seq_k fun K810 hK810 => ?_
              refine wp_seq_k fun K811 hK811 => ?_
              refine reg ?_
              refine q_val F rfl rfl (by decide) (r_assign F rfl) fun a F => ?_
              refine nil ?_
              refine hK811 _ _ ?_
              refine wp_block ?_
              obtain ⟨x823, HL, HR822⟩ := bind_some H
              have J854 : ∀ (c855 : Nat → Nat) (w856 : World) (a : Act) (i853 : Int), Fr a 306 [(3, .pointer p24), (4, .slice A583 l582.length C584), (20, .slice A595 t589.length C596), (21, .int .i64 i612), (22, .int .i64 i853)] → Ev (fun x => False ∨ m ≤ x) c0 w0 c855 w856 → CB (m + 9) c855 w856 → BG (m + 1) (m + 2) c855 w856 p24 o580 → SL true K_api_Letter (m + 4) 0 c855 w856 A583 C584 l582 → SL true K_api_Letter 0 0 c855 w856 A595 C596 t589 → haulagelaw20_BagNothingElse.j13 i612 i853 = some ctl618 → K810 a w856 := by
                intro c855 w856 a i853 F E B h579 h581 h597 H
                unfold haulagelaw20_BagNothingElse.j13 at H
                refine hK810 _ _ ?_
                refine wp_seq_k fun K857 hK857 => ?_
                refine reg ?_
                refine q_val F rfl rfl (by decide) (r_move F rfl) fun a F => ?_
                refine q_val F rfl rfl (by decide) (r_neq F rfl rfl) fun a F => ?_
                refine nil ?_
                refine hK857 _ _ ?_
                by_cases hb858 : i853 = 1
                · replace H := (if_pos hb858).symm.trans H
                  refine wp_cond_false ((F.ev rfl).trans (congrArg Value.bool (congrArg not (decide_eq_true hb858)))) ?_
                  refine wp_skip ?_
                  refine hK626 _ _ ?_
                  refine reg ?_
                  refine q_val F rfl rfl (by decide) (r_move F rfl) fun a F => ?_
                  refine q_val F rfl rfl (by decide) (r_add F rfl rfl) fun a F => ?_
                  refine q_val F rfl rfl (by decide) (r_assign F rfl) fun a F => ?_
                  refine nil ?_
                  replace H := HN616 _ (Option.some.inj H).symm
                  exact hX615 _ _ _ (Nat.lt_succ_self _) ⟨(IntKind.i64.wrap (i612 + 1)), c855, F.sub ⟨rfl, rfl, rfl, rfl, trivial⟩, E, B, h579, h581, h597, H⟩
                · replace H := (if_neg hb858).symm.trans H
                  refine wp_cond_true ((F.ev rfl).trans (congrArg Value.bool (congrArg not (decide_eq_false hb858)))) ?_
                  refine wp_seq_k fun K859 hK859 => ?_
                  refine reg ?_
                  refine q_val F rfl rfl (by decide) (r_assign F rfl) fun a F => ?_
                  refine nil ?_
                  refine hK859 _ _ ?_
                  refine wp_ret ?_
                  refine inbR ?_
                  refine thenR ?_
                  refine thenR ?_
                  refine inbR ?_
                  refine thenR ?_
                  have hx_ := HD617 _ (Option.some.inj H).symm
                  have H := HR621
                  rw [← hx_] at H
                  replace H : some false = some r := H
                  replace H := Option.some.inj H
                  subst H
                  refine out1 F rfl rfl ?_
                  exact ⟨fun b_ => (fun x_ => if x_ < m then x_ else 0) (c855 b_), rfl, E.leave B0 (fun x_ => if x_ < m then x_ else 0) (by intro x_ hx_; show (if x_ < m then x_ else 0) = x_; ((repeat' split) <;> omega)), (fun b_ hb_ => by show (if (c855 b_) < m then (c855 b_) else 0) < m; ((repeat' split) <;> omega))⟩
              refine loop_fuel (I := fun n a w => ∃ (i812 : Int) (i813 : Int) (c : Nat → Nat), Fr a 306 [(3, .pointer p24), (4, .slice A583 l582.length C584), (20, .slice A595 t589.length C596), (21, .int .i64 i612), (22, .int .i64 i812), (23, .slice A806 t800.length C807), (24, .int .i64 i813)] ∧ Ev (fun x => False ∨ m ≤ x) c0 w0 c w ∧ CB (m + 9) c w ∧ BG (m + 1) (m + 2) c w p24 o580 ∧ SL true K_api_Letter (m + 4) 0 c w A583 C584 l582 ∧ SL true K_api_Letter 0 0 c w A595 C596 t589 ∧ SL true (Kint .i64) 0 0 c w A806 C807 t800 ∧ loop (fun (s_ : Int × Int) => haulagelaw20_BagNothingElse.b12 t589 i612 t800 s_.1 s_.2) n (i812, i813) = some x823) (k := k) ⟨0, 0, c802, F.sub ⟨rfl, rfl, rfl, rfl, rfl, rfl, rfl, trivial⟩, E, B, h579, h581, h597, h808, HL⟩ ?_
              clear HL H E F B
              intro n820 X816 hX816 a w815 ⟨i812, i813, c814, F, E, B, h579, h581, h597, h808, HL⟩
              obtain ⟨n821, ctl819, rfl, HB, HN817, HD818⟩ := loop_some HL
              have H : haulagelaw20_BagNothingElse.b12 t589 i612 t800 i812 i813 = some ctl819 := HB
              clear HB HL
              unfold haulagelaw20_BagNothingElse.b12 at H
              refine wp_seq_k fun K824 hK824 => ?_
              refine wp_seq_k fun K825 hK825 => ?_
              refine reg ?_
              refine q_val F rfl rfl (by decide) (r_move F rfl) fun a F => ?_
              refine q_val F rfl rfl (by decide) (r_move F rfl) fun a F => ?_
              refine q_val F rfl rfl (by decide) (r_lensl F Try.underlying36 rfl) fun a F => ?_
              refine q_val F rfl rfl (by decide) (r_lss F rfl rfl) fun a F => ?_
              refine nil ?_
              refine hK825 _ _ ?_
              by_cases hb826 : i813 < (t800.length : Int)
              · replace H := (if_pos hb826).symm.trans H
                refine wp_cond_true ((F.ev rfl).trans (congrArg Value.bool (decide_eq_true hb826))) ?_
                refine wp_skip ?_
                refine hK824 _ _ ?_
                refine wp_seq_k fun K827 hK827 => ?_
                refine wp_block ?_
                refine wp_seq_k fun K828 hK828 => ?_
                refine regD (SB No c814 w815) 10 (.q 0 (.q 1 (.q 2 (.q 3 (.q 4 (.q 5 (.q 6 (.q 7 (.q 8 (.q 9 .nil)))))))))) Try_hm (by decide +kernel) ?_
                intro w829 w1_ w2_ w3_ w4_
                have E830 : Ev No c814 w815 c814 w829 := Ev.same w1_ w2_ w3_ w4_
                replace B := B.same w1_
                have zh579 := h579
                have zh581 := h581
                have zh597 := h597
                have zh808 := h808
                have ER : Ev No c814 w815 c814 w829 := Ev.same w1_ w2_ w3_ w4_
                replace h579 := BG.ev h579 E830 (fun q => q.elim) (fun q => q.elim) (fun q => q.elim)
                replace h581 := SL.ev h581 E830 (fun q => q.elim) (fun q => q.elim)
                replace h597 := SL.ev h597 E830 (fun q => q.elim) (fun q => q.elim)
                replace h808 := SL.ev h808 E830 (fun q => q.elim) (fun q => q.elim)
                replace E := E.trans E830 (fun x q => q.elim)
                refine d_q F rfl rfl rfl (by decide) (fun wq hS => r_move F rfl) ER.sb fun a F => ?_
                refine d_q F rfl rfl rfl (by decide) (fun wq hS => r_move F rfl) ER.sb fun a F => ?_
                replace H := ifN H
                obtain ⟨g831, H⟩ := H
                obtain ⟨ad832, cs833, e834, h835, r836⟩ := SL.at zh808 i813 g831.1 g831.2
                obtain rfl : cs833 = [.int .i64 (rd t800 i813)] := r836
                obtain ⟨qa837, qqa837⟩ : ∃ q, q = (ad832.add (i813.toNat * 1)) := ⟨_, rfl⟩
                have h835 : AT true 0 c814 w815 qa837 [.int .i64 (rd t800 i813)] := by rw [qqa837]; exact h835
                have zh835 := h835
                replace h835 := AT.ev h835 ER (fun q => q.elim)
                refine d_q F rfl rfl rfl (by decide) (fun wq hS => r_indexAddr' F Try.underlying36 sz_3 rfl rfl g831.1 g831.2 e834 qqa837) ER.sb fun a F => ?_
                refine d_q F rfl rfl rfl (by decide) (fun wq hS => r_load F rfl ag_3 (AT.cell0 (AT.sb zh835 hS (fun q => q.elim)) rfl)) ER.sb fun a F => ?_
                refine d_q F rfl rfl rfl (by decide) (fun wq hS => r_move F rfl) ER.sb fun a F => ?_
                refine d_q F rfl rfl rfl (by decide) (fun wq hS => r_move F rfl) ER.sb fun a F => ?_
                replace H := ifN H
                obtain ⟨g839, H⟩ := H
                obtain ⟨ad840, cs841, e842, h843, r844⟩ := SL.at zh597 i612 g839.1 g839.2
                obtain ⟨A845, C846, rfl, h847⟩ := r844
                replace h847 := SL.fl (i' := 0) h847 (fun q => q)
                obtain ⟨qa848, qqa848⟩ : ∃ q, q = (ad840.add (i612.toNat * 4)) := ⟨_, rfl⟩
                have h843 : AT true 0 c814 w815 qa848 [.int .i64 ((rd t589 i612).Number), .int .i64 ((rd t589 i612).From), .int .i64 ((rd t589 i612).To), .slice A845 ((rd t589 i612).Data).length C846] := by rw [qqa848]; exact h843
                have zh847 := h847
                replace h847 := SL.ev h847 ER (fun q => q.elim) (fun q => q.elim)
                have zh843 := h843
                replace h843 := AT.ev h843 ER (fun q => q.elim)
                refine d_q F rfl rfl rfl (by decide) (fun wq hS => r_indexAddr' F Try.underlying34 sz_40 rfl rfl g839.1 g839.2 e842 qqa848) ER.sb fun a F => ?_
                refine d_q F rfl rfl rfl (by decide) (fun wq hS => r_fieldAddr F rfl ff_40_0) ER.sb fun a F => ?_
                refine d_q F rfl rfl rfl (by decide) (fun wq hS => r_load F rfl ag_3 (AT.cell (AT.sb zh843 hS (fun q => q.elim)) rfl)) ER.sb fun a F => ?_
                refine d_q F rfl rfl rfl (by decide) (fun wq hS => r_eql F rfl rfl) ER.sb fun a F => ?_
                refine d_nil ?_
                refine hK828 _ _ ?_
                replace F : Fr a 306 [(3, .pointer p24), (4, .slice A583 l582.length C584), (20, .slice A595 t589.length C596), (21, .int .i64 i612), (22, .int .i64 i812), (23, .slice A806 t800.length C807), (24, .int .i64 i813), (301, .bool (decide ((rd t800 i813) = ((rd t589 i612).Number))))] := F.sub ⟨rfl, rfl, rfl, rfl, rfl, rfl, rfl, rfl, trivial⟩
                by_cases hb850 : (rd t800 i813) = ((rd t589 i612).Number)
                · replace H := (if_pos hb850).symm.trans H
                  refine wp_cond_true ((F.ev rfl).trans (congrArg Value.bool (decide_eq_true hb850))) ?_
                  refine reg ?_
                  refine q_val F rfl rfl (by decide) (r_move F rfl) fun a F => ?_
                  refine q_val F rfl rfl (by decide) (r_add F rfl rfl) fun a F => ?_
                  refine q_val F rfl rfl (by decide) (r_assign F rfl) fun a F => ?_
                  refine nil ?_
                  refine hK827 _ _ ?_
                  refine reg ?_
                  refine q_val F rfl rfl (by decide) (r_move F rfl) fun a F => ?_
                  refine q_val F rfl rfl (by decide) (r_add F rfl rfl) fun a F => ?_
                  refine q_val F rfl rfl (by decide) (r_assign F rfl) fun a F => ?_
                  refine nil ?_
                  replace H := HN817 _ (Option.some.inj H).symm
                  exact hX816 _ _ _ (Nat.lt_succ_self _) ⟨(IntKind.i64.wrap (i812 + 1)), (IntKind.i64.wrap (i813 + 1)), c814, F.sub ⟨rfl, rfl, rfl, rfl, rfl, rfl, rfl, trivial⟩, E, B, h579, h581, h597, h808, H⟩
                · replace H := (if_neg hb850).symm.trans H
                  refine wp_cond_false ((F.ev rfl).trans (congrArg Value.bool (decide_eq_false hb850))) ?_
                  refine wp_skip ?_
                  refine hK827 _ _ ?_
                  refine reg ?_
                  refine q_val F rfl rfl (by decide) (r_move F rfl) fun a F => ?_
                  refine q_val F rfl rfl (by decide) (r_add F rfl rfl) fun a F => ?_
                  refine q_val F rfl rfl (by decide) (r_assign F rfl) fun a F => ?_
                  refine nil ?_
                  replace H := HN817 _ (Option.some.inj H).symm
                  exact hX816 _ _ _ (Nat.lt_succ_self _) ⟨i812, (IntKind.i64.wrap (i813 + 1)), c814, F.sub ⟨rfl, rfl, rfl, rfl, rfl, rfl, rfl, trivial⟩, E, B, h579, h581, h597, h808, H⟩
              · replace H := (if_neg hb826).symm.trans H
                refine wp_cond_false ((F.ev rfl).trans (congrArg Value.bool (decide_eq_false hb826))) ?_
                refine wp_exit ?_
                refine thenE ?_
                refine thenE ?_
                refine inbE ?_
                have hx_ := HD818 _ (Option.some.inj H).symm
                have H := HR822
                rw [← hx_] at H
                exact J854 c814 w815 a i812 (F.sub ⟨rfl, rfl, rfl, rfl, rfl, trivial⟩) E B h579 h581 h597 H
          refine regD (SB No c613 w614) 50 (.q 0 (.q 1 (.q 2 (.q 3 (.q 4 (.q 5 (.q 6 (.q 7 (.q 8 (.q 9 (.q 10 (.q 11 (.q 12 (.q 13 (.q 14 (.q 15 (.q 16 (.q 17 (.q 18 (.q 19 (.q 20 (.q 21 (.q 22 (.q 23 (.q 24 (.q 25 (.q 26 (.q 27 (.q 28 (.q 29 (.q 30 (.q 31 (.q 32 (.q 33 (.q 34 (.q 35 (.q 36 (.q 37 (.q 38 (.q 39 (.q 40 (.q 41 (.q 42 (.q 43 (.q 44 (.q 45 (.q 46 (.e 47 (.q 48 (.q 49 .nil)))))))))))))))))))))))))))))))))))))))))))))))))) Try_hm (by decide +kernel) ?_
          intro w629 w1_ w2_ w3_ w4_
          have E630 : Ev No c613 w614 c613 w629 := Ev.same w1_ w2_ w3_ w4_
          replace B := B.same w1_
          have zh579 := h579
          have zh581 := h581
          have zh597 := h597
          have ER : Ev No c613 w614 c613 w629 := Ev.same w1_ w2_ w3_ w4_
          replace h579 := BG.ev h579 E630 (fun q => q.elim) (fun q => q.elim) (fun q => q.elim)
          replace h581 := SL.ev h581 E630 (fun q => q.elim) (fun q => q.elim)
          replace h597 := SL.ev h597 E630 (fun q => q.elim) (fun q => q.elim)
          replace E := E.trans E630 (fun x q => q.elim)
          refine d_q F rfl rfl rfl (by decide) (fun wq hS => r_move F rfl) ER.sb fun a F => ?_
          refine d_q F rfl rfl rfl (by decide) (fun wq hS => r_gtr F rfl rfl) ER.sb fun a F => ?_
          refine d_q F rfl rfl rfl (by decide) (fun wq hS => r_move F rfl) ER.sb fun a F => ?_
          by_cases hb631 : 0 < i612
          · replace H := (if_pos hb631).symm.trans H
            refine d_qy F rfl rfl rfl (by decide) rfl (decide_eq_true hb631) rfl (by decide) (fun wq hS => r_move F rfl) ER.sb fun a F => ?_
            refine d_qy F rfl rfl rfl (by decide) rfl (decide_eq_true hb631) rfl (by decide) (fun wq hS => r_move F rfl) ER.sb fun a F => ?_
            replace H := ifN H
            obtain ⟨g632, H⟩ := H
            obtain ⟨ad633, cs634, e635, h636, r637⟩ := SL.at zh597 i612 g632.1 g632.2
            obtain ⟨A638, C639, rfl, h640⟩ := r637
            replace h640 := SL.fl (i' := 0) h640 (fun q => q)
            obtain ⟨qa641, qqa641⟩ : ∃ q, q = (ad633.add (i612.toNat * 4)) := ⟨_, rfl⟩
            have h636 : AT true 0 c613 w614 qa641 [.int .i64 ((rd t589 i612).Number), .int .i64 ((rd t589 i612).From), .int .i64 ((rd t589 i612).To), .slice A638 ((rd t589 i612).Data).length C639] := by rw [qqa641]; exact h636
            have zh640 := h640
            replace h640 := SL.ev h640 ER (fun q => q.elim) (fun q => q.elim)
            have zh636 := h636
            replace h636 := AT.ev h636 ER (fun q => q.elim)
            refine d_qy F rfl rfl rfl (by decide) rfl (decide_eq_true hb631) rfl (by decide) (fun wq hS => r_indexAddr' F Try.underlying34 sz_40 rfl rfl g632.1 g632.2 e635 qqa641) ER.sb fun a F => ?_
            refine d_qy F rfl rfl rfl (by decide) rfl (decide_eq_true hb631) rfl (by decide) (fun wq hS => r_fieldAddr F rfl ff_40_0) ER.sb fun a F => ?_
            refine d_qy F rfl rfl rfl (by decide) rfl (decide_eq_true hb631) rfl (by decide) (fun wq hS => r_load F rfl ag_3 (AT.cell (AT.sb zh636 hS (fun q => q.elim)) rfl)) ER.sb fun a F => ?_
            refine d_qy F rfl rfl rfl (by decide) rfl (decide_eq_true hb631) rfl (by decide) (fun wq hS => r_move F rfl) ER.sb fun a F => ?_
            refine d_qy F rfl rfl rfl (by decide) rfl (decide_eq_true hb631) rfl (by decide) (fun wq hS => r_move F rfl) ER.sb fun a F => ?_
            refine d_qy F rfl rfl rfl (by decide) rfl (decide_eq_true hb631) rfl (by decide) (fun wq hS => r_sub F rfl rfl) ER.sb fun a F => ?_
            replace H := ifN H
            obtain ⟨g643, H⟩ := H
            obtain ⟨ad644, cs645, e646, h647, r648⟩ := SL.at zh597 (IntKind.i64.wrap (i612 - 1)) g643.1 g643.2
            obtain ⟨A649, C650, rfl, h651⟩ := r648
            replace h651 := SL.fl (i' := 0) h651 (fun q => q)
            obtain ⟨qa652, qqa652⟩ : ∃ q, q = (ad644.add ((IntKind.i64.wrap (i612 - 1)).toNat * 4)) := ⟨_, rfl⟩
            have h647 : AT true 0 c613 w614 qa652 [.int .i64 ((rd t589 (IntKind.i64.wrap (i612 - 1))).Number), .int .i64 ((rd t589 (IntKind.i64.wrap (i612 - 1))).From), .int .i64 ((rd t589 (IntKind.i64.wrap (i612 - 1))).To), .slice A649 ((rd t589 (IntKind.i64.wrap (i612 - 1))).Data).length C650] := by rw [qqa652]; exact h647
            have zh651 := h651
            replace h651 := SL.ev h651 ER (fun q => q.elim) (fun q => q.elim)
            have zh647 := h647
            replace h647 := AT.ev h647 ER (fun q => q.elim)
            refine d_qy F rfl rfl rfl (by decide) rfl (decide_eq_true hb631) rfl (by decide) (fun wq hS => r_indexAddr' F Try.underlying34 sz_40 rfl rfl g643.1 g643.2 e646 qqa652) ER.sb fun a F => ?_
            refine d_qy F rfl rfl rfl (by decide) rfl (decide_eq_true hb631) rfl (by decide) (fun wq hS => r_fieldAddr F rfl ff_40_0) ER.sb fun a F => ?_
            refine d_qy F rfl rfl rfl (by decide) rfl (decide_eq_true hb631) rfl (by decide) (fun wq hS => r_load F rfl ag_3 (AT.cell (AT.sb zh647 hS (fun q => q.elim)) rfl)) ER.sb fun a F => ?_
            refine d_qy F rfl rfl rfl (by decide) rfl (decide_eq_true hb631) rfl (by decide) (fun wq hS => r_leq F rfl rfl) ER.sb fun a F => ?_
            refine d_q F rfl rfl rfl (by decide) (fun wq hS => r_pick_t F rfl (decide_eq_true hb631) rfl) ER.sb fun a F => ?_
            refine d_q F rfl rfl rfl (by decide) (fun wq hS => r_move F rfl) ER.sb fun a F => ?_
            by_cases hb654 : ((rd t589 i612).Number) ≤ ((rd t589 (IntKind.i64.wrap (i612 - 1))).Number)
            · replace H := (if_pos hb654).symm.trans H
              refine d_qn F rfl rfl rfl (by decide) rfl (decide_eq_true hb654) rfl (by decide) ER.sb fun a F => ?_
              refine d_qn F rfl rfl rfl (by decide) rfl (decide_eq_true hb654) rfl (by decide) ER.sb fun a F => ?_
              refine d_qn F rfl rfl rfl (by decide) rfl (decide_eq_true hb654) rfl (by decide) ER.sb fun a F => ?_
              refine d_qn F rfl rfl rfl (by decide) rfl (decide_eq_true hb654) rfl (by decide) ER.sb fun a F => ?_
              refine d_qn F rfl rfl rfl (by decide) rfl (decide_eq_true hb654) rfl (by decide) ER.sb fun a F => ?_
              refine d_qn F rfl rfl rfl (by decide) rfl (decide_eq_true hb654) rfl (by decide) ER.sb fun a F => ?_
              refine d_qn F rfl rfl rfl (by decide) rfl (decide_eq_true hb654) rfl (by decide) ER.sb fun a F => ?_
              refine d_qn F rfl rfl rfl (by decide) rfl (decide_eq_true hb654) rfl (by decide) ER.sb fun a F => ?_
              refine d_q F rfl rfl rfl (by decide) (fun wq hS => r_pick_t F rfl (decide_eq_true hb654) rfl) ER.sb fun a F => ?_
              refine d_q F rfl rfl rfl (by decide) (fun wq hS => r_move F rfl) ER.sb fun a F => ?_
              refine d_qn F rfl rfl rfl (by decide) rfl rfl rfl (by decide) ER.sb fun a F => ?_
              refine d_qn F rfl rfl rfl (by decide) rfl rfl rfl (by decide) ER.sb fun a F => ?_
              refine d_qn F rfl rfl rfl (by decide) rfl rfl rfl (by decide) ER.sb fun a F => ?_
              refine d_qn F rfl rfl rfl (by decide) rfl rfl rfl (by decide) ER.sb fun a F => ?_
              refine d_qn F rfl rfl rfl (by decide) rfl rfl rfl (by decide) ER.sb fun a F => ?_
              refine d_qn F rfl rfl rfl (by decide) rfl rfl rfl (by decide) ER.sb fun a F => ?_
              refine d_q F rfl rfl rfl (by decide) (fun wq hS => r_pick_t F rfl rfl rfl) ER.sb fun a F => ?_
              refine d_q F rfl rfl rfl (by decide) (fun wq hS => r_move F rfl) ER.sb fun a F => ?_
              refine d_qn F rfl rfl rfl (by decide) rfl rfl rfl (by decide) ER.sb fun a F => ?_
              refine d_qn F rfl rfl rfl (by decide) rfl rfl rfl (by decide) ER.sb fun a F => ?_
              refine d_qn F rfl rfl rfl (by decide) rfl rfl rfl (by decide) ER.sb fun a F => ?_
              refine d_qn F rfl rfl rfl (by decide) rfl rfl rfl (by decide) ER.sb fun a F => ?_
              refine d_qn F rfl rfl rfl (by decide) rfl rfl rfl (by decide) ER.sb fun a F => ?_
              refine d_qn F rfl rfl rfl (by decide) rfl rfl rfl (by decide) ER.sb fun a F => ?_
              refine d_qn F rfl rfl rfl (by decide) rfl rfl rfl (by decide) ER.sb fun a F => ?_
              refine d_qn F rfl rfl rfl (by decide) rfl rfl rfl (by decide) ER.sb fun a F => ?_
              refine d_qn F rfl rfl rfl (by decide) rfl rfl rfl (by decide) ER.sb fun a F => ?_
              refine d_qn F rfl rfl rfl (by decide) rfl rfl rfl (by decide) ER.sb fun a F => ?_
              refine d_qn F rfl rfl rfl (by decide) rfl rfl rfl (by decide) ER.sb fun a F => ?_
              refine d_qn F rfl rfl rfl (by decide) rfl rfl rfl (by decide) ER.sb fun a F => ?_
              refine d_e ?_
              refine o_no F rfl rfl rfl (by decide) rfl rfl rfl (by decide) fun a F => ?_
              refine ⟨fun _ => ER.sb, ?_⟩
              refine d_qn F rfl rfl rfl (by decide) rfl rfl rfl (by decide) ER.sb fun a F => ?_
              refine d_q F rfl rfl rfl (by decide) (fun wq hS => r_pick_t F rfl rfl rfl) ER.sb fun a F => ?_
              refine d_nil ?_
              exact J782 c613 w629 a true (F.sub ⟨rfl, rfl, rfl, rfl, rfl, trivial⟩) E B h579 h581 h597 H
            · replace H := (if_neg hb654).symm.trans H
              refine d_qy F rfl rfl rfl (by decide) rfl (decide_eq_false hb654) rfl (by decide) (fun wq hS => r_move F rfl) ER.sb fun a F => ?_
              refine d_qy F rfl rfl rfl (by decide) rfl (decide_eq_false hb654) rfl (by decide) (fun wq hS => r_move F rfl) ER.sb fun a F => ?_
              replace H := ifN H
              obtain ⟨g655, H⟩ := H
              obtain ⟨ad656, cs657, e658, h659, r660⟩ := SL.at zh597 i612 g655.1 g655.2
              obtain ⟨A661, C662, rfl, h663⟩ := r660
              replace h663 := SL.fl (i' := 0) h663 (fun q => q)
              obtain ⟨qa664, qqa664⟩ : ∃ q, q = (ad656.add (i612.toNat * 4)) := ⟨_, rfl⟩
              have h659 : AT true 0 c613 w614 qa664 [.int .i64 ((rd t589 i612).Number), .int .i64 ((rd t589 i612).From), .int .i64 ((rd t589 i612).To), .slice A661 ((rd t589 i612).Data).length C662] := by rw [qqa664]; exact h659
              have zh663 := h663
              replace h663 := SL.ev h663 ER (fun q => q.elim) (fun q => q.elim)
              have zh659 := h659
              replace h659 := AT.ev h659 ER (fun q => q.elim)
              refine d_qy F rfl rfl rfl (by decide) rfl (decide_eq_false hb654) rfl (by decide) (fun wq hS => r_indexAddr' F Try.underlying34 sz_40 rfl rfl g655.1 g655.2 e658 qqa664) ER.sb fun a F => ?_
              refine d_qy F rfl rfl rfl (by decide) rfl (decide_eq_false hb654) rfl (by decide) (fun wq hS => r_fieldAddr F rfl ff_40_0) ER.sb fun a F => ?_
              refine d_qy F rfl rfl rfl (by decide) rfl (decide_eq_false hb654) rfl (by decide) (fun wq hS => r_load F rfl ag_3 (AT.cell (AT.sb zh659 hS (fun q => q.elim)) rfl)) ER.sb fun a F => ?_
              refine d_qy F rfl rfl rfl (by decide) rfl (decide_eq_false hb654) rfl (by decide) (fun wq hS => r_move F rfl) ER.sb fun a F => ?_
              refine d_qy F rfl rfl rfl (by decide) rfl (decide_eq_false hb654) rfl (by decide) (fun wq hS => r_lensl F Try.underlying34 rfl) ER.sb fun a F => ?_
              refine d_qy F rfl rfl rfl (by decide) rfl (decide_eq_false hb654) rfl (by decide) (fun wq hS => r_geq F rfl rfl) ER.sb fun a F => ?_
              refine d_q F rfl rfl rfl (by decide) (fun wq hS => r_pick_f F rfl (decide_eq_false hb654) rfl) ER.sb fun a F => ?_
              refine d_q F rfl rfl rfl (by decide) (fun wq hS => r_move F rfl) ER.sb fun a F => ?_
              by_cases hb666 : (l582.length : Int) ≤ ((rd t589 i612).Number)
              · replace H := (if_pos hb666).symm.trans H
                refine d_qn F rfl rfl rfl (by decide) rfl (decide_eq_true hb666) rfl (by decide) ER.sb fun a F => ?_
                refine d_qn F rfl rfl rfl (by decide) rfl (decide_eq_true hb666) rfl (by decide) ER.sb fun a F => ?_
                refine d_qn F rfl rfl rfl (by decide) rfl (decide_eq_true hb666) rfl (by decide) ER.sb fun a F => ?_
                refine d_qn F rfl rfl rfl (by decide) rfl (decide_eq_true hb666) rfl (by decide) ER.sb fun a F => ?_
                refine d_qn F rfl rfl rfl (by decide) rfl (decide_eq_true hb666) rfl (by decide) ER.sb fun a F => ?_
                refine d_qn F rfl rfl rfl (by decide) rfl (decide_eq_true hb666) rfl (by decide) ER.sb fun a F => ?_
                refine d_q F rfl rfl rfl (by decide) (fun wq hS => r_pick_t F rfl (decide_eq_true hb666) rfl) ER.sb fun a F => ?_
                refine d_q F rfl rfl rfl (by decide) (fun wq hS => r_move F rfl) ER.sb fun a F => ?_
                refine d_qn F rfl rfl rfl (by decide) rfl rfl rfl (by decide) ER.sb fun a F => ?_
                refine d_qn F rfl rfl rfl (by decide) rfl rfl rfl (by decide) ER.sb fun a F => ?_
                refine d_qn F rfl rfl rfl (by decide) rfl rfl rfl (by decide) ER.sb fun a F => ?_
                refine d_qn F rfl rfl rfl (by decide) rfl rfl rfl (by decide) ER.sb fun a F => ?_
                refine d_qn F rfl rfl rfl (by decide) rfl rfl rfl (by decide) ER.sb fun a F => ?_
                refine d_qn F rfl rfl rfl (by decide) rfl rfl rfl (by decide) ER.sb fun a F => ?_
                refine d_qn F rfl rfl rfl (by decide) rfl rfl rfl (by decide) ER.sb fun a F => ?_
                refine d_qn F rfl rfl rfl (by decide) rfl rfl rfl (by decide) ER.sb fun a F => ?_
                refine d_qn F rfl rfl rfl (by decide) rfl rfl rfl (by decide) ER.sb fun a F => ?_
                refine d_qn F rfl rfl rfl (by decide) rfl rfl rfl (by decide) ER.sb fun a F => ?_
                refine d_qn F rfl rfl rfl (by decide) rfl rfl rfl (by decide) ER.sb fun a F => ?_
                refine d_qn F rfl rfl rfl (by decide) rfl rfl rfl (by decide) ER.sb fun a F => ?_
                refine d_e ?_
                refine o_no F rfl rfl rfl (by decide) rfl rfl rfl (by decide) fun a F => ?_
                refine ⟨fun _ => ER.sb, ?_⟩
                refine d_qn F rfl rfl rfl (by decide) rfl rfl rfl (by decide) ER.sb fun a F => ?_
                refine d_q F rfl rfl rfl (by decide) (fun wq hS => r_pick_t F rfl rfl rfl) ER.sb fun a F => ?_
                refine d_nil ?_
                exact J782 c613 w629 a true (F.sub ⟨rfl, rfl, rfl, rfl, rfl, trivial⟩) E B h579 h581 h597 H
              · replace H := (if_neg hb666).symm.trans H
                refine d_qy F rfl rfl rfl (by decide) rfl (decide_eq_false hb666) rfl (by decide) (fun wq hS => r_move F rfl) ER.sb fun a F => ?_
                refine d_qy F rfl rfl rfl (by decide) rfl (decide_eq_false hb666) rfl (by decide) (fun wq hS => r_move F rfl) ER.sb fun a F => ?_
                replace H := ifN H
                obtain ⟨g667, H⟩ := H
                obtain ⟨ad668, cs669, e670, h671, r672⟩ := SL.at zh597 i612 g667.1 g667.2
                obtain ⟨A673, C674, rfl, h675⟩ := r672
                replace h675 := SL.fl (i' := 0) h675 (fun q => q)
                obtain ⟨qa676, qqa676⟩ : ∃ q, q = (ad668.add (i612.toNat * 4)) := ⟨_, rfl⟩
                have h671 : AT true 0 c613 w614 qa676 [.int .i64 ((rd t589 i612).Number), .int .i64 ((rd t589 i612).From), .int .i64 ((rd t589 i612).To), .slice A673 ((rd t589 i612).Data).length C674] := by rw [qqa676]; exact h671
                have zh675 := h675
                replace h675 := SL.ev h675 ER (fun q => q.elim) (fun q => q.elim)
                have zh671 := h671
                replace h671 := AT.ev h671 ER (fun q => q.elim)
                refine d_qy F rfl rfl rfl (by decide) rfl (decide_eq_false hb666) rfl (by decide) (fun wq hS => r_indexAddr' F Try.underlying34 sz_40 rfl rfl g667.1 g667.2 e670 qqa676) ER.sb fun a F => ?_
                refine d_qy F rfl rfl rfl (by decide) rfl (decide_eq_false hb666) rfl (by decide) (fun wq hS => r_fieldAddr F rfl ff_40_0) ER.sb fun a F => ?_
                refine d_qy F rfl rfl rfl (by decide) rfl (decide_eq_false hb666) rfl (by decide) (fun wq hS => r_load F rfl ag_3 (AT.cell (AT.sb zh671 hS (fun q => q.elim)) rfl)) ER.sb fun a F => ?_
                refine d_qy F rfl rfl rfl (by decide) rfl (decide_eq_false hb666) rfl (by decide) (fun wq hS => r_lss F rfl rfl) ER.sb fun a F => ?_
                refine d_q F rfl rfl rfl (by decide) (fun wq hS => r_pick_f F rfl (decide_eq_false hb666) rfl) ER.sb fun a F => ?_
                refine d_q F rfl rfl rfl (by decide) (fun wq hS => r_move F rfl) ER.sb fun a F => ?_
                by_cases hb678 : ((rd t589 i612).Number) < 0
                · replace H := (if_pos hb678).symm.trans H
                  refine d_qn F rfl rfl rfl (by decide) rfl (decide_eq_true hb678) rfl (by decide) ER.sb fun a F => ?_
                  refine d_qn F rfl rfl rfl (by decide) rfl (decide_eq_true hb678) rfl (by decide) ER.sb fun a F => ?_
                  refine d_qn F rfl rfl rfl (by decide) rfl (decide_eq_true hb678) rfl (by decide) ER.sb fun a F => ?_
                  refine d_qn F rfl rfl rfl (by decide) rfl (decide_eq_true hb678) rfl (by decide) ER.sb fun a F => ?_
                  refine d_qn F rfl rfl rfl (by decide) rfl (decide_eq_true hb678) rfl (by decide) ER.sb fun a F => ?_
                  refine d_qn F rfl rfl rfl (by decide) rfl (decide_eq_true hb678) rfl (by decide) ER.sb fun a F => ?_
                  refine d_qn F rfl rfl rfl (by decide) rfl (decide_eq_true hb678) rfl (by decide) ER.sb fun a F => ?_
                  refine d_qn F rfl rfl rfl (by decide) rfl (decide_eq_true hb678) rfl (by decide) ER.sb fun a F => ?_
                  refine d_qn F rfl rfl rfl (by decide) rfl (decide_eq_true hb678) rfl (by decide) ER.sb fun a F => ?_
                  refine d_qn F rfl rfl rfl (by decide) rfl (decide_eq_true hb678) rfl (by decide) ER.sb fun a F => ?_
                  refine d_qn F rfl rfl rfl (by decide) rfl (decide_eq_true hb678) rfl (by decide) ER.sb fun a F => ?_
                  refine d_qn F rfl rfl rfl (by decide) rfl (decide_eq_true hb678) rfl (by decide) ER.sb fun a F => ?_
                  refine d_e ?_
                  refine o_no F rfl rfl rfl (by decide) rfl (decide_eq_true hb678) rfl (by decide) fun a F => ?_
                  refine ⟨fun _ => ER.sb, ?_⟩
                  refine d_qn F rfl rfl rfl (by decide) rfl (decide_eq_true hb678) rfl (by decide) ER.sb fun a F => ?_
                  refine d_q F rfl rfl rfl (by decide) (fun wq hS => r_pick_t F rfl (decide_eq_true hb678) rfl) ER.sb fun a F => ?_
                  refine d_nil ?_
                  exact J782 c613 w629 a true (F.sub ⟨rfl, rfl, rfl, rfl, rfl, trivial⟩) E B h579 h581 h597 H
                · replace H := (if_neg hb678).symm.trans H
                  refine d_qy F rfl rfl rfl (by decide) rfl (decide_eq_false hb678) rfl (by decide) (fun wq hS => r_move F rfl) ER.sb fun a F => ?_
                  refine d_qy F rfl rfl rfl (by decide) rfl (decide_eq_false hb678) rfl (by decide) (fun wq hS => r_move F rfl) ER.sb fun a F => ?_
                  replace H := ifN H
                  obtain ⟨g679, H⟩ := H
                  obtain ⟨ad680, cs681, e682, h683, r684⟩ := SL.at zh597 i612 g679.1 g679.2
                  obtain ⟨A685, C686, rfl, h687⟩ := r684
                  replace h687 := SL.fl (i' := 0) h687 (fun q => q)
                  obtain ⟨qa688, qqa688⟩ : ∃ q, q = (ad680.add (i612.toNat * 4)) := ⟨_, rfl⟩
                  have h683 : AT true 0 c613 w614 qa688 [.int .i64 ((rd t589 i612).Number), .int .i64 ((rd t589 i612).From), .int .i64 ((rd t589 i612).To), .slice A685 ((rd t589 i612).Data).length C686] := by rw [qqa688]; exact h683
                  have zh687 := h687
                  replace h687 := SL.ev h687 ER (fun q => q.elim) (fun q => q.elim)
                  have zh683 := h683
                  replace h683 := AT.ev h683 ER (fun q => q.elim)
                  refine d_qy F rfl rfl rfl (by decide) rfl (decide_eq_false hb678) rfl (by decide) (fun wq hS => r_indexAddr' F Try.underlying34 sz_40 rfl rfl g679.1 g679.2 e682 qqa688) ER.sb fun a F => ?_
                  refine d_qy F rfl rfl rfl (by decide) rfl (decide_eq_false hb678) rfl (by decide) (fun wq hS => r_loads (cs := [.int .i64 ((rd t589 i612).Number), .int .i64 ((rd t589 i612).From), .int .i64 ((rd t589 i612).To), .slice A685 ((rd t589 i612).Data).length C686]) F rfl ag_40 sz_40 (AT.sb zh683 hS (fun q => q.elim))) ER.sb fun a F => ?_
                  refine d_qy F rfl rfl rfl (by decide) rfl (decide_eq_false hb678) rfl (by decide) (fun wq hS => r_move F rfl) ER.sb fun a F => ?_
                  refine d_qy F rfl rfl rfl (by decide) rfl (decide_eq_false hb678) rfl (by decide) (fun wq hS => r_move F rfl) ER.sb fun a F => ?_
                  refine d_qy F rfl rfl rfl (by decide) rfl (decide_eq_false hb678) rfl (by decide) (fun wq hS => r_move F rfl) ER.sb fun a F => ?_
                  replace H := ifN H
                  obtain ⟨g690, H⟩ := H
                  obtain ⟨ad691, cs692, e693, h694, r695⟩ := SL.at zh597 i612 g690.1 g690.2
                  obtain ⟨A696, C697, rfl, h698⟩ := r695
                  replace h698 := SL.fl (i' := 0) h698 (fun q => q)
                  obtain ⟨qa699, qqa699⟩ : ∃ q, q = (ad691.add (i612.toNat * 4)) := ⟨_, rfl⟩
                  have h694 : AT true 0 c613 w614 qa699 [.int .i64 ((rd t589 i612).Number), .int .i64 ((rd t589 i612).From), .int .i64 ((rd t589 i612).To), .slice A696 ((rd t589 i612).Data).length C697] := by rw [qqa699]; exact h694
                  have zh698 := h698
                  replace h698 := SL.ev h698 ER (fun q => q.elim) (fun q => q.elim)
                  have zh694 := h694
                  replace h694 := AT.ev h694 ER (fun q => q.elim)
                  refine d_qy F rfl rfl rfl (by decide) rfl (decide_eq_false hb678) rfl (by decide) (fun wq hS => r_indexAddr' F Try.underlying34 sz_40 rfl rfl g690.1 g690.2 e693 qqa699) ER.sb fun a F => ?_
                  refine d_qy F rfl rfl rfl (by decide) rfl (decide_eq_false hb678) rfl (by decide) (fun wq hS => r_fieldAddr F rfl ff_40_0) ER.sb fun a F => ?_
                  refine d_qy F rfl rfl rfl (by decide) rfl (decide_eq_false hb678) rfl (by decide) (fun wq hS => r_load F rfl ag_3 (AT.cell (AT.sb zh694 hS (fun q => q.elim)) rfl)) ER.sb fun a F => ?_
                  replace H := ifN H
                  obtain ⟨g701, H⟩ := H
                  obtain ⟨ad702, cs703, e704, h705, r706⟩ := SL.at zh581 ((rd t589 i612).Number) g701.1 g701.2
                  obtain ⟨A707, C708, rfl, h709⟩ := r706
                  replace h709 := SL.fl (i' := 0) h709 (fun q => q)
                  obtain ⟨qa710, qqa710⟩ : ∃ q, q = (ad702.add (((rd t589 i612).Number).toNat * 4)) := ⟨_, rfl⟩
                  have h705 : AT true (m + 4) c613 w614 qa710 [.int .i64 ((rd l582 ((rd t589 i612).Number)).Number), .int .i64 ((rd l582 ((rd t589 i612).Number)).From), .int .i64 ((rd l582 ((rd t589 i612).Number)).To), .slice A707 ((rd l582 ((rd t589 i612).Number)).Data).length C708] := by rw [qqa710]; exact h705
                  have zh709 := h709
                  replace h709 := SL.ev h709 ER (fun q => q.elim) (fun q => q.elim)
                  have zh705 := h705
                  replace h705 := AT.ev h705 ER (fun q => q.elim)
                  refine d_qy F rfl rfl rfl (by decide) rfl (decide_eq_false hb678) rfl (by decide) (fun wq hS => r_indexAddr' F Try.underlying34 sz_40 rfl rfl g701.1 g701.2 e704 qqa710) ER.sb fun a F => ?_
                  refine d_qy F rfl rfl rfl (by decide) rfl (decide_eq_false hb678) rfl (by decide) (fun wq hS => r_loads (cs := [.int .i64 ((rd l582 ((rd t589 i612).Number)).Number), .int .i64 ((rd l582 ((rd t589 i612).Number)).From), .int .i64 ((rd l582 ((rd t589 i612).Number)).To), .slice A707 ((rd l582 ((rd t589 i612).Number)).Data).length C708]) F rfl ag_40 sz_40 (AT.sb zh705 hS (fun q => q.elim))) ER.sb fun a F => ?_
                  refine d_e ?_
                  replace H := bind_some H
                  obtain ⟨t712, q713, H⟩ := H
                  refine o_call F rfl (wanted_yes F rfl rfl (by decide) rfl (decide_eq_false hb678)) rfl (by decide) (r_call F Try.func28 rfl (by kernel_rfl) rfl) (haulagelaw20_alike.calls k (m := m + 9) (Nat.add_pos_left hm0 _) B h687 h709 _ q713) ?_
                  rintro e w715 ⟨c714, rfl, E716, B717⟩
                  refine ⟨_, rfl, fun a F => ?_⟩
                  have B := B717
                  replace ER := ER.trans E716 (fun x q => q.elim)
                  replace h579 := BG.ev h579 E716 (fun q => q.elim) (fun q => q.elim) (fun q => q.elim)
                  replace h581 := SL.ev h581 E716 (fun q => q.elim) (fun q => q.elim)
                  replace h597 := SL.ev h597 E716 (fun q => q.elim) (fun q => q.elim)
                  replace h640 := SL.ev h640 E716 (fun q => q.elim) (fun q => q.elim)
                  replace h636 := AT.ev h636 E716 (fun q => q.elim)
                  replace h651 := SL.ev h651 E716 (fun q => q.elim) (fun q => q.elim)
                  replace h647 := AT.ev h647 E716 (fun q => q.elim)
                  replace h663 := SL.ev h663 E716 (fun q => q.elim) (fun q => q.elim)
                  replace h659 := AT.ev h659 E716 (fun q => q.elim)
                  replace h675 := SL.ev h675 E716 (fun q => q.elim) (fun q => q.elim)
                  replace h671 := AT.ev h671 E716 (fun q => q.elim)
                  replace h687 := SL.ev h687 E716 (fun q => q.elim) (fun q => q.elim)
                  replace h683 := AT.ev h683 E716 (fun q => q.elim)
                  replace h698 := SL.ev h698 E716 (fun q => q.elim) (fun q => q.elim)
                  replace h694 := AT.ev h694 E716 (fun q => q.elim)
                  replace h709 := SL.ev h709 E716 (fun q => q.elim) (fun q => q.elim)
                  replace h705 := AT.ev h705 E716 (fun q => q.elim)
                  replace E := E.trans E716 (fun x q => q.elim)
                  refine ⟨fun _ => ER.sb, ?_⟩
                  refine d_qy F rfl rfl rfl (by decide) rfl (decide_eq_false hb678) rfl (by decide) (fun wq hS => r_not F rfl) ER.sb fun a F => ?_
                  refine d_q F rfl rfl rfl (by decide) (fun wq hS => r_pick_f F rfl (decide_eq_false hb678) rfl) ER.sb fun a F => ?_
                  refine d_nil ?_
                  exact J782 c714 w715 a (!t712) (F.sub ⟨rfl, rfl, rfl, rfl, rfl, trivial⟩) E B h579 h581 h597 H
          · replace H := (if_neg hb631).symm.trans H
            refine d_qn F rfl rfl rfl (by decide) rfl (decide_eq_false hb631) rfl (by decide) ER.sb fun a F => ?_
            refine d_qn F rfl rfl rfl (by decide) rfl (decide_eq_false hb631) rfl (by decide) ER.sb fun a F => ?_
            refine d_qn F rfl rfl rfl (by decide) rfl (decide_eq_false hb631) rfl (by decide) ER.sb fun a F => ?_
            refine d_qn F rfl rfl rfl (by decide) rfl (decide_eq_false hb631) rfl (by decide) ER.sb fun a F => ?_
            refine d_qn F rfl rfl rfl (by decide) rfl (decide_eq_false hb631) rfl (by decide) ER.sb fun a F => ?_
            refine d_qn F rfl rfl rfl (by decide) rfl (decide_eq_false hb631) rfl (by decide) ER.sb fun a F => ?_
            refine d_qn F rfl rfl rfl (by decide) rfl (decide_eq_false hb631) rfl (by decide) ER.sb fun a F => ?_
            refine d_qn F rfl rfl rfl (by decide) rfl (decide_eq_false hb631) rfl (by decide) ER.sb fun a F => ?_
            refine d_qn F rfl rfl rfl (by decide) rfl (decide_eq_false hb631) rfl (by decide) ER.sb fun a F => ?_
            refine d_qn F rfl rfl rfl (by decide) rfl (decide_eq_false hb631) rfl (by decide) ER.sb fun a F => ?_
            refine d_qn F rfl rfl rfl (by decide) rfl (decide_eq_false hb631) rfl (by decide) ER.sb fun a F => ?_
            refine d_qn F rfl rfl rfl (by decide) rfl (decide_eq_false hb631) rfl (by decide) ER.sb fun a F => ?_
            refine d_q F rfl rfl rfl (by decide) (fun wq hS => r_pick_f F rfl (decide_eq_false hb631) rfl) ER.sb fun a F => ?_
            refine d_q F rfl rfl rfl (by decide) (fun wq hS => r_move F rfl) ER.sb fun a F => ?_
            refine d_qy F rfl rfl rfl (by decide) rfl rfl rfl (by decide) (fun wq hS => r_move F rfl) ER.sb fun a F => ?_
            refine d_qy F rfl rfl rfl (by decide) rfl rfl rfl (by decide) (fun wq hS => r_move F rfl) ER.sb fun a F => ?_
            replace H := ifN H
            obtain ⟨g719, H⟩ := H
            obtain ⟨ad720, cs721, e722, h723, r724⟩ := SL.at zh597 i612 g719.1 g719.2
            obtain ⟨A725, C726, rfl, h727⟩ := r724
            replace h727 := SL.fl (i' := 0) h727 (fun q => q)
            obtain ⟨qa728, qqa728⟩ : ∃ q, q = (ad720.add (i612.toNat * 4)) := ⟨_, rfl⟩
            have h723 : AT true 0 c613 w614 qa728 [.int .i64 ((rd t589 i612).Number), .int .i64 ((rd t589 i612).From), .int .i64 ((rd t589 i612).To), .slice A725 ((rd t589 i612).Data).length C726] := by rw [qqa728]; exact h723
            have zh727 := h727
            replace h727 := SL.ev h727 ER (fun q => q.elim) (fun q => q.elim)
            have zh723 := h723
            replace h723 := AT.ev h723 ER (fun q => q.elim)
            refine d_qy F rfl rfl rfl (by decide) rfl rfl rfl (by decide) (fun wq hS => r_indexAddr' F Try.underlying34 sz_40 rfl rfl g719.1 g719.2 e722 qqa728) ER.sb fun a F => ?_
            refine d_qy F rfl rfl rfl (by decide) rfl rfl rfl (by decide) (fun wq hS => r_fieldAddr F rfl ff_40_0) ER.sb fun a F => ?_
            refine d_qy F rfl rfl rfl (by decide) rfl rfl rfl (by decide) (fun wq hS => r_load F rfl ag_3 (AT.cell (AT.sb zh723 hS (fun q => q.elim)) rfl)) ER.sb fun a F => ?_
            refine d_qy F rfl rfl rfl (by decide) rfl rfl rfl (by decide) (fun wq hS => r_move F rfl) ER.sb fun a F => ?_
            refine d_qy F rfl rfl rfl (by decide) rfl rfl rfl (by decide) (fun wq hS => r_lensl F Try.underlying34 rfl) ER.sb fun a F => ?_
            refine d_qy F rfl rfl rfl (by decide) rfl rfl rfl (by decide) (fun wq hS => r_geq F rfl rfl) ER.sb fun a F => ?_
            refine d_q F rfl rfl rfl (by decide) (fun wq hS => r_pick_f F rfl rfl rfl) ER.sb fun a F => ?_
            refine d_q F rfl rfl rfl (by decide) (fun wq hS => r_move F rfl) ER.sb fun a F => ?_
            by_cases hb730 : (l582.length : Int) ≤ ((rd t589 i612).Number)
            · replace H := (if_pos hb730).symm.trans H
              refine d_qn F rfl rfl rfl (by decide) rfl (decide_eq_true hb730) rfl (by decide) ER.sb fun a F => ?_
              refine d_qn F rfl rfl rfl (by decide) rfl (decide_eq_true hb730) rfl (by decide) ER.sb fun a F => ?_
              refine d_qn F rfl rfl rfl (by decide) rfl (decide_eq_true hb730) rfl (by decide) ER.sb fun a F => ?_
              refine d_qn F rfl rfl rfl (by decide) rfl (decide_eq_true hb730) rfl (by decide) ER.sb fun a F => ?_
              refine d_qn F rfl rfl rfl (by decide) rfl (decide_eq_true hb730) rfl (by decide) ER.sb fun a F => ?_
              refine d_qn F rfl rfl rfl (by decide) rfl (decide_eq_true hb730) rfl (by decide) ER.sb fun a F => ?_
              refine d_q F rfl rfl rfl (by decide) (fun wq hS => r_pick_t F rfl (decide_eq_true hb730) rfl) ER.sb fun a F => ?_
              refine d_q F rfl rfl rfl (by decide) (fun wq hS => r_move F rfl) ER.sb fun a F => ?_
              refine d_qn F rfl rfl rfl (by decide) rfl rfl rfl (by decide) ER.sb fun a F => ?_
              refine d_qn F rfl rfl rfl (by decide) rfl rfl rfl (by decide) ER.sb fun a F => ?_
              refine d_qn F rfl rfl rfl (by decide) rfl rfl rfl (by decide) ER.sb fun a F => ?_
              refine d_qn F rfl rfl rfl (by decide) rfl rfl rfl (by decide) ER.sb fun a F => ?_
              refine d_qn F rfl rfl rfl (by decide) rfl rfl rfl (by decide) ER.sb fun a F => ?_
              refine d_qn F rfl rfl rfl (by decide) rfl rfl rfl (by decide) ER.sb fun a F => ?_
              refine d_qn F rfl rfl rfl (by decide) rfl rfl rfl (by decide) ER.sb fun a F => ?_
              refine d_qn F rfl rfl rfl (by decide) rfl rfl rfl (by decide) ER.sb fun a F => ?_
              refine d_qn F rfl rfl rfl (by decide) rfl rfl rfl (by decide) ER.sb fun a F => ?_
              refine d_qn F rfl rfl rfl (by decide) rfl rfl rfl (by decide) ER.sb fun a F => ?_
              refine d_qn F rfl rfl rfl (by decide) rfl rfl rfl (by decide) ER.sb fun a F => ?_
              refine d_qn F rfl rfl rfl (by decide) rfl rfl rfl (by decide) ER.sb fun a F => ?_
              refine d_e ?_
              refine o_no F rfl rfl rfl (by decide) rfl rfl rfl (by decide) fun a F => ?_
              refine ⟨fun _ => ER.sb, ?_⟩
              refine d_qn F rfl rfl rfl (by decide) rfl rfl rfl (by decide) ER.sb fun a F => ?_
              refine d_q F rfl rfl rfl (by decide) (fun wq hS => r_pick_t F rfl rfl rfl) ER.sb fun a F => ?_
              refine d_nil ?_
              exact J782 c613 w629 a true (F.sub ⟨rfl, rfl, rfl, rfl, rfl, trivial⟩) E B h579 h581 h597 H
            · replace H := (if_neg hb730).symm.trans H
              refine d_qy F rfl rfl rfl (by decide) rfl (decide_eq_false hb730) rfl (by decide) (fun wq hS => r_move F rfl) ER.sb fun a F => ?_
              refine d_qy F rfl rfl rfl (by decide) rfl (decide_eq_false hb730) rfl (by decide) (fun wq hS => r_move F rfl) ER.sb fun a F => ?_
              replace H := ifN H
              obtain ⟨g731, H⟩ := H
              obtain ⟨ad732, cs733, e734, h735, r736⟩ := SL.at zh597 i612 g731.1 g731.2
              obtain ⟨A737, C738, rfl, h739⟩ := r736
              replace h739 := SL.fl (i' := 0) h739 (fun q => q)
              obtain ⟨qa740, qqa740⟩ : ∃ q, q = (ad732.add (i612.toNat * 4)) := ⟨_, rfl⟩
              have h735 : AT true 0 c613 w614 qa740 [.int .i64 ((rd t589 i612).Number), .int .i64 ((rd t589 i612).From), .int .i64 ((rd t589 i612).To), .slice A737 ((rd t589 i612).Data).length C738] := by rw [qqa740]; exact h735
              have zh739 := h739
              replace h739 := SL.ev h739 ER (fun q => q.elim) (fun q => q.elim)
              have zh735 := h735
              replace h735 := AT.ev h735 ER (fun q => q.elim)
              refine d_qy F rfl rfl rfl (by decide) rfl (decide_eq_false hb730) rfl (by decide) (fun wq hS => r_indexAddr' F Try.underlying34 sz_40 rfl rfl g731.1 g731.2 e734 qqa740) ER.sb fun a F => ?_
              refine d_qy F rfl rfl rfl (by decide) rfl (decide_eq_false hb730) rfl (by decide) (fun wq hS => r_fieldAddr F rfl ff_40_0) ER.sb fun a F => ?_
              refine d_qy F rfl rfl rfl (by decide) rfl (decide_eq_false hb730) rfl (by decide) (fun wq hS => r_load F rfl ag_3 (AT.cell (AT.sb zh735 hS (fun q => q.elim)) rfl)) ER.sb fun a F => ?_
              refine d_qy F rfl rfl rfl (by decide) rfl (decide_eq_false hb730) rfl (by decide) (fun wq hS => r_lss F rfl rfl) ER.sb fun a F => ?_
              refine d_q F rfl rfl rfl (by decide) (fun wq hS => r_pick_f F rfl (decide_eq_false hb730) rfl) ER.sb fun a F => ?_
              refine d_q F rfl rfl rfl (by decide) (fun wq hS => r_move F rfl) ER.sb fun a F => ?_
              by_cases hb742 : ((rd t589 i612).Number) < 0
              · replace H := (if_pos hb742).symm.trans H
                refine d_qn F rfl rfl rfl (by decide) rfl (decide_eq_true hb742) rfl (by decide) ER.sb fun a F => ?_
                refine d_qn F rfl rfl rfl (by decide) rfl (decide_eq_true hb742) rfl (by decide) ER.sb fun a F => ?_
                refine d_qn F rfl rfl rfl (by decide) rfl (decide_eq_true hb742) rfl (by decide) ER.sb fun a F => ?_
                refine d_qn F rfl rfl rfl (by decide) rfl (decide_eq_true hb742) rfl (by decide) ER.sb fun a F => ?_
                refine d_qn F rfl rfl rfl (by decide) rfl (decide_eq_true hb742) rfl (by decide) ER.sb fun a F => ?_
                refine d_qn F rfl rfl rfl (by decide) rfl (decide_eq_true hb742) rfl (by decide) ER.sb fun a F => ?_
                refine d_qn F rfl rfl rfl (by decide) rfl (decide_eq_true hb742) rfl (by decide) ER.sb fun a F => ?_
                refine d_qn F rfl rfl rfl (by decide) rfl (decide_eq_true hb742) rfl (by decide) ER.sb fun a F => ?_
                refine d_qn F rfl rfl rfl (by decide) rfl (decide_eq_true hb742) rfl (by decide) ER.sb fun a F => ?_
                refine d_qn F rfl rfl rfl (by decide) rfl (decide_eq_true hb742) rfl (by decide) ER.sb fun a F => ?_
                refine d_qn F rfl rfl rfl (by decide) rfl (decide_eq_true hb742) rfl (by decide) ER.sb fun a F => ?_
                refine d_qn F rfl rfl rfl (by decide) rfl (decide_eq_true hb742) rfl (by decide) ER.sb fun a F => ?_
                refine d_e ?_
                refine o_no F rfl rfl rfl (by decide) rfl (decide_eq_true hb742) rfl (by decide) fun a F => ?_
                refine ⟨fun _ => ER.sb, ?_⟩
                refine d_qn F rfl rfl rfl (by decide) rfl (decide_eq_true hb742) rfl (by decide) ER.sb fun a F => ?_
                refine d_q F rfl rfl rfl (by decide) (fun wq hS => r_pick_t F rfl (decide_eq_true hb742) rfl) ER.sb fun a F => ?_
                refine d_nil ?_
                exact J782 c613 w629 a true (F.sub ⟨rfl, rfl, rfl, rfl, rfl, trivial⟩) E B h579 h581 h597 H
              · replace H := (if_neg hb742).symm.trans H
                refine d_qy F rfl rfl rfl (by decide) rfl (decide_eq_false hb742) rfl (by decide) (fun wq hS => r_move F rfl) ER.sb fun a F => ?_
                refine d_qy F rfl rfl rfl (by decide) rfl (decide_eq_false hb742) rfl (by decide) (fun wq hS => r_move F rfl) ER.sb fun a F => ?_
                replace H := ifN H
                obtain ⟨g743, H⟩ := H
                obtain ⟨ad744, cs745, e746, h747, r748⟩ := SL.at zh597 i612 g743.1 g743.2
                obtain ⟨A749, C750, rfl, h751⟩ := r748
                replace h751 := SL.fl (i' := 0) h751 (fun q => q)
                obtain ⟨qa752, qqa752⟩ : ∃ q, q = (ad744.add (i612.toNat * 4)) := ⟨_, rfl⟩
                have h747 : AT true 0 c613 w614 qa752 [.int .i64 ((rd t589 i612).Number), .int .i64 ((rd t589 i612).From), .int .i64 ((rd t589 i612).To), .slice A749 ((rd t589 i612).Data).length C750] := by rw [qqa752]; exact h747
                have zh751 := h751
                replace h751 := SL.ev h751 ER (fun q => q.elim) (fun q => q.elim)
                have zh747 := h747
                replace h747 := AT.ev h747 ER (fun q => q.elim)
                refine d_qy F rfl rfl rfl (by decide) rfl (decide_eq_false hb742) rfl (by decide) (fun wq hS => r_indexAddr' F Try.underlying34 sz_40 rfl rfl g743.1 g743.2 e746 qqa752) ER.sb fun a F => ?_
                refine d_qy F rfl rfl rfl (by decide) rfl (decide_eq_false hb742) rfl (by decide) (fun wq hS => r_loads (cs := [.int .i64 ((rd t589 i612).Number), .int .i64 ((rd t589 i612).From), .int .i64 ((rd t589 i612).To), .slice A749 ((rd t589 i612).Data).length C750]) F rfl ag_40 sz_40 (AT.sb zh747 hS (fun q => q.elim))) ER.sb fun a F => ?_
                refine d_qy F rfl rfl rfl (by decide) rfl (decide_eq_false hb742) rfl (by decide) (fun wq hS => r_move F rfl) ER.sb fun a F => ?_
                refine d_qy F rfl rfl rfl (by decide) rfl (decide_eq_false hb742) rfl (by decide) (fun wq hS => r_move F rfl) ER.sb fun a F => ?_
                refine d_qy F rfl rfl rfl (by decide) rfl (decide_eq_false hb742) rfl (by decide) (fun wq hS => r_move F rfl) ER.sb fun a F => ?_
                replace H := ifN H
                obtain ⟨g754, H⟩ := H
                obtain ⟨ad755, cs756, e757, h758, r759⟩ := SL.at zh597 i612 g754.1 g754.2
                obtain ⟨A760, C761, rfl, h762⟩ := r759
                replace h762 := SL.fl (i' := 0) h762 (fun q => q)
                obtain ⟨qa763, qqa763⟩ : ∃ q, q = (ad755.add (i612.toNat * 4)) := ⟨_, rfl⟩
                have h758 : AT true 0 c613 w614 qa763 [.int .i64 ((rd t589 i612).Number), .int .i64 ((rd t589 i612).From), .int .i64 ((rd t589 i612).To), .slice A760 ((rd t589 i612).Data).length C761] := by rw [qqa763]; exact h758
                have zh762 := h762
                replace h762 := SL.ev h762 ER (fun q => q.elim) (fun q => q.elim)
                have zh758 := h758
                replace h758 := AT.ev h758 ER (fun q => q.elim)
                refine d_qy F rfl rfl rfl (by decide) rfl (decide_eq_false hb742) rfl (by decide) (fun wq hS => r_indexAddr' F Try.underlying34 sz_40 rfl rfl g754.1 g754.2 e757 qqa763) ER.sb fun a F => ?_
                refine d_qy F rfl rfl rfl (by decide) rfl (decide_eq_false hb742) rfl (by decide) (fun wq hS => r_fieldAddr F rfl ff_40_0) ER.sb fun a F => ?_
                refine d_qy F rfl rfl rfl (by decide) rfl (decide_eq_false hb742) rfl (by decide) (fun wq hS => r_load F rfl ag_3 (AT.cell (AT.sb zh758 hS (fun q => q.elim)) rfl)) ER.sb fun a F => ?_
                replace H := ifN H
                obtain ⟨g765, H⟩ := H
                obtain ⟨ad766, cs767, e768, h769, r770⟩ := SL.at zh581 ((rd t589 i612).Number) g765.1 g765.2
                obtain ⟨A771, C772, rfl, h773⟩ := r770
                replace h773 := SL.fl (i' := 0) h773 (fun q => q)
                obtain ⟨qa774, qqa774⟩ : ∃ q, q = (ad766.add (((rd t589 i612).Number).toNat * 4)) := ⟨_, rfl⟩
                have h769 : AT true (m + 4) c613 w614 qa774 [.int .i64 ((rd l582 ((rd t589 i612).Number)).Number), .int .i64 ((rd l582 ((rd t589 i612).Number)).From), .int .i64 ((rd l582 ((rd t589 i612).Number)).To), .slice A771 ((rd l582 ((rd t589 i612).Number)).Data).length C772] := by rw [qqa774]; exact h769
                have zh773 := h773
                replace h773 := SL.ev h773 ER (fun q => q.elim) (fun q => q.elim)
                have zh769 := h769
                replace h769 := AT.ev h769 ER (fun q => q.elim)
                refine d_qy F rfl rfl rfl (by decide) rfl (decide_eq_false hb742) rfl (by decide) (fun wq hS => r_indexAddr' F Try.underlying34 sz_40 rfl rfl g765.1 g765.2 e768 qqa774) ER.sb fun a F => ?_
                refine d_qy F rfl rfl rfl (by decide) rfl (decide_eq_false hb742) rfl (by decide) (fun wq hS => r_loads (cs := [.int .i64 ((rd l582 ((rd t589 i612).Number)).Number), .int .i64 ((rd l582 ((rd t589 i612).Number)).From), .int .i64 ((rd l582 ((rd t589 i612).Number)).To), .slice A771 ((rd l582 ((rd t589 i612).Number)).Data).length C772]) F rfl ag_40 sz_40 (AT.sb zh769 hS (fun q => q.elim))) ER.sb fun a F => ?_
                refine d_e ?_
                replace H := bind_some H
                obtain ⟨t712, q713, H⟩ := H
                refine o_call F rfl (wanted_yes F rfl rfl (by decide) rfl (decide_eq_false hb742)) rfl (by decide) (r_call F Try.func28 rfl (by kernel_rfl) rfl) (haulagelaw20_alike.calls k (m := m + 9) (Nat.add_pos_left hm0 _) B h751 h773 _ q713) ?_
                rintro e w777 ⟨c776, rfl, E778, B779⟩
                refine ⟨_, rfl, fun a F => ?_⟩
                have B := B779
                replace ER := ER.trans E778 (fun x q => q.elim)
                replace h579 := BG.ev h579 E778 (fun q => q.elim) (fun q => q.elim) (fun q => q.elim)
                replace h581 := SL.ev h581 E778 (fun q => q.elim) (fun q => q.elim)
                replace h597 := SL.ev h597 E778 (fun q => q.elim) (fun q => q.elim)
                replace h727 := SL.ev h727 E778 (fun q => q.elim) (fun q => q.elim)
                replace h723 := AT.ev h723 E778 (fun q => q.elim)
                replace h739 := SL.ev h739 E778 (fun q => q.elim) (fun q => q.elim)
                replace h735 := AT.ev h735 E778 (fun q => q.elim)
                replace h751 := SL.ev h751 E778 (fun q => q.elim) (fun q => q.elim)
                replace h747 := AT.ev h747 E778 (fun q => q.elim)
                replace h762 := SL.ev h762 E778 (fun q => q.elim) (fun q => q.elim)
                replace h758 := AT.ev h758 E778 (fun q => q.elim)
                replace h773 := SL.ev h773 E778 (fun q => q.elim) (fun q => q.elim)
                replace h769 := AT.ev h769 E778 (fun q => q.elim)
                replace E := E.trans E778 (fun x q => q.elim)
                refine ⟨fun _ => ER.sb, ?_⟩
                refine d_qy F rfl rfl rfl (by decide) rfl (decide_eq_false hb742) rfl (by decide) (fun wq hS => r_not F rfl) ER.sb fun a F => ?_
                refine d_q F rfl rfl rfl (by decide) (fun wq hS => r_pick_f F rfl (decide_eq_false hb742) rfl) ER.sb fun a F => ?_
                refine d_nil ?_
                exact J782 c776 w777 a (!t712) (F.sub ⟨rfl, rfl, rfl, rfl, rfl, trivial⟩) E B h579 h581 h597 H
        · replace H := (if_neg hb625).symm.trans H
          refine wp_cond_false ((F.ev rfl).trans (congrArg Value.bool (decide_eq_false hb625))) ?_
          refine wp_exit ?_
          refine thenE ?_
          refine thenE ?_
          refine inbE ?_
          have hx_ := HD617 _ (Option.some.inj H).symm
          have H := HR621
          rw [← hx_] at H
          exact J861 c613 w614 a  (F.sub trivial) E B  H
      · replace H := (if_neg hb608).symm.trans H
        refine wp_cond_true ((F.ev rfl).trans (congrArg Value.bool (congrArg not (decide_eq_false hb608)))) ?_
        refine wp_seq_k fun K609 hK609 => ?_
        refine reg ?_
        refine q_val F rfl rfl (by decide) (r_assign F rfl) fun a F => ?_
        refine nil ?_
        refine hK609 _ _ ?_
        replace F : Fr a 306 [(2, .bool false)] := F.sub ⟨rfl, trivial⟩
        refine wp_ret ?_
        refine thenR ?_
        replace H := Option.some.inj H
        subst H
        refine out1 F rfl rfl ?_
        exact ⟨fun b_ => (fun x_ => if x_ < m then x_ else 0) (c603 b_), rfl, E.leave B0 (fun x_ => if x_ < m then x_ else 0) (by intro x_ hx_; show (if x_ < m then x_ else 0) = x_; ((repeat' split) <;> omega)), (fun b_ hb_ => by show (if (c603 b_) < m then (c603 b_) else 0) < m; ((repeat' split) <;> omega))⟩
    refine loop_fuel (I := fun n a w => ∃ (o268 : Option Bag) (l269 : List api_Letter) (A270 : Option Addr) (C271 : Nat) (i273 : Int) (i274 : Int) (i275 : Int) (c : Nat → Nat), Fr a 306 [(0, .slice A2 a1.length C3), (3, .pointer p24), (4, .slice A270 l269.length C271), (5, .int .i64 i273), (6, .int .i64 i274), (7, .int .i64 i275)] ∧ Ev (fun x => False ∨ m ≤ x) c0 w0 c w ∧ CB (m + 9) c w ∧ SL false K_haulagelaw20_Op 0 0 c w A2 C3 a1 ∧ BG (m + 1) (m + 2) c w p24 o268 ∧ SL true K_api_Letter (m + 4) 0 c w A270 C271 l269 ∧ loop (fun (s_ : (Option Bag) × (List api_Letter) × Int × Int × Int) => haulagelaw20_BagNothingElse.b9 k a1 s_.1 s_.2.1 s_.2.2.1 s_.2.2.2.1 s_.2.2.2.2) n (o268, l269, i273, i274, i275) = some x285) (k := k) ⟨t18, [], none, 0, 0, 0, 0, c20, F.sub ⟨rfl, rfl, rfl, rfl, rfl, rfl, trivial⟩, E, B, h4, h25, SL.nil, HL⟩ ?_
    clear HL H E F B
    intro n282 X278 hX278 a w277 ⟨o268, l269, A270, C271, i273, i274, i275, c276, F, E, B, h4, h267, h272, HL⟩
    obtain ⟨n283, ctl281, rfl, HB, HN279, HD280⟩ := loop_some HL
    have H : haulagelaw20_BagNothingElse.b9 k a1 o268 l269 i273 i274 i275 = some ctl281 := HB
    clear HB HL
    unfold haulagelaw20_BagNothingElse.b9 at H
    refine wp_seq_k fun K286 hK286 => ?_
    refine wp_seq_k fun K287 hK287 => ?_
    refine reg ?_
    refine q_val F rfl rfl (by decide) (r_move F rfl) fun a F => ?_
    refine q_val F rfl rfl (by decide) (r_move F rfl) fun a F => ?_
    refine q_val F rfl rfl (by decide) (r_lensl F Try.underlying47 rfl) fun a F => ?_
    refine q_val F rfl rfl (by decide) (r_lss F rfl rfl) fun a F => ?_
    refine nil ?_
    refine hK287 _ _ ?_
    by_cases hb288 : i275 < (a1.length : Int)
    · replace H := (if_pos hb288).symm.trans H
      refine wp_cond_true ((F.ev rfl).trans (congrArg Value.bool (decide_eq_true hb288))) ?_
      refine wp_skip ?_
      refine hK286 _ _ ?_
      refine wp_seq_k fun K289 hK289 => ?_
      refine wp_block ?_
      refine wp_seq_k fun K290 hK290 => ?_
      refine reg ?_
      refine q_val F rfl rfl (by decide) (r_move F rfl) fun a F => ?_
      refine q_val F rfl rfl (by decide) (r_move F rfl) fun a F => ?_
      replace H := ifN H
      obtain ⟨g291, H⟩ := H
      obtain ⟨ad292, cs293, e294, h295, r296⟩ := SL.at h4 i275 g291.1 g291.2
      obtain ⟨A297, C298, rfl, h299⟩ := r296
      replace h299 := SL.fl (i' := 0) h299 (fun q => q)
      obtain ⟨qa300, qqa300⟩ : ∃ q, q = (ad292.add (i275.toNat * 5)) := ⟨_, rfl⟩
      have h295 : AT false 0 c276 w277 qa300 [.int .i64 ((rd a1 i275).Who), .int .i64 ((rd a1 i275).Kind), .int .i64 ((rd a1 i275).Number), .int .i64 ((rd a1 i275).To), .slice A297 ((rd a1 i275).Data).length C298] := by rw [qqa300]; exact h295
      refine q_val F rfl rfl (by decide) (r_indexAddr' F Try.underlying47 sz_53 rfl rfl g291.1 g291.2 e294 qqa300) fun a F => ?_
      refine q_val F rfl rfl (by decide) (r_loads (cs := [.int .i64 ((rd a1 i275).Who), .int .i64 ((rd a1 i275).Kind), .int .i64 ((rd a1 i275).Number), .int .i64 ((rd a1 i275).To), .slice A297 ((rd a1 i275).Data).length C298]) F rfl ag_53 sz_53 h295) fun a F => ?_
      refine q_eff F rfl rfl (by decide) (e_alloc F zv_53 c276 (m + 3)) ?_
      rintro v w303 a ⟨c302, qa63, rfl, E304, h65, B305⟩ F
      replace B := B305 _ B (Nat.add_lt_add_left (by decide) m)
      replace h4 := SL.ev h4 E304 (fun q => q.elim) (fun q => q.elim)
      replace h267 := BG.ev h267 E304 (fun q => q.elim) (fun q => q.elim) (fun q => q.elim)
      replace h272 := SL.ev h272 E304 (fun q => q.elim) (fun q => q.elim)
      replace h299 := SL.ev h299 E304 (fun q => q.elim) (fun q => q.elim)
      replace h295 := AT.ev h295 E304 (fun q => q.elim)
      replace E := E.trans E304 (fun x q => q.elim)
      replace h65 : AT true (m + 3) c302 w303 qa63 [.int .i64 0, .int .i64 0, .int .i64 0, .int .i64 0, .slice none 0 0] := h65
      refine q_eff0 F rfl rfl (e_storeN0 (us := [.int .i64 ((rd a1 i275).Who), .int .i64 ((rd a1 i275).Kind), .int .i64 ((rd a1 i275).Number), .int .i64 ((rd a1 i275).To), .slice A297 ((rd a1 i275).Data).length C298]) F rfl rfl sz_53 h65 (Nat.le_of_ble_eq_true rfl) (one_all rfl)) ?_
      rintro w306 a ⟨E307, h65, Z308⟩ F
      replace B := B.size Z308
      replace h4 := SL.ev h4 E307 ne_zm ne_zm
      replace h267 := BG.ev h267 E307 (ne_mm (by decide)) (ne_mm (by decide)) ne_zm
      replace h272 := SL.ev h272 E307 (ne_mm (by decide)) ne_zm
      replace h299 := SL.ev h299 E307 ne_zm ne_zm
      replace h295 := AT.ev h295 E307 ne_zm
      replace E := E.trans E307 (fun x (q : x = m + 3) => Or.inr (le_col q))
      replace h65 : AT true (m + 3) c302 w306 qa63 [.int .i64 ((rd a1 i275).Who), .int .i64 ((rd a1 i275).Kind), .int .i64 ((rd a1 i275).Number), .int .i64 ((rd a1 i275).To), .slice A297 ((rd a1 i275).Data).length C298] := h65
      refine nil ?_
      refine hK290 _ _ ?_
      replace F : Fr a 306 [(0, .slice A2 a1.length C3), (3, .pointer p24), (4, .slice A270 l269.length C271), (5, .int .i64 i273), (6, .int .i64 i274), (7, .int .i64 i275), (8, .pointer (some qa63))] := F.sub ⟨rfl, rfl, rfl, rfl, rfl, rfl, rfl, trivial⟩
      refine wp_seq_k fun K309 hK309 => ?_
      have J530 : ∀ (c531 : Nat → Nat) (w532 : World) (a : Act) (o523 : Option Bag) (l527 : List api_Letter) (A524 : Option Addr) (C525 : Nat) (i528 : Int) (i529 : Int), Fr a 306 [(0, .slice A2 a1.length C3), (3, .pointer p24), (4, .slice A524 l527.length C525), (5, .int .i64 i528), (6, .int .i64 i529), (7, .int .i64 i275)] → Ev (fun x => False ∨ m ≤ x) c0 w0 c531 w532 → CB (m + 9) c531 w532 → SL false K_haulagelaw20_Op 0 0 c531 w532 A2 C3 a1 → BG (m + 1) (m + 2) c531 w532 p24 o523 → SL true K_api_Letter (m + 4) 0 c531 w532 A524 C525 l527 → haulagelaw20_BagNothingElse.j7 i275 o523 l527 i528 i529 = some ctl281 → K309 a w532 := by
        intro c531 w532 a o523 l527 A524 C525 i528 i529 F E B h4 h522 h526 H
        unfold haulagelaw20_BagNothingElse.j7 at H
        refine hK309 _ _ ?_
        refine wp_seq_k fun K533 hK533 => ?_
        refine reg ?_
        refine q_val F rfl rfl (by decide) (r_move F rfl) fun a F => ?_
        replace H := bind_some H
        obtain ⟨t222, q223, H⟩ := H
        refine q_call F rfl rfl (by decide) (r_call F Try.func29 rfl (by kernel_rfl) rfl) (bag_Bag_Counts.calls (m := m + 9) (Nat.add_pos_left hm0 _) B h522 (Nat.add_lt_add_left (by decide) m) ⟨(Nat.add_lt_add_left (by decide) m), (ne_mm (by decide))⟩ _ q223) ?_
        rintro e w535 ⟨c534, rfl, E536, B537⟩
        refine ⟨_, rfl, fun a F => ?_⟩
        have B := B537
        replace h4 := SL.ev h4 E536 (fun q => q.elim) (fun q => q.elim)
        replace h522 := BG.ev h522 E536 (fun q => q.elim) (fun q => q.elim) (fun q => q.elim)
        replace h526 := SL.ev h526 E536 (fun q => q.elim) (fun q => q.elim)
        replace E := E.trans E536 (fun x q => q.elim)
        refine q_eff F rfl rfl (by decide) (e_alloc F zv_63 c534 (m + 6)) ?_
        rintro v w540 a ⟨c539, qa231, rfl, E541, h233, B542⟩ F
        replace B := B542 _ B (Nat.add_lt_add_left (by decide) m)
        replace h4 := SL.ev h4 E541 (fun q => q.elim) (fun q => q.elim)
        replace h522 := BG.ev h522 E541 (fun q => q.elim) (fun q => q.elim) (fun q => q.elim)
        replace h526 := SL.ev h526 E541 (fun q => q.elim) (fun q => q.elim)
        replace E := E.trans E541 (fun x q => q.elim)
        replace h233 : AT true (m + 6) c539 w540 qa231 [.int .i64 0, .int .i64 0, .int .i64 0, .int .i64 0, .int .i64 0] := h233
        refine q_eff0 F rfl rfl (e_storeN0 (us := [.int .i64 t222.Sent, .int .i64 t222.Twice, .int .i64 t222.Delivered, .int .i64 t222.Dropped, .int .i64 t222.Lost]) F rfl rfl sz_63 h233 (Nat.le_of_ble_eq_true rfl) (one_all rfl)) ?_
        rintro w543 a ⟨E544, h233, Z545⟩ F
        replace B := B.size Z545
        replace h4 := SL.ev h4 E544 ne_zm ne_zm
        replace h522 := BG.ev h522 E544 (ne_mm (by decide)) (ne_mm (by decide)) ne_zm
        replace h526 := SL.ev h526 E544 (ne_mm (by decide)) ne_zm
        replace E := E.trans E544 (fun x (q : x = m + 6) => Or.inr (le_col q))
        replace h233 : AT true (m + 6) c539 w543 qa231 [.int .i64 t222.Sent, .int .i64 t222.Twice, .int .i64 t222.Delivered, .int .i64 t222.Dropped, .int .i64 t222.Lost] := h233
        refine nil ?_
        refine hK533 _ _ ?_
        refine wp_seq_k fun K546 hK546 => ?_
        have J564 : ∀ (c565 : Nat → Nat) (w566 : World) (a : Act) (b563 : Bool), Fr a 306 [(0, .slice A2 a1.length C3), (3, .pointer p24), (4, .slice A524 l527.length C525), (5, .int .i64 i528), (6, .int .i64 i529), (7, .int .i64 i275), (215, .bool b563)] → Ev (fun x => False ∨ m ≤ x) c0 w0 c565 w566 → CB (m + 9) c565 w566 → SL false K_haulagelaw20_Op 0 0 c565 w566 A2 C3 a1 → BG (m + 1) (m + 2) c565 w566 p24 o523 → SL true K_api_Letter (m + 4) 0 c565 w566 A524 C525 l527 → haulagelaw20_BagNothingElse.j8 i275 o523 l527 i528 i529 b563 = some ctl281 → K546 a w566 := by
          intro c565 w566 a b563 F E B h4 h522 h526 H
          unfold haulagelaw20_BagNothingElse.j8 at H
          refine hK546 _ _ ?_
          by_cases hb567 : b563 = true
          · replace H := (if_pos hb567).symm.trans H
            refine wp_cond_true ((F.ev rfl).trans (congrArg Value.bool hb567)) ?_
            refine wp_seq_k fun K568 hK568 => ?_
            refine reg ?_
            refine q_val F rfl rfl (by decide) (r_assign F rfl) fun a F => ?_
            refine nil ?_
            refine hK568 _ _ ?_
            refine wp_ret ?_
            refine inbR ?_
            refine thenR ?_
            refine thenR ?_
            refine inbR ?_
            refine thenR ?_
            have hx_ := HD280 _ (Option.some.inj H).symm
            have H := HR284
            rw [← hx_] at H
            replace H : some false = some r := H
            replace H := Option.some.inj H
            subst H
            refine out1 F rfl rfl ?_
            exact ⟨fun b_ => (fun x_ => if x_ < m then x_ else 0) (c565 b_), rfl, E.leave B0 (fun x_ => if x_ < m then x_ else 0) (by intro x_ hx_; show (if x_ < m then x_ else 0) = x_; ((repeat' split) <;> omega)), (fun b_ hb_ => by show (if (c565 b_) < m then (c565 b_) else 0) < m; ((repeat' split) <;> omega))⟩
          · replace H := (if_neg hb567).symm.trans H
            refine wp_cond_false ((F.ev rfl).trans (congrArg Value.bool (bfalse hb567))) ?_
            refine wp_skip ?_
            refine hK289 _ _ ?_
            refine reg ?_
            refine q_val F rfl rfl (by decide) (r_move F rfl) fun a F => ?_
            refine q_val F rfl rfl (by decide) (r_add F rfl rfl) fun a F => ?_
            refine q_val F rfl rfl (by decide) (r_assign F rfl) fun a F => ?_
            refine nil ?_
            replace H := HN279 _ (Option.some.inj H).symm
            exact hX278 _ _ _ (Nat.lt_succ_self _) ⟨o523, l527, A524, C525, i528, i529, (IntKind.i64.wrap (i275 + 1)), c565, F.sub ⟨rfl, rfl, rfl, rfl, rfl, rfl, trivial⟩, E, B, h4, h522, h526, H⟩
        refine regD (SB No c539 w543) 48 (.q 0 (.q 2 (.q 3 (.q 4 (.q 5 (.e 1 (.q 6 (.q 7 (.q 8 (.q 9 (.q 10 (.q 11 (.q 12 (.q 13 (.q 14 (.q 15 (.q 16 (.q 17 (.q 18 (.q 19 (.q 20 (.q 21 (.q 22 (.q 23 (.q 24 (.q 25 (.q 26 (.q 27 (.q 28 (.q 29 (.q 30 (.q 31 (.q 32 (.q 33 (.q 34 (.q 35 (.q 36 (.q 37 (.q 38 (.q 39 (.q 40 (.q 41 (.q 42 (.q 43 (.e 44 (.q 45 (.q 46 (.q 47 .nil)))))))))))))))))))))))))))))))))))))))))))))))) Try_hm (by decide +kernel) ?_
        intro w547 w1_ w2_ w3_ w4_
        have E548 : Ev No c539 w543 c539 w547 := Ev.same w1_ w2_ w3_ w4_
        replace B := B.same w1_
        have zh4 := h4
        have zh522 := h522
        have zh526 := h526
        have zh233 := h233
        have ER : Ev No c539 w543 c539 w547 := Ev.same w1_ w2_ w3_ w4_
        replace h4 := SL.ev h4 E548 (fun q => q.elim) (fun q => q.elim)
        replace h522 := BG.ev h522 E548 (fun q => q.elim) (fun q => q.elim) (fun q => q.elim)
        replace h526 := SL.ev h526 E548 (fun q => q.elim) (fun q => q.elim)
        replace h233 := AT.ev h233 E548 (fun q => q.elim)
        replace E := E.trans E548 (fun x q => q.elim)
        refine d_q F rfl rfl rfl (by decide) (fun wq hS => r_move F rfl) ER.sb fun a F => ?_
        refine d_q F rfl rfl rfl (by decide) (fun wq hS => r_move F rfl) ER.sb fun a F => ?_
        refine d_q F rfl rfl rfl (by decide) (fun wq hS => r_lensl F Try.underlying34 rfl) ER.sb fun a F => ?_
        refine d_q F rfl rfl rfl (by decide) (fun wq hS => r_move F rfl) ER.sb fun a F => ?_
        refine d_q F rfl rfl rfl (by decide) (fun wq hS => r_sub F rfl rfl) ER.sb fun a F => ?_
        refine d_e ?_
        replace H := bind_some H
        obtain ⟨t242, q243, H⟩ := H
        refine o_call F rfl (wanted_none rfl) rfl (by decide) (r_call F Try.func10 rfl (by kernel_rfl) rfl) (bag_Bag_Len.calls (m := m + 9) (Nat.add_pos_left hm0 _) B h522 (Nat.add_lt_add_left (by decide) m) ⟨(Nat.add_lt_add_left (by decide) m), (ne_mm (by decide))⟩ _ q243) ?_
        rintro e w550 ⟨c549, rfl, E551, B552⟩
        refine ⟨_, rfl, fun a F => ?_⟩
        have B := B552
        replace ER := ER.trans E551 (fun x q => q.elim)
        replace h4 := SL.ev h4 E551 (fun q => q.elim) (fun q => q.elim)
        replace h522 := BG.ev h522 E551 (fun q => q.elim) (fun q => q.elim) (fun q => q.elim)
        replace h526 := SL.ev h526 E551 (fun q => q.elim) (fun q => q.elim)
        replace h233 := AT.ev h233 E551 (fun q => q.elim)
        replace E := E.trans E551 (fun x q => q.elim)
        refine ⟨fun _ => ER.sb, ?_⟩
        refine d_q F rfl rfl rfl (by decide) (fun wq hS => r_neq F rfl rfl) ER.sb fun a F => ?_
        refine d_q F rfl rfl rfl (by decide) (fun wq hS => r_move F rfl) ER.sb fun a F => ?_
        by_cases hb554 : t242 = (IntKind.i64.wrap ((l527.length : Int) - i528))
        · replace H := (if_pos hb554).symm.trans H
          refine d_qy F rfl rfl rfl (by decide) rfl (congrArg not (decide_eq_true hb554)) rfl (by decide) (fun wq hS => r_fieldAddr F rfl ff_63_0) ER.sb fun a F => ?_
          refine d_qy F rfl rfl rfl (by decide) rfl (congrArg not (decide_eq_true hb554)) rfl (by decide) (fun wq hS => r_load F rfl ag_3 (AT.cell (AT.sb zh233 hS (fun q => q.elim)) rfl)) ER.sb fun a F => ?_
          refine d_qy F rfl rfl rfl (by decide) rfl (congrArg not (decide_eq_true hb554)) rfl (by decide) (fun wq hS => r_fieldAddr F rfl ff_63_1) ER.sb fun a F => ?_
          refine d_qy F rfl rfl rfl (by decide) rfl (congrArg not (decide_eq_true hb554)) rfl (by decide) (fun wq hS => r_load F rfl ag_3 (AT.cell (AT.sb zh233 hS (fun q => q.elim)) rfl)) ER.sb fun a F => ?_
          refine d_qy F rfl rfl rfl (by decide) rfl (congrArg not (decide_eq_true hb554)) rfl (by decide) (fun wq hS => r_add F rfl rfl) ER.sb fun a F => ?_
          refine d_qy F rfl rfl rfl (by decide) rfl (congrArg not (decide_eq_true hb554)) rfl (by decide) (fun wq hS => r_move F rfl) ER.sb fun a F => ?_
          refine d_qy F rfl rfl rfl (by decide) rfl (congrArg not (decide_eq_true hb554)) rfl (by decide) (fun wq hS => r_lensl F Try.underlying34 rfl) ER.sb fun a F => ?_
          refine d_qy F rfl rfl rfl (by decide) rfl (congrArg not (decide_eq_true hb554)) rfl (by decide) (fun wq hS => r_neq F rfl rfl) ER.sb fun a F => ?_
          refine d_q F rfl rfl rfl (by decide) (fun wq hS => r_pick_f F rfl (congrArg not (decide_eq_true hb554)) rfl) ER.sb fun a F => ?_
          refine d_q F rfl rfl rfl (by decide) (fun wq hS => r_move F rfl) ER.sb fun a F => ?_
          by_cases hb555 : (IntKind.i64.wrap (t222.Sent + t222.Twice)) = (l527.length : Int)
          · replace H := (if_pos hb555).symm.trans H
            refine d_qy F rfl rfl rfl (by decide) rfl (congrArg not (decide_eq_true hb555)) rfl (by decide) (fun wq hS => r_fieldAddr F rfl ff_63_1) ER.sb fun a F => ?_
            refine d_qy F rfl rfl rfl (by decide) rfl (congrArg not (decide_eq_true hb555)) rfl (by decide) (fun wq hS => r_load F rfl ag_3 (AT.cell (AT.sb zh233 hS (fun q => q.elim)) rfl)) ER.sb fun a F => ?_
            refine d_qy F rfl rfl rfl (by decide) rfl (congrArg not (decide_eq_true hb555)) rfl (by decide) (fun wq hS => r_move F rfl) ER.sb fun a F => ?_
            refine d_qy F rfl rfl rfl (by decide) rfl (congrArg not (decide_eq_true hb555)) rfl (by decide) (fun wq hS => r_neq F rfl rfl) ER.sb fun a F => ?_
            refine d_q F rfl rfl rfl (by decide) (fun wq hS => r_pick_f F rfl (congrArg not (decide_eq_true hb555)) rfl) ER.sb fun a F => ?_
            refine d_q F rfl rfl rfl (by decide) (fun wq hS => r_move F rfl) ER.sb fun a F => ?_
            by_cases hb556 : t222.Twice = i529
            · replace H := (if_pos hb556).symm.trans H
              refine d_qy F rfl rfl rfl (by decide) rfl (congrArg not (decide_eq_true hb556)) rfl (by decide) (fun wq hS => r_fieldAddr F rfl ff_63_2) ER.sb fun a F => ?_
              refine d_qy F rfl rfl rfl (by decide) rfl (congrArg not (decide_eq_true hb556)) rfl (by decide) (fun wq hS => r_load F rfl ag_3 (AT.cell (AT.sb zh233 hS (fun q => q.elim)) rfl)) ER.sb fun a F => ?_
              refine d_qy F rfl rfl rfl (by decide) rfl (congrArg not (decide_eq_true hb556)) rfl (by decide) (fun wq hS => r_fieldAddr F rfl ff_63_3) ER.sb fun a F => ?_
              refine d_qy F rfl rfl rfl (by decide) rfl (congrArg not (decide_eq_true hb556)) rfl (by decide) (fun wq hS => r_load F rfl ag_3 (AT.cell (AT.sb zh233 hS (fun q => q.elim)) rfl)) ER.sb fun a F => ?_
              refine d_qy F rfl rfl rfl (by decide) rfl (congrArg not (decide_eq_true hb556)) rfl (by decide) (fun wq hS => r_add F rfl rfl) ER.sb fun a F => ?_
              refine d_qy F rfl rfl rfl (by decide) rfl (congrArg not (decide_eq_true hb556)) rfl (by decide) (fun wq hS => r_move F rfl) ER.sb fun a F => ?_
              refine d_qy F rfl rfl rfl (by decide) rfl (congrArg not (decide_eq_true hb556)) rfl (by decide) (fun wq hS => r_neq F rfl rfl) ER.sb fun a F => ?_
              refine d_q F rfl rfl rfl (by decide) (fun wq hS => r_pick_f F rfl (congrArg not (decide_eq_true hb556)) rfl) ER.sb fun a F => ?_
              refine d_q F rfl rfl rfl (by decide) (fun wq hS => r_move F rfl) ER.sb fun a F => ?_
              by_cases hb557 : (IntKind.i64.wrap (t222.Delivered + t222.Dropped)) = i528
              · replace H := (if_pos hb557).symm.trans H
                refine d_qy F rfl rfl rfl (by decide) rfl (congrArg not (decide_eq_true hb557)) rfl (by decide) (fun wq hS => r_fieldAddr F rfl ff_63_0) ER.sb fun a F => ?_
                refine d_qy F rfl rfl rfl (by decide) rfl (congrArg not (decide_eq_true hb557)) rfl (by decide) (fun wq hS => r_load F rfl ag_3 (AT.cell (AT.sb zh233 hS (fun q => q.elim)) rfl)) ER.sb fun a F => ?_
                refine d_qy F rfl rfl rfl (by decide) rfl (congrArg not (decide_eq_true hb557)) rfl (by decide) (fun wq hS => r_fieldAddr F rfl ff_63_1) ER.sb fun a F => ?_
                refine d_qy F rfl rfl rfl (by decide) rfl (congrArg not (decide_eq_true hb557)) rfl (by decide) (fun wq hS => r_load F rfl ag_3 (AT.cell (AT.sb zh233 hS (fun q => q.elim)) rfl)) ER.sb fun a F => ?_
                refine d_qy F rfl rfl rfl (by decide) rfl (congrArg not (decide_eq_true hb557)) rfl (by decide) (fun wq hS => r_add F rfl rfl) ER.sb fun a F => ?_
                refine d_qy F rfl rfl rfl (by decide) rfl (congrArg not (decide_eq_true hb557)) rfl (by decide) (fun wq hS => r_fieldAddr F rfl ff_63_2) ER.sb fun a F => ?_
                refine d_qy F rfl rfl rfl (by decide) rfl (congrArg not (decide_eq_true hb557)) rfl (by decide) (fun wq hS => r_load F rfl ag_3 (AT.cell (AT.sb zh233 hS (fun q => q.elim)) rfl)) ER.sb fun a F => ?_
                refine d_qy F rfl rfl rfl (by decide) rfl (congrArg not (decide_eq_true hb557)) rfl (by decide) (fun wq hS => r_fieldAddr F rfl ff_63_3) ER.sb fun a F => ?_
                refine d_qy F rfl rfl rfl (by decide) rfl (congrArg not (decide_eq_true hb557)) rfl (by decide) (fun wq hS => r_load F rfl ag_3 (AT.cell (AT.sb zh233 hS (fun q => q.elim)) rfl)) ER.sb fun a F => ?_
                refine d_qy F rfl rfl rfl (by decide) rfl (congrArg not (decide_eq_true hb557)) rfl (by decide) (fun wq hS => r_add F rfl rfl) ER.sb fun a F => ?_
                refine d_qy F rfl rfl rfl (by decide) rfl (congrArg not (decide_eq_true hb557)) rfl (by decide) (fun wq hS => r_move F rfl) ER.sb fun a F => ?_
                refine d_e ?_
                replace H := bind_some H
                obtain ⟨t253, q254, H⟩ := H
                refine o_call F rfl (wanted_yes F rfl rfl (by decide) rfl (congrArg not (decide_eq_true hb557))) rfl (by decide) (r_call F Try.func10 rfl (by kernel_rfl) rfl) (bag_Bag_Len.calls (m := m + 9) (Nat.add_pos_left hm0 _) B h522 (Nat.add_lt_add_left (by decide) m) ⟨(Nat.add_lt_add_left (by decide) m), (ne_mm (by decide))⟩ _ q254) ?_
                rintro e w559 ⟨c558, rfl, E560, B561⟩
                refine ⟨_, rfl, fun a F => ?_⟩
                have B := B561
                replace ER := ER.trans E560 (fun x q => q.elim)
                replace h4 := SL.ev h4 E560 (fun q => q.elim) (fun q => q.elim)
                replace h522 := BG.ev h522 E560 (fun q => q.elim) (fun q => q.elim) (fun q => q.elim)
                replace h526 := SL.ev h526 E560 (fun q => q.elim) (fun q => q.elim)
                replace h233 := AT.ev h233 E560 (fun q => q.elim)
                replace E := E.trans E560 (fun x q => q.elim)
                refine ⟨fun _ => ER.sb, ?_⟩
                refine d_qy F rfl rfl rfl (by decide) rfl (congrArg not (decide_eq_true hb557)) rfl (by decide) (fun wq hS => r_add F rfl rfl) ER.sb fun a F => ?_
                refine d_qy F rfl rfl rfl (by decide) rfl (congrArg not (decide_eq_true hb557)) rfl (by decide) (fun wq hS => r_neq F rfl rfl) ER.sb fun a F => ?_
                refine d_q F rfl rfl rfl (by decide) (fun wq hS => r_pick_f F rfl (congrArg not (decide_eq_true hb557)) rfl) ER.sb fun a F => ?_
                refine d_nil ?_
                exact J564 c558 w559 a (!decide ((IntKind.i64.wrap (t222.Sent + t222.Twice)) = (IntKind.i64.wrap ((IntKind.i64.wrap (t222.Delivered + t222.Dropped)) + t253)))) (F.sub ⟨rfl, rfl, rfl, rfl, rfl, rfl, rfl, trivial⟩) E B h4 h522 h526 H
              · replace H := (if_neg hb557).symm.trans H
                refine d_qn F rfl rfl rfl (by decide) rfl (congrArg not (decide_eq_false hb557)) rfl (by decide) ER.sb fun a F => ?_
                refine d_qn F rfl rfl rfl (by decide) rfl (congrArg not (decide_eq_false hb557)) rfl (by decide) ER.sb fun a F => ?_
                refine d_qn F rfl rfl rfl (by decide) rfl (congrArg not (decide_eq_false hb557)) rfl (by decide) ER.sb fun a F => ?_
                refine d_qn F rfl rfl rfl (by decide) rfl (congrArg not (decide_eq_false hb557)) rfl (by decide) ER.sb fun a F => ?_
                refine d_qn F rfl rfl rfl (by decide) rfl (congrArg not (decide_eq_false hb557)) rfl (by decide) ER.sb fun a F => ?_
                refine d_qn F rfl rfl rfl (by decide) rfl (congrArg not (decide_eq_false hb557)) rfl (by decide) ER.sb fun a F => ?_
                refine d_qn F rfl rfl rfl (by decide) rfl (congrArg not (decide_eq_false hb557)) rfl (by decide) ER.sb fun a F => ?_
                refine d_qn F rfl rfl rfl (by decide) rfl (congrArg not (decide_eq_false hb557)) rfl (by decide) ER.sb fun a F => ?_
                refine d_qn F rfl rfl rfl (by decide) rfl (congrArg not (decide_eq_false hb557)) rfl (by decide) ER.sb fun a F => ?_
                refine d_qn F rfl rfl rfl (by decide) rfl (congrArg not (decide_eq_false hb557)) rfl (by decide) ER.sb fun a F => ?_
                refine d_qn F rfl rfl rfl (by decide) rfl (congrArg not (decide_eq_false hb557)) rfl (by decide) ER.sb fun a F => ?_
                refine d_e ?_
                refine o_no F rfl rfl rfl (by decide) rfl (congrArg not (decide_eq_false hb557)) rfl (by decide) fun a F => ?_
                refine ⟨fun _ => ER.sb, ?_⟩
                refine d_qn F rfl rfl rfl (by decide) rfl (congrArg not (decide_eq_false hb557)) rfl (by decide) ER.sb fun a F => ?_
                refine d_qn F rfl rfl rfl (by decide) rfl (congrArg not (decide_eq_false hb557)) rfl (by decide) ER.sb fun a F => ?_
                refine d_q F rfl rfl rfl (by decide) (fun wq hS => r_pick_t F rfl (congrArg not (decide_eq_false hb557)) rfl) ER.sb fun a F => ?_
                refine d_nil ?_
                exact J564 c549 w550 a true (F.sub ⟨rfl, rfl, rfl, rfl, rfl, rfl, rfl, trivial⟩) E B h4 h522 h526 H
            · replace H := (if_neg hb556).symm.trans H
              refine d_qn F rfl rfl rfl (by decide) rfl (congrArg not (decide_eq_false hb556)) rfl (by decide) ER.sb fun a F => ?_
              refine d_qn F rfl rfl rfl (by decide) rfl (congrArg not (decide_eq_false hb556)) rfl (by decide) ER.sb fun a F => ?_
              refine d_qn F rfl rfl rfl (by decide) rfl (congrArg not (decide_eq_false hb556)) rfl (by decide) ER.sb fun a F => ?_
              refine d_qn F rfl rfl rfl (by decide) rfl (congrArg not (decide_eq_false hb556)) rfl (by decide) ER.sb fun a F => ?_
              refine d_qn F rfl rfl rfl (by decide) rfl (congrArg not (decide_eq_false hb556)) rfl (by decide) ER.sb fun a F => ?_
              refine d_qn F rfl rfl rfl (by decide) rfl (congrArg not (decide_eq_false hb556)) rfl (by decide) ER.sb fun a F => ?_
              refine d_qn F rfl rfl rfl (by decide) rfl (congrArg not (decide_eq_false hb556)) rfl (by decide) ER.sb fun a F => ?_
              refine d_q F rfl rfl rfl (by decide) (fun wq hS => r_pick_t F rfl (congrArg not (decide_eq_false hb556)) rfl) ER.sb fun a F => ?_
              refine d_q F rfl rfl rfl (by decide) (fun wq hS => r_move F rfl) ER.sb fun a F => ?_
              refine d_qn F rfl rfl rfl (by decide) rfl rfl rfl (by decide) ER.sb fun a F => ?_
              refine d_qn F rfl rfl rfl (by decide) rfl rfl rfl (by decide) ER.sb fun a F => ?_
              refine d_qn F rfl rfl rfl (by decide) rfl rfl rfl (by decide) ER.sb fun a F => ?_
              refine d_qn F rfl rfl rfl (by decide) rfl rfl rfl (by decide) ER.sb fun a F => ?_
              refine d_qn F rfl rfl rfl (by decide) rfl rfl rfl (by decide) ER.sb fun a F => ?_
              refine d_qn F rfl rfl rfl (by decide) rfl rfl rfl (by decide) ER.sb fun a F => ?_
              refine d_qn F rfl rfl rfl (by decide) rfl rfl rfl (by decide) ER.sb fun a F => ?_
              refine d_qn F rfl rfl rfl (by decide) rfl rfl rfl (by decide) ER.sb fun a F => ?_
              refine d_qn F rfl rfl rfl (by decide) rfl rfl rfl (by decide) ER.sb fun a F => ?_
              refine d_qn F rfl rfl rfl (by decide) rfl rfl rfl (by decide) ER.sb fun a F => ?_
              refine d_qn F rfl rfl rfl (by decide) rfl rfl rfl (by decide) ER.sb fun a F => ?_
              refine d_e ?_
              refine o_no F rfl rfl rfl (by decide) rfl rfl rfl (by decide) fun a F => ?_
              refine ⟨fun _ => ER.sb, ?_⟩
              refine d_qn F rfl rfl rfl (by decide) rfl rfl rfl (by decide) ER.sb fun a F => ?_
              refine d_qn F rfl rfl rfl (by decide) rfl rfl rfl (by decide) ER.sb fun a F => ?_
              refine d_q F rfl rfl rfl (by decide) (fun wq hS => r_pick_t F rfl rfl rfl) ER.sb fun a F => ?_
              refine d_nil ?_
              exact J564 c549 w550 a true (F.sub ⟨rfl, rfl, rfl, rfl, rfl, rfl, rfl, trivial⟩) E B h4 h522 h526 H
          · replace H := (if_neg hb555).symm.trans H
            refine d_qn F rfl rfl rfl (by decide) rfl (congrArg not (decide_eq_false hb555)) rfl (by decide) ER.sb fun a F => ?_
            refine d_qn F rfl rfl rfl (by decide) rfl (congrArg not (decide_eq_false hb555)) rfl (by decide) ER.sb fun a F => ?_
            refine d_qn F rfl rfl rfl (by decide) rfl (congrArg not (decide_eq_false hb555)) rfl (by decide) ER.sb fun a F => ?_
            refine d_qn F rfl rfl rfl (by decide) rfl (congrArg not (decide_eq_false hb555)) rfl (by decide) ER.sb fun a F => ?_
            refine d_q F rfl rfl rfl (by decide) (fun wq hS => r_pick_t F rfl (congrArg not (decide_eq_false hb555)) rfl) ER.sb fun a F => ?_
            refine d_q F rfl rfl rfl (by decide) (fun wq hS => r_move F rfl) ER.sb fun a F => ?_
            refine d_qn F rfl rfl rfl (by decide) rfl rfl rfl (by decide) ER.sb fun a F => ?_
            refine d_qn F rfl rfl rfl (by decide) rfl rfl rfl (by decide) ER.sb fun a F => ?_
            refine d_qn F rfl rfl rfl (by decide) rfl rfl rfl (by decide) ER.sb fun a F => ?_
            refine d_qn F rfl rfl rfl (by decide) rfl rfl rfl (by decide) ER.sb fun a F => ?_
            refine d_qn F rfl rfl rfl (by decide) rfl rfl rfl (by decide) ER.sb fun a F => ?_
            refine d_qn F rfl rfl rfl (by decide) rfl rfl rfl (by decide) ER.sb fun a F => ?_
            refine d_qn F rfl rfl rfl (by decide) rfl rfl rfl (by decide) ER.sb fun a F => ?_
            refine d_q F rfl rfl rfl (by decide) (fun wq hS => r_pick_t F rfl rfl rfl) ER.sb fun a F => ?_
            refine d_q F rfl rfl rfl (by decide) (fun wq hS => r_move F rfl) ER.sb fun a F => ?_
            refine d_qn F rfl rfl rfl (by decide) rfl rfl rfl (by decide) ER.sb fun a F => ?_
            refine d_qn F rfl rfl rfl (by decide) rfl rfl rfl (by decide) ER.sb fun a F => ?_
            refine d_qn F rfl rfl rfl (by decide) rfl rfl rfl (by decide) ER.sb fun a F => ?_
            refine d_qn F rfl rfl rfl (by decide) rfl rfl rfl (by decide) ER.sb fun a F => ?_
            refine d_qn F rfl rfl rfl (by decide) rfl rfl rfl (by decide) ER.sb fun a F => ?_
            refine d_qn F rfl rfl rfl (by decide) rfl rfl rfl (by decide) ER.sb fun a F => ?_
            refine d_qn F rfl rfl rfl (by decide) rfl rfl rfl (by decide) ER.sb fun a F => ?_
            refine d_qn F rfl rfl rfl (by decide) rfl rfl rfl (by decide) ER.sb fun a F => ?_
            refine d_qn F rfl rfl rfl (by decide) rfl rfl rfl (by decide) ER.sb fun a F => ?_
            refine d_qn F rfl rfl rfl (by decide) rfl rfl rfl (by decide) ER.sb fun a F => ?_
            refine d_qn F rfl rfl rfl (by decide) rfl rfl rfl (by decide) ER.sb fun a F => ?_
            refine d_e ?_
            refine o_no F rfl rfl rfl (by decide) rfl rfl rfl (by decide) fun a F => ?_
            refine ⟨fun _ => ER.sb, ?_⟩
            refine d_qn F rfl rfl rfl (by decide) rfl rfl rfl (by decide) ER.sb fun a F => ?_
            refine d_qn F rfl rfl rfl (by decide) rfl rfl rfl (by decide) ER.sb fun a F => ?_
            refine d_q F rfl rfl rfl (by decide) (fun wq hS => r_pick_t F rfl rfl rfl) ER.sb fun a F => ?_
            refine d_nil ?_
            exact J564 c549 w550 a true (F.sub ⟨rfl, rfl, rfl, rfl, rfl, rfl, rfl, trivial⟩) E B h4 h522 h526 H
        · replace H := (if_neg hb554).symm.trans H
          refine d_qn F rfl rfl rfl (by decide) rfl (congrArg not (decide_eq_false hb554)) rfl (by decide) ER.sb fun a F => ?_
          refine d_qn F rfl rfl rfl (by decide) rfl (congrArg not (decide_eq_false hb554)) rfl (by decide) ER.sb fun a F => ?_
          refine d_qn F rfl rfl rfl (by decide) rfl (congrArg not (decide_eq_false hb554)) rfl (by decide) ER.sb fun a F => ?_
          refine d_qn F rfl rfl rfl (by decide) rfl (congrArg not (decide_eq_false hb554)) rfl (by decide) ER.sb fun a F => ?_
          refine d_qn F rfl rfl rfl (by decide) rfl (congrArg not (decide_eq_false hb554)) rfl (by decide) ER.sb fun a F => ?_
          refine d_qn F rfl rfl rfl (by decide) rfl (congrArg not (decide_eq_false hb554)) rfl (by decide) ER.sb fun a F => ?_
          refine d_qn F rfl rfl rfl (by decide) rfl (congrArg not (decide_eq_false hb554)) rfl (by decide) ER.sb fun a F => ?_
          refine d_qn F rfl rfl rfl (by decide) rfl (congrArg not (decide_eq_false hb554)) rfl (by decide) ER.sb fun a F => ?_
          refine d_q F rfl rfl rfl (by decide) (fun wq hS => r_pick_t F rfl (congrArg not (decide_eq_false hb554)) rfl) ER.sb fun a F => ?_
          refine d_q F rfl rfl rfl (by decide) (fun wq hS => r_move F rfl) ER.sb fun a F => ?_
          refine d_qn F rfl rfl rfl (by decide) rfl rfl rfl (by decide) ER.sb fun a F => ?_
          refine d_qn F rfl rfl rfl (by decide) rfl rfl rfl (by decide) ER.sb fun a F => ?_
          refine d_qn F rfl rfl rfl (by decide) rfl rfl rfl (by decide) ER.sb fun a F => ?_
          refine d_qn F rfl rfl rfl (by decide) rfl rfl rfl (by decide) ER.sb fun a F => ?_
          refine d_q F rfl rfl rfl (by decide) (fun wq hS => r_pick_t F rfl rfl rfl) ER.sb fun a F => ?_
          refine d_q F rfl rfl rfl (by decide) (fun wq hS => r_move F rfl) ER.sb fun a F => ?_
          refine d_qn F rfl rfl rfl (by decide) rfl rfl rfl (by decide) ER.sb fun a F => ?_
          refine d_qn F rfl rfl rfl (by decide) rfl rfl rfl (by decide) ER.sb fun a F => ?_
          refine d_qn F rfl rfl rfl (by decide) rfl rfl rfl (by decide) ER.sb fun a F => ?_
          refine d_qn F rfl rfl rfl (by decide) rfl rfl rfl (by decide) ER.sb fun a F => ?_
          refine d_qn F rfl rfl rfl (by decide) rfl rfl rfl (by decide) ER.sb fun a F => ?_
          refine d_qn F rfl rfl rfl (by decide) rfl rfl rfl (by decide) ER.sb fun a F => ?_
          refine d_qn F rfl rfl rfl (by decide) rfl rfl rfl (by decide) ER.sb fun a F => ?_
          refine d_q F rfl rfl rfl (by decide) (fun wq hS => r_pick_t F rfl rfl rfl) ER.sb fun a F => ?_
          refine d_q F rfl rfl rfl (by decide) (fun wq hS => r_move F rfl) ER.sb fun a F => ?_
          refine d_qn F rfl rfl rfl (by decide) rfl rfl rfl (by decide) ER.sb fun a F => ?_
          refine d_qn F rfl rfl rfl (by decide) rfl rfl rfl (by decide) ER.sb fun a F => ?_
          refine d_qn F rfl rfl rfl (by decide) rfl rfl rfl (by decide) ER.sb fun a F => ?_
          refine d_qn F rfl rfl rfl (by decide) rfl rfl rfl (by decide) ER.sb fun a F => ?_
          refine d_qn F rfl rfl rfl (by decide) rfl rfl rfl (by decide) ER.sb fun a F => ?_
          refine d_qn F rfl rfl rfl (by decide) rfl rfl rfl (by decide) ER.sb fun a F => ?_
          refine d_qn F rfl rfl rfl (by decide) rfl rfl rfl (by decide) ER.sb fun a F => ?_
          refine d_qn F rfl rfl rfl (by decide) rfl rfl rfl (by decide) ER.sb fun a F => ?_
          refine d_qn F rfl rfl rfl (by decide) rfl rfl rfl (by decide) ER.sb fun a F => ?_
          refine d_qn F rfl rfl rfl (by decide) rfl rfl rfl (by decide) ER.sb fun a F => ?_
          refine d_qn F rfl rfl rfl (by decide) rfl rfl rfl (by decide) ER.sb fun a F => ?_
          refine d_e ?_
          refine o_no F rfl rfl rfl (by decide) rfl rfl rfl (by decide) fun a F => ?_
          refine ⟨fun _ => ER.sb, ?_⟩
          refine d_qn F rfl rfl rfl (by decide) rfl rfl rfl (by decide) ER.sb fun a F => ?_
          refine d_qn F rfl rfl rfl (by decide) rfl rfl rfl (by decide) ER.sb fun a F => ?_
          refine d_q F rfl rfl rfl (by decide) (fun wq hS => r_pick_t F rfl rfl rfl) ER.sb fun a F => ?_
          refine d_nil ?_
          exact J564 c549 w550 a true (F.sub ⟨rfl, rfl, rfl, rfl, rfl, rfl, rfl, trivial⟩) E B h4 h522 h526 H
      refine wp_seq_k fun K310 hK310 => ?_
      refine reg ?_
      refine q_val F rfl rfl (by decide) (r_fieldAddr F rfl ff_53_1) fun a F => ?_
      refine q_val F rfl rfl (by decide) (r_load F rfl ag_3 (AT.cell h65 rfl)) fun a F => ?_
      refine nil ?_
      refine hK310 _ _ ?_
      refine wp_block ?_
      refine wp_seq_k fun K311 hK311 => ?_
      refine reg ?_
      refine q_val F rfl rfl (by decide) (r_eql F rfl rfl) fun a F => ?_
      refine q_val F rfl rfl (by decide) (r_assign F rfl) fun a F => ?_
      refine nil ?_
      refine hK311 _ _ ?_
      by_cases hb312 : ((rd a1 i275).Kind) = 0
      · replace H := (if_pos hb312).symm.trans H
        refine wp_cond_true ((F.ev rfl).trans (congrArg Value.bool (decide_eq_true hb312))) ?_
        refine wp_seq_k fun K313 hK313 => ?_
        refine reg ?_
        refine q_val F rfl rfl (by decide) (r_move F rfl) fun a F => ?_
        refine q_val F rfl rfl (by decide) (r_fieldAddr F rfl ff_53_2) fun a F => ?_
        refine q_val F rfl rfl (by decide) (r_load F rfl ag_3 (AT.cell h65 rfl)) fun a F => ?_
        refine q_val F rfl rfl (by decide) (r_fieldAddr F rfl ff_53_3) fun a F => ?_
        refine q_val F rfl rfl (by decide) (r_load F rfl ag_3 (AT.cell h65 rfl)) fun a F => ?_
        refine q_val F rfl rfl (by decide) (r_fieldAddr F rfl ff_53_4) fun a F => ?_
        refine q_val F rfl rfl (by decide) (r_load F rfl ag_27 (AT.cell h65 rfl)) fun a F => ?_
        replace H := bind_some H
        obtain ⟨t76, q77, H⟩ := H
        refine q_call F rfl rfl (by decide) (r_call F Try.func12 rfl (by kernel_rfl) rfl) (bag_Bag_Send.calls (m := m + 9) (Nat.add_pos_left hm0 _) B h267 h299 ⟨(Nat.add_pos_left hm0 _), (Nat.add_lt_add_left (by decide) m)⟩ ⟨(Nat.add_pos_left hm0 _), (Nat.add_lt_add_left (by decide) m), (ne_mm (by decide))⟩ _ q77) ?_
        rintro e w315 ⟨c314, rfl, E316, B317, h318⟩
        refine ⟨_, rfl, fun a F => ?_⟩
        have B := B317
        replace h4 := SL.ev h4 E316 (nor ne_zm ne_zm) (nor ne_zm ne_zm)
        replace h272 := SL.ev h272 E316 (nor (ne_mm (by decide)) (ne_mm (by decide))) (nor ne_zm ne_zm)
        replace h299 := SL.ev h299 E316 (nor ne_zm ne_zm) (nor ne_zm ne_zm)
        replace h295 := AT.ev h295 E316 (nor ne_zm ne_zm)
        replace h65 := AT.ev h65 E316 (nor (ne_mm (by decide)) (ne_mm (by decide)))
        replace E := E.trans E316 (fun x (q : x = m + 1 ∨ x = m + 2) => q.elim (fun q => Or.inr (le_col q)) (fun q => Or.inr (le_col q)))
        refine q_val F rfl rfl (by decide) (r_move F rfl) fun a F => ?_
        refine q_val F rfl rfl (by decide) (r_extract F rfl rfl) fun a F => ?_
        refine q_val F rfl rfl (by decide) (r_extract F rfl rfl) fun a F => ?_
        refine q_val F rfl rfl (by decide) (r_assign F rfl) fun a F => ?_
        refine q_val F rfl rfl (by decide) (r_assign F rfl) fun a F => ?_
        refine nil ?_
        refine hK313 _ _ ?_
        replace F : Fr a 306 [(0, .slice A2 a1.length C3), (3, .pointer p24), (4, .slice A270 l269.length C271), (5, .int .i64 i273), (6, .int .i64 i274), (7, .int .i64 i275), (8, .pointer (some qa63)), (9, .int .i64 t76.1), (10, .int .i64 t76.2.1)] := F.sub ⟨rfl, rfl, rfl, rfl, rfl, rfl, rfl, rfl, rfl, trivial⟩
        refine wp_seq_k fun K320 hK320 => ?_
        refine wp_seq_k fun K321 hK321 => ?_
        refine reg ?_
        refine q_val F rfl rfl (by decide) (r_move F rfl) fun a F => ?_
        replace H := bind_some H
        obtain ⟨t86, q87, H⟩ := H
        refine q_call F rfl rfl (by decide) (r_call F Try.func13 rfl (by kernel_rfl) rfl) (haulagelaw20_num.calls (m := m + 9) (Nat.add_pos_left hm0 _) B _ q87) ?_
        rintro e w323 ⟨c322, rfl, E324, B325⟩
        refine ⟨_, rfl, fun a F => ?_⟩
        have B := B325
        replace h4 := SL.ev h4 E324 (fun q => q.elim) (fun q => q.elim)
        replace h272 := SL.ev h272 E324 (fun q => q.elim) (fun q => q.elim)
        replace h299 := SL.ev h299 E324 (fun q => q.elim) (fun q => q.elim)
        replace h295 := AT.ev h295 E324 (fun q => q.elim)
        replace h65 := AT.ev h65 E324 (fun q => q.elim)
        replace h318 := BG.ev h318 E324 (fun q => q.elim) (fun q => q.elim) (fun q => q.elim)
        replace E := E.trans E324 (fun x q => q.elim)
        refine q_val F rfl rfl (by decide) (r_neq F rfl rfl) fun a F => ?_
        refine nil ?_
        refine hK321 _ _ ?_
        by_cases hb327 : t86 = 0
        · replace H := (if_pos hb327).symm.trans H
          refine wp_cond_false ((F.ev rfl).trans (congrArg Value.bool (congrArg not (decide_eq_true hb327)))) ?_
          refine wp_skip ?_
          refine hK320 _ _ ?_
          refine wp_seq_k fun K328 hK328 => ?_
          refine wp_seq_k fun K329 hK329 => ?_
          refine reg ?_
          refine q_val F rfl rfl (by decide) (r_move F rfl) fun a F => ?_
          refine q_val F rfl rfl (by decide) (r_move F rfl) fun a F => ?_
          refine q_val F rfl rfl (by decide) (r_lensl F Try.underlying34 rfl) fun a F => ?_
          refine q_val F rfl rfl (by decide) (r_neq F rfl rfl) fun a F => ?_
          refine nil ?_
          refine hK329 _ _ ?_
          by_cases hb330 : t76.1 = (l269.length : Int)
          · replace H := (if_pos hb330).symm.trans H
            refine wp_cond_false ((F.ev rfl).trans (congrArg Value.bool (congrArg not (decide_eq_true hb330)))) ?_
            refine wp_skip ?_
            refine hK328 _ _ ?_
            replace F : Fr a 306 [(0, .slice A2 a1.length C3), (3, .pointer p24), (4, .slice A270 l269.length C271), (5, .int .i64 i273), (6, .int .i64 i274), (7, .int .i64 i275), (8, .pointer (some qa63)), (9, .int .i64 t76.1)] := F.sub ⟨rfl, rfl, rfl, rfl, rfl, rfl, rfl, rfl, trivial⟩
            refine reg ?_
            refine q_val F rfl rfl (by decide) (r_move F rfl) fun a F => ?_
            refine q_val F rfl rfl (by decide) (r_move F rfl) fun a F => ?_
            refine q_val F rfl rfl (by decide) (r_fieldAddr F rfl ff_53_2) fun a F => ?_
            refine q_val F rfl rfl (by decide) (r_load F rfl ag_3 (AT.cell h65 rfl)) fun a F => ?_
            refine q_val F rfl rfl (by decide) (r_fieldAddr F rfl ff_53_3) fun a F => ?_
            refine q_val F rfl rfl (by decide) (r_load F rfl ag_3 (AT.cell h65 rfl)) fun a F => ?_
            refine q_val F rfl rfl (by decide) (r_fieldAddr F rfl ff_53_4) fun a F => ?_
            refine q_val F rfl rfl (by decide) (r_load F rfl ag_27 (AT.cell h65 rfl)) fun a F => ?_
            refine q_val F rfl rfl (by decide) (r_build (v := .agg #[.int .i64 t76.1, .int .i64 ((rd a1 i275).Number), .int .i64 ((rd a1 i275).To), .slice A297 ((rd a1 i275).Data).length C298]) F [(0, .int .i64 t76.1), (1, .int .i64 ((rd a1 i275).Number)), (2, .int .i64 ((rd a1 i275).To)), (3, .slice A297 ((rd a1 i275).Data).length C298)] (by exact ⟨rfl, rfl, rfl, rfl, rfl, rfl, rfl, rfl, trivial⟩) (fun w => by kernel_rfl)) fun a F => ?_
            refine q_eff F rfl rfl (by decide) (e_buildSlice (n := 1) (e := 40) (c := c322) (k := K_api_Letter) (i := 0) F [(0, .agg #[.int .i64 t76.1, .int .i64 ((rd a1 i275).Number), .int .i64 ((rd a1 i275).To), .slice A297 ((rd a1 i275).Data).length C298])] [.int .i64 t76.1, .int .i64 ((rd a1 i275).Number), .int .i64 ((rd a1 i275).To), .slice A297 ((rd a1 i275).Data).length C298] ([api_Letter.mk t76.1 ((rd a1 i275).Number) ((rd a1 i275).To) ((rd a1 i275).Data)] : List api_Letter) (by exact ⟨rfl, rfl, trivial⟩) (fun w => by kernel_rfl) rfl (by decide) rfl ⟨⟨A297, C298, rfl, (SL.fl h299 (fun q => q))⟩, trivial⟩ (fun q => q) 0) ?_
            rintro v w333 a ⟨c332, A334, C335, rfl, E336, h337, B338⟩ F
            replace B := B338 _ B (Nat.add_pos_left hm0 _)
            replace h4 := SL.ev h4 E336 (fun q => q.elim) (fun q => q.elim)
            replace h272 := SL.ev h272 E336 (fun q => q.elim) (fun q => q.elim)
            replace h299 := SL.ev h299 E336 (fun q => q.elim) (fun q => q.elim)
            replace h295 := AT.ev h295 E336 (fun q => q.elim)
            replace h65 := AT.ev h65 E336 (fun q => q.elim)
            replace h318 := BG.ev h318 E336 (fun q => q.elim) (fun q => q.elim) (fun q => q.elim)
            replace E := E.trans E336 (fun x q => q.elim)
            replace H := ifN H
            obtain ⟨g105, H⟩ := H
            refine q_eff F rfl rfl (by decide) (e_append (k := K_api_Letter) (xs := l269) (ys := [api_Letter.mk t76.1 ((rd a1 i275).Number) ((rd a1 i275).To) ((rd a1 i275).Data)]) (c := c332) (j := (m + 4)) (i := 0) F et_34 rfl rfl h272 h337 g105 (len_ok g105) ne_zm) ?_
            rintro v w340 a ⟨c339, A341, C342, rfl, E343, h344, B345⟩ F
            replace B := B345 _ B (Nat.add_lt_add_left (by decide) m)
            replace h4 := SL.ev h4 E343 ne_zm ne_zm
            replace h299 := SL.ev h299 E343 ne_zm ne_zm
            replace h295 := AT.ev h295 E343 ne_zm
            replace h65 := AT.ev h65 E343 (ne_mm (by decide))
            replace h318 := BG.ev h318 E343 (ne_mm (by decide)) (ne_mm (by decide)) ne_zm
            replace h337 := SL.ev h337 E343 ne_zm ne_zm
            replace E := E.trans E343 (fun x (q : x = m + 4) => Or.inr (le_col q))
            refine q_val F rfl rfl (by decide) (r_assign F rfl) fun a F => ?_
            refine nil ?_
            exact J530 c339 w340 a t76.2.2 (l269 ++ [api_Letter.mk t76.1 ((rd a1 i275).Number) ((rd a1 i275).To) ((rd a1 i275).Data)]) A341 C342 i273 i274 (F.sub ⟨rfl, rfl, rfl, rfl, rfl, rfl, trivial⟩) E B h4 h318 h344 H
          · replace H := (if_neg hb330).symm.trans H
            refine wp_cond_true ((F.ev rfl).trans (congrArg Value.bool (congrArg not (decide_eq_false hb330)))) ?_
            refine wp_seq_k fun K331 hK331 => ?_
            refine reg ?_
            refine q_val F rfl rfl (by decide) (r_assign F rfl) fun a F => ?_
            refine nil ?_
            refine hK331 _ _ ?_
            replace F : Fr a 306 [(2, .bool false)] := F.sub ⟨rfl, trivial⟩
            refine wp_ret ?_
            refine thenR ?_
            refine inbR ?_
            refine thenR ?_
            refine inbR ?_
            refine thenR ?_
            refine thenR ?_
            refine inbR ?_
            refine thenR ?_
            have hx_ := HD280 _ (Option.some.inj H).symm
            have H := HR284
            rw [← hx_] at H
            replace H : some false = some r := H
            replace H := Option.some.inj H
            subst H
            refine out1 F rfl rfl ?_
            exact ⟨fun b_ => (fun x_ => if x_ < m then x_ else 0) (c322 b_), rfl, E.leave B0 (fun x_ => if x_ < m then x_ else 0) (by intro x_ hx_; show (if x_ < m then x_ else 0) = x_; ((repeat' split) <;> omega)), (fun b_ hb_ => by show (if (c322 b_) < m then (c322 b_) else 0) < m; ((repeat' split) <;> omega))⟩
        · replace H := (if_neg hb327).symm.trans H
          refine wp_cond_true ((F.ev rfl).trans (congrArg Value.bool (congrArg not (decide_eq_false hb327)))) ?_
          refine wp_exit ?_
          refine thenE ?_
          refine inbNe (by decide) ?_
          refine thenE ?_
          refine inbE ?_
          refine hK289 _ _ ?_
          refine reg ?_
          refine q_val F rfl rfl (by decide) (r_move F rfl) fun a F => ?_
          refine q_val F rfl rfl (by decide) (r_add F rfl rfl) fun a F => ?_
          refine q_val F rfl rfl (by decide) (r_assign F rfl) fun a F => ?_
          refine nil ?_
          replace H := HN279 _ (Option.some.inj H).symm
          exact hX278 _ _ _ (Nat.lt_succ_self _) ⟨t76.2.2, l269, A270, C271, i273, i274, (IntKind.i64.wrap (i275 + 1)), c322, F.sub ⟨rfl, rfl, rfl, rfl, rfl, rfl, trivial⟩, E, B, h4, h318, h272, H⟩
      · replace H := (if_neg hb312).symm.trans H
        refine wp_cond_false ((F.ev rfl).trans (congrArg Value.bool (decide_eq_false hb312))) ?_
        refine wp_seq_k fun K346 hK346 => ?_
        refine reg ?_
        refine q_val F rfl rfl (by decide) (r_eql F rfl rfl) fun a F => ?_
        refine q_val F rfl rfl (by decide) (r_assign F rfl) fun a F => ?_
        refine nil ?_
        refine hK346 _ _ ?_
        by_cases hb347 : ((rd a1 i275).Kind) = 3
        · replace H := (if_pos hb347).symm.trans H
          refine wp_cond_true ((F.ev rfl).trans (congrArg Value.bool (decide_eq_true hb347))) ?_
          refine wp_seq_k fun K348 hK348 => ?_
          refine reg ?_
          refine q_val F rfl rfl (by decide) (r_move F rfl) fun a F => ?_
          refine q_val F rfl rfl (by decide) (r_fieldAddr F rfl ff_53_2) fun a F => ?_
          refine q_val F rfl rfl (by decide) (r_load F rfl ag_3 (AT.cell h65 rfl)) fun a F => ?_
          replace H := bind_some H
          obtain ⟨t116, q117, H⟩ := H
          refine q_call F rfl rfl (by decide) (r_call F Try.func17 rfl (by kernel_rfl) rfl) (bag_Bag_Twice.calls (m := m + 9) (Nat.add_pos_left hm0 _) B h267 ⟨(Nat.add_pos_left hm0 _), (Nat.add_lt_add_left (by decide) m)⟩ ⟨(Nat.add_pos_left hm0 _), (Nat.add_lt_add_left (by decide) m), (ne_mm (by decide))⟩ _ q117) ?_
          rintro e w350 ⟨c349, rfl, E351, B352, h353⟩
          refine ⟨_, rfl, fun a F => ?_⟩
          have B := B352
          replace h4 := SL.ev h4 E351 (nor ne_zm ne_zm) (nor ne_zm ne_zm)
          replace h272 := SL.ev h272 E351 (nor (ne_mm (by decide)) (ne_mm (by decide))) (nor ne_zm ne_zm)
          replace h299 := SL.ev h299 E351 (nor ne_zm ne_zm) (nor ne_zm ne_zm)
          replace h295 := AT.ev h295 E351 (nor ne_zm ne_zm)
          replace h65 := AT.ev h65 E351 (nor (ne_mm (by decide)) (ne_mm (by decide)))
          replace E := E.trans E351 (fun x (q : x = m + 1 ∨ x = m + 2) => q.elim (fun q => Or.inr (le_col q)) (fun q => Or.inr (le_col q)))
          refine q_val F rfl rfl (by decide) (r_move F rfl) fun a F => ?_
          refine q_val F rfl rfl (by decide) (r_extract F rfl rfl) fun a F => ?_
          refine q_val F rfl rfl (by decide) (r_extract F rfl rfl) fun a F => ?_
          refine q_val F rfl rfl (by decide) (r_assign F rfl) fun a F => ?_
          refine q_val F rfl rfl (by decide) (r_assign F rfl) fun a F => ?_
          refine nil ?_
          refine hK348 _ _ ?_
          replace F : Fr a 306 [(0, .slice A2 a1.length C3), (3, .pointer p24), (4, .slice A270 l269.length C271), (5, .int .i64 i273), (6, .int .i64 i274), (7, .int .i64 i275), (8, .pointer (some qa63)), (11, .int .i64 t116.1), (12, .int .i64 t116.2.1)] := F.sub ⟨rfl, rfl, rfl, rfl, rfl, rfl, rfl, rfl, rfl, trivial⟩
          refine wp_seq_k fun K355 hK355 => ?_
          refine wp_seq_k fun K356 hK356 => ?_
          refine reg ?_
          refine q_val F rfl rfl (by decide) (r_move F rfl) fun a F => ?_
          replace H := bind_some H
          obtain ⟨t126, q127, H⟩ := H
          refine q_call F rfl rfl (by decide) (r_call F Try.func13 rfl (by kernel_rfl) rfl) (haulagelaw20_num.calls (m := m + 9) (Nat.add_pos_left hm0 _) B _ q127) ?_
          rintro e w358 ⟨c357, rfl, E359, B360⟩
          refine ⟨_, rfl, fun a F => ?_⟩
          have B := B360
          replace h4 := SL.ev h4 E359 (fun q => q.elim) (fun q => q.elim)
          replace h272 := SL.ev h272 E359 (fun q => q.elim) (fun q => q.elim)
          replace h299 := SL.ev h299 E359 (fun q => q.elim) (fun q => q.elim)
          replace h295 := AT.ev h295 E359 (fun q => q.elim)
          replace h65 := AT.ev h65 E359 (fun q => q.elim)
          replace h353 := BG.ev h353 E359 (fun q => q.elim) (fun q => q.elim) (fun q => q.elim)
          replace E := E.trans E359 (fun x q => q.elim)
          refine q_val F rfl rfl (by decide) (r_neq F rfl rfl) fun a F => ?_
          refine nil ?_
          refine hK356 _ _ ?_
          by_cases hb362 : t126 = 0
          · replace H := (if_pos hb362).symm.trans H
            refine wp_cond_false ((F.ev rfl).trans (congrArg Value.bool (congrArg not (decide_eq_true hb362)))) ?_
            refine wp_skip ?_
            refine hK355 _ _ ?_
            refine wp_seq_k fun K363 hK363 => ?_
            refine wp_seq_k fun K364 hK364 => ?_
            have J368 : ∀ (c369 : Nat → Nat) (w370 : World) (a : Act) (b367 : Bool), Fr a 306 [(0, .slice A2 a1.length C3), (3, .pointer p24), (4, .slice A270 l269.length C271), (5, .int .i64 i273), (6, .int .i64 i274), (7, .int .i64 i275), (8, .pointer (some qa63)), (11, .int .i64 t116.1), (97, .bool b367)] → Ev (fun x => False ∨ m ≤ x) c0 w0 c369 w370 → CB (m + 9) c369 w370 → AT true (m + 3) c369 w370 qa63 [.int .i64 ((rd a1 i275).Who), .int .i64 ((rd a1 i275).Kind), .int .i64 ((rd a1 i275).Number), .int .i64 ((rd a1 i275).To), .slice A297 ((rd a1 i275).Data).length C298] → SL false K_haulagelaw20_Op 0 0 c369 w370 A2 C3 a1 → BG (m + 1) (m + 2) c369 w370 p24 t116.2.2 → SL true K_api_Letter (m + 4) 0 c369 w370 A270 C271 l269 → SL false (Kint .u8) 0 0 c369 w370 A297 C298 ((rd a1 i275).Data) → haulagelaw20_BagNothingElse.j5 a1 t116 l269 i273 i274 i275 b367 = some ctl281 → K364 a w370 := by
              intro c369 w370 a b367 F E B h65 h4 h353 h272 h299 H
              unfold haulagelaw20_BagNothingElse.j5 at H
              refine hK364 _ _ ?_
              by_cases hb371 : b367 = true
              · replace H := (if_pos hb371).symm.trans H
                refine wp_cond_true ((F.ev rfl).trans (congrArg Value.bool hb371)) ?_
                refine wp_seq_k fun K372 hK372 => ?_
                refine reg ?_
                refine q_val F rfl rfl (by decide) (r_assign F rfl) fun a F => ?_
                refine nil ?_
                refine hK372 _ _ ?_
                replace F : Fr a 306 [(2, .bool false)] := F.sub ⟨rfl, trivial⟩
                refine wp_ret ?_
                refine thenR ?_
                refine inbR ?_
                refine thenR ?_
                refine inbR ?_
                refine thenR ?_
                refine thenR ?_
                refine inbR ?_
                refine thenR ?_
                have hx_ := HD280 _ (Option.some.inj H).symm
                have H := HR284
                rw [← hx_] at H
                replace H : some false = some r := H
                replace H := Option.some.inj H
                subst H
                refine out1 F rfl rfl ?_
                exact ⟨fun b_ => (fun x_ => if x_ < m then x_ else 0) (c369 b_), rfl, E.leave B0 (fun x_ => if x_ < m then x_ else 0) (by intro x_ hx_; show (if x_ < m then x_ else 0) = x_; ((repeat' split) <;> omega)), (fun b_ hb_ => by show (if (c369 b_) < m then (c369 b_) else 0) < m; ((repeat' split) <;> omega))⟩
              · replace H := (if_neg hb371).symm.trans H
                refine wp_cond_false ((F.ev rfl).trans (congrArg Value.bool (bfalse hb371))) ?_
                refine wp_skip ?_
                refine hK363 _ _ ?_
                refine wp_seq_k fun K373 hK373 => ?_
                refine reg ?_
                refine q_val F rfl rfl (by decide) (r_move F rfl) fun a F => ?_
                refine q_val F rfl rfl (by decide) (r_fieldAddr F rfl ff_53_2) fun a F => ?_
                refine q_val F rfl rfl (by decide) (r_load F rfl ag_3 (AT.cell h65 rfl)) fun a F => ?_
                replace H := ifN H
                obtain ⟨g374, H⟩ := H
                obtain ⟨ad375, cs376, e377, h378, r379⟩ := SL.at h272 ((rd a1 i275).Number) g374.1 g374.2
                obtain ⟨A380, C381, rfl, h382⟩ := r379
                replace h382 := SL.fl (i' := 0) h382 (fun q => q)
                obtain ⟨qa383, qqa383⟩ : ∃ q, q = (ad375.add (((rd a1 i275).Number).toNat * 4)) := ⟨_, rfl⟩
                have h378 : AT true (m + 4) c369 w370 qa383 [.int .i64 ((rd l269 ((rd a1 i275).Number)).Number), .int .i64 ((rd l269 ((rd a1 i275).Number)).From), .int .i64 ((rd l269 ((rd a1 i275).Number)).To), .slice A380 ((rd l269 ((rd a1 i275).Number)).Data).length C381] := by rw [qqa383]; exact h378
                refine q_val F rfl rfl (by decide) (r_indexAddr' F Try.underlying34 sz_40 rfl rfl g374.1 g374.2 e377 qqa383) fun a F => ?_
                refine q_val F rfl rfl (by decide) (r_loads (cs := [.int .i64 ((rd l269 ((rd a1 i275).Number)).Number), .int .i64 ((rd l269 ((rd a1 i275).Number)).From), .int .i64 ((rd l269 ((rd a1 i275).Number)).To), .slice A380 ((rd l269 ((rd a1 i275).Number)).Data).length C381]) F rfl ag_40 sz_40 h378) fun a F => ?_
                refine q_eff F rfl rfl (by decide) (e_alloc F zv_40 c369 (m + 7)) ?_
                rintro v w386 a ⟨c385, qa387, rfl, E388, h389, B390⟩ F
                replace B := B390 _ B (Nat.add_lt_add_left (by decide) m)
                replace h65 := AT.ev h65 E388 (fun q => q.elim)
                replace h4 := SL.ev h4 E388 (fun q => q.elim) (fun q => q.elim)
                replace h353 := BG.ev h353 E388 (fun q => q.elim) (fun q => q.elim) (fun q => q.elim)
                replace h272 := SL.ev h272 E388 (fun q => q.elim) (fun q => q.elim)
                replace h299 := SL.ev h299 E388 (fun q => q.elim) (fun q => q.elim)
                replace h382 := SL.ev h382 E388 (fun q => q.elim) (fun q => q.elim)
                replace h378 := AT.ev h378 E388 (fun q => q.elim)
                replace E := E.trans E388 (fun x q => q.elim)
                replace h389 : AT true (m + 7) c385 w386 qa387 [.int .i64 0, .int .i64 0, .int .i64 0, .slice none 0 0] := h389
                refine q_eff0 F rfl rfl (e_storeN0 (us := [.int .i64 ((rd l269 ((rd a1 i275).Number)).Number), .int .i64 ((rd l269 ((rd a1 i275).Number)).From), .int .i64 ((rd l269 ((rd a1 i275).Number)).To), .slice A380 ((rd l269 ((rd a1 i275).Number)).Data).length C381]) F rfl rfl sz_40 h389 (Nat.le_of_ble_eq_true rfl) (one_all rfl)) ?_
                rintro w392 a ⟨E393, h389, Z394⟩ F
                replace B := B.size Z394
                replace h65 := AT.ev h65 E393 (ne_mm (by decide))
                replace h4 := SL.ev h4 E393 ne_zm ne_zm
                replace h353 := BG.ev h353 E393 (ne_mm (by decide)) (ne_mm (by decide)) ne_zm
                replace h272 := SL.ev h272 E393 (ne_mm (by decide)) ne_zm
                replace h299 := SL.ev h299 E393 ne_zm ne_zm
                replace h382 := SL.ev h382 E393 ne_zm ne_zm
                replace h378 := AT.ev h378 E393 (ne_mm (by decide))
                replace E := E.trans E393 (fun x (q : x = m + 7) => Or.inr (le_col q))
                replace h389 : AT true (m + 7) c385 w392 qa387 [.int .i64 ((rd l269 ((rd a1 i275).Number)).Number), .int .i64 ((rd l269 ((rd a1 i275).Number)).From), .int .i64 ((rd l269 ((rd a1 i275).Number)).To), .slice A380 ((rd l269 ((rd a1 i275).Number)).Data).length C381] := h389
                refine nil ?_
                refine hK373 _ _ ?_
                refine wp_seq_k fun K395 hK395 => ?_
                refine reg ?_
                refine q_val F rfl rfl (by decide) (r_move F rfl) fun a F => ?_
                refine q_val F rfl rfl (by decide) (r_fieldAddr F rfl ff_40_0) fun a F => ?_
                refine q_eff0 F rfl rfl (e_store F rfl rfl sz_3 h389 (Nat.le_of_ble_eq_true rfl) rfl) ?_
                rintro w396 a ⟨E397, h389, Z398⟩ F
                replace B := B.size Z398
                replace h65 := AT.ev h65 E397 (ne_mm (by decide))
                replace h4 := SL.ev h4 E397 ne_zm ne_zm
                replace h353 := BG.ev h353 E397 (ne_mm (by decide)) (ne_mm (by decide)) ne_zm
                replace h272 := SL.ev h272 E397 (ne_mm (by decide)) ne_zm
                replace h299 := SL.ev h299 E397 ne_zm ne_zm
                replace h382 := SL.ev h382 E397 ne_zm ne_zm
                replace h378 := AT.ev h378 E397 (ne_mm (by decide))
                replace E := E.trans E397 (fun x (q : x = m + 7) => Or.inr (le_col q))
                replace h389 : AT true (m + 7) c385 w396 qa387 [.int .i64 t116.1, .int .i64 ((rd l269 ((rd a1 i275).Number)).From), .int .i64 ((rd l269 ((rd a1 i275).Number)).To), .slice A380 ((rd l269 ((rd a1 i275).Number)).Data).length C381] := h389
                refine nil ?_
                refine hK395 _ _ ?_
                replace F : Fr a 306 [(0, .slice A2 a1.length C3), (3, .pointer p24), (4, .slice A270 l269.length C271), (5, .int .i64 i273), (6, .int .i64 i274), (7, .int .i64 i275), (13, .pointer (some qa387))] := F.sub ⟨rfl, rfl, rfl, rfl, rfl, rfl, rfl, trivial⟩
                refine wp_seq_k fun K399 hK399 => ?_
                refine reg ?_
                refine q_val F rfl rfl (by decide) (r_move F rfl) fun a F => ?_
                refine q_val F rfl rfl (by decide) (r_loads (cs := [.int .i64 t116.1, .int .i64 ((rd l269 ((rd a1 i275).Number)).From), .int .i64 ((rd l269 ((rd a1 i275).Number)).To), .slice A380 ((rd l269 ((rd a1 i275).Number)).Data).length C381]) F rfl ag_40 sz_40 h389) fun a F => ?_
                refine q_eff F rfl rfl (by decide) (e_buildSlice (n := 1) (e := 40) (c := c385) (k := K_api_Letter) (i := 0) F [(0, .agg #[.int .i64 t116.1, .int .i64 ((rd l269 ((rd a1 i275).Number)).From), .int .i64 ((rd l269 ((rd a1 i275).Number)).To), .slice A380 ((rd l269 ((rd a1 i275).Number)).Data).length C381])] [.int .i64 t116.1, .int .i64 ((rd l269 ((rd a1 i275).Number)).From), .int .i64 ((rd l269 ((rd a1 i275).Number)).To), .slice A380 ((rd l269 ((rd a1 i275).Number)).Data).length C381] ([api_Letter.mk t116.1 ((rd l269 ((rd a1 i275).Number)).From) ((rd l269 ((rd a1 i275).Number)).To) ((rd l269 ((rd a1 i275).Number)).Data)] : List api_Letter) (by exact ⟨rfl, rfl, trivial⟩) (fun w => by kernel_rfl) rfl (by decide) rfl ⟨⟨A380, C381, rfl, (SL.fl h382 (fun q => q))⟩, trivial⟩ (fun q => q) 0) ?_
                rintro v w401 a ⟨c400, A402, C403, rfl, E404, h405, B406⟩ F
                replace B := B406 _ B (Nat.add_pos_left hm0 _)
                replace h65 := AT.ev h65 E404 (fun q => q.elim)
                replace h4 := SL.ev h4 E404 (fun q => q.elim) (fun q => q.elim)
                replace h353 := BG.ev h353 E404 (fun q => q.elim) (fun q => q.elim) (fun q => q.elim)
                replace h272 := SL.ev h272 E404 (fun q => q.elim) (fun q => q.elim)
                replace h299 := SL.ev h299 E404 (fun q => q.elim) (fun q => q.elim)
                replace h382 := SL.ev h382 E404 (fun q => q.elim) (fun q => q.elim)
                replace h378 := AT.ev h378 E404 (fun q => q.elim)
                replace h389 := AT.ev h389 E404 (fun q => q.elim)
                replace E := E.trans E404 (fun x q => q.elim)
                replace H := ifN H
                obtain ⟨g407, H⟩ := H
                refine q_eff F rfl rfl (by decide) (e_append (k := K_api_Letter) (xs := l269) (ys := [api_Letter.mk t116.1 ((rd l269 ((rd a1 i275).Number)).From) ((rd l269 ((rd a1 i275).Number)).To) ((rd l269 ((rd a1 i275).Number)).Data)]) (c := c400) (j := (m + 4)) (i := 0) F et_34 rfl rfl h272 h405 g407 (len_ok g407) ne_zm) ?_
                rintro v w409 a ⟨c408, A410, C411, rfl, E412, h413, B414⟩ F
                replace B := B414 _ B (Nat.add_lt_add_left (by decide) m)
                replace h65 := AT.ev h65 E412 (ne_mm (by decide))
                replace h4 := SL.ev h4 E412 ne_zm ne_zm
                replace h353 := BG.ev h353 E412 (ne_mm (by decide)) (ne_mm (by decide)) ne_zm
                replace h299 := SL.ev h299 E412 ne_zm ne_zm
                replace h382 := SL.ev h382 E412 ne_zm ne_zm
                replace h389 := AT.ev h389 E412 (ne_mm (by decide))
                replace h405 := SL.ev h405 E412 ne_zm ne_zm
                replace E := E.trans E412 (fun x (q : x = m + 4) => Or.inr (le_col q))
                refine q_val F rfl rfl (by decide) (r_assign F rfl) fun a F => ?_
                refine nil ?_
                refine hK399 _ _ ?_
                refine reg ?_
                refine q_val F rfl rfl (by decide) (r_move F rfl) fun a F => ?_
                refine q_val F rfl rfl (by decide) (r_add F rfl rfl) fun a F => ?_
                refine q_val F rfl rfl (by decide) (r_assign F rfl) fun a F => ?_
                refine nil ?_
                exact J530 c408 w409 a t116.2.2 (l269 ++ [api_Letter.mk t116.1 ((rd l269 ((rd a1 i275).Number)).From) ((rd l269 ((rd a1 i275).Number)).To) ((rd l269 ((rd a1 i275).Number)).Data)]) A410 C411 i273 (IntKind.i64.wrap (i274 + 1)) (F.sub ⟨rfl, rfl, rfl, rfl, rfl, rfl, trivial⟩) E B h4 h353 h413 H
            refine reg ?_
            refine q_val F rfl rfl (by decide) (r_move F rfl) fun a F => ?_
            refine q_val F rfl rfl (by decide) (r_move F rfl) fun a F => ?_
            refine q_val F rfl rfl (by decide) (r_lensl F Try.underlying34 rfl) fun a F => ?_
            refine q_val F rfl rfl (by decide) (r_neq F rfl rfl) fun a F => ?_
            refine q_val F rfl rfl (by decide) (r_move F rfl) fun a F => ?_
            by_cases hb365 : t116.1 = (l269.length : Int)
            · replace H := (if_pos hb365).symm.trans H
              refine q_yes F rfl (by decide) rfl (congrArg not (decide_eq_true hb365)) ?_
              refine q_val F rfl rfl (by decide) (r_fieldAddr F rfl ff_53_2) fun a F => ?_
              refine q_yes F rfl (by decide) rfl (congrArg not (decide_eq_true hb365)) ?_
              refine q_val F rfl rfl (by decide) (r_load F rfl ag_3 (AT.cell h65 rfl)) fun a F => ?_
              refine q_yes F rfl (by decide) rfl (congrArg not (decide_eq_true hb365)) ?_
              refine q_val F rfl rfl (by decide) (r_lss F rfl rfl) fun a F => ?_
              refine q_val F rfl rfl (by decide) (r_pick_f F rfl (congrArg not (decide_eq_true hb365)) rfl) fun a F => ?_
              refine q_val F rfl rfl (by decide) (r_move F rfl) fun a F => ?_
              by_cases hb366 : ((rd a1 i275).Number) < 0
              · replace H := (if_pos hb366).symm.trans H
                refine q_no F rfl (by decide) rfl (decide_eq_true hb366) (by decide) fun a F => ?_
                refine q_no F rfl (by decide) rfl (decide_eq_true hb366) (by decide) fun a F => ?_
                refine q_no F rfl (by decide) rfl (decide_eq_true hb366) (by decide) fun a F => ?_
                refine q_no F rfl (by decide) rfl (decide_eq_true hb366) (by decide) fun a F => ?_
                refine q_val F rfl rfl (by decide) (r_pick_t F rfl (decide_eq_true hb366) rfl) fun a F => ?_
                refine nil ?_
                exact J368 c357 w358 a true (F.sub ⟨rfl, rfl, rfl, rfl, rfl, rfl, rfl, rfl, rfl, trivial⟩) E B h65 h4 h353 h272 h299 H
              · replace H := (if_neg hb366).symm.trans H
                refine q_yes F rfl (by decide) rfl (decide_eq_false hb366) ?_
                refine q_val F rfl rfl (by decide) (r_fieldAddr F rfl ff_53_2) fun a F => ?_
                refine q_yes F rfl (by decide) rfl (decide_eq_false hb366) ?_
                refine q_val F rfl rfl (by decide) (r_load F rfl ag_3 (AT.cell h65 rfl)) fun a F => ?_
                refine q_yes F rfl (by decide) rfl (decide_eq_false hb366) ?_
                refine q_val F rfl rfl (by decide) (r_move F rfl) fun a F => ?_
                refine q_yes F rfl (by decide) rfl (decide_eq_false hb366) ?_
                refine q_val F rfl rfl (by decide) (r_geq F rfl rfl) fun a F => ?_
                refine q_val F rfl rfl (by decide) (r_pick_f F rfl (decide_eq_false hb366) rfl) fun a F => ?_
                refine nil ?_
                exact J368 c357 w358 a (decide (t116.1 ≤ ((rd a1 i275).Number))) (F.sub ⟨rfl, rfl, rfl, rfl, rfl, rfl, rfl, rfl, rfl, trivial⟩) E B h65 h4 h353 h272 h299 H
            · replace H := (if_neg hb365).symm.trans H
              refine q_no F rfl (by decide) rfl (congrArg not (decide_eq_false hb365)) (by decide) fun a F => ?_
              refine q_no F rfl (by decide) rfl (congrArg not (decide_eq_false hb365)) (by decide) fun a F => ?_
              refine q_no F rfl (by decide) rfl (congrArg not (decide_eq_false hb365)) (by decide) fun a F => ?_
              refine q_val F rfl rfl (by decide) (r_pick_t F rfl (congrArg not (decide_eq_false hb365)) rfl) fun a F => ?_
              refine q_val F rfl rfl (by decide) (r_move F rfl) fun a F => ?_
              refine q_no F rfl (by decide) rfl rfl (by decide) fun a F => ?_
              refine q_no F rfl (by decide) rfl rfl (by decide) fun a F => ?_
              refine q_no F rfl (by decide) rfl rfl (by decide) fun a F => ?_
              refine q_no F rfl (by decide) rfl rfl (by decide) fun a F => ?_
              refine q_val F rfl rfl (by decide) (r_pick_t F rfl rfl rfl) fun a F => ?_
              refine nil ?_
              exact J368 c357 w358 a true (F.sub ⟨rfl, rfl, rfl, rfl, rfl, rfl, rfl, rfl, rfl, trivial⟩) E B h65 h4 h353 h272 h299 H
          · replace H := (if_neg hb362).symm.trans H
            refine wp_cond_true ((F.ev rfl).trans (congrArg Value.bool (congrArg not (decide_eq_false hb362)))) ?_
            refine wp_exit ?_
            refine thenE ?_
            refine inbNe (by decide) ?_
            refine thenE ?_
            refine inbE ?_
            refine hK289 _ _ ?_
            refine reg ?_
            refine q_val F rfl rfl (by decide) (r_move F rfl) fun a F => ?_
            refine q_val F rfl rfl (by decide) (r_add F rfl rfl) fun a F => ?_
            refine q_val F rfl rfl (by decide) (r_assign F rfl) fun a F => ?_
            refine nil ?_
            replace H := HN279 _ (Option.some.inj H).symm
            exact hX278 _ _ _ (Nat.lt_succ_self _) ⟨t116.2.2, l269, A270, C271, i273, i274, (IntKind.i64.wrap (i275 + 1)), c357, F.sub ⟨rfl, rfl, rfl, rfl, rfl, rfl, trivial⟩, E, B, h4, h353, h272, H⟩
        · replace H := (if_neg hb347).symm.trans H
          refine wp_cond_false ((F.ev rfl).trans (congrArg Value.bool (decide_eq_false hb347))) ?_
          refine wp_seq_k fun K415 hK415 => ?_
          refine reg ?_
          refine q_val F rfl rfl (by decide) (r_eql F rfl rfl) fun a F => ?_
          refine q_val F rfl rfl (by decide) (r_assign F rfl) fun a F => ?_
          refine nil ?_
          refine hK415 _ _ ?_
          by_cases hb416 : ((rd a1 i275).Kind) = 1
          · replace H := (if_pos hb416).symm.trans H
            refine wp_cond_true ((F.ev rfl).trans (congrArg Value.bool (decide_eq_true hb416))) ?_
            refine wp_seq_k fun K417 hK417 => ?_
            refine reg ?_
            refine q_val F rfl rfl (by decide) (r_move F rfl) fun a F => ?_
            refine q_val F rfl rfl (by decide) (r_fieldAddr F rfl ff_53_2) fun a F => ?_
            refine q_val F rfl rfl (by decide) (r_load F rfl ag_3 (AT.cell h65 rfl)) fun a F => ?_
            replace H := bind_some H
            obtain ⟨t148, q149, H⟩ := H
            refine q_call F rfl rfl (by decide) (r_call F Try.func18 rfl (by kernel_rfl) rfl) (bag_Bag_Deliver.calls (m := m + 9) (Nat.add_pos_left hm0 _) B h267 ⟨(Nat.add_pos_left hm0 _), (Nat.add_lt_add_left (by decide) m)⟩ ⟨(Nat.add_pos_left hm0 _), (Nat.add_lt_add_left (by decide) m), (ne_mm (by decide))⟩ _ q149) ?_
            rintro e w419 ⟨c418, A422, C423, rfl, E420, B421, h424, h425⟩
            refine ⟨_, rfl, fun a F => ?_⟩
            have B := B421
            replace h4 := SL.ev h4 E420 (nor ne_zm ne_zm) (nor ne_zm ne_zm)
            replace h272 := SL.ev h272 E420 (nor (ne_mm (by decide)) (ne_mm (by decide))) (nor ne_zm ne_zm)
            replace h299 := SL.ev h299 E420 (nor ne_zm ne_zm) (nor ne_zm ne_zm)
            replace h295 := AT.ev h295 E420 (nor ne_zm ne_zm)
            replace h65 := AT.ev h65 E420 (nor (ne_mm (by decide)) (ne_mm (by decide)))
            replace E := E.trans E420 (fun x (q : x = m + 1 ∨ x = m + 2) => q.elim (fun q => Or.inr (le_col q)) (fun q => Or.inr (le_col q)))
            refine q_val F rfl rfl (by decide) (r_move F rfl) fun a F => ?_
            refine q_val F rfl rfl (by decide) (r_extract F rfl rfl) fun a F => ?_
            refine q_val F rfl rfl (by decide) (r_extract F rfl rfl) fun a F => ?_
            refine q_eff F rfl rfl (by decide) (e_alloc F zv_40 c418 (m + 5)) ?_
            rintro v w428 a ⟨c427, qa161, rfl, E429, h163, B430⟩ F
            replace B := B430 _ B (Nat.add_lt_add_left (by decide) m)
            replace h4 := SL.ev h4 E429 (fun q => q.elim) (fun q => q.elim)
            replace h272 := SL.ev h272 E429 (fun q => q.elim) (fun q => q.elim)
            replace h299 := SL.ev h299 E429 (fun q => q.elim) (fun q => q.elim)
            replace h295 := AT.ev h295 E429 (fun q => q.elim)
            replace h65 := AT.ev h65 E429 (fun q => q.elim)
            replace h424 := SL.ev h424 E429 (fun q => q.elim) (fun q => q.elim)
            replace h425 := BG.ev h425 E429 (fun q => q.elim) (fun q => q.elim) (fun q => q.elim)
            replace E := E.trans E429 (fun x q => q.elim)
            replace h163 : AT true (m + 5) c427 w428 qa161 [.int .i64 0, .int .i64 0, .int .i64 0, .slice none 0 0] := h163
            refine q_eff0 F rfl rfl (e_storeN0 (us := [.int .i64 t148.1.Number, .int .i64 t148.1.From, .int .i64 t148.1.To, .slice A422 t148.1.Data.length C423]) F rfl rfl sz_40 h163 (Nat.le_of_ble_eq_true rfl) (one_all rfl)) ?_
            rintro w431 a ⟨E432, h163, Z433⟩ F
            replace B := B.size Z433
            replace h4 := SL.ev h4 E432 ne_zm ne_zm
            replace h272 := SL.ev h272 E432 (ne_mm (by decide)) ne_zm
            replace h299 := SL.ev h299 E432 ne_zm ne_zm
            replace h295 := AT.ev h295 E432 ne_zm
            replace h65 := AT.ev h65 E432 (ne_mm (by decide))
            replace h424 := SL.ev h424 E432 ne_zm ne_zm
            replace h425 := BG.ev h425 E432 (ne_mm (by decide)) (ne_mm (by decide)) ne_zm
            replace E := E.trans E432 (fun x (q : x = m + 5) => Or.inr (le_col q))
            replace h163 : AT true (m + 5) c427 w431 qa161 [.int .i64 t148.1.Number, .int .i64 t148.1.From, .int .i64 t148.1.To, .slice A422 t148.1.Data.length C423] := h163
            refine q_val F rfl rfl (by decide) (r_assign F rfl) fun a F => ?_
            refine nil ?_
            refine hK417 _ _ ?_
            replace F : Fr a 306 [(0, .slice A2 a1.length C3), (3, .pointer p24), (4, .slice A270 l269.length C271), (5, .int .i64 i273), (6, .int .i64 i274), (7, .int .i64 i275), (8, .pointer (some qa63)), (14, .pointer (some qa161)), (15, .int .i64 t148.2.1)] := F.sub ⟨rfl, rfl, rfl, rfl, rfl, rfl, rfl, rfl, rfl, trivial⟩
            refine wp_seq_k fun K434 hK434 => ?_
            refine wp_seq_k fun K435 hK435 => ?_
            refine reg ?_
            refine q_val F rfl rfl (by decide) (r_move F rfl) fun a F => ?_
            replace H := bind_some H
            obtain ⟨t171, q172, H⟩ := H
            refine q_call F rfl rfl (by decide) (r_call F Try.func13 rfl (by kernel_rfl) rfl) (haulagelaw20_num.calls (m := m + 9) (Nat.add_pos_left hm0 _) B _ q172) ?_
            rintro e w437 ⟨c436, rfl, E438, B439⟩
            refine ⟨_, rfl, fun a F => ?_⟩
            have B := B439
            replace h4 := SL.ev h4 E438 (fun q => q.elim) (fun q => q.elim)
            replace h272 := SL.ev h272 E438 (fun q => q.elim) (fun q => q.elim)
            replace h299 := SL.ev h299 E438 (fun q => q.elim) (fun q => q.elim)
            replace h295 := AT.ev h295 E438 (fun q => q.elim)
            replace h65 := AT.ev h65 E438 (fun q => q.elim)
            replace h424 := SL.ev h424 E438 (fun q => q.elim) (fun q => q.elim)
            replace h425 := BG.ev h425 E438 (fun q => q.elim) (fun q => q.elim) (fun q => q.elim)
            replace h163 := AT.ev h163 E438 (fun q => q.elim)
            replace E := E.trans E438 (fun x q => q.elim)
            refine q_val F rfl rfl (by decide) (r_neq F rfl rfl) fun a F => ?_
            refine nil ?_
            refine hK435 _ _ ?_
            by_cases hb441 : t171 = 0
            · replace H := (if_pos hb441).symm.trans H
              refine wp_cond_false ((F.ev rfl).trans (congrArg Value.bool (congrArg not (decide_eq_true hb441)))) ?_
              refine wp_skip ?_
              refine hK434 _ _ ?_
              refine wp_seq_k fun K442 hK442 => ?_
              refine reg ?_
              refine q_val F rfl rfl (by decide) (r_move F rfl) fun a F => ?_
              refine q_val F rfl rfl (by decide) (r_add F rfl rfl) fun a F => ?_
              refine q_val F rfl rfl (by decide) (r_assign F rfl) fun a F => ?_
              refine nil ?_
              refine hK442 _ _ ?_
              refine wp_seq_k fun K443 hK443 => ?_
              refine wp_seq_k fun K444 hK444 => ?_
              have J468 : ∀ (c469 : Nat → Nat) (w470 : World) (a : Act) (b467 : Bool), Fr a 306 [(0, .slice A2 a1.length C3), (3, .pointer p24), (4, .slice A270 l269.length C271), (5, .int .i64 (IntKind.i64.wrap (i273 + 1))), (6, .int .i64 i274), (7, .int .i64 i275), (8, .pointer (some qa63)), (144, .bool b467)] → Ev (fun x => False ∨ m ≤ x) c0 w0 c469 w470 → CB (m + 9) c469 w470 → AT true (m + 3) c469 w470 qa63 [.int .i64 ((rd a1 i275).Who), .int .i64 ((rd a1 i275).Kind), .int .i64 ((rd a1 i275).Number), .int .i64 ((rd a1 i275).To), .slice A297 ((rd a1 i275).Data).length C298] → SL false K_haulagelaw20_Op 0 0 c469 w470 A2 C3 a1 → BG (m + 1) (m + 2) c469 w470 p24 t148.2.2 → SL true K_api_Letter (m + 4) 0 c469 w470 A270 C271 l269 → SL false (Kint .u8) 0 0 c469 w470 A297 C298 ((rd a1 i275).Data) → haulagelaw20_BagNothingElse.j6 a1 t148 l269 i273 i274 i275 b467 = some ctl281 → K444 a w470 := by
                intro c469 w470 a b467 F E B h65 h4 h425 h272 h299 H
                unfold haulagelaw20_BagNothingElse.j6 at H
                refine hK444 _ _ ?_
                by_cases hb471 : b467 = true
                · replace H := (if_pos hb471).symm.trans H
                  refine wp_cond_true ((F.ev rfl).trans (congrArg Value.bool hb471)) ?_
                  refine wp_seq_k fun K472 hK472 => ?_
                  refine reg ?_
                  refine q_val F rfl rfl (by decide) (r_assign F rfl) fun a F => ?_
                  refine nil ?_
                  refine hK472 _ _ ?_
                  replace F : Fr a 306 [(2, .bool false)] := F.sub ⟨rfl, trivial⟩
                  refine wp_ret ?_
                  refine thenR ?_
                  refine inbR ?_
                  refine thenR ?_
                  refine inbR ?_
                  refine thenR ?_
                  refine thenR ?_
                  refine inbR ?_
                  refine thenR ?_
                  have hx_ := HD280 _ (Option.some.inj H).symm
                  have H := HR284
                  rw [← hx_] at H
                  replace H : some false = some r := H
                  replace H := Option.some.inj H
                  subst H
                  refine out1 F rfl rfl ?_
                  exact ⟨fun b_ => (fun x_ => if x_ < m then x_ else 0) (c469 b_), rfl, E.leave B0 (fun x_ => if x_ < m then x_ else 0) (by intro x_ hx_; show (if x_ < m then x_ else 0) = x_; ((repeat' split) <;> omega)), (fun b_ hb_ => by show (if (c469 b_) < m then (c469 b_) else 0) < m; ((repeat' split) <;> omega))⟩
                · replace H := (if_neg hb471).symm.trans H
                  refine wp_cond_false ((F.ev rfl).trans (congrArg Value.bool (bfalse hb471))) ?_
                  refine wp_skip ?_
                  refine hK443 _ _ ?_
                  refine wp_seq_k fun K473 hK473 => ?_
                  refine reg ?_
                  refine q_val F rfl rfl (by decide) (r_move F rfl) fun a F => ?_
                  refine q_val F rfl rfl (by decide) (r_fieldAddr F rfl ff_53_2) fun a F => ?_
                  refine q_val F rfl rfl (by decide) (r_load F rfl ag_3 (AT.cell h65 rfl)) fun a F => ?_
                  replace H := bind_some H
                  obtain ⟨t474, q475, H⟩ := H
                  refine q_call F rfl rfl (by decide) (r_call F Try.func18 rfl (by kernel_rfl) rfl) (bag_Bag_Deliver.calls (m := m + 9) (Nat.add_pos_left hm0 _) B h425 ⟨(Nat.add_pos_left hm0 _), (Nat.add_lt_add_left (by decide) m)⟩ ⟨(Nat.add_pos_left hm0 _), (Nat.add_lt_add_left (by decide) m), (ne_mm (by decide))⟩ _ q475) ?_
                  rintro e w477 ⟨c476, A480, C481, rfl, E478, B479, h482, h483⟩
                  refine ⟨_, rfl, fun a F => ?_⟩
                  have B := B479
                  replace h65 := AT.ev h65 E478 (nor (ne_mm (by decide)) (ne_mm (by decide)))
                  replace h4 := SL.ev h4 E478 (nor ne_zm ne_zm) (nor ne_zm ne_zm)
                  replace h272 := SL.ev h272 E478 (nor (ne_mm (by decide)) (ne_mm (by decide))) (nor ne_zm ne_zm)
                  replace h299 := SL.ev h299 E478 (nor ne_zm ne_zm) (nor ne_zm ne_zm)
                  replace E := E.trans E478 (fun x (q : x = m + 1 ∨ x = m + 2) => q.elim (fun q => Or.inr (le_col q)) (fun q => Or.inr (le_col q)))
                  refine q_val F rfl rfl (by decide) (r_move F rfl) fun a F => ?_
                  refine q_val F rfl rfl (by decide) (r_extract F rfl rfl) fun a F => ?_
                  refine q_val F rfl rfl (by decide) (r_extract F rfl rfl) fun a F => ?_
                  refine q_eff F rfl rfl (by decide) (e_alloc F zv_40 c476 (m + 8)) ?_
                  rintro v w486 a ⟨c485, qa487, rfl, E488, h489, B490⟩ F
                  replace B := B490 _ B (Nat.add_lt_add_left (by decide) m)
                  replace h65 := AT.ev h65 E488 (fun q => q.elim)
                  replace h4 := SL.ev h4 E488 (fun q => q.elim) (fun q => q.elim)
                  replace h272 := SL.ev h272 E488 (fun q => q.elim) (fun q => q.elim)
                  replace h299 := SL.ev h299 E488 (fun q => q.elim) (fun q => q.elim)
                  replace h482 := SL.ev h482 E488 (fun q => q.elim) (fun q => q.elim)
                  replace h483 := BG.ev h483 E488 (fun q => q.elim) (fun q => q.elim) (fun q => q.elim)
                  replace E := E.trans E488 (fun x q => q.elim)
                  replace h489 : AT true (m + 8) c485 w486 qa487 [.int .i64 0, .int .i64 0, .int .i64 0, .slice none 0 0] := h489
                  refine q_eff0 F rfl rfl (e_storeN0 (us := [.int .i64 t474.1.Number, .int .i64 t474.1.From, .int .i64 t474.1.To, .slice A480 t474.1.Data.length C481]) F rfl rfl sz_40 h489 (Nat.le_of_ble_eq_true rfl) (one_all rfl)) ?_
                  rintro w492 a ⟨E493, h489, Z494⟩ F
                  replace B := B.size Z494
                  replace h65 := AT.ev h65 E493 (ne_mm (by decide))
                  replace h4 := SL.ev h4 E493 ne_zm ne_zm
                  replace h272 := SL.ev h272 E493 (ne_mm (by decide)) ne_zm
                  replace h299 := SL.ev h299 E493 ne_zm ne_zm
                  replace h482 := SL.ev h482 E493 ne_zm ne_zm
                  replace h483 := BG.ev h483 E493 (ne_mm (by decide)) (ne_mm (by decide)) ne_zm
                  replace E := E.trans E493 (fun x (q : x = m + 8) => Or.inr (le_col q))
                  replace h489 : AT true (m + 8) c485 w492 qa487 [.int .i64 t474.1.Number, .int .i64 t474.1.From, .int .i64 t474.1.To, .slice A480 t474.1.Data.length C481] := h489
                  refine q_val F rfl rfl (by decide) (r_assign F rfl) fun a F => ?_
                  refine nil ?_
                  refine hK473 _ _ ?_
                  replace F : Fr a 306 [(0, .slice A2 a1.length C3), (3, .pointer p24), (4, .slice A270 l269.length C271), (5, .int .i64 (IntKind.i64.wrap (i273 + 1))), (6, .int .i64 i274), (7, .int .i64 i275), (17, .int .i64 t474.2.1)] := F.sub ⟨rfl, rfl, rfl, rfl, rfl, rfl, rfl, trivial⟩
                  refine wp_seq_k fun K495 hK495 => ?_
                  refine reg ?_
                  refine q_val F rfl rfl (by decide) (r_move F rfl) fun a F => ?_
                  replace H := bind_some H
                  obtain ⟨t496, q497, H⟩ := H
                  refine q_call F rfl rfl (by decide) (r_call F Try.func13 rfl (by kernel_rfl) rfl) (haulagelaw20_num.calls (m := m + 9) (Nat.add_pos_left hm0 _) B _ q497) ?_
                  rintro e w499 ⟨c498, rfl, E500, B501⟩
                  refine ⟨_, rfl, fun a F => ?_⟩
                  have B := B501
                  replace h65 := AT.ev h65 E500 (fun q => q.elim)
                  replace h4 := SL.ev h4 E500 (fun q => q.elim) (fun q => q.elim)
                  replace h272 := SL.ev h272 E500 (fun q => q.elim) (fun q => q.elim)
                  replace h299 := SL.ev h299 E500 (fun q => q.elim) (fun q => q.elim)
                  replace h482 := SL.ev h482 E500 (fun q => q.elim) (fun q => q.elim)
                  replace h483 := BG.ev h483 E500 (fun q => q.elim) (fun q => q.elim) (fun q => q.elim)
                  replace h489 := AT.ev h489 E500 (fun q => q.elim)
                  replace E := E.trans E500 (fun x q => q.elim)
                  refine q_val F rfl rfl (by decide) (r_neq F rfl rfl) fun a F => ?_
                  refine nil ?_
                  refine hK495 _ _ ?_
                  by_cases hb503 : t496 = 200
                  · replace H := (if_pos hb503).symm.trans H
                    refine wp_cond_false ((F.ev rfl).trans (congrArg Value.bool (congrArg not (decide_eq_true hb503)))) ?_
                    refine wp_skip ?_
                    exact J530 c498 w499 a t474.2.2 l269 A270 C271 (IntKind.i64.wrap (i273 + 1)) i274 (F.sub ⟨rfl, rfl, rfl, rfl, rfl, rfl, trivial⟩) E B h4 h483 h272 H
                  · replace H := (if_neg hb503).symm.trans H
                    refine wp_cond_true ((F.ev rfl).trans (congrArg Value.bool (congrArg not (decide_eq_false hb503)))) ?_
                    refine wp_seq_k fun K504 hK504 => ?_
                    refine reg ?_
                    refine q_val F rfl rfl (by decide) (r_assign F rfl) fun a F => ?_
                    refine nil ?_
                    refine hK504 _ _ ?_
                    replace F : Fr a 306 [(2, .bool false)] := F.sub ⟨rfl, trivial⟩
                    refine wp_ret ?_
                    refine inbR ?_
                    refine thenR ?_
                    refine inbR ?_
                    refine thenR ?_
                    refine thenR ?_
                    refine inbR ?_
                    refine thenR ?_
                    have hx_ := HD280 _ (Option.some.inj H).symm
                    have H := HR284
                    rw [← hx_] at H
                    replace H : some false = some r := H
                    replace H := Option.some.inj H
                    subst H
                    refine out1 F rfl rfl ?_
                    exact ⟨fun b_ => (fun x_ => if x_ < m then x_ else 0) (c498 b_), rfl, E.leave B0 (fun x_ => if x_ < m then x_ else 0) (by intro x_ hx_; show (if x_ < m then x_ else 0) = x_; ((repeat' split) <;> omega)), (fun b_ hb_ => by show (if (c498 b_) < m then (c498 b_) else 0) < m; ((repeat' split) <;> omega))⟩
              refine regD (SB No c436 w437) 20 (.q 0 (.q 1 (.q 2 (.q 3 (.q 4 (.q 5 (.q 6 (.q 7 (.q 8 (.q 9 (.q 10 (.q 11 (.q 12 (.q 13 (.q 14 (.q 15 (.q 16 (.e 17 (.q 18 (.q 19 .nil)))))))))))))))))))) Try_hm (by decide +kernel) ?_
              intro w445 w1_ w2_ w3_ w4_
              have E446 : Ev No c436 w437 c436 w445 := Ev.same w1_ w2_ w3_ w4_
              replace B := B.same w1_
              have zh4 := h4
              have zh272 := h272
              have zh299 := h299
              have zh295 := h295
              have zh65 := h65
              have zh424 := h424
              have zh425 := h425
              have zh163 := h163
              have ER : Ev No c436 w437 c436 w445 := Ev.same w1_ w2_ w3_ w4_
              replace h4 := SL.ev h4 E446 (fun q => q.elim) (fun q => q.elim)
              replace h272 := SL.ev h272 E446 (fun q => q.elim) (fun q => q.elim)
              replace h299 := SL.ev h299 E446 (fun q => q.elim) (fun q => q.elim)
              replace h295 := AT.ev h295 E446 (fun q => q.elim)
              replace h65 := AT.ev h65 E446 (fun q => q.elim)
              replace h424 := SL.ev h424 E446 (fun q => q.elim) (fun q => q.elim)
              replace h425 := BG.ev h425 E446 (fun q => q.elim) (fun q => q.elim) (fun q => q.elim)
              replace h163 := AT.ev h163 E446 (fun q => q.elim)
              replace E := E.trans E446 (fun x q => q.elim)
              refine d_q F rfl rfl rfl (by decide) (fun wq hS => r_fieldAddr F rfl ff_53_2) ER.sb fun a F => ?_
              refine d_q F rfl rfl rfl (by decide) (fun wq hS => r_load F rfl ag_3 (AT.cell (AT.sb zh65 hS (fun q => q.elim)) rfl)) ER.sb fun a F => ?_
              refine d_q F rfl rfl rfl (by decide) (fun wq hS => r_lss F rfl rfl) ER.sb fun a F => ?_
              refine d_q F rfl rfl rfl (by decide) (fun wq hS => r_move F rfl) ER.sb fun a F => ?_
              by_cases hb447 : ((rd a1 i275).Number) < 0
              · replace H := (if_pos hb447).symm.trans H
                refine d_qn F rfl rfl rfl (by decide) rfl (decide_eq_true hb447) rfl (by decide) ER.sb fun a F => ?_
                refine d_qn F rfl rfl rfl (by decide) rfl (decide_eq_true hb447) rfl (by decide) ER.sb fun a F => ?_
                refine d_qn F rfl rfl rfl (by decide) rfl (decide_eq_true hb447) rfl (by decide) ER.sb fun a F => ?_
                refine d_qn F rfl rfl rfl (by decide) rfl (decide_eq_true hb447) rfl (by decide) ER.sb fun a F => ?_
                refine d_qn F rfl rfl rfl (by decide) rfl (decide_eq_true hb447) rfl (by decide) ER.sb fun a F => ?_
                refine d_q F rfl rfl rfl (by decide) (fun wq hS => r_pick_t F rfl (decide_eq_true hb447) rfl) ER.sb fun a F => ?_
                refine d_q F rfl rfl rfl (by decide) (fun wq hS => r_move F rfl) ER.sb fun a F => ?_
                refine d_qn F rfl rfl rfl (by decide) rfl rfl rfl (by decide) ER.sb fun a F => ?_
                refine d_qn F rfl rfl rfl (by decide) rfl rfl rfl (by decide) ER.sb fun a F => ?_
                refine d_qn F rfl rfl rfl (by decide) rfl rfl rfl (by decide) ER.sb fun a F => ?_
                refine d_qn F rfl rfl rfl (by decide) rfl rfl rfl (by decide) ER.sb fun a F => ?_
                refine d_qn F rfl rfl rfl (by decide) rfl rfl rfl (by decide) ER.sb fun a F => ?_
                refine d_qn F rfl rfl rfl (by decide) rfl rfl rfl (by decide) ER.sb fun a F => ?_
                refine d_e ?_
                refine o_no F rfl rfl rfl (by decide) rfl rfl rfl (by decide) fun a F => ?_
                refine ⟨fun _ => ER.sb, ?_⟩
                refine d_qn F rfl rfl rfl (by decide) rfl rfl rfl (by decide) ER.sb fun a F => ?_
                refine d_q F rfl rfl rfl (by decide) (fun wq hS => r_pick_t F rfl rfl rfl) ER.sb fun a F => ?_
                refine d_nil ?_
                exact J468 c436 w445 a true (F.sub ⟨rfl, rfl, rfl, rfl, rfl, rfl, rfl, rfl, trivial⟩) E B h65 h4 h425 h272 h299 H
              · replace H := (if_neg hb447).symm.trans H
                refine d_qy F rfl rfl rfl (by decide) rfl (decide_eq_false hb447) rfl (by decide) (fun wq hS => r_fieldAddr F rfl ff_53_2) ER.sb fun a F => ?_
                refine d_qy F rfl rfl rfl (by decide) rfl (decide_eq_false hb447) rfl (by decide) (fun wq hS => r_load F rfl ag_3 (AT.cell (AT.sb zh65 hS (fun q => q.elim)) rfl)) ER.sb fun a F => ?_
                refine d_qy F rfl rfl rfl (by decide) rfl (decide_eq_false hb447) rfl (by decide) (fun wq hS => r_move F rfl) ER.sb fun a F => ?_
                refine d_qy F rfl rfl rfl (by decide) rfl (decide_eq_false hb447) rfl (by decide) (fun wq hS => r_lensl F Try.underlying34 rfl) ER.sb fun a F => ?_
                refine d_qy F rfl rfl rfl (by decide) rfl (decide_eq_false hb447) rfl (by decide) (fun wq hS => r_geq F rfl rfl) ER.sb fun a F => ?_
                refine d_q F rfl rfl rfl (by decide) (fun wq hS => r_pick_f F rfl (decide_eq_false hb447) rfl) ER.sb fun a F => ?_
                refine d_q F rfl rfl rfl (by decide) (fun wq hS => r_move F rfl) ER.sb fun a F => ?_
                by_cases hb448 : (l269.length : Int) ≤ ((rd a1 i275).Number)
                · replace H := (if_pos hb448).symm.trans H
                  refine d_qn F rfl rfl rfl (by decide) rfl (decide_eq_true hb448) rfl (by decide) ER.sb fun a F => ?_
                  refine d_qn F rfl rfl rfl (by decide) rfl (decide_eq_true hb448) rfl (by decide) ER.sb fun a F => ?_
                  refine d_qn F rfl rfl rfl (by decide) rfl (decide_eq_true hb448) rfl (by decide) ER.sb fun a F => ?_
                  refine d_qn F rfl rfl rfl (by decide) rfl (decide_eq_true hb448) rfl (by decide) ER.sb fun a F => ?_
                  refine d_qn F rfl rfl rfl (by decide) rfl (decide_eq_true hb448) rfl (by decide) ER.sb fun a F => ?_
                  refine d_qn F rfl rfl rfl (by decide) rfl (decide_eq_true hb448) rfl (by decide) ER.sb fun a F => ?_
                  refine d_e ?_
                  refine o_no F rfl rfl rfl (by decide) rfl (decide_eq_true hb448) rfl (by decide) fun a F => ?_
                  refine ⟨fun _ => ER.sb, ?_⟩
                  refine d_qn F rfl rfl rfl (by decide) rfl (decide_eq_true hb448) rfl (by decide) ER.sb fun a F => ?_
                  refine d_q F rfl rfl rfl (by decide) (fun wq hS => r_pick_t F rfl (decide_eq_true hb448) rfl) ER.sb fun a F => ?_
                  refine d_nil ?_
                  exact J468 c436 w445 a true (F.sub ⟨rfl, rfl, rfl, rfl, rfl, rfl, rfl, rfl, trivial⟩) E B h65 h4 h425 h272 h299 H
                · replace H := (if_neg hb448).symm.trans H
                  refine d_qy F rfl rfl rfl (by decide) rfl (decide_eq_false hb448) rfl (by decide) (fun wq hS => r_loads (cs := [.int .i64 t148.1.Number, .int .i64 t148.1.From, .int .i64 t148.1.To, .slice A422 t148.1.Data.length C423]) F rfl ag_40 sz_40 (AT.sb zh163 hS (fun q => q.elim))) ER.sb fun a F => ?_
                  refine d_qy F rfl rfl rfl (by decide) rfl (decide_eq_false hb448) rfl (by decide) (fun wq hS => r_move F rfl) ER.sb fun a F => ?_
                  refine d_qy F rfl rfl rfl (by decide) rfl (decide_eq_false hb448) rfl (by decide) (fun wq hS => r_fieldAddr F rfl ff_53_2) ER.sb fun a F => ?_
                  refine d_qy F rfl rfl rfl (by decide) rfl (decide_eq_false hb448) rfl (by decide) (fun wq hS => r_load F rfl ag_3 (AT.cell (AT.sb zh65 hS (fun q => q.elim)) rfl)) ER.sb fun a F => ?_
                  replace H := ifN H
                  obtain ⟨g449, H⟩ := H
                  obtain ⟨ad450, cs451, e452, h453, r454⟩ := SL.at zh272 ((rd a1 i275).Number) g449.1 g449.2
                  obtain ⟨A455, C456, rfl, h457⟩ := r454
                  replace h457 := SL.fl (i' := 0) h457 (fun q => q)
                  obtain ⟨qa458, qqa458⟩ : ∃ q, q = (ad450.add (((rd a1 i275).Number).toNat * 4)) := ⟨_, rfl⟩
                  have h453 : AT true (m + 4) c436 w437 qa458 [.int .i64 ((rd l269 ((rd a1 i275).Number)).Number), .int .i64 ((rd l269 ((rd a1 i275).Number)).From), .int .i64 ((rd l269 ((rd a1 i275).Number)).To), .slice A455 ((rd l269 ((rd a1 i275).Number)).Data).length C456] := by rw [qqa458]; exact h453
                  have zh457 := h457
                  replace h457 := SL.ev h457 ER (fun q => q.elim) (fun q => q.elim)
                  have zh453 := h453
                  replace h453 := AT.ev h453 ER (fun q => q.elim)
                  refine d_qy F rfl rfl rfl (by decide) rfl (decide_eq_false hb448) rfl (by decide) (fun wq hS => r_indexAddr' F Try.underlying34 sz_40 rfl rfl g449.1 g449.2 e452 qqa458) ER.sb fun a F => ?_
                  refine d_qy F rfl rfl rfl (by decide) rfl (decide_eq_false hb448) rfl (by decide) (fun wq hS => r_loads (cs := [.int .i64 ((rd l269 ((rd a1 i275).Number)).Number), .int .i64 ((rd l269 ((rd a1 i275).Number)).From), .int .i64 ((rd l269 ((rd a1 i275).Number)).To), .slice A455 ((rd l269 ((rd a1 i275).Number)).Data).length C456]) F rfl ag_40 sz_40 (AT.sb zh453 hS (fun q => q.elim))) ER.sb fun a F => ?_
                  refine d_e ?_
                  replace H := bind_some H
                  obtain ⟨t460, q461, H⟩ := H
                  refine o_call F rfl (wanted_yes F rfl rfl (by decide) rfl (decide_eq_false hb448)) rfl (by decide) (r_call F Try.func28 rfl (by kernel_rfl) rfl) (haulagelaw20_alike.calls k (m := m + 9) (Nat.add_pos_left hm0 _) B h424 h457 _ q461) ?_
                  rintro e w463 ⟨c462, rfl, E464, B465⟩
                  refine ⟨_, rfl, fun a F => ?_⟩
                  have B := B465
                  replace ER := ER.trans E464 (fun x q => q.elim)
                  replace h4 := SL.ev h4 E464 (fun q => q.elim) (fun q => q.elim)
                  replace h272 := SL.ev h272 E464 (fun q => q.elim) (fun q => q.elim)
                  replace h299 := SL.ev h299 E464 (fun q => q.elim) (fun q => q.elim)
                  replace h295 := AT.ev h295 E464 (fun q => q.elim)
                  replace h65 := AT.ev h65 E464 (fun q => q.elim)
                  replace h424 := SL.ev h424 E464 (fun q => q.elim) (fun q => q.elim)
                  replace h425 := BG.ev h425 E464 (fun q => q.elim) (fun q => q.elim) (fun q => q.elim)
                  replace h163 := AT.ev h163 E464 (fun q => q.elim)
                  replace h457 := SL.ev h457 E464 (fun q => q.elim) (fun q => q.elim)
                  replace h453 := AT.ev h453 E464 (fun q => q.elim)
                  replace E := E.trans E464 (fun x q => q.elim)
                  refine ⟨fun _ => ER.sb, ?_⟩
                  refine d_qy F rfl rfl rfl (by decide) rfl (decide_eq_false hb448) rfl (by decide) (fun wq hS => r_not F rfl) ER.sb fun a F => ?_
                  refine d_q F rfl rfl rfl (by decide) (fun wq hS => r_pick_f F rfl (decide_eq_false hb448) rfl) ER.sb fun a F => ?_
                  refine d_nil ?_
                  exact J468 c462 w463 a (!t460) (F.sub ⟨rfl, rfl, rfl, rfl, rfl, rfl, rfl, rfl, trivial⟩) E B h65 h4 h425 h272 h299 H
            · replace H := (if_neg hb441).symm.trans H
              refine wp_cond_true ((F.ev rfl).trans (congrArg Value.bool (congrArg not (decide_eq_false hb441)))) ?_
              refine wp_exit ?_
              refine thenE ?_
              refine inbNe (by decide) ?_
              refine thenE ?_
              refine inbE ?_
              refine hK289 _ _ ?_
              refine reg ?_
              refine q_val F rfl rfl (by decide) (r_move F rfl) fun a F => ?_
              refine q_val F rfl rfl (by decide) (r_add F rfl rfl) fun a F => ?_
              refine q_val F rfl rfl (by decide) (r_assign F rfl) fun a F => ?_
              refine nil ?_
              replace H := HN279 _ (Option.some.inj H).symm
              exact hX278 _ _ _ (Nat.lt_succ_self _) ⟨t148.2.2, l269, A270, C271, i273, i274, (IntKind.i64.wrap (i275 + 1)), c436, F.sub ⟨rfl, rfl, rfl, rfl, rfl, rfl, trivial⟩, E, B, h4, h425, h272, H⟩
          · replace H := (if_neg hb416).symm.trans H
            refine wp_cond_false ((F.ev rfl).trans (congrArg Value.bool (decide_eq_false hb416))) ?_
            refine wp_seq_k fun K505 hK505 => ?_
            refine reg ?_
            refine q_val F rfl rfl (by decide) (r_eql F rfl rfl) fun a F => ?_
            refine q_val F rfl rfl (by decide) (r_assign F rfl) fun a F => ?_
            refine nil ?_
            refine hK505 _ _ ?_
            replace F : Fr a 306 [(0, .slice A2 a1.length C3), (3, .pointer p24), (4, .slice A270 l269.length C271), (5, .int .i64 i273), (6, .int .i64 i274), (7, .int .i64 i275), (8, .pointer (some qa63)), (155, .bool (decide (((rd a1 i275).Kind) = 2)))] := F.sub ⟨rfl, rfl, rfl, rfl, rfl, rfl, rfl, rfl, trivial⟩
            by_cases hb506 : ((rd a1 i275).Kind) = 2
            · replace H := (if_pos hb506).symm.trans H
              refine wp_cond_true ((F.ev rfl).trans (congrArg Value.bool (decide_eq_true hb506))) ?_
              refine wp_seq_k fun K507 hK507 => ?_
              refine reg ?_
              refine q_val F rfl rfl (by decide) (r_move F rfl) fun a F => ?_
              refine q_val F rfl rfl (by decide) (r_fieldAddr F rfl ff_53_2) fun a F => ?_
              refine q_val F rfl rfl (by decide) (r_load F rfl ag_3 (AT.cell h65 rfl)) fun a F => ?_
              replace H := bind_some H
              obtain ⟨t193, q194, H⟩ := H
              refine q_call F rfl rfl (by decide) (r_call F Try.func27 rfl (by kernel_rfl) rfl) (bag_Bag_Drop.calls (m := m + 9) (Nat.add_pos_left hm0 _) B h267 ⟨(Nat.add_pos_left hm0 _), (Nat.add_lt_add_left (by decide) m)⟩ ⟨(Nat.add_pos_left hm0 _), (Nat.add_lt_add_left (by decide) m), (ne_mm (by decide))⟩ _ q194) ?_
              rintro e w509 ⟨c508, rfl, E510, B511, h512⟩
              refine ⟨_, rfl, fun a F => ?_⟩
              have B := B511
              replace h4 := SL.ev h4 E510 (nor ne_zm ne_zm) (nor ne_zm ne_zm)
              replace h272 := SL.ev h272 E510 (nor (ne_mm (by decide)) (ne_mm (by decide))) (nor ne_zm ne_zm)
              replace h299 := SL.ev h299 E510 (nor ne_zm ne_zm) (nor ne_zm ne_zm)
              replace h295 := AT.ev h295 E510 (nor ne_zm ne_zm)
              replace h65 := AT.ev h65 E510 (nor (ne_mm (by decide)) (ne_mm (by decide)))
              replace E := E.trans E510 (fun x (q : x = m + 1 ∨ x = m + 2) => q.elim (fun q => Or.inr (le_col q)) (fun q => Or.inr (le_col q)))
              refine q_val F rfl rfl (by decide) (r_assign F rfl) fun a F => ?_
              refine nil ?_
              refine hK507 _ _ ?_
              refine wp_seq_k fun K514 hK514 => ?_
              refine reg ?_
              refine q_val F rfl rfl (by decide) (r_move F rfl) fun a F => ?_
              replace H := bind_some H
              obtain ⟨t202, q203, H⟩ := H
              refine q_call F rfl rfl (by decide) (r_call F Try.func13 rfl (by kernel_rfl) rfl) (haulagelaw20_num.calls (m := m + 9) (Nat.add_pos_left hm0 _) B _ q203) ?_
              rintro e w516 ⟨c515, rfl, E517, B518⟩
              refine ⟨_, rfl, fun a F => ?_⟩
              have B := B518
              replace h4 := SL.ev h4 E517 (fun q => q.elim) (fun q => q.elim)
              replace h272 := SL.ev h272 E517 (fun q => q.elim) (fun q => q.elim)
              replace h299 := SL.ev h299 E517 (fun q => q.elim) (fun q => q.elim)
              replace h295 := AT.ev h295 E517 (fun q => q.elim)
              replace h65 := AT.ev h65 E517 (fun q => q.elim)
              replace h512 := BG.ev h512 E517 (fun q => q.elim) (fun q => q.elim) (fun q => q.elim)
              replace E := E.trans E517 (fun x q => q.elim)
              refine q_val F rfl rfl (by decide) (r_eql F rfl rfl) fun a F => ?_
              refine nil ?_
              refine hK514 _ _ ?_
              replace F : Fr a 306 [(0, .slice A2 a1.length C3), (3, .pointer p24), (4, .slice A270 l269.length C271), (5, .int .i64 i273), (6, .int .i64 i274), (7, .int .i64 i275), (163, .bool (decide (t202 = 0)))] := F.sub ⟨rfl, rfl, rfl, rfl, rfl, rfl, rfl, trivial⟩
              by_cases hb520 : t202 = 0
              · replace H := (if_pos hb520).symm.trans H
                refine wp_cond_true ((F.ev rfl).trans (congrArg Value.bool (decide_eq_true hb520))) ?_
                refine reg ?_
                refine q_val F rfl rfl (by decide) (r_move F rfl) fun a F => ?_
                refine q_val F rfl rfl (by decide) (r_add F rfl rfl) fun a F => ?_
                refine q_val F rfl rfl (by decide) (r_assign F rfl) fun a F => ?_
                refine nil ?_
                exact J530 c515 w516 a t193.2 l269 A270 C271 (IntKind.i64.wrap (i273 + 1)) i274 (F.sub ⟨rfl, rfl, rfl, rfl, rfl, rfl, trivial⟩) E B h4 h512 h272 H
              · replace H := (if_neg hb520).symm.trans H
                refine wp_cond_false ((F.ev rfl).trans (congrArg Value.bool (decide_eq_false hb520))) ?_
                refine wp_skip ?_
                exact J530 c515 w516 a t193.2 l269 A270 C271 i273 i274 (F.sub ⟨rfl, rfl, rfl, rfl, rfl, rfl, trivial⟩) E B h4 h512 h272 H
            · replace H := (if_neg hb506).symm.trans H
              refine wp_cond_false ((F.ev rfl).trans (congrArg Value.bool (decide_eq_false hb506))) ?_
              refine wp_skip ?_
              exact J530 c302 w306 a o268 l269 A270 C271 i273 i274 (F.sub ⟨rfl, rfl, rfl, rfl, rfl, rfl, trivial⟩) E B h4 h267 h272 H
    · replace H := (if_neg hb288).symm.trans H
      refine wp_cond_false ((F.ev rfl).trans (congrArg Value.bool (decide_eq_false hb288))) ?_
      refine wp_exit ?_
      refine thenE ?_
      refine thenE ?_
      refine inbE ?_
      have hx_ := HD280 _ (Option.some.inj H).symm
      have H := HR284
      rw [← hx_] at H
      exact J585 c276 w277 a o268 l269 A270 C271 (F.sub ⟨rfl, rfl, trivial⟩) E B h267 h272 H
  · replace H := (if_neg hb15).symm.trans H
    refine wp_cond_true ((F.ev rfl).trans (congrArg Value.bool (congrArg not (bfalse hb15)))) ?_
    refine wp_seq_k fun K16 hK16 => ?_
    refine reg ?_
    refine q_val F rfl rfl (by decide) (r_assign F rfl) fun a F => ?_
    refine nil ?_
    refine hK16 _ _ ?_
    refine wp_ret ?_
    refine thenR ?_
    replace H := Option.some.inj H
    subst H
    refine out1 F rfl rfl ?_
    exact ⟨fun b_ => (fun x_ => if x_ < m then x_ else 0) (c10 b_), rfl, E.leave B0 (fun x_ => if x_ < m then x_ else 0) (by intro x_ hx_; show (if x_ < m then x_ else 0) = x_; ((repeat' split) <;> omega)), (fun b_ hb_ => by show (if (c10 b_) < m then (c10 b_) else 0) < m; ((repeat' split) <;> omega))⟩
end Go.Proofs.Ytdlokohmdnkdoaa.G
/-! Arguments opened: what the reading of an argument says in the words of kinds. -/
namespace Go.Proofs.Ytdlokohmdnkdoaa.G
open Go Go.ChangeShapes Go.WideShapes
set_option linter.unusedVariables false
set_option linter.unusedSimpArgs false
/-! ### bulk -/
theorem bulk_one {H : Type} (d : DataW H) : 1 ≤ Rows.uptoBulk d := by
  cases d with
  | lit l => cases l <;> simp [Rows.uptoBulk]
  | nil => simp [Rows.uptoBulk]
  | ptr d => simp [Rows.uptoBulk]
  | slice elems spare => simp [Rows.uptoBulk]
  | agg parts => simp [Rows.uptoBulk]
  | iface t d => simp [Rows.uptoBulk]
  | map entries => simp [Rows.uptoBulk]
  | held h => simp [Rows.uptoBulk]
theorem bulk_slice {H : Type} (elems spare : List (DataW H)) : Rows.uptoBulkAll elems + 1 ≤ Rows.uptoBulk (.slice elems spare) := by
  simp only [Rows.uptoBulk]
  omega
theorem bulk_agg {H : Type} (parts : List (DataW H)) : Rows.uptoBulkAll parts + 1 ≤ Rows.uptoBulk (.agg parts) := by
  simp only [Rows.uptoBulk]
  omega
theorem bulk_all {H : Type} : ∀ l : List (DataW H), Rows.uptoBulkAll l = (l.map Rows.uptoBulk).sum
  | [] => by simp [Rows.uptoBulkAll]
  | d :: l => by simp [Rows.uptoBulkAll, bulk_all l]
/-! ### openers -/
def c0 : Nat → Nat := fun _ => 0
def Opens {α : Type} (P : Program) (w : World) (t : TypeId) (e : K α) (wt : α → Nat) (ok : α → Prop) : Prop :=
  ∀ (H : Type) (enc : TypeId × Value → H) (fuel : Nat) (cs : List Value) (x : DataW H × List MemPlace), DataW.trod enc P w 0 (fun _ => true) true fuel t cs = some x → ∃ y, e.rep 0 c0 w cs y ∧ wt y ≤ Rows.uptoBulk x.1 ∧ ok y
section
variable {α : Type} {P : Program} {w : World} {t u : TypeId} {e : K α} {wt : α → Nat} {ok : α → Prop}
theorem opens_int {k : IntKind} (ht : P.underlying t = some (.int k)) : Opens P w t (Kint k) (fun _ => 1) (fun n => (Lit.int k n).wf = true) := by
  intro H enc fuel cs x h
  obtain ⟨n, rfl, rfl, hw⟩ := DataW.trod_int ht h
  exact ⟨n, rfl, bulk_one _, hw⟩
theorem opens_bool (ht : P.underlying t = some .bool) : Opens P w t Kbool (fun _ => 1) (fun _ => True) := by
  intro H enc fuel cs x h
  obtain ⟨n, rfl, rfl⟩ := DataW.trod_bool ht h
  exact ⟨n, rfl, bulk_one _, trivial⟩
theorem at_cell {p : Addr} {v : Value} (h : w.cell? p = some v) : p = ⟨p.block, p.off, none⟩ ∧ ∃ cur ty fz, w.heap[p.block]? = some (.cells cur ty fz) ∧ cur[p.off]? = some v := by
  obtain ⟨b, off, spot⟩ := p
  simp only [World.cell?] at h
  split at h
  · rename_i c ty fz hb
    cases spot with
    | some s => simp at h
    | none => exact ⟨rfl, c, ty, fz, hb, by simpa using h⟩
  · cases h
theorem at_cells {p : Addr} {n : Nat} {cs : List Value} (hn : cs.length = n) (hp : 0 < n) (h : ∀ i, i < n → w.cell? (p.add i) = cs[i]?) : AT false 0 c0 w p cs := by
  have h0 := h 0 hp
  have e0 : p.add 0 = p := by simp [Addr.add]
  rw [e0, List.getElem?_eq_getElem (by omega)] at h0
  obtain ⟨ep, cur, ty, fz, hb, hc⟩ := at_cell h0
  refine ⟨p.block, p.off, cur, ty, fz, ep, hb, rfl, fun k hk => ?_, fun q => by cases q⟩
  have hk' := h k (by omega)
  rw [ep, add_eq] at hk'
  simp only [World.cell?, hb] at hk'
  simpa using hk'
theorem sum_le {β γ : Type} (f : β → Nat) (g : γ → Nat) : ∀ (l : List β) (m : List γ), l.length = m.length → (∀ i (h : i < l.length) (h' : i < m.length), f l[i] ≤ g m[i]) → (l.map f).sum ≤ (m.map g).sum
  | [], [], _, _ => Nat.le_refl _
  | [], _ :: _, h, _ => by simp at h
  | _ :: _, [], h, _ => by simp at h
  | a :: l, b :: m, h, hh => by
    simp only [List.map_cons, List.sum_cons]
    have h0 := hh 0 (by simp) (by simp)
    simp only [List.getElem_cons_zero] at h0
    have := sum_le f g l m (by simpa using h) (fun i h1 h2 => by
      have := hh (i + 1) (by simp; omega) (by simp; omega)
      simpa using this)
    omega
/-- A slice of them. -/
theorem open_sl [Inhabited α] (ht : P.underlying t = some (.slice u)) (hc : P.cellsOf u = e.sz) (hu : Opens P w u e wt ok) {H : Type} {enc : TypeId × Value → H} {fuel : Nat} {cs : List Value} {x : DataW H × List MemPlace}
    (h : DataW.trod enc P w 0 (fun _ => true) true fuel t cs = some x) :
    ∃ A cap xs, cs = [.slice A xs.length cap] ∧ SL false e 0 0 c0 w A cap xs ∧ (xs.map wt).sum + 1 ≤ Rows.uptoBulk x.1 ∧ ∀ y ∈ xs, ok y := by
  rcases Deep.open_slice ht h with ⟨rfl, rfl⟩ | ⟨a, len, cap, m, n, D, Pl, rfl, _, hl, hm, hmm, rfl, hx⟩
  · exact ⟨none, 0, [], rfl, SL.nil, by simp [Rows.uptoBulk], fun y hy => by cases hy⟩
  simp only [if_true] at hmm
  subst hmm
  have hp := e.pos
  rw [hc] at hx
  have each : ∀ i, i < m → ∃ y : List Value × α, (y.1.length = e.sz ∧ ∀ k, k < e.sz → w.cell? ((a.add (i * e.sz)).add k) = y.1[k]?) ∧ e.rep 0 c0 w y.1 y.2 ∧ wt y.2 ≤ Rows.uptoBulk (D i) ∧ ok y.2 := by
    intro i hi
    obtain ⟨cs', h1, h2⟩ := hx i hi
    obtain ⟨_, g1, g2⟩ := World.cells?_some h1
    obtain ⟨y, g3, g4, g5⟩ := hu H enc n cs' _ h2
    exact ⟨(cs', y), ⟨g1, g2⟩, g3, g4, g5⟩
  obtain ⟨y, hy⟩ := Deep.choose_lt each
  let V : Nat → Value := fun q => (y (q / e.sz)).1.getD (q % e.sz) default
  have hV : ∀ i k, k < e.sz → V (i * e.sz + k) = (y i).1.getD k default := by
    intro i k hk
    show (y ((i * e.sz + k) / e.sz)).1.getD ((i * e.sz + k) % e.sz) default = _
    rw [Nat.mul_comm, Nat.mul_add_div hp, Nat.div_eq_of_lt hk, Nat.add_zero, Nat.mul_add_mod, Nat.mod_eq_of_lt hk]
  let cs := (List.range (m * e.sz)).map V
  have hcs : cs.length = m * e.sz := by simp [cs]
  have hcell : ∀ q, q < m * e.sz → w.cell? (a.add q) = cs[q]? := by
    intro q hq
    have hi : q / e.sz < m := (Nat.div_lt_iff_lt_mul hp).2 hq
    have hk : q % e.sz < e.sz := Nat.mod_lt _ hp
    obtain ⟨⟨g1, g2⟩, _⟩ := hy _ hi
    have g := g2 _ hk
    have e1 : (a.add (q / e.sz * e.sz)).add (q % e.sz) = a.add q := by
      have e2 : q / e.sz * e.sz + q % e.sz = q := Nat.div_add_mod' q e.sz
      obtain ⟨b, off, s⟩ := a
      simp only [Addr.add]
      split <;> split <;> split <;> simp_all <;> omega
    rw [e1] at g
    rw [g]
    simp only [cs, List.getElem?_map, List.getElem?_range hq, Option.map_some]
    show _ = some ((y (q / e.sz)).1.getD (q % e.sz) default)
    rw [List.getD_eq_getElem?_getD, List.getElem?_eq_getElem (by omega)]
    rfl
  refine ⟨some a, m, (List.range len).map fun i => (y i).2, by simp, ⟨cs, by simpa using hl, hm, hcs, ?_, fun n hn => ?_⟩, ?_, ?_⟩
  · rcases Nat.eq_zero_or_pos (m * e.sz) with q | q
    · left; exact List.length_eq_zero_iff.1 (by omega)
    · right; exact ⟨a, rfl, at_cells hcs q hcell⟩
  · simp only [List.length_map, List.length_range] at hn
    obtain ⟨⟨g1, _⟩, g3, _, _⟩ := hy n (by omega)
    have e1 : (cs.drop (n * e.sz)).take e.sz = (y n).1 := by
      apply List.ext_getElem?
      intro k
      by_cases hk : k < e.sz
      · have hq : n * e.sz + k < m * e.sz := by
          have : (n + 1) * e.sz ≤ m * e.sz := Nat.mul_le_mul_right _ (by omega)
          rw [Nat.succ_mul] at this; omega
        rw [List.getElem?_take_of_lt hk, List.getElem?_drop]
        simp only [cs, List.getElem?_map, List.getElem?_range hq, Option.map_some]
        rw [hV n k hk, List.getD_eq_getElem?_getD, List.getElem?_eq_getElem (by omega)]
        rfl
      · rw [List.getElem?_eq_none (by simp; omega), List.getElem?_eq_none (by omega)]
    rw [e1]
    simpa using g3
  · refine Nat.le_trans (Nat.succ_le_succ ?_) (bulk_slice _ _)
    rw [bulk_all]
    rw [List.map_map, List.map_map]
    have := sum_le (fun i => wt (y i).2) (fun i => Rows.uptoBulk (D i)) (List.range len) (List.range len) rfl (fun i h1 h2 => by
      simp only [List.length_range] at h1
      simp only [List.getElem_range]
      exact (hy i (by omega)).2.2.1)
    exact this
  · intro z hz
    obtain ⟨i, hi, rfl⟩ := List.mem_map.1 hz
    exact (hy i (by have := List.mem_range.1 hi; omega)).2.2.2
theorem opens_slice [Inhabited α] (ht : P.underlying t = some (.slice u)) (hc : P.cellsOf u = e.sz) (hu : Opens P w u e wt ok) : Opens P w t (Kslice e) (fun xs => (xs.map wt).sum + 1) (fun xs => ∀ y ∈ xs, ok y) := by
  intro H enc fuel cs x h
  obtain ⟨A, cap, xs, h1, h2, h3, h4⟩ := open_sl ht hc hu h
  exact ⟨xs, ⟨A, cap, h1, h2⟩, h3, h4⟩
end
end Go.Proofs.Ytdlokohmdnkdoaa.G
/-! The arguments of the rows, opened. -/
namespace Go.Proofs.Ytdlokohmdnkdoaa.G
open Go Go.ChangeShapes Go.WideShapes
set_option linter.unusedVariables false
theorem row_own : ownKnob Try.prog.godebug = none := by kernel_rfl
theorem row_laidOut : laidOutB Try.prog = true := by kernel_rfl
def intok (n : Int) : Prop := (Lit.int .i64 n).wf = true
theorem intok.range {n : Int} (h : intok n) : -9223372036854775808 ≤ n ∧ n ≤ 9223372036854775807 := by simpa [intok, Lit.wf, IntKind.min, IntKind.max, IntKind.signed, IntKind.bits] using h
def byteok (n : Int) : Prop := (Lit.int .u8 n).wf = true
def bytesok (xs : List Int) : Prop := ∀ n ∈ xs, byteok n
theorem byteok.range {n : Int} (h : byteok n) : 0 ≤ n ∧ n ≤ 255 := by simpa [byteok, Lit.wf, IntKind.min, IntKind.max, IntKind.signed, IntKind.bits] using h
theorem sum_one {α : Type} (xs : List α) : (xs.map fun _ => 1).sum = xs.length := by
  induction xs with
  | nil => rfl
  | cons x xs ih => simp [ih]; omega
theorem mem_sum {α : Type} (f : α → Nat) : ∀ {xs : List α} {x : α}, x ∈ xs → f x ≤ (xs.map f).sum
  | y :: xs, x, h => by
    rcases List.mem_cons.1 h with e | h
    · subst e; simp
    · have := mem_sum f h; simp only [List.map_cons, List.sum_cons]; omega
theorem len_sum {α : Type} (f : α → Nat) (hf : ∀ x, 1 ≤ f x) : ∀ xs : List α, xs.length ≤ (xs.map f).sum
  | [] => Nat.le_refl _
  | x :: xs => by have := len_sum f hf xs; have := hf x; simp only [List.map_cons, List.sum_cons, List.length_cons]; omega
theorem cells_3 : Try.prog.cellsOf 3 = 1 := by kernel_rfl
theorem cells_5 : Try.prog.cellsOf 5 = 1 := by kernel_rfl
theorem cells_27 : Try.prog.cellsOf 27 = 1 := by kernel_rfl
theorem cells_53 : Try.prog.cellsOf 53 = 5 := by kernel_rfl
theorem opens_bytes {w : World} : Opens Try.prog w 27 (Kslice (Kint .u8)) (fun xs => xs.length + 1) bytesok := by
  intro H enc fuel cs x h
  obtain ⟨y, h1, h2, h3⟩ := opens_slice (e := Kint .u8) Try.underlying27 cells_5 (opens_int Try.underlying5) H enc fuel cs x h
  have h2' : (y.map fun _ => 1).sum + 1 ≤ Rows.uptoBulk x.1 := h2
  rw [sum_one] at h2'
  exact ⟨y, h1, h2', h3⟩
abbrev wt_haulagelaw20_Op (o : haulagelaw20_Op) : Nat := o.Data.length + 1
def ok_haulagelaw20_Op (o : haulagelaw20_Op) : Prop := intok o.Who ∧ intok o.Kind ∧ intok o.Number ∧ intok o.To ∧ bytesok o.Data
set_option maxRecDepth 100000 in
theorem opens_haulagelaw20_Op {w : World} : Opens Try.prog w 53 K_haulagelaw20_Op wt_haulagelaw20_Op ok_haulagelaw20_Op := by
  intro H enc fuel cs x h
  obtain ⟨xs, n, rfl, rfl, hl, hxl, hf⟩ := DataW.trod_struct Try.underlying53 h
  rw [cells_53] at hl
  match cs, hl with
  | [v0, v1, v2, v3, v4], _ =>
    match xs, hxl with
    | [x0, x1, x2, x3, x4], _ =>
      have g0 : DataW.trod enc Try.prog w 0 (fun _ => true) true n 3 (([v0, v1, v2, v3, v4].drop 0).take (Try.prog.cellsOf 3)) = some x0 := hf 0 _ rfl
      rw [cells_3] at g0
      replace g0 : DataW.trod enc Try.prog w 0 (fun _ => true) true n 3 [v0] = some x0 := g0
      obtain ⟨y0, r0, -, k0⟩ := opens_int (w := w) Try.underlying3 H enc n _ _ g0
      have g1 : DataW.trod enc Try.prog w 0 (fun _ => true) true n 3 (([v0, v1, v2, v3, v4].drop 1).take (Try.prog.cellsOf 3)) = some x1 := hf 1 _ rfl
      rw [cells_3] at g1
      replace g1 : DataW.trod enc Try.prog w 0 (fun _ => true) true n 3 [v1] = some x1 := g1
      obtain ⟨y1, r1, -, k1⟩ := opens_int (w := w) Try.underlying3 H enc n _ _ g1
      have g2 : DataW.trod enc Try.prog w 0 (fun _ => true) true n 3 (([v0, v1, v2, v3, v4].drop 2).take (Try.prog.cellsOf 3)) = some x2 := hf 2 _ rfl
      rw [cells_3] at g2
      replace g2 : DataW.trod enc Try.prog w 0 (fun _ => true) true n 3 [v2] = some x2 := g2
      obtain ⟨y2, r2, -, k2⟩ := opens_int (w := w) Try.underlying3 H enc n _ _ g2
      have g3 : DataW.trod enc Try.prog w 0 (fun _ => true) true n 3 (([v0, v1, v2, v3, v4].drop 3).take (Try.prog.cellsOf 3)) = some x3 := hf 3 _ rfl
      rw [cells_3] at g3
      replace g3 : DataW.trod enc Try.prog w 0 (fun _ => true) true n 3 [v3] = some x3 := g3
      obtain ⟨y3, r3, -, k3⟩ := opens_int (w := w) Try.underlying3 H enc n _ _ g3
      have g4 : DataW.trod enc Try.prog w 0 (fun _ => true) true n 27 (([v0, v1, v2, v3, v4].drop 4).take (Try.prog.cellsOf 27)) = some x4 := hf 4 _ rfl
      rw [cells_27] at g4
      replace g4 : DataW.trod enc Try.prog w 0 (fun _ => true) true n 27 [v4] = some x4 := g4
      obtain ⟨y4, ⟨A4, C4, e4, s4⟩, b4, k4⟩ := opens_bytes (w := w) H enc n _ _ g4
      obtain rfl : v0 = .int .i64 y0 := List.head_eq_of_cons_eq r0
      obtain rfl : v1 = .int .i64 y1 := List.head_eq_of_cons_eq r1
      obtain rfl : v2 = .int .i64 y2 := List.head_eq_of_cons_eq r2
      obtain rfl : v3 = .int .i64 y3 := List.head_eq_of_cons_eq r3
      obtain rfl := List.head_eq_of_cons_eq e4
      refine ⟨⟨y0, y1, y2, y3, y4⟩, ⟨A4, C4, rfl, s4⟩, ?_, ⟨k0, k1, k2, k3, k4⟩⟩
      refine Nat.le_trans ?_ (bulk_agg _)
      simp only [List.map_cons, List.map_nil, Rows.uptoBulkAll]
      have q0 := bulk_one x0.1
      have q1 := bulk_one x1.1
      have q2 := bulk_one x2.1
      have q3 := bulk_one x3.1
      have q4 : y4.length + 1 ≤ Rows.uptoBulk x4.1 := b4
      show y4.length + 1 ≤ _
      omega
theorem wt_haulagelaw20_Op_pos (o : haulagelaw20_Op) : 1 ≤ wt_haulagelaw20_Op o := by unfold wt_haulagelaw20_Op; omega
/-- an argument -/
theorem arg_ops {H : Type} {enc : TypeId × Value → H} {w : World} {v : Value} {d : DataW H} {p : List MemPlace} (hv : ∃ a len cap, v = .slice a len cap) (h : DataW.Trod enc Try.prog w 0 (fun _ => true) true 47 v d p) :
    ∃ A C xs, v = .slice A xs.length C ∧ SL false K_haulagelaw20_Op 0 0 c0 w A C xs ∧ (xs.map wt_haulagelaw20_Op).sum + 1 ≤ Rows.uptoBulk d ∧ ∀ o ∈ xs, ok_haulagelaw20_Op o := by
  obtain ⟨a, len, cap, rfl⟩ := hv
  obtain ⟨fuel, hf⟩ := h
  obtain ⟨A, C, xs, e, h1, h2, h3⟩ := open_sl (e := K_haulagelaw20_Op) Try.underlying47 cells_53 opens_haulagelaw20_Op hf
  refine ⟨A, C, xs, ?_, h1, h2, h3⟩
  have e' : [Value.slice a len cap] = [.slice A xs.length C] := e
  exact List.head_eq_of_cons_eq e'
/-- an argument -/
theorem arg_keys {H : Type} {enc : TypeId × Value → H} {w : World} {v : Value} {d : DataW H} {p : List MemPlace} (hv : ∃ a len cap, v = .slice a len cap) (h : DataW.Trod enc Try.prog w 0 (fun _ => true) true 22 v d p) :
    ∃ A C xs, v = .slice A xs.length C ∧ SL false (Kslice (Kint .u8)) 0 0 c0 w A C xs ∧ (xs.map (fun x => x.length + 1)).sum + 1 ≤ Rows.uptoBulk d ∧ ∀ o ∈ xs, bytesok o := by
  obtain ⟨a, len, cap, rfl⟩ := hv
  obtain ⟨fuel, hf⟩ := h
  obtain ⟨A, C, xs, e, h1, h2, h3⟩ := open_sl (e := (Kslice (Kint .u8))) Try.underlying22 cells_27 opens_bytes hf
  refine ⟨A, C, xs, ?_, h1, h2, h3⟩
  have e' : [Value.slice a len cap] = [.slice A xs.length C] := e
  exact List.head_eq_of_cons_eq e'
end Go.Proofs.Ytdlokohmdnkdoaa.G
/-! Words of the plain laws: loops, numbers, places. -/
namespace Go.Proofs.Ytdlokohmdnkdoaa.G
open Go
set_option linter.unusedVariables false
set_option linter.unusedSimpArgs false
theorem bind_eq {α β : Type} {x : Option α} {f : α → Option β} {a : α} (h : x = some a) : x.bind f = f a := by rw [h]; rfl
theorem loop_next {S X : Type} {f : S → Option (Ctl S X)} {n : Nat} {s s' : S} (h : f s = some (.next s')) : loop f (n + 1) s = loop f n s' := by
  show (f s).bind _ = _; rw [h]; rfl
theorem loop_done {S X : Type} {f : S → Option (Ctl S X)} {n : Nat} {s : S} {x : X} (h : f s = some (.done x)) : loop f (n + 1) s = some x := by
  show (f s).bind _ = _; rw [h]; rfl
theorem loop_inv {S X : Type} {f : S → Option (Ctl S X)} {I : Nat → S → Prop} {P : X → Prop} {N : Nat}
    (step : ∀ i s, i < N → I i s → (∃ s', f s = some (.next s') ∧ I (i + 1) s') ∨ (∃ x, f s = some (.done x) ∧ P x))
    (last : ∀ s, I N s → ∃ x, f s = some (.done x) ∧ P x) : ∀ (n i : Nat) (s : S) (m : Nat), I i s → i + n = N → n < m → ∃ x, loop f m s = some x ∧ P x
  | _, _, _, 0, _, _, h => absurd h (by omega)
  | 0, i, s, m + 1, hI, hN, _ => by
    obtain rfl : i = N := by omega
    obtain ⟨x, h1, h2⟩ := last s hI
    exact ⟨x, loop_done h1, h2⟩
  | n + 1, i, s, m + 1, hI, hN, hm => by
    rcases step i s (by omega) hI with ⟨s', h1, h2⟩ | ⟨x, h1, h2⟩
    · rw [loop_next h1]
      exact loop_inv step last n (i + 1) s' m h2 (by omega) (by omega)
    · exact ⟨x, loop_done h1, h2⟩
/-- a loop that goes on to its end -/
theorem loop_run {S X : Type} {f : S → Option (Ctl S X)} {I : Nat → S → Prop} {P : X → Prop} {N : Nat} {k : Nat} {s : S}
    (step : ∀ i s, i < N → I i s → ∃ s', f s = some (.next s') ∧ I (i + 1) s') (last : ∀ s, I N s → ∃ x, f s = some (.done x) ∧ P x) (h0 : I 0 s) (hk : N < k) : ∃ x, loop f k s = some x ∧ P x :=
  loop_inv (fun i s hi h => .inl (step i s hi h)) last N 0 s k h0 (by omega) hk
theorem wr {n : Int} (h0 : -1000000000000000000 ≤ n) (h1 : n ≤ 1000000000000000000) : IntKind.i64.wrap n = n := by rw [IntKind.wrap_i64]; omega
theorem wrS (i : Nat) (h : i < 1000000000000000) : IntKind.i64.wrap ((i : Int) + 1) = ((i + 1 : Nat) : Int) := by rw [wr (by omega) (by omega)]; omega
theorem rd_eq {α : Type} [Inhabited α] {xs : List α} {i : Nat} (h : i < xs.length) : rd xs (i : Int) = xs[i] := by
  unfold rd
  rw [Int.toNat_natCast, List.getD_eq_getElem?_getD, List.getElem?_eq_getElem h]
  rfl
theorem rd_mem {α : Type} [Inhabited α] {xs : List α} {i : Int} (h0 : 0 ≤ i) (h : i < xs.length) : rd xs i ∈ xs := by
  have e : i = ((i.toNat : Nat) : Int) := by omega
  rw [e, rd_eq (by omega)]
  exact List.getElem_mem _
theorem rd_app1 {α : Type} [Inhabited α] {xs ys : List α} {i : Int} (h : i < xs.length) (h0 : 0 ≤ i) : rd (xs ++ ys) i = rd xs i := by
  have e : i = ((i.toNat : Nat) : Int) := by omega
  rw [e, rd_eq (by simp; omega), rd_eq (by omega), List.getElem_append_left (by omega)]
theorem rd_app2 {α : Type} [Inhabited α] {xs : List α} {y : α} {i : Int} (h : i = xs.length) : rd (xs ++ [y]) i = y := by
  subst h; rw [rd_eq (by simp)]; simp
theorem wf64 {n : Int} (h0 : -9223372036854775808 ≤ n) (h1 : n ≤ 9223372036854775807) : (Lit.int .i64 n).wf = true := by
  simp [Lit.wf, IntKind.min, IntKind.max, IntKind.signed, IntKind.bits]; omega
def Fuel (k : Nat) : Prop := 1099511627776 ≤ k
end Go.Proofs.Ytdlokohmdnkdoaa.G
/-! The plain laws of BagKnown and BagNothingElse. -/
namespace Go.Proofs.Ytdlokohmdnkdoaa.G
open Go
set_option linter.unusedVariables false
set_option linter.unusedSimpArgs false
theorem same_loop (a b : List Int) (hl : a.length = b.length) : ∀ (n i m : Nat), i + n = a.length → n < m → a.length < 4000000000 →
    loop (fun (s_ : Int) => haulagelaw20_same.b1 a b s_) m (i : Int) = some (if a.drop i = b.drop i then Sum.inl () else Sum.inr false)
  | _, _, 0, _, h, _ => absurd h (by omega)
  | 0, i, m + 1, h, _, _ => by
    refine loop_done ?_
    unfold haulagelaw20_same.b1
    rw [if_neg (by omega), if_pos]
    rw [List.drop_of_length_le (by omega), List.drop_of_length_le (by omega)]
  | n + 1, i, m + 1, h, hm, hb => by
    have hi : i < a.length := by omega
    have hj : i < b.length := by omega
    rw [List.drop_eq_getElem_cons hi, List.drop_eq_getElem_cons hj]
    by_cases c : a[i] = b[i]
    · rw [loop_next (s' := ((i + 1 : Nat) : Int)), same_loop a b hl n (i + 1) m (by omega) (by omega) hb]
      · simp only [c, List.cons.injEq, true_and]
      · unfold haulagelaw20_same.b1
        rw [if_pos (by omega), if_pos (by omega), if_pos (by omega), rd_eq hi, rd_eq hj, if_pos c, wrS i (by omega)]
    · rw [if_neg (by simp only [List.cons.injEq, c, false_and, not_false_eq_true])]
      refine loop_done ?_
      unfold haulagelaw20_same.b1
      rw [if_pos (by omega), if_pos (by omega), if_pos (by omega), rd_eq hi, rd_eq hj, if_neg c]
theorem same_eq {k : Nat} (hk : Fuel k) (a b : List Int) (h : a.length < 4000000000 ∨ b.length < 4000000000) : haulagelaw20_same.f k a b = some (decide (a = b)) := by
  have h24 : 1099511627776 ≤ k := hk
  unfold haulagelaw20_same.f
  by_cases c : a.length = b.length
  · rw [if_pos (by omega), show (0 : Int) = ((0 : Nat) : Int) from rfl, bind_eq (same_loop a b c a.length 0 k (by omega) (by omega) (by omega))]
    simp only [List.drop_zero]
    by_cases e : a = b
    · simp [e, haulagelaw20_same.j2]
    · simp [e]
  · rw [if_neg (by omega), decide_eq_false (fun e => c (by rw [e]))]
theorem alike_eq {k : Nat} (hk : Fuel k) (a b : api_Letter) (h : a.Data.length < 4000000000 ∨ b.Data.length < 4000000000) : haulagelaw20_alike.f k a b = some (decide (a = b)) := by
  obtain ⟨a1, a2, a3, a4⟩ := a
  obtain ⟨b1, b2, b3, b4⟩ := b
  unfold haulagelaw20_alike.f
  by_cases c1 : a1 = b1
  · rw [if_pos c1]
    by_cases c2 : a2 = b2
    · rw [if_pos c2]
      by_cases c3 : a3 = b3
      · rw [if_pos c3, bind_eq (same_eq hk _ _ h)]; simp [c1, c2, c3]
      · rw [if_neg c3]; simp [c3]
    · rw [if_neg c2]; simp [c2]
  · rw [if_neg c1]; simp [c1]
theorem ints_loop (a b : List Int) (hl : a.length = b.length) : ∀ (n i m : Nat), i + n = a.length → n < m → a.length < 4000000000 →
    loop (fun (s_ : Int) => haulagelaw20_ints.b1 a b s_) m (i : Int) = some (if a.drop i = b.drop i then Sum.inl () else Sum.inr false)
  | _, _, 0, _, h, _ => absurd h (by omega)
  | 0, i, m + 1, h, _, _ => by
    refine loop_done ?_
    unfold haulagelaw20_ints.b1
    rw [if_neg (by omega), if_pos]
    rw [List.drop_of_length_le (by omega), List.drop_of_length_le (by omega)]
  | n + 1, i, m + 1, h, hm, hb => by
    have hi : i < a.length := by omega
    have hj : i < b.length := by omega
    rw [List.drop_eq_getElem_cons hi, List.drop_eq_getElem_cons hj]
    by_cases c : a[i] = b[i]
    · rw [loop_next (s' := ((i + 1 : Nat) : Int)), ints_loop a b hl n (i + 1) m (by omega) (by omega) hb]
      · simp only [c, List.cons.injEq, true_and]
      · unfold haulagelaw20_ints.b1
        rw [if_pos (by omega), if_pos (by omega), if_pos (by omega), rd_eq hi, rd_eq hj, if_pos c, wrS i (by omega)]
    · rw [if_neg (by simp only [List.cons.injEq, c, false_and, not_false_eq_true])]
      refine loop_done ?_
      unfold haulagelaw20_ints.b1
      rw [if_pos (by omega), if_pos (by omega), if_pos (by omega), rd_eq hi, rd_eq hj, if_neg c]
theorem ints_eq {k : Nat} (hk : Fuel k) (a b : List Int) (h : a.length < 4000000000 ∨ b.length < 4000000000) : haulagelaw20_ints.f k a b = some (decide (a = b)) := by
  have h24 : 1099511627776 ≤ k := hk
  unfold haulagelaw20_ints.f
  by_cases c : a.length = b.length
  · rw [if_pos (by omega), show (0 : Int) = ((0 : Nat) : Int) from rfl, bind_eq (ints_loop a b c a.length 0 k (by omega) (by omega) (by omega))]
    simp only [List.drop_zero]
    by_cases e : a = b
    · simp [e, haulagelaw20_ints.j2]
    · simp [e]
  · rw [if_neg (by omega), decide_eq_false (fun e => c (by rw [e]))]
/-! ### the bag -/
theorem own_eq {l : api_Letter} (h : l.Data.length ≤ 140737488355328) : bag_own.f l = some l := by
  unfold bag_own.f slices_Clone.f
  rw [if_pos (by omega)]
  cases l; rfl
theorem keys_put (o : MkV api_Letter) (n : Nat) (x : api_Letter) : (o.put n x).keys ((n : Int) + 1) = o.keys n ++ [(n : Int)] := by
  unfold MkV.keys MkV.put
  have e1 : ((n : Int) + 1).toNat = n + 1 := by omega
  have e2 : (n : Int).toNat = n := by omega
  rw [e1, e2, List.range_succ, List.map_append, List.filter_append]
  congr 1
  · refine List.filter_congr fun i hi => ?_
    obtain ⟨q, hq, rfl⟩ := List.mem_map.1 hi
    have := List.mem_range.1 hq
    show (if (q : Int) = (n : Int) then some x else o.f q).isSome = _
    rw [if_neg (by omega)]
  · simp
theorem keys_del (o : MkV api_Letter) (n k : Int) (hk : k ∈ o.keys n) : ((o.del k).keys n).length + 1 = (o.keys n).length := by
  have e : (o.del k).keys n = (o.keys n).erase k := by
    rw [(rising_nodup (keys_rise o n)).erase_eq_filter]
    unfold MkV.keys MkV.del
    rw [List.filter_filter]
    refine List.filter_congr fun i hi => ?_
    show (if i = k then none else o.f i).isSome = _
    by_cases c : i = k
    · rw [if_pos c]; simp [c]
    · rw [if_neg c]; simp [c]
  rw [e, List.length_erase_of_mem hk]
  have := List.length_pos_of_mem hk
  omega
structure BI (b : Bag) (S : List api_Letter) (g t : Int) (i : Nat) : Prop where
  nx : b.next = S.length
  sl : S.length ≤ i
  st : b.under.n ≤ i
  ln : b.under.len = S.length - g
  g0 : 0 ≤ g
  gi : g ≤ i
  t0 : 0 ≤ t
  ti : t ≤ i
  tw : b.told.Twice = t
  se : b.told.Sent = S.length - t
  dd : b.told.Delivered + b.told.Dropped = g
  d0 : 0 ≤ b.told.Delivered
  d1 : 0 ≤ b.told.Dropped
  kl : ((b.under.keys b.next).length : Int) = b.under.len
  fk : ∀ k, b.under.f k = none ∨ (0 ≤ k ∧ k < S.length ∧ b.under.f k = some (rd S k))
  nk : ∀ k : Nat, k < S.length → (rd S (k : Int)).Number = k
  dl : ∀ x ∈ S, x.Data.length ≤ 1048576
theorem BI.mono {b : Bag} {S : List api_Letter} {g t : Int} {i j : Nat} (h : BI b S g t i) (hij : i ≤ j) : BI b S g t j :=
  ⟨h.nx, Nat.le_trans h.sl hij, Nat.le_trans h.st hij, h.ln, h.g0, by have := h.gi; omega, h.t0, by have := h.ti; omega, h.tw, h.se, h.dd, h.d0, h.d1, h.kl, h.fk, h.nk, h.dl⟩
theorem BI.lost {b : Bag} {S : List api_Letter} {g t : Int} {i : Nat} (h : BI b S g t i) (x : Int) : BI ⟨b.under, b.next, ⟨b.told.Sent, b.told.Twice, b.told.Delivered, b.told.Dropped, x⟩⟩ S g t i :=
  ⟨h.nx, h.sl, h.st, h.ln, h.g0, h.gi, h.t0, h.ti, h.tw, h.se, h.dd, h.d0, h.d1, h.kl, h.fk, h.nk, h.dl⟩
theorem BI.none_at {b : Bag} {S : List api_Letter} {g t : Int} {i : Nat} (h : BI b S g t i) {k : Int} (hk : ¬ (0 ≤ k ∧ k < S.length)) : b.under.f k = none := (h.fk k).elim id fun q => absurd ⟨q.1, q.2.1⟩ hk
/-- one more letter -/
theorem BI.put {b : Bag} {S : List api_Letter} {g t t' : Int} {i : Nat} (h : BI b S g t i) (l : api_Letter) (hl : l.Number = S.length) (hd : l.Data.length ≤ 1048576) (tr : api_Traffic) (h1 : tr.Twice = t') (h2 : tr.Sent = (S.length : Int) + 1 - t') (h3 : tr.Delivered = b.told.Delivered) (h4 : tr.Dropped = b.told.Dropped) (h5 : 0 ≤ t') (h6 : t' ≤ (i + 1 : Nat)) :
    BI ⟨b.under.put b.next l, b.next + 1, tr⟩ (S ++ [l]) g t' (i + 1) := by
  have hnone := h.none_at (k := b.next) (by rw [h.nx]; omega)
  have hsl := h.sl; have hst := h.st; have hln := h.ln; have hg0 := h.g0; have hgi := h.gi
  refine ⟨by simp [h.nx], by simp; omega, by show b.under.n + 1 ≤ _; omega, ?_, hg0, by omega, h5, h6, h1, by simp; omega, by rw [h3, h4]; exact h.dd, by rw [h3]; exact h.d0, by rw [h4]; exact h.d1, ?_, fun k => ?_, fun k hk => ?_, fun x hx => ?_⟩
  · show (if (b.under.f b.next).isSome then b.under.len else b.under.len + 1) = _
    rw [hnone]; simp; omega
  · show (((b.under.put b.next l).keys (b.next + 1)).length : Int) = (if (b.under.f b.next).isSome then b.under.len else b.under.len + 1)
    have := h.kl
    rw [hnone, h.nx, keys_put, ← h.nx]
    simp; omega
  · show (if k = b.next then some l else b.under.f k) = none ∨ _ ∧ _ ∧ (if k = b.next then some l else b.under.f k) = some (rd (S ++ [l]) k)
    by_cases c : k = b.next
    · rw [if_pos c, h.nx] at *
      subst c
      exact .inr ⟨by omega, by simp; omega, by rw [rd_app2 rfl]⟩
    · rw [if_neg c]
      rcases h.fk k with q | ⟨q1, q2, q3⟩
      · exact .inl q
      · exact .inr ⟨q1, by simp; omega, by rw [q3, rd_app1 q2 q1]⟩
  · simp only [List.length_append, List.length_cons, List.length_nil] at hk
    by_cases c : k = S.length
    · subst c; rw [rd_app2 rfl, hl]
    · rw [rd_app1 (by omega) (by omega)]; exact h.nk k (by omega)
  · rcases List.mem_append.1 hx with q | q
    · exact h.dl x q
    · simp at q; subst q; exact hd
/-- one less -/
theorem BI.del {b : Bag} {S : List api_Letter} {g t : Int} {i : Nat} (h : BI b S g t i) (k : Int) (hk : (b.under.f k).isSome = true) (tr : api_Traffic) (h1 : tr.Twice = t) (h2 : tr.Sent = (S.length : Int) - t) (h3 : tr.Delivered + tr.Dropped = g + 1) (h4 : 0 ≤ tr.Delivered) (h5 : 0 ≤ tr.Dropped) :
    BI ⟨b.under.del k, b.next, tr⟩ S (g + 1) t (i + 1) ∧ 0 ≤ k ∧ k < S.length ∧ b.under.f k = some (rd S k) ∧ (b.under.del k).f k = none := by
  rcases h.fk k with q | ⟨q1, q2, q3⟩
  · rw [q] at hk; cases hk
  have hg0 := h.g0; have hgi := h.gi; have hti := h.ti; have hsl := h.sl; have hst := h.st; have hln := h.ln
  have hmem : k ∈ b.under.keys b.next := (mem_keys _ _ _).2 ⟨⟨q1, by rw [h.nx]; exact q2⟩, hk⟩
  refine ⟨⟨h.nx, by omega, by show b.under.n ≤ _; omega, ?_, by omega, by omega, h.t0, by omega, h1, h2, h3, h4, h5, ?_, fun z => ?_, h.nk, h.dl⟩, q1, q2, q3, by show (if k = k then none else b.under.f k) = none; rw [if_pos rfl]⟩
  · show (if (b.under.f k).isSome then b.under.len - 1 else b.under.len) = _
    rw [if_pos hk]; omega
  · show (((b.under.del k).keys b.next).length : Int) = (if (b.under.f k).isSome then b.under.len - 1 else b.under.len)
    have := keys_del _ _ _ hmem
    have := h.kl
    rw [if_pos hk]; omega
  · show (if z = k then none else b.under.f z) = none ∨ _ ∧ _ ∧ (if z = k then none else b.under.f z) = some (rd S z)
    by_cases c : z = k
    · rw [if_pos c]; exact .inl rfl
    · rw [if_neg c]; exact h.fk z
theorem room_eq {b : Bag} {S : List api_Letter} {g t : Int} {i : Nat} (h : BI b S g t i) : (∃ b', bag_Bag_room.f (some b) = some (201, some b') ∧ BI b' S g t i) ∨ bag_Bag_room.f (some b) = some (0, some b) := by
  unfold bag_Bag_room.f
  simp only [Option.bind_some]
  by_cases c : 65536 ≤ b.under.len
  · rw [if_pos c]; exact .inl ⟨_, rfl, h.lost _⟩
  · rw [if_neg c]; exact .inr rfl
theorem put_eq {b : Bag} {S : List api_Letter} {g t : Int} {i : Nat} (h : BI b S g t i) (hi : i < 1000000000) (tr : api_Traffic) (l : api_Letter) (hd : l.Data.length ≤ 1048576) :
    bag_Bag_put.f (some ⟨b.under, b.next, tr⟩) l = some ((S.length : Int), some ⟨b.under.put b.next ⟨S.length, l.From, l.To, l.Data⟩, b.next + 1, tr⟩) := by
  have hsl := h.sl; have hst := h.st
  unfold bag_Bag_put.f
  simp only [Option.bind_some]
  rw [bind_eq (own_eq (by show l.Data.length ≤ _; omega)), if_pos ⟨wf64 (by rw [h.nx]; omega) (by rw [h.nx]; omega), by omega⟩, wr (by rw [h.nx]; omega) (by rw [h.nx]; omega)]
  simp [h.nx]
theorem send_eq {b : Bag} {S : List api_Letter} {g t : Int} {i : Nat} (h : BI b S g t i) (hi : i < 1000000000) (from_ to : Int) (data : List Int) (hd : data.length ≤ 1048576) :
    (∃ e b', bag_Bag_Send.f (some b) from_ to data = some (0, e, some b') ∧ e ≠ 0 ∧ BI b' S g t i) ∨
    (∃ b', bag_Bag_Send.f (some b) from_ to data = some ((S.length : Int), 0, some b') ∧ BI b' (S ++ [⟨S.length, from_, to, data⟩]) g t (i + 1)) := by
  have hsl := h.sl; have hti := h.ti; have ht0 := h.t0; have hse := h.se
  have main : (∃ e b', bag_Bag_Send.j1 (some b) from_ to data false = some (0, e, some b') ∧ e ≠ 0 ∧ BI b' S g t i) ∨
    (∃ b', bag_Bag_Send.j1 (some b) from_ to data false = some ((S.length : Int), 0, some b') ∧ BI b' (S ++ [⟨S.length, from_, to, data⟩]) g t (i + 1)) := by
    unfold bag_Bag_Send.j1
    rw [if_neg (by simp)]
    by_cases c : 524288 < (data.length : Int)
    · rw [if_pos c]; exact .inl ⟨3, b, rfl, by decide, h⟩
    · rw [if_neg c]
      rcases room_eq h with ⟨b', e, h'⟩ | e
      · rw [bind_eq e, if_neg (show ¬ (201 : Int) = 0 by decide)]; exact .inl ⟨201, b', rfl, by decide, h'⟩
      · rw [bind_eq e, if_pos rfl]
        simp only [Option.bind_some]
        rw [bind_eq (put_eq h hi _ _ hd)]
        refine .inr ⟨_, rfl, h.put _ rfl hd _ h.tw ?_ rfl rfl ht0 (by omega)⟩
        show IntKind.i64.wrap (b.told.Sent + 1) = _
        rw [wr (by omega) (by omega)]; omega
  have bad : bag_Bag_Send.j1 (some b) from_ to data true = some (0, 2, some b) := by unfold bag_Bag_Send.j1; rw [if_pos rfl]
  unfold bag_Bag_Send.f
  rw [if_neg (by simp)]
  by_cases c : from_ < 0
  · rw [if_pos c, bad]; exact .inl ⟨2, b, rfl, by decide, h⟩
  · rw [if_neg c]
    by_cases c2 : to < 0
    · rw [decide_eq_true c2, bad]; exact .inl ⟨2, b, rfl, by decide, h⟩
    · rw [decide_eq_false c2]; exact main
def isI (n : Int) : Prop := -9223372036854775808 ≤ n ∧ n ≤ 9223372036854775807
theorem find_eq {b : Bag} {S : List api_Letter} {g t : Int} {i : Nat} (h : BI b S g t i) {n : Int} (hn : isI n) :
    (bag_Bag_find.f (some b) n = some (⟨0, 0, 0, []⟩, 200) ∧ b.under.f n = none) ∨ (bag_Bag_find.f (some b) n = some (rd S n, 0) ∧ (b.under.f n).isSome = true ∧ 0 ≤ n ∧ n < S.length) := by
  unfold bag_Bag_find.f
  rw [if_neg (by simp)]
  simp only [Option.bind_some]
  rw [if_pos (wf64 hn.1 hn.2)]
  rcases h.fk n with q | ⟨q1, q2, q3⟩
  · rw [q]; exact .inl ⟨by simp, rfl⟩
  · rw [q3]; exact .inr ⟨by simp, rfl, q1, q2⟩
theorem deliver_eq {b : Bag} {S : List api_Letter} {g t : Int} {i : Nat} (h : BI b S g t i) (hi : i < 1000000000) {n : Int} (hn : isI n) :
    bag_Bag_Deliver.f (some b) n = some (⟨0, 0, 0, []⟩, 200, some b) ∨ (∃ b', bag_Bag_Deliver.f (some b) n = some (rd S n, 0, some b') ∧ BI b' S (g + 1) t (i + 1) ∧ 0 ≤ n ∧ n < S.length ∧ b'.under.f n = none) := by
  unfold bag_Bag_Deliver.f
  rcases find_eq h hn with ⟨e, e2⟩ | ⟨e, e2, e3⟩
  · rw [bind_eq e, if_neg (by decide)]; exact .inl rfl
  · rw [bind_eq e, if_pos rfl]
    simp only [Option.bind_some]
    rw [if_pos (wf64 hn.1 hn.2)]
    have hdd := h.dd; have hd0 := h.d0; have hd1 := h.d1; have hgi := h.gi
    have ew : IntKind.i64.wrap (b.told.Delivered + 1) = b.told.Delivered + 1 := wr (by omega) (by omega)
    rw [ew]
    obtain ⟨h1, h2, h3, h4, h5⟩ := h.del n e2 ⟨b.told.Sent, b.told.Twice, b.told.Delivered + 1, b.told.Dropped, b.told.Lost⟩ h.tw h.se (by simp only; omega) (by simp only; omega) hd1
    exact .inr ⟨_, rfl, h1, h2, h3, h5⟩
theorem drop_eq {b : Bag} {S : List api_Letter} {g t : Int} {i : Nat} (h : BI b S g t i) (hi : i < 1000000000) {n : Int} (hn : isI n) :
    bag_Bag_Drop.f (some b) n = some (200, some b) ∨ (∃ b', bag_Bag_Drop.f (some b) n = some (0, some b') ∧ BI b' S (g + 1) t (i + 1)) := by
  unfold bag_Bag_Drop.f
  rcases find_eq h hn with ⟨e, e2⟩ | ⟨e, e2, e3⟩
  · rw [bind_eq e, if_neg (by decide)]; exact .inl rfl
  · rw [bind_eq e, if_pos rfl]
    simp only [Option.bind_some]
    rw [if_pos (wf64 hn.1 hn.2)]
    have hdd := h.dd; have hd0 := h.d0; have hd1 := h.d1; have hgi := h.gi
    have ew : IntKind.i64.wrap (b.told.Dropped + 1) = b.told.Dropped + 1 := wr (by omega) (by omega)
    rw [ew]
    obtain ⟨h1, _⟩ := h.del n e2 ⟨b.told.Sent, b.told.Twice, b.told.Delivered, b.told.Dropped + 1, b.told.Lost⟩ h.tw h.se (by simp only; omega) hd0 (by simp only; omega)
    exact .inr ⟨_, rfl, h1⟩
theorem twice_eq {b : Bag} {S : List api_Letter} {g t : Int} {i : Nat} (h : BI b S g t i) (hi : i < 1000000000) {n : Int} (hn : isI n) :
    (∃ e b', bag_Bag_Twice.f (some b) n = some (0, e, some b') ∧ e ≠ 0 ∧ BI b' S g t i) ∨
    (∃ b', bag_Bag_Twice.f (some b) n = some ((S.length : Int), 0, some b') ∧ BI b' (S ++ [⟨S.length, (rd S n).From, (rd S n).To, (rd S n).Data⟩]) g (t + 1) (i + 1) ∧ 0 ≤ n ∧ n < S.length) := by
  unfold bag_Bag_Twice.f
  rcases find_eq h hn with ⟨e, e2⟩ | ⟨e, e2, e3, e4⟩
  · rw [bind_eq e, if_neg (by decide)]; exact .inl ⟨200, b, rfl, by decide, h⟩
  · rw [bind_eq e, if_pos rfl]
    have hd := h.dl _ (rd_mem e3 e4)
    have hsl := h.sl; have hti := h.ti; have ht0 := h.t0; have hse := h.se; have htw := h.tw
    rcases room_eq h with ⟨b', e, h'⟩ | e
    · rw [bind_eq e, if_neg (show ¬ (201 : Int) = 0 by decide)]; exact .inl ⟨201, b', rfl, by decide, h'⟩
    · rw [bind_eq e, if_pos rfl]
      simp only [Option.bind_some]
      rw [bind_eq (put_eq h hi _ _ hd)]
      have ew : IntKind.i64.wrap (b.told.Twice + 1) = t + 1 := by rw [wr (by omega) (by omega)]; omega
      rw [ew]
      exact .inr ⟨_, rfl, h.put ⟨S.length, (rd S n).From, (rd S n).To, (rd S n).Data⟩ rfl hd ⟨b.told.Sent, t + 1, b.told.Delivered, b.told.Dropped, b.told.Lost⟩ rfl (by simp only; omega) rfl rfl (by omega) (by omega), e3, e4⟩
theorem tidy_of {b : Bag} {S : List api_Letter} {g t : Int} {i : Nat} (h : BI b S g t i) (hi : i < 1000000000) : b.under.tidy b.next := by
  have hsl := h.sl
  refine ⟨by rw [h.nx]; omega, h.kl, fun k hk => ?_⟩
  obtain ⟨h1, h2⟩ := (mem_keys _ _ _).1 hk
  rw [h.nx] at h1
  rcases h.fk k with q | ⟨q1, q2, q3⟩
  · rw [q] at h2; cases h2
  · rw [q3, Option.getD_some]
    have e : k = ((k.toNat : Nat) : Int) := by omega
    have hn := h.nk k.toNat (by omega)
    rw [← e] at hn
    have := h.dl _ (rd_mem q1 q2)
    exact ⟨hn, by omega⟩
theorem len_eq (b : Bag) : bag_Bag_Len.f (some b) = some b.under.len := rfl
theorem counts_eq (b : Bag) : bag_Bag_Counts.f (some b) = some b.told := rfl
theorem known_true : haulagelaw20_known.f = some true := by decide +kernel
/-! ### nothing comes of nothing -/
abbrev NS : Type := (Option Bag) × (List api_Letter) × Int × Int × Int
section
variable {k : Nat} {a1 : List haulagelaw20_Op} {b : Bag} {S : List api_Letter} {g t : Int} {i : Nat}
theorem j7_eq (h : BI b S g t (i + 1)) (hi : i < 1000000000) : haulagelaw20_BagNothingElse.j7 i (some b) S g t = some (.next (some b, S, g, t, ((i + 1 : Nat) : Int))) := by
  have hsl := h.sl; have hti := h.ti; have ht0 := h.t0; have hse := h.se; have htw := h.tw; have hln := h.ln; have hdd := h.dd; have hgi := h.gi; have hg0 := h.g0
  have e1 : IntKind.i64.wrap ((S.length : Int) - g) = (S.length : Int) - g := wr (by omega) (by omega)
  have e2 : IntKind.i64.wrap (b.told.Sent + b.told.Twice) = (S.length : Int) := by rw [wr (by omega) (by omega)]; omega
  have e3 : IntKind.i64.wrap (b.told.Delivered + b.told.Dropped) = g := by rw [wr (by omega) (by omega)]; omega
  have e4 : IntKind.i64.wrap (g + b.under.len) = (S.length : Int) := by rw [wr (by omega) (by omega)]; omega
  unfold haulagelaw20_BagNothingElse.j7
  rw [bind_eq (counts_eq b), bind_eq (len_eq b), if_pos (by rw [e1]; exact hln), if_pos e2, if_pos htw, if_pos e3, bind_eq (len_eq b), e2, e3, e4]
  unfold haulagelaw20_BagNothingElse.j8
  rw [if_neg (by simp), wrS i (by omega)]
theorem step_eq (hk : Fuel k) (h : BI b S g t i) (hi : i < a1.length) (hb : a1.length < 100000000) (ho : isI (rd a1 (i : Int)).Number) (hd : (rd a1 (i : Int)).Data.length ≤ 1048576) :
    ∃ b' S' g' t', haulagelaw20_BagNothingElse.b9 k a1 (some b) S g t i = some (.next (some b', S', g', t', ((i + 1 : Nat) : Int))) ∧ BI b' S' g' t' (i + 1) := by
  have hsl := h.sl
  unfold haulagelaw20_BagNothingElse.b9
  rw [if_pos (by omega), if_pos (by omega)]
  obtain ⟨o, eo⟩ : ∃ o, rd a1 (i : Int) = o := ⟨_, rfl⟩
  rw [eo] at ho hd ⊢
  by_cases c0 : o.Kind = 0
  · rw [if_pos c0]
    rcases send_eq h (by omega) o.Number o.To o.Data hd with ⟨e, b', h1, h2, h3⟩ | ⟨b', h1, h2⟩
    · rw [bind_eq h1, bind_eq (show haulagelaw20_num.f e = some e from rfl), if_neg h2, wrS i (by omega)]
      exact ⟨_, _, _, _, rfl, h3.mono (by omega)⟩
    · rw [bind_eq h1, bind_eq (show haulagelaw20_num.f 0 = some 0 from rfl), if_pos rfl, if_pos rfl, if_pos (by simp only [List.length_cons, List.length_nil]; omega)]
      exact ⟨_, _, _, _, j7_eq h2 (by omega), h2⟩
  rw [if_neg c0]
  by_cases c3 : o.Kind = 3
  · rw [if_pos c3]
    rcases twice_eq h (by omega) ho with ⟨e, b', h1, h2, h3⟩ | ⟨b', h1, h2, h3, h4⟩
    · rw [bind_eq h1, bind_eq (show haulagelaw20_num.f e = some e from rfl), if_neg h2, wrS i (by omega)]
      exact ⟨_, _, _, _, rfl, h3.mono (by omega)⟩
    · have hti := h.ti; have ht0 := h.t0
      rw [bind_eq h1, bind_eq (show haulagelaw20_num.f 0 = some 0 from rfl), if_pos rfl, if_pos rfl, if_neg (by omega), decide_eq_false (show ¬ (S.length : Int) ≤ o.Number by omega)]
      refine ⟨_, _, _, _, ?_, h2⟩
      have ew : IntKind.i64.wrap (t + 1) = t + 1 := wr (by omega) (by omega)
      have := j7_eq h2 (by omega)
      unfold haulagelaw20_BagNothingElse.j5
      rw [if_neg (by simp), eo, if_pos ⟨h3, h4⟩, if_pos (by simp only [List.length_cons, List.length_nil]; omega), ew]
      exact this
  rw [if_neg c3]
  by_cases c1 : o.Kind = 1
  · rw [if_pos c1]
    rcases deliver_eq h (by omega) ho with h1 | ⟨b', h1, h2, h3, h4, h5⟩
    · rw [bind_eq h1, bind_eq (show haulagelaw20_num.f 200 = some 200 from rfl), if_neg (by decide), wrS i (by omega)]
      exact ⟨_, _, _, _, rfl, h.mono (by omega)⟩
    · have hdl := h.dl _ (rd_mem h3 h4)
      have hgi := h.gi; have hg0 := h.g0
      rw [bind_eq h1, bind_eq (show haulagelaw20_num.f 0 = some 0 from rfl), if_pos rfl, if_neg (by omega), if_neg (by omega), if_pos ⟨h3, h4⟩, bind_eq (alike_eq hk _ _ (.inl (by show (rd S o.Number).Data.length < _; omega)))]
      unfold haulagelaw20_BagNothingElse.j6
      rw [if_neg (by simp), eo]
      have h6 : bag_Bag_Deliver.f (some b') o.Number = some (⟨0, 0, 0, []⟩, 200, some b') := by
        rcases deliver_eq h2 (by omega) ho with q | ⟨b'', q1, q2, q3, q4, q5⟩
        · exact q
        · rcases find_eq h2 ho with ⟨e, _⟩ | ⟨e, e2, _⟩
          · unfold bag_Bag_Deliver.f at q1
            rw [bind_eq e, if_neg (by decide)] at q1
            have := congrArg (fun x => x.map fun y => y.2.1) q1
            cases this
          · rw [h5] at e2; cases e2
      have ew : IntKind.i64.wrap (g + 1) = g + 1 := wr (by omega) (by omega)
      rw [bind_eq h6, bind_eq (show haulagelaw20_num.f 200 = some 200 from rfl), if_pos rfl, ew]
      exact ⟨_, _, _, _, j7_eq h2 (by omega), h2⟩
  rw [if_neg c1]
  by_cases c2 : o.Kind = 2
  · rw [if_pos c2]
    rcases drop_eq h (by omega) ho with h1 | ⟨b', h1, h2⟩
    · rw [bind_eq h1, bind_eq (show haulagelaw20_num.f 200 = some 200 from rfl), if_neg (by decide)]
      exact ⟨_, _, _, _, j7_eq (h.mono (by omega)) (by omega), h.mono (by omega)⟩
    · have hgi := h.gi; have hg0 := h.g0
      have ew : IntKind.i64.wrap (g + 1) = g + 1 := wr (by omega) (by omega)
      rw [bind_eq h1, bind_eq (show haulagelaw20_num.f 0 = some 0 from rfl), if_pos rfl, ew]
      exact ⟨_, _, _, _, j7_eq h2 (by omega), h2⟩
  rw [if_neg c2]
  exact ⟨_, _, _, _, j7_eq (h.mono (by omega)) (by omega), h.mono (by omega)⟩
end
section
variable {k : Nat} {b : Bag} {S : List api_Letter} {g t : Int} {i : Nat}
/-- each number stands but once in a rising row -/
theorem count_loop (l : List api_Letter) (j : Nat) (hj : j < l.length) (f : List Int) (hf : f.Pairwise (· < ·)) (hb : f.length < 1000000000) :
    ∀ (n q m : Nat) (c : Int), q + n = f.length → n < m → 0 ≤ c → c + n < 1000000000 → loop (fun (s_ : Int × Int) => haulagelaw20_BagNothingElse.b12 l j f s_.1 s_.2) m (c, (q : Int)) = some (c + if (l[j]).Number ∈ f.drop q then 1 else 0)
  | _, _, 0, _, _, h, _, _ => absurd h (by omega)
  | 0, q, m + 1, c, h, _, _, _ => by
    refine loop_done ?_
    unfold haulagelaw20_BagNothingElse.b12
    rw [if_neg (by simp only; omega), List.drop_of_length_le (by omega)]
    simp
  | n + 1, q, m + 1, c, h, hm, h0, hc => by
    have hq : q < f.length := by omega
    have hd := List.drop_eq_getElem_cons hq
    have hfd : (f.drop q).Pairwise (· < ·) := List.Pairwise.drop hf
    rw [hd] at hfd ⊢
    obtain ⟨g1, g2⟩ := List.pairwise_cons.1 hfd
    by_cases e : f[q] = (l[j]).Number
    · rw [loop_next (s' := (c + 1, ((q + 1 : Nat) : Int))), count_loop l j hj f hf hb n (q + 1) m (c + 1) (by omega) (by omega) (by omega) (by omega)]
      · rw [if_neg (fun hm => by have := g1 _ hm; omega), if_pos (by simp [e])]
        simp
      · show haulagelaw20_BagNothingElse.b12 l j f c q = _
        unfold haulagelaw20_BagNothingElse.b12
        rw [if_pos (by omega), if_pos (by omega), if_pos (by omega), rd_eq hq, rd_eq hj, if_pos e, wr (by omega) (by omega), wrS q (by omega)]
    · rw [loop_next (s' := (c, ((q + 1 : Nat) : Int))), count_loop l j hj f hf hb n (q + 1) m c (by omega) (by omega) h0 (by omega)]
      · have : ((l[j]).Number ∈ f[q] :: f.drop (q + 1)) ↔ (l[j]).Number ∈ f.drop (q + 1) := by
          rw [List.mem_cons]
          exact ⟨fun h => h.elim (fun h => absurd h.symm e) id, .inr⟩
        simp only [this]
      · show haulagelaw20_BagNothingElse.b12 l j f c q = _
        unfold haulagelaw20_BagNothingElse.b12
        rw [if_pos (by omega), if_pos (by omega), if_pos (by omega), rd_eq hq, rd_eq hj, if_neg e, wrS q (by omega)]
theorem end_eq (hk : Fuel k) (h : BI b S g t i) (hi : i < 100000000) : haulagelaw20_BagNothingElse.j10 k (some b) S = some true := by
  have h24 : 1099511627776 ≤ k := hk
  have htidy := tidy_of h (by omega)
  have hW : bag_Bag_Waiting.f (some b) = some (b.under.all b.next) := if_pos htidy
  have hF : ∀ to, bag_Bag_For.f (some b) to = some ((b.under.keys b.next).filter fun k => decide (((b.under.f k).getD default).To = to)) := fun to => if_pos htidy
  obtain ⟨ks, hks⟩ : ∃ ks, b.under.keys b.next = ks := ⟨_, rfl⟩
  have hrise : ks.Pairwise (· < ·) := hks ▸ keys_rise _ _
  have hkey : ∀ x ∈ ks, 0 ≤ x ∧ x < S.length ∧ b.under.f x = some (rd S x) ∧ (rd S x).Number = x := fun x hx => by
    obtain ⟨h1, h2⟩ := (mem_keys _ _ _).1 (hks.symm ▸ hx)
    rcases h.fk x with q | ⟨q1, q2, q3⟩
    · rw [q] at h2; cases h2
    · have e : x = ((x.toNat : Nat) : Int) := by omega
      have hn := h.nk x.toNat (by omega)
      rw [← e] at hn
      exact ⟨q1, q2, q3, hn⟩
  have hall : b.under.all b.next = ks.map fun x => rd S x := by
    unfold MkV.all
    rw [hks]
    exact List.map_congr_left fun x hx => by rw [(hkey x hx).2.2.1]; rfl
  have hkl := h.kl
  rw [hks] at hkl
  have hln := h.ln; have hg0 := h.g0; have hsl := h.sl
  have hkb : ks.length ≤ i := by omega
  rw [hall] at hW
  unfold haulagelaw20_BagNothingElse.j10
  rw [bind_eq hW, bind_eq (len_eq b), if_pos (by rw [List.length_map]; exact hkl)]
  obtain ⟨x, hx, hp⟩ := loop_run (k := k) (s := (0 : Int)) (f := fun (s_ : Int) => haulagelaw20_BagNothingElse.b14 k (some b) S (ks.map fun x => rd S x) s_) (N := ks.length) (I := fun j s => s = (j : Int)) (P := fun x => x = .inl ()) (fun j s hj hs => by
    subst hs
    have hjl : j < (ks.map fun x => rd S x).length := by simpa using hj
    have ej : rd (ks.map fun x => rd S x) (j : Int) = rd S ks[j] := by rw [rd_eq hjl]; simp
    obtain ⟨k1, k2, k3, k4⟩ := hkey ks[j] (List.getElem_mem _)
    have hdl := h.dl _ (rd_mem k1 k2)
    have in1 : (0 : Int) ≤ j ∧ (j : Int) < ((ks.map fun x => rd S x).length : Int) := by omega
    have fin : haulagelaw20_BagNothingElse.j11 k (some b) (ks.map fun x => rd S x) j (!decide (rd S ks[j] = rd S (rd S ks[j]).Number)) = some (.next ((j + 1 : Nat) : Int)) := by
      unfold haulagelaw20_BagNothingElse.j11
      rw [if_neg (by rw [k4]; simp), if_pos in1, ej, bind_eq (hF _), hks]
      have hfr : (ks.filter fun k => decide (((b.under.f k).getD default).To = (rd S ks[j]).To)).Pairwise (· < ·) := List.Pairwise.filter _ hrise
      have hfl : (ks.filter fun k => decide (((b.under.f k).getD default).To = (rd S ks[j]).To)).length ≤ ks.length := List.length_filter_le _ _
      rw [show ((0 : Int), (0 : Int)) = ((0 : Int), ((0 : Nat) : Int)) from rfl, bind_eq (count_loop (ks.map fun x => rd S x) j hjl _ hfr (by omega) (ks.filter fun k => decide (((b.under.f k).getD default).To = (rd S ks[j]).To)).length 0 k 0 (by omega) (by omega) (by omega) (by omega))]
      have hmem : ((ks.map fun x => rd S x)[j]'hjl).Number ∈ (ks.filter fun k => decide (((b.under.f k).getD default).To = (rd S ks[j]).To)).drop 0 := by
        rw [List.drop_zero]
        simp only [List.getElem_map]
        rw [k4]
        exact List.mem_filter.2 ⟨List.getElem_mem _, by rw [k3]; simp⟩
      rw [if_pos hmem]
      unfold haulagelaw20_BagNothingElse.j13
      rw [if_pos (by omega), wrS j (by omega)]
    refine ⟨((j + 1 : Nat) : Int), ?_, rfl⟩
    have alk := alike_eq hk (rd S ks[j]) (rd S (rd S ks[j]).Number) (.inl (by omega))
    have c1 : ¬ ((S.length : Int) ≤ (rd S ks[j]).Number) := by omega
    have c2 : ¬ ((rd S ks[j]).Number < 0) := by omega
    have c3 : 0 ≤ (rd S ks[j]).Number ∧ (rd S ks[j]).Number < (S.length : Int) := by omega
    unfold haulagelaw20_BagNothingElse.b14
    rw [if_pos in1.2]
    by_cases j0 : 0 < (j : Int)
    · have ew : IntKind.i64.wrap ((j : Int) - 1) = ((j - 1 : Nat) : Int) := by rw [wr (by omega) (by omega)]; omega
      have hjl' : j - 1 < (ks.map fun x => rd S x).length := by omega
      have ej' : rd (ks.map fun x => rd S x) ((j - 1 : Nat) : Int) = rd S ks[j - 1] := by rw [rd_eq hjl']; simp
      have hlt : ks[j - 1] < ks[j] := List.pairwise_iff_getElem.1 hrise (j - 1) j (by omega) (by omega) (by omega)
      have k5 := (hkey ks[j - 1] (List.getElem_mem _)).2.2.2
      have c0 : ¬ ((rd S ks[j]).Number ≤ (rd S ks[j - 1]).Number) := by rw [k4, k5]; omega
      rw [if_pos j0, if_pos in1, ew, if_pos (by omega), ej, ej', if_neg c0, if_pos in1, if_neg c1, if_pos in1, if_neg c2, if_pos in1, if_pos in1, if_pos c3, bind_eq alk]
      exact fin
    · rw [if_neg j0, if_pos in1, ej, if_neg c1, if_pos in1, if_neg c2, if_pos in1, if_pos in1, if_pos c3, bind_eq alk]
      exact fin) (fun s hs => by
    subst hs
    refine ⟨.inl (), ?_, rfl⟩
    unfold haulagelaw20_BagNothingElse.b14
    rw [if_neg (by rw [List.length_map]; omega)]) rfl (by omega)
  rw [bind_eq hx, hp]
  rfl
end
theorem BagNothingElse_true {k : Nat} (hk : Fuel k) {a1 : List haulagelaw20_Op} (hb : a1.length ≤ 1048576) (ho : ∀ o ∈ a1, isI o.Number ∧ o.Data.length ≤ 1048576) : haulagelaw20_BagNothingElse.f k a1 = some true := by
  have h24 : 1099511627776 ≤ k := hk
  unfold haulagelaw20_BagNothingElse.f
  rw [bind_eq known_true, if_pos rfl, bind_eq (show bag_New.f = some (some ⟨⟨fun _ => none, 0, 0⟩, 0, ⟨0, 0, 0, 0, 0⟩⟩) from rfl)]
  obtain ⟨x, hx, b, S, hp, hBI⟩ := loop_run (k := k) (f := fun (s_ : NS) => haulagelaw20_BagNothingElse.b9 k a1 s_.1 s_.2.1 s_.2.2.1 s_.2.2.2.1 s_.2.2.2.2) (s := (some ⟨⟨fun _ => none, 0, 0⟩, 0, ⟨0, 0, 0, 0, 0⟩⟩, [], 0, 0, 0)) (N := a1.length)
    (I := fun i s => ∃ b S g t, s = (some b, S, g, t, (i : Int)) ∧ BI b S g t i) (P := fun x => ∃ b S, x = .inl (some b, S) ∧ ∃ g t, BI b S g t a1.length) (fun i s hi ⟨b, S, g, t, hs, hI⟩ => by
      subst hs
      have hm : rd a1 (i : Int) ∈ a1 := rd_mem (by omega) (by omega)
      obtain ⟨b', S', g', t', h1, h2⟩ := step_eq hk hI hi (by omega) (ho _ hm).1 (ho _ hm).2
      exact ⟨_, h1, b', S', g', t', rfl, h2⟩) (fun s ⟨b, S, g, t, hs, hI⟩ => by
      subst hs
      refine ⟨.inl (some b, S), ?_, b, S, rfl, g, t, hI⟩
      show haulagelaw20_BagNothingElse.b9 k a1 (some b) S g t (a1.length : Int) = _
      unfold haulagelaw20_BagNothingElse.b9
      rw [if_neg (by omega)]) ⟨_, _, _, _, rfl, ⟨rfl, by simp, Nat.le_refl _, rfl, by decide, by decide, by decide, by decide, rfl, rfl, rfl, by decide, by decide, rfl, fun _ => .inl rfl, fun k hk => by simp at hk, fun x hx => by cases hx⟩⟩ (by omega)
  obtain ⟨g, t, hBI⟩ := hBI
  subst hp
  rw [bind_eq hx]
  exact end_eq hk hBI (by omega)
/-! ### the known one -/
theorem long_send (b : Bag) (from_ to : Int) (h : 0 ≤ from_ ∧ 0 ≤ to) (data : List Int) (hd : 524288 < data.length) : bag_Bag_Send.f (some b) from_ to data = some (0, 3, some b) := by
  unfold bag_Bag_Send.f bag_Bag_Send.j1
  rw [if_neg (by simp), if_neg (by omega), decide_eq_false (by omega), if_neg (by simp), if_pos (by omega)]
theorem bad_send (b : Bag) (from_ to : Int) (h : ¬ (0 ≤ to)) (h2 : 0 ≤ from_) (data : List Int) : bag_Bag_Send.f (some b) from_ to data = some (0, 2, some b) := by
  unfold bag_Bag_Send.f bag_Bag_Send.j1
  rw [if_neg (by simp), if_neg (by omega), decide_eq_true (by omega), if_pos rfl]
def bg0 : Bag := ⟨⟨fun _ => none, 0, 0⟩, 0, ⟨0, 0, 0, 0, 0⟩⟩
def bg1 : Bag := ⟨bg0.under.put 0 ⟨0, 0, 1, [97]⟩, 1, ⟨1, 0, 0, 0, 0⟩⟩
def bg2 : Bag := ⟨bg1.under.put 1 ⟨1, 1, 0, [98]⟩, 2, ⟨2, 0, 0, 0, 0⟩⟩
def bg3 : Bag := ⟨bg2.under.put 2 ⟨2, 0, 1, []⟩, 3, ⟨3, 0, 0, 0, 0⟩⟩
def bg4 : Bag := ⟨bg3.under.put 3 ⟨3, 1, 0, [98]⟩, 4, ⟨3, 1, 0, 0, 0⟩⟩
def bg5 : Bag := ⟨bg4.under.del 3, 4, ⟨3, 1, 1, 0, 0⟩⟩
def bg6 : Bag := ⟨bg5.under.del 0, 4, ⟨3, 1, 1, 1, 0⟩⟩
theorem BagKnown_true {k : Nat} (hk : Fuel k) : haulagelaw20_BagKnown.f k = some true := by
  have s1 : bag_Bag_Send.f (some bg0) 0 1 [97] = some (0, 0, some bg1) := rfl
  have s2 : bag_Bag_Send.f (some bg1) 1 0 [98] = some (1, 0, some bg2) := rfl
  have s3 : bag_Bag_Send.f (some bg2) 0 1 [] = some (2, 0, some bg3) := rfl
  have s4 : bag_Bag_Twice.f (some bg3) 1 = some (3, 0, some bg4) := rfl
  have s5 : bag_Bag_Waiting.f (some bg4) = some [⟨0, 0, 1, [97]⟩, ⟨1, 1, 0, [98]⟩, ⟨2, 0, 1, []⟩, ⟨3, 1, 0, [98]⟩] := by decide +kernel
  have s6 : bag_Bag_For.f (some bg4) 1 = some [0, 2] := by decide +kernel
  have s7 : bag_Bag_For.f (some bg4) 7 = some [] := by decide +kernel
  have d1 : bag_Bag_Deliver.f (some bg4) 3 = some (⟨3, 1, 0, [98]⟩, 0, some bg5) := rfl
  have d2 : bag_Bag_Deliver.f (some bg5) 3 = some (⟨0, 0, 0, []⟩, 200, some bg5) := rfl
  have d3 : bag_Bag_Drop.f (some bg5) 0 = some (0, some bg6) := rfl
  have d4 : bag_Bag_Len.f (some bg6) = some 2 := rfl
  have d5 : bag_Bag_Twice.f (some bg6) 0 = some (0, 200, some bg6) := rfl
  have d6 : bag_Bag_Send.f (some bg6) (-1) 0 [] = some (0, 2, some bg6) := rfl
  have d7 := bad_send bg6 0 (-1) (by decide) (by decide) (List.replicate (524289 : Int).toNat (0 : Int))
  have d8 := long_send bg6 0 0 (by decide) (List.replicate (524289 : Int).toNat (0 : Int)) (by rw [List.length_replicate]; decide)
  have n : ∀ a, haulagelaw20_num.f a = some a := fun _ => rfl
  have gm : (0 : Int) ≤ 524289 ∧ (524289 : Int) ≤ 524289 ∧ (524289 : Int) * (1 : Nat) ≤ 140737488355328 := by decide
  have hj2 : haulagelaw20_BagKnown.j2 (0, 3, some bg6) false = some true := by
    unfold haulagelaw20_BagKnown.j2
    rw [if_neg (by simp), bind_eq (counts_eq bg6)]
    exact Eq.trans (if_pos rfl) rfl
  have hj1 : haulagelaw20_BagKnown.j1 k (3, 0, some bg4) false = some true := by
    unfold haulagelaw20_BagKnown.j1
    rw [if_neg (by simp)]
    refine Eq.trans (bind_eq d1) ?_
    refine Eq.trans (bind_eq d2) ?_
    refine Eq.trans (bind_eq d3) ?_
    refine Eq.trans (bind_eq d4) ?_
    refine Eq.trans (bind_eq d5) ?_
    refine Eq.trans (bind_eq d6) ?_
    refine Eq.trans (if_pos gm) ?_
    refine Eq.trans (bind_eq d7) ?_
    refine Eq.trans (if_pos gm) ?_
    refine Eq.trans (bind_eq d8) ?_
    refine Eq.trans (bind_eq (n 0)) ?_
    refine Eq.trans (if_pos rfl) ?_
    refine Eq.trans (bind_eq (alike_eq hk ⟨3, 1, 0, [98]⟩ ⟨3, 1, 0, [98]⟩ (.inl (by decide)))) ?_
    refine Eq.trans (if_pos (by simp)) ?_
    refine Eq.trans (bind_eq (n 200)) ?_
    refine Eq.trans (if_pos rfl) ?_
    refine Eq.trans (bind_eq (n 0)) ?_
    refine Eq.trans (if_pos rfl) ?_
    refine Eq.trans (if_pos rfl) ?_
    refine Eq.trans (bind_eq (n 200)) ?_
    refine Eq.trans (if_pos rfl) ?_
    refine Eq.trans (bind_eq (n 2)) ?_
    refine Eq.trans (if_pos rfl) ?_
    refine Eq.trans (bind_eq (n 2)) ?_
    refine Eq.trans (if_pos rfl) ?_
    refine Eq.trans (bind_eq (n 3)) ?_
    exact hj2
  unfold haulagelaw20_BagKnown.f
  rw [bind_eq known_true, if_pos rfl]
  refine Eq.trans (bind_eq (show bag_New.f = some (some bg0) from rfl)) ?_
  refine Eq.trans (bind_eq s1) ?_
  refine Eq.trans (bind_eq s2) ?_
  refine Eq.trans (bind_eq s3) ?_
  refine Eq.trans (bind_eq s4) ?_
  refine Eq.trans (bind_eq s5) ?_
  refine Eq.trans (if_pos rfl) ?_
  refine Eq.trans (if_pos (by decide)) ?_
  refine Eq.trans (if_pos rfl) ?_
  refine Eq.trans (if_pos (by decide)) ?_
  refine Eq.trans (if_pos rfl) ?_
  refine Eq.trans (bind_eq s6) ?_
  refine Eq.trans (bind_eq (ints_eq hk _ _ (.inl (by decide)))) ?_
  refine Eq.trans (if_pos (by simp)) ?_
  refine Eq.trans (bind_eq s7) ?_
  exact hj1
end Go.Proofs.Ytdlokohmdnkdoaa.G
/- The row of 'BagNothingElse' (its '..UptoSaid'): whatever the input of bulk at most 1048576, the law returns true and the input reads as it did. -/
namespace Go.Proofs.Ytdlokohmdnkdoaa.bagNothingElse
open Go.ChangeShapes Go.WideShapes Go.ChangeAt Go.RowKit
set_option linter.unusedVariables false
set_option maxRecDepth 100000 in
theorem contract (H : Type) (enc : TypeId × Value → H) (W : World) (base : Nat) (args : Array Value) (ds gs : List (DataW H)) (before : List MemPlace)
    (hval : ∀ (j : Nat) t v, Try.f7.params[j]? = some t → args[j]? = some v → Value.okWide Try.prog W .any base t v)
    (hW : DataW.Whole enc Try.prog Try.f7.params.toList Rows.bagNothingElseSpec.vars false W args.toList ds gs before) (hk : Rows.uptoSmall H (ds ++ gs) = true) :
    Calls Try.prog 7 args W fun e W' => ∃ v, e = .returned v ∧ Rows.bagNothingElseSpec.post enc Try.prog Try.f7 false true false false W args v W' := by
  have hW' := hW
  obtain ⟨p, q, hA0, hV, rfl, hfz, hnd⟩ := hW
  have hA : DataW.TrodAll enc Try.prog W 0 (fun _ => true) true Try.f7.params.toList args.toList ds p := hA0
  rw [Try.params7] at hA hval
  obtain ⟨v0, vs0, d0, ds0, p0, q0, hargs, rfl, rfl, h0, r0⟩ := trodAll_cons hA
  obtain ⟨rfl, rfl, rfl⟩ := trodAll_nil r0
  obtain rfl : args = #[v0] := by cases args; simp_all
  obtain ⟨rfl, rfl⟩ := trodVars_none hV
  have k0 := h0
  have lt0 : ∀ x ∈ p0, x.block < W.heap.size := by obtain ⟨m, hm⟩ := k0; exact DataW.trod_lt m _ _ _ hm
  obtain ⟨A0, C0, a0, rfl, s0, b0, o0⟩ := G.arg_ops (okWide_slice Try.underlying47 (hval 0 47 v0 rfl rfl)) h0
  have l0 := G.len_sum G.wt_haulagelaw20_Op G.wt_haulagelaw20_Op_pos a0
  have hb : Rows.uptoBulkAll [d0] ≤ 1048576 := of_decide_eq_true hk
  simp only [Rows.uptoBulkAll] at hb
  refine (G.haulagelaw20_BagNothingElse.calls 1099511627776 (m := 1) (c0 := G.c0) (w0 := W) (Nat.lt_succ_self 0) (fun _ _ => Nat.lt_succ_self 0) s0 true (G.BagNothingElse_true (k := 1099511627776) (Nat.le_refl _) (by omega) (fun o ho => ⟨(o0 o ho).2.2.1.range, by have h1 := G.mem_sum G.wt_haulagelaw20_Op ho; have h2 : o.Data.length + 1 ≤ G.wt_haulagelaw20_Op o := Nat.le_refl _; omega⟩))).mono fun e W' ⟨c_, he, ev_, _⟩ => ?_
  subst he
  have bel : Below W.heap.size W W' := G.Ev.below ev_
  exact ⟨_, rfl, _, _, _, [], _, [], hW', trodAll_mk1 (shut_bool Try.underlying4 _), (trodAll_cons_mk (Below.trod G.row_laidOut (by kernel_rfl) (of_decide_eq_true (by kernel_rfl)) k0 bel lt0) trodAll_mk0), rfl, bel.frame _, fun h => by cases h⟩
set_option maxRecDepth 100000 in
theorem lifted (os : Os) (started : os.Started) (H : Type) (enc : TypeId × Value → H) (F : Stop.Interp) :
    ReturnsInHanded {} Try.checked os 7 .any ((Rows.OpenSpec.upto Rows.bagNothingElseSpec).pre6 enc Try.prog Try.f7 Rows.bagNothingElseUptoRow.domain false) (((Rows.OpenSpec.upto Rows.bagNothingElseSpec).at F).post enc Try.prog Try.f7 false true false false) := by
  refine returnsInHanded_of_cond (C := Try.checked) (s := Rows.OpenSpec.upto Rows.bagNothingElseSpec) (k := Rows.uptoSmall) rfl G.row_own started (by kernel_rfl) Try.func7
    (OpenSpec.witness (enc := enc) (C := Try.checked) (s := Rows.OpenSpec.upto Rows.bagNothingElseSpec) (k := Rows.uptoSmall) rfl false ⟨#[], #[.slice none 0 0], []⟩ 8 (by kernel_rfl) (by kernel_rfl) (by kernel_rfl)
      (x := ([.nil], [], [])) (by kernel_rfl) rfl (by kernel_rfl)) ?_
  intro W base args ds gs before hval hW _ hk _
  exact contract H enc W base args ds gs before hval hW hk
theorem over : Rows.bagNothingElseUptoRow.holds Try.pinned (Rows.OpenSpec.upto Rows.bagNothingElseSpec) :=
  OpenClaim.holds_of_cond 7 Try.f7 rfl rfl rfl rfl rfl rfl rfl ⟨rfl, rfl, rfl, rfl, rfl⟩ rfl rfl rfl rfl rfl (by kernel_rfl) Try.func7 (by kernel_rfl)
    (of_decide_eq_true (by kernel_rfl)) (by unfold Func.isWrapper; first | (rw [if_pos (by decide +kernel)]; kernel_rfl) | (rw [if_neg (by decide +kernel)]; exact ⟨rfl, rfl⟩))
    (fun os started H enc _ F => lifted os started H enc F)
theorem proved : Rows.BagNothingElseUptoSaid := over
end Go.Proofs.Ytdlokohmdnkdoaa.bagNothingElse
namespace Go.Proofs.Ytdlokohmdnkdoaa
/-- The row, under a short name, for the claim. -/
theorem bagNothingElse_holds : Rows.BagNothingElseUptoSaid := bagNothingElse.proved
end Go.Proofs.Ytdlokohmdnkdoaa
