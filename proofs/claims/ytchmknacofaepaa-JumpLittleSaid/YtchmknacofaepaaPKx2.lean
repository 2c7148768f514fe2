/- Written by this session's own driver of the kit's print (xprint.py), which hands it contracts that were proved by hand. -/
import Derived.Test.YtchmknacofaepaaPKx0
import Derived.Test.YtchmknacofaepaaPKx1
namespace Go.Proofs.Ytchmknacofaepaa.PK
open Go.RowKit Go.Proofs.YtchmknacofaepaaW.PrintWords Go.Proofs.YtchmknacofaepaaW.PrintLast Go.Proofs.YtchmknacofaepaaW.PrintMore
attribute [local go_sem] max2_int min2_int max_two min_two max_three min_three max_four min_four   -- for this text's walks alone
set_option linter.unusedVariables false
set_option linter.unusedSimpArgs false

/-! ### haulagelaw03_JumpLittle: function 6 -/
mutual
def haulagelaw03_JumpLittle.j0 : Nat → Int → Int → Int → Bool → Option (Bool)
  | 0, _, _, _, _ => none
  | k + 1, x0, x1, x2, x20 => if x20 = true then (if x1 = 1048576 then (some true) else ((JP.jump_Jump.f x0 x1).bind fun t121 => (if t121 = (-1) then ((JP.jump_Way.f x0 x1).bind fun t122 => (some ((t122.length : Int) == 0))) else (some false)))) else ((JP.jump_Jump.f x0 x1).bind fun t125 => ((JP.jump_Jump.f x0 (wrap64 (x1 + 1))).bind fun t126 => (if t125 < 0 then (haulagelaw03_JumpLittle.j1 k x0 x1 x2 t125 true) else (if t125 ≥ x1 then (haulagelaw03_JumpLittle.j1 k x0 x1 x2 t125 true) else (if t126 = t125 then ((JP.jump_Jump.f x0 1).bind fun t127 => (haulagelaw03_JumpLittle.j1 k x0 x1 x2 t125 (t127 != 0))) else (if t126 = x1 then ((JP.jump_Jump.f x0 1).bind fun t128 => (haulagelaw03_JumpLittle.j1 k x0 x1 x2 t125 (t128 != 0))) else (haulagelaw03_JumpLittle.j1 k x0 x1 x2 t125 true)))))))
def haulagelaw03_JumpLittle.j1 : Nat → Int → Int → Int → Int → Bool → Option (Bool)
  | 0, _, _, _, _, _ => none
  | k + 1, x0, x1, x2, x7, x64 => if x64 = true then (some false) else (if x2 > 0 then (haulagelaw03_JumpLittle.j2 k x0 x1 x2 x7 x1 (decide (x2 ≤ (wrap64 (1048576 - x1))))) else (haulagelaw03_JumpLittle.j2 k x0 x1 x2 x7 x1 false))
def haulagelaw03_JumpLittle.j2 : Nat → Int → Int → Int → Int → Int → Bool → Option (Bool)
  | 0, _, _, _, _, _, _ => none
  | k + 1, x0, x1, x2, x7, x9, x73 => if x73 = true then (haulagelaw03_JumpLittle.j3 k x0 x1 x7 (wrap64 (x1 + x2))) else (haulagelaw03_JumpLittle.j3 k x0 x1 x7 x9)
def haulagelaw03_JumpLittle.j3 : Nat → Int → Int → Int → Int → Option (Bool)
  | 0, _, _, _, _ => none
  | k + 1, x0, x1, x7, x9 => (JP.jump_Way.f x0 x1).bind fun t129 => ((JP.jump_Way.f x0 x9).bind fun t132 => (if (t129.length : Int) = 0 then (haulagelaw03_JumpLittle.j4 k x1 x9 t129 t132 true) else (if (t132.length : Int) < (t129.length : Int) then (haulagelaw03_JumpLittle.j4 k x1 x9 t129 t132 true) else (if 0 ≤ (t129.length : Int) then (if (t129.length : Int) ≤ (t132.length : Int) then ((PJ.haulagelaw03_same.f k t129 (t132.take ((t129.length : Int) : Int).toNat)).bind fun t139 => (if t139 = true then (if 0 < (t129.length : Int) then (if (rd t129 0) = 0 then (if 0 ≤ (wrap64 ((t129.length : Int) - 1)) then (if (wrap64 ((t129.length : Int) - 1)) < (t129.length : Int) then (haulagelaw03_JumpLittle.j4 k x1 x9 t129 t132 ((rd t129 (wrap64 ((t129.length : Int) - 1))) != x7)) else (none)) else (none)) else (haulagelaw03_JumpLittle.j4 k x1 x9 t129 t132 true)) else (none)) else (haulagelaw03_JumpLittle.j4 k x1 x9 t129 t132 true))) else (none)) else (none)))))
def haulagelaw03_JumpLittle.j4 : Nat → Int → Int → List Int → List Int → Bool → Option (Bool)
  | 0, _, _, _, _, _ => none
  | k + 1, x1, x9, x10, x11, x117 => if x117 = true then (some false) else (haulagelaw03_JumpLittle.l0 k x1 x9 x10 x11 1)
def haulagelaw03_JumpLittle.l0 : Nat → Int → Int → List Int → List Int → Int → Option (Bool)
  | 0, _, _, _, _, _ => none
  | k + 1, x1, x9, x10, x11, x12 => if x12 < (x11.length : Int) then (if 0 ≤ x12 then (if 0 ≤ (wrap64 (x12 - 1)) then (if (wrap64 (x12 - 1)) < (x11.length : Int) then (if (rd x11 x12) ≤ (rd x11 (wrap64 (x12 - 1))) then (some false) else (if (rd x11 x12) ≥ x9 then (some false) else (if x12 ≥ (x10.length : Int) then (if (rd x11 x12) < x1 then (some false) else (haulagelaw03_JumpLittle.l0 k x1 x9 x10 x11 (wrap64 (x12 + 1)))) else (haulagelaw03_JumpLittle.l0 k x1 x9 x10 x11 (wrap64 (x12 + 1)))))) else (none)) else (none)) else (none)) else (some true)
end
def haulagelaw03_JumpLittle.f (k : Nat) (a0 : Int) (a1 : Int) (a2 : Int) : Option (Bool) := (haulagelaw03_known.f k).bind fun t120 => (if t120 = true then (if a1 < 1 then (haulagelaw03_JumpLittle.j0 k a0 a1 a2 true) else (haulagelaw03_JumpLittle.j0 k a0 a1 a2 (decide (a1 > 1048575)))) else (some false))
theorem haulagelaw03_JumpLittle.mono_l : ∀ k, (∀ y0 y1 y2 y3, LeO (haulagelaw03_JumpLittle.j0 k y0 y1 y2 y3) (haulagelaw03_JumpLittle.j0 (k + 1) y0 y1 y2 y3)) ∧ (∀ y0 y1 y2 y3 y4, LeO (haulagelaw03_JumpLittle.j1 k y0 y1 y2 y3 y4) (haulagelaw03_JumpLittle.j1 (k + 1) y0 y1 y2 y3 y4)) ∧ (∀ y0 y1 y2 y3 y4 y5, LeO (haulagelaw03_JumpLittle.j2 k y0 y1 y2 y3 y4 y5) (haulagelaw03_JumpLittle.j2 (k + 1) y0 y1 y2 y3 y4 y5)) ∧ (∀ y0 y1 y2 y3, LeO (haulagelaw03_JumpLittle.j3 k y0 y1 y2 y3) (haulagelaw03_JumpLittle.j3 (k + 1) y0 y1 y2 y3)) ∧ (∀ y0 y1 y2 y3 y4, LeO (haulagelaw03_JumpLittle.j4 k y0 y1 y2 y3 y4) (haulagelaw03_JumpLittle.j4 (k + 1) y0 y1 y2 y3 y4)) ∧ (∀ y0 y1 y2 y3 y4, LeO (haulagelaw03_JumpLittle.l0 k y0 y1 y2 y3 y4) (haulagelaw03_JumpLittle.l0 (k + 1) y0 y1 y2 y3 y4))
  | 0 => ⟨fun _ _ _ _ r h => by simp [haulagelaw03_JumpLittle.j0] at h, fun _ _ _ _ _ r h => by simp [haulagelaw03_JumpLittle.j1] at h, fun _ _ _ _ _ _ r h => by simp [haulagelaw03_JumpLittle.j2] at h, fun _ _ _ _ r h => by simp [haulagelaw03_JumpLittle.j3] at h, fun _ _ _ _ _ r h => by simp [haulagelaw03_JumpLittle.j4] at h, fun _ _ _ _ _ r h => by simp [haulagelaw03_JumpLittle.l0] at h⟩
  | k + 1 => by
    obtain ⟨ih0, ih1, ih2, ih3, ih4, ih5⟩ := haulagelaw03_JumpLittle.mono_l k
    refine ⟨?_, ?_, ?_, ?_, ?_, ?_⟩
    · intro y0 y1 y2 y3
      unfold haulagelaw03_JumpLittle.j0
      repeat' first
      | (with_reducible exact ih0 _ _ _ _)
      | (with_reducible exact ih1 _ _ _ _ _)
      | (with_reducible exact ih2 _ _ _ _ _ _)
      | (with_reducible exact ih3 _ _ _ _)
      | (with_reducible exact ih4 _ _ _ _ _)
      | (with_reducible exact ih5 _ _ _ _ _)
      | (with_reducible exact PJ.haulagelaw03_same.mono _ _ _)
      | (with_reducible exact haulagelaw03_known.mono _)
      | (with_reducible exact LeO.refl _)
      | (with_reducible exact LeO.none _)
      | (with_reducible refine LeO.ite ?_ ?_)
      | (with_reducible refine LeO.bind ?_ (fun _ => ?_))
      | exact ih0 _ _ _ _
      | exact ih1 _ _ _ _ _
      | exact ih2 _ _ _ _ _ _
      | exact ih3 _ _ _ _
      | exact ih4 _ _ _ _ _
      | exact ih5 _ _ _ _ _
      | exact PJ.haulagelaw03_same.mono _ _ _
      | exact haulagelaw03_known.mono _
      | exact LeO.none _
      | refine LeO.ite ?_ ?_
      | refine LeO.bind ?_ (fun _ => ?_)
    · intro y0 y1 y2 y3 y4
      unfold haulagelaw03_JumpLittle.j1
      repeat' first
      | (with_reducible exact ih0 _ _ _ _)
      | (with_reducible exact ih1 _ _ _ _ _)
      | (with_reducible exact ih2 _ _ _ _ _ _)
      | (with_reducible exact ih3 _ _ _ _)
      | (with_reducible exact ih4 _ _ _ _ _)
      | (with_reducible exact ih5 _ _ _ _ _)
      | (with_reducible exact PJ.haulagelaw03_same.mono _ _ _)
      | (with_reducible exact haulagelaw03_known.mono _)
      | (with_reducible exact LeO.refl _)
      | (with_reducible exact LeO.none _)
      | (with_reducible refine LeO.ite ?_ ?_)
      | (with_reducible refine LeO.bind ?_ (fun _ => ?_))
      | exact ih0 _ _ _ _
      | exact ih1 _ _ _ _ _
      | exact ih2 _ _ _ _ _ _
      | exact ih3 _ _ _ _
      | exact ih4 _ _ _ _ _
      | exact ih5 _ _ _ _ _
      | exact PJ.haulagelaw03_same.mono _ _ _
      | exact haulagelaw03_known.mono _
      | exact LeO.none _
      | refine LeO.ite ?_ ?_
      | refine LeO.bind ?_ (fun _ => ?_)
    · intro y0 y1 y2 y3 y4 y5
      unfold haulagelaw03_JumpLittle.j2
      repeat' first
      | (with_reducible exact ih0 _ _ _ _)
      | (with_reducible exact ih1 _ _ _ _ _)
      | (with_reducible exact ih2 _ _ _ _ _ _)
      | (with_reducible exact ih3 _ _ _ _)
      | (with_reducible exact ih4 _ _ _ _ _)
      | (with_reducible exact ih5 _ _ _ _ _)
      | (with_reducible exact PJ.haulagelaw03_same.mono _ _ _)
      | (with_reducible exact haulagelaw03_known.mono _)
      | (with_reducible exact LeO.refl _)
      | (with_reducible exact LeO.none _)
      | (with_reducible refine LeO.ite ?_ ?_)
      | (with_reducible refine LeO.bind ?_ (fun _ => ?_))
      | exact ih0 _ _ _ _
      | exact ih1 _ _ _ _ _
      | exact ih2 _ _ _ _ _ _
      | exact ih3 _ _ _ _
      | exact ih4 _ _ _ _ _
      | exact ih5 _ _ _ _ _
      | exact PJ.haulagelaw03_same.mono _ _ _
      | exact haulagelaw03_known.mono _
      | exact LeO.none _
      | refine LeO.ite ?_ ?_
      | refine LeO.bind ?_ (fun _ => ?_)
    · intro y0 y1 y2 y3
      unfold haulagelaw03_JumpLittle.j3
      repeat' first
      | (with_reducible exact ih0 _ _ _ _)
      | (with_reducible exact ih1 _ _ _ _ _)
      | (with_reducible exact ih2 _ _ _ _ _ _)
      | (with_reducible exact ih3 _ _ _ _)
      | (with_reducible exact ih4 _ _ _ _ _)
      | (with_reducible exact ih5 _ _ _ _ _)
      | (with_reducible exact PJ.haulagelaw03_same.mono _ _ _)
      | (with_reducible exact haulagelaw03_known.mono _)
      | (with_reducible exact LeO.refl _)
      | (with_reducible exact LeO.none _)
      | (with_reducible refine LeO.ite ?_ ?_)
      | (with_reducible refine LeO.bind ?_ (fun _ => ?_))
      | exact ih0 _ _ _ _
      | exact ih1 _ _ _ _ _
      | exact ih2 _ _ _ _ _ _
      | exact ih3 _ _ _ _
      | exact ih4 _ _ _ _ _
      | exact ih5 _ _ _ _ _
      | exact PJ.haulagelaw03_same.mono _ _ _
      | exact haulagelaw03_known.mono _
      | exact LeO.none _
      | refine LeO.ite ?_ ?_
      | refine LeO.bind ?_ (fun _ => ?_)
    · intro y0 y1 y2 y3 y4
      unfold haulagelaw03_JumpLittle.j4
      repeat' first
      | (with_reducible exact ih0 _ _ _ _)
      | (with_reducible exact ih1 _ _ _ _ _)
      | (with_reducible exact ih2 _ _ _ _ _ _)
      | (with_reducible exact ih3 _ _ _ _)
      | (with_reducible exact ih4 _ _ _ _ _)
      | (with_reducible exact ih5 _ _ _ _ _)
      | (with_reducible exact PJ.haulagelaw03_same.mono _ _ _)
      | (with_reducible exact haulagelaw03_known.mono _)
      | (with_reducible exact LeO.refl _)
      | (with_reducible exact LeO.none _)
      | (with_reducible refine LeO.ite ?_ ?_)
      | (with_reducible refine LeO.bind ?_ (fun _ => ?_))
      | exact ih0 _ _ _ _
      | exact ih1 _ _ _ _ _
      | exact ih2 _ _ _ _ _ _
      | exact ih3 _ _ _ _
      | exact ih4 _ _ _ _ _
      | exact ih5 _ _ _ _ _
      | exact PJ.haulagelaw03_same.mono _ _ _
      | exact haulagelaw03_known.mono _
      | exact LeO.none _
      | refine LeO.ite ?_ ?_
      | refine LeO.bind ?_ (fun _ => ?_)
    · intro y0 y1 y2 y3 y4
      unfold haulagelaw03_JumpLittle.l0
      repeat' first
      | (with_reducible exact ih0 _ _ _ _)
      | (with_reducible exact ih1 _ _ _ _ _)
      | (with_reducible exact ih2 _ _ _ _ _ _)
      | (with_reducible exact ih3 _ _ _ _)
      | (with_reducible exact ih4 _ _ _ _ _)
      | (with_reducible exact ih5 _ _ _ _ _)
      | (with_reducible exact PJ.haulagelaw03_same.mono _ _ _)
      | (with_reducible exact haulagelaw03_known.mono _)
      | (with_reducible exact LeO.refl _)
      | (with_reducible exact LeO.none _)
      | (with_reducible refine LeO.ite ?_ ?_)
      | (with_reducible refine LeO.bind ?_ (fun _ => ?_))
      | exact ih0 _ _ _ _
      | exact ih1 _ _ _ _ _
      | exact ih2 _ _ _ _ _ _
      | exact ih3 _ _ _ _
      | exact ih4 _ _ _ _ _
      | exact ih5 _ _ _ _ _
      | exact PJ.haulagelaw03_same.mono _ _ _
      | exact haulagelaw03_known.mono _
      | exact LeO.none _
      | refine LeO.ite ?_ ?_
      | refine LeO.bind ?_ (fun _ => ?_)
theorem haulagelaw03_JumpLittle.mono : ∀ a0 a1 a2 k, LeO (haulagelaw03_JumpLittle.f k a0 a1 a2) (haulagelaw03_JumpLittle.f (k + 1) a0 a1 a2) := by
  intro a0 a1 a2 k
  obtain ⟨ih0, ih1, ih2, ih3, ih4, ih5⟩ := haulagelaw03_JumpLittle.mono_l k
  unfold haulagelaw03_JumpLittle.f
  repeat' first
      | (with_reducible exact ih0 _ _ _ _)
      | (with_reducible exact ih1 _ _ _ _ _)
      | (with_reducible exact ih2 _ _ _ _ _ _)
      | (with_reducible exact ih3 _ _ _ _)
      | (with_reducible exact ih4 _ _ _ _ _)
      | (with_reducible exact ih5 _ _ _ _ _)
      | (with_reducible exact PJ.haulagelaw03_same.mono _ _ _)
      | (with_reducible exact haulagelaw03_known.mono _)
      | (with_reducible exact LeO.refl _)
      | (with_reducible exact LeO.none _)
      | (with_reducible refine LeO.ite ?_ ?_)
      | (with_reducible refine LeO.bind ?_ (fun _ => ?_))
      | exact ih0 _ _ _ _
      | exact ih1 _ _ _ _ _
      | exact ih2 _ _ _ _ _ _
      | exact ih3 _ _ _ _
      | exact ih4 _ _ _ _ _
      | exact ih5 _ _ _ _ _
      | exact PJ.haulagelaw03_same.mono _ _ _
      | exact haulagelaw03_known.mono _
      | exact LeO.none _
      | refine LeO.ite ?_ ?_
      | refine LeO.bind ?_ (fun _ => ?_)
set_option maxHeartbeats 8000000 in
set_option maxRecDepth 100000 in
theorem haulagelaw03_JumpLittle.calls (k : Nat) (a0 : Int) (a1 : Int) (a2 : Int) (r : Bool) (w : World) (h : haulagelaw03_JumpLittle.f k a0 a1 a2 = some r) :
    Calls Try.prog 6 #[.int .u64 a0, .int .i64 a1, .int .i64 a2] w fun e w' => e = .returned (.bool r) ∧ Below w.heap.size w w' := by
  have HB := Aside0.mk (Below.refl w.heap.size w)
  have H : ((haulagelaw03_known.f k).bind fun t120 => (if t120 = true then (if a1 < 1 then (haulagelaw03_JumpLittle.j0 k a0 a1 a2 true) else (haulagelaw03_JumpLittle.j0 k a0 a1 a2 (decide (a1 > 1048575)))) else (some false))) = some r := h
  clear h
  replace H := Option.bind_eq_some_iff.mp H
  obtain ⟨t120, A40, H⟩ := H
  replace H : (if t120 = true then (if a1 < 1 then (haulagelaw03_JumpLittle.j0 k a0 a1 a2 true) else (haulagelaw03_JumpLittle.j0 k a0 a1 a2 (decide (a1 > 1048575)))) else (some false)) = some r := H
  have A4 := Aside0.mk A40
  clear A40
  by_cases c5 : t120 = true
  · subst c5
    have H1 : (if a1 < 1 then (haulagelaw03_JumpLittle.j0 k a0 a1 a2 true) else (haulagelaw03_JumpLittle.j0 k a0 a1 a2 (decide (a1 > 1048575)))) = some r := by rw [if_pos rfl] at H; exact H
    clear H
    have H := H1
    clear H1
    have HC6 := Aside0.mk H
    clear H
    go_enter Try.func6, Try.ntmps6
    go_upto_region 3 with (first | (go_at_call 29; (with_reducible refine (haulagelaw03_known.calls k  true _ A4.out).mono ?_); rintro e w7 ⟨rfl, hb⟩; have n0_ := Aside0.mk (below_step (by repeat (first | (with_reducible first | exact HB.out | apply below_alloc | apply pw_below_drewN | apply below_drew1) | exact HB.out)) hb); clear HB; have HB := n0_; clear n0_; (try clear hb); (try clear hb2); (try clear hk); (try clear hi)))
    repeat (go_quiet (first | (go_at_call 29; (with_reducible refine (haulagelaw03_known.calls k  true _ A4.out).mono ?_); rintro e w7 ⟨rfl, hb⟩; have n0_ := Aside0.mk (below_step (by repeat (first | (with_reducible first | exact HB.out | apply below_alloc | apply pw_below_drewN | apply below_drew1) | exact HB.out)) hb); clear HB; have HB := n0_; clear n0_; (try clear hb); (try clear hb2); (try clear hk); (try clear hi))); go_upto_region 3 with (first | (go_at_call 29; (with_reducible refine (haulagelaw03_known.calls k  true _ A4.out).mono ?_); rintro e w7 ⟨rfl, hb⟩; have n0_ := Aside0.mk (below_step (by repeat (first | (with_reducible first | exact HB.out | apply below_alloc | apply pw_below_drewN | apply below_drew1) | exact HB.out)) hb); clear HB; have HB := n0_; clear n0_; (try clear hb); (try clear hb2); (try clear hk); (try clear hi))))
    (try simp only [Act.put, List.setIfInBounds_toArray, List.set_cons_zero, List.set_cons_succ])
    go_cut [20] (fun v20 wc => ∃ (kq : Nat) (x20_5 : Bool), v20 = .bool x20_5 ∧ Aside0 (haulagelaw03_JumpLittle.j0 kq a0 a1 a2 x20_5 = some r) ∧ Aside0 (kq ≤ k) ∧ Aside0 (Below w.heap.size w wc))
    case first =>
      have H := HC6.out
      clear HC6
      by_cases c8 : a1 < 1
      · rw [if_pos c8] at H
        have c8b0 : decide (a1 < 1) = true := decide_eq_true c8
        clear c8
        (first | rw [c8b0] | (simp only [i64_w, i32_w]; rw [c8b0]) | skip)
        have H' := Aside0.mk H
        clear H
        go_wp2
        repeat (go_quiet (fail); try go_wp2)
        go_meet
        case rel => exact ⟨_, (true), (by first | rfl | (simp; done) | (simp [*]; done) | (simp [Int.tdiv_eq_ediv_of_nonneg, Int.tmod_eq_emod_of_nonneg]; done)), H', ⟨by first | omega | exact Nat.le_refl _⟩, ⟨by repeat (first | (with_reducible first | exact HB.out | apply below_alloc | apply pw_below_drewN | apply below_drew1) | exact HB.out)⟩⟩
      · rw [if_neg c8] at H
        have c8b0 : decide (a1 < 1) = false := decide_eq_false c8
        clear c8
        (first | rw [c8b0] | (simp only [i64_w, i32_w]; rw [c8b0]) | skip)
        have H' := Aside0.mk H
        clear H
        go_wp2
        repeat (go_quiet (fail); try go_wp2)
        go_meet
        case rel => exact ⟨_, (decide (a1 > 1048575)), (by first | rfl | (simp; done) | (simp [*]; done) | (simp [Int.tdiv_eq_ediv_of_nonneg, Int.tmod_eq_emod_of_nonneg]; done)), H', ⟨by first | omega | exact Nat.le_refl _⟩, ⟨by repeat (first | (with_reducible first | exact HB.out | apply below_alloc | apply pw_below_drewN | apply below_drew1) | exact HB.out)⟩⟩
    case rest =>
      clear HC6
      try clear p2
      try clear c5
      try clear c6
      try clear c8
      try clear c8b0
      obtain ⟨kq, x20_5, rfl, HA, HJ5, HB⟩ := hcut
      cases kq with
      | zero => exact absurd HA.out (by simp [haulagelaw03_JumpLittle.j0])
      | succ kj5 =>
        have H := HA.out
        clear HA
        simp only [haulagelaw03_JumpLittle.j0] at H
        by_cases c9 : x20_5 = true
        · subst c9
          have H1 : (if a1 = 1048576 then (some true) else ((JP.jump_Jump.f a0 a1).bind fun t121 => (if t121 = (-1) then ((JP.jump_Way.f a0 a1).bind fun t122 => (some ((t122.length : Int) == 0))) else (some false)))) = some r := by rw [if_pos rfl] at H; exact H
          clear H
          have H := H1
          clear H1
          by_cases c10 : a1 = 1048576
          · rw [if_pos c10] at H
            have c10b0 : (a1 == 1048576) = true := beq_iff_eq.mpr c10
            have c10b1 : (a1 != 1048576) = false := bne_eq_false_iff_eq.mpr c10
            clear c10
            obtain rfl := Option.some.inj H
            go_wp2
            repeat (go_quiet (fail); try go_wp2)
            go_ret
            exact ⟨by first | rfl | (simp [errW_none, errW_some] <;> rfl) | (simp [*, errW_none, errW_some] <;> rfl), by repeat (first | (with_reducible first | exact HB.out | apply below_alloc | apply pw_below_drewN | apply below_drew1) | exact HB.out)⟩
          · rw [if_neg c10] at H
            have c10b0 : (a1 == 1048576) = false := beq_eq_false_iff_ne.mpr c10
            have c10b1 : (a1 != 1048576) = true := bne_iff_ne.mpr c10
            replace H := Option.bind_eq_some_iff.mp H
            obtain ⟨t121, A110, H⟩ := H
            replace H : (if t121 = (-1) then ((JP.jump_Way.f a0 a1).bind fun t122 => (some ((t122.length : Int) == 0))) else (some false)) = some r := H
            have A11 := Aside0.mk A110
            clear A110
            by_cases c12 : t121 = (-1)
            · rw [if_pos c12] at H
              have c12b0 : (t121 == (-1)) = true := beq_iff_eq.mpr c12
              have c12b1 : (t121 != (-1)) = false := bne_eq_false_iff_eq.mpr c12
              clear c12
              replace H := Option.bind_eq_some_iff.mp H
              obtain ⟨t122, A130, H⟩ := H
              replace H : (some ((t122.length : Int) == 0)) = some r := H
              have A13 := Aside0.mk A130
              clear A130
              obtain rfl := Option.some.inj H
              go_wp2_with (first | (go_at_call 10; (with_reducible refine (JP.jump_Jump.calls a0 a1 t121 _ A11.out).mono ?_); rintro e w14 ⟨rfl, hb⟩; have n0_ := Aside0.mk (below_step (by repeat (first | (with_reducible first | exact HB.out | apply below_alloc | apply pw_below_drewN | apply below_drew1) | exact HB.out)) hb); clear HB; have HB := n0_; clear n0_; (try clear hb); (try clear hb2); (try clear hk); (try clear hi)) | (go_at_call 13; (with_reducible refine (JP.jump_Way.calls a0 a1 t122 _ A13.out).mono ?_); rintro e w15 ⟨v123, rfl, ho0, hb⟩; have n0_ := Aside0.mk (Kd.R_lower ho0 (below_size (by repeat (first | (with_reducible first | exact HB.out | apply below_alloc | apply pw_below_drewN | apply below_drew1) | exact HB.out)))); have n1_ := Aside0.mk (below_step (by repeat (first | (with_reducible first | exact HB.out | apply below_alloc | apply pw_below_drewN | apply below_drew1) | exact HB.out)) hb); clear HB; have HO124 := n0_; have HB := n1_; clear n0_ n1_; (try clear hb); (try clear hb2); (try clear hk); (try clear hi); (try clear ho0); obtain ⟨Ao16, co16, eo16⟩ := Kd.R_slice HO124.out; subst eo16))
              repeat (go_quiet (first | (go_at_call 10; (with_reducible refine (JP.jump_Jump.calls a0 a1 t121 _ A11.out).mono ?_); rintro e w14 ⟨rfl, hb⟩; have n0_ := Aside0.mk (below_step (by repeat (first | (with_reducible first | exact HB.out | apply below_alloc | apply pw_below_drewN | apply below_drew1) | exact HB.out)) hb); clear HB; have HB := n0_; clear n0_; (try clear hb); (try clear hb2); (try clear hk); (try clear hi)) | (go_at_call 13; (with_reducible refine (JP.jump_Way.calls a0 a1 t122 _ A13.out).mono ?_); rintro e w15 ⟨v123, rfl, ho0, hb⟩; have n0_ := Aside0.mk (Kd.R_lower ho0 (below_size (by repeat (first | (with_reducible first | exact HB.out | apply below_alloc | apply pw_below_drewN | apply below_drew1) | exact HB.out)))); have n1_ := Aside0.mk (below_step (by repeat (first | (with_reducible first | exact HB.out | apply below_alloc | apply pw_below_drewN | apply below_drew1) | exact HB.out)) hb); clear HB; have HO124 := n0_; have HB := n1_; clear n0_ n1_; (try clear hb); (try clear hb2); (try clear hk); (try clear hi); (try clear ho0); obtain ⟨Ao16, co16, eo16⟩ := Kd.R_slice HO124.out; subst eo16)); try go_wp2_with (first | (go_at_call 10; (with_reducible refine (JP.jump_Jump.calls a0 a1 t121 _ A11.out).mono ?_); rintro e w14 ⟨rfl, hb⟩; have n0_ := Aside0.mk (below_step (by repeat (first | (with_reducible first | exact HB.out | apply below_alloc | apply pw_below_drewN | apply below_drew1) | exact HB.out)) hb); clear HB; have HB := n0_; clear n0_; (try clear hb); (try clear hb2); (try clear hk); (try clear hi)) | (go_at_call 13; (with_reducible refine (JP.jump_Way.calls a0 a1 t122 _ A13.out).mono ?_); rintro e w15 ⟨v123, rfl, ho0, hb⟩; have n0_ := Aside0.mk (Kd.R_lower ho0 (below_size (by repeat (first | (with_reducible first | exact HB.out | apply below_alloc | apply pw_below_drewN | apply below_drew1) | exact HB.out)))); have n1_ := Aside0.mk (below_step (by repeat (first | (with_reducible first | exact HB.out | apply below_alloc | apply pw_below_drewN | apply below_drew1) | exact HB.out)) hb); clear HB; have HO124 := n0_; have HB := n1_; clear n0_ n1_; (try clear hb); (try clear hb2); (try clear hk); (try clear hi); (try clear ho0); obtain ⟨Ao16, co16, eo16⟩ := Kd.R_slice HO124.out; subst eo16)))
              go_ret
              exact ⟨by first | rfl | (simp [errW_none, errW_some] <;> rfl) | (simp [*, errW_none, errW_some] <;> rfl), by repeat (first | (with_reducible first | exact HB.out | apply below_alloc | apply pw_below_drewN | apply below_drew1) | exact HB.out)⟩
            · rw [if_neg c12] at H
              have c12b0 : (t121 == (-1)) = false := beq_eq_false_iff_ne.mpr c12
              have c12b1 : (t121 != (-1)) = true := bne_iff_ne.mpr c12
              obtain rfl := Option.some.inj H
              go_wp2_with (first | (go_at_call 10; (with_reducible refine (JP.jump_Jump.calls a0 a1 t121 _ A11.out).mono ?_); rintro e w17 ⟨rfl, hb⟩; have n0_ := Aside0.mk (below_step (by repeat (first | (with_reducible first | exact HB.out | apply below_alloc | apply pw_below_drewN | apply below_drew1) | exact HB.out)) hb); clear HB; have HB := n0_; clear n0_; (try clear hb); (try clear hb2); (try clear hk); (try clear hi)))
              repeat (go_quiet (first | (go_at_call 10; (with_reducible refine (JP.jump_Jump.calls a0 a1 t121 _ A11.out).mono ?_); rintro e w17 ⟨rfl, hb⟩; have n0_ := Aside0.mk (below_step (by repeat (first | (with_reducible first | exact HB.out | apply below_alloc | apply pw_below_drewN | apply below_drew1) | exact HB.out)) hb); clear HB; have HB := n0_; clear n0_; (try clear hb); (try clear hb2); (try clear hk); (try clear hi))); try go_wp2_with (first | (go_at_call 10; (with_reducible refine (JP.jump_Jump.calls a0 a1 t121 _ A11.out).mono ?_); rintro e w17 ⟨rfl, hb⟩; have n0_ := Aside0.mk (below_step (by repeat (first | (with_reducible first | exact HB.out | apply below_alloc | apply pw_below_drewN | apply below_drew1) | exact HB.out)) hb); clear HB; have HB := n0_; clear n0_; (try clear hb); (try clear hb2); (try clear hk); (try clear hi))))
              go_ret
              exact ⟨by first | rfl | (simp [errW_none, errW_some] <;> rfl) | (simp [*, errW_none, errW_some] <;> rfl), by repeat (first | (with_reducible first | exact HB.out | apply below_alloc | apply pw_below_drewN | apply below_drew1) | exact HB.out)⟩
        · replace c9 := Bool.eq_false_iff.mpr c9
          subst c9
          have H1 : ((JP.jump_Jump.f a0 a1).bind fun t125 => ((JP.jump_Jump.f a0 (wrap64 (a1 + 1))).bind fun t126 => (if t125 < 0 then (haulagelaw03_JumpLittle.j1 kj5 a0 a1 a2 t125 true) else (if t125 ≥ a1 then (haulagelaw03_JumpLittle.j1 kj5 a0 a1 a2 t125 true) else (if t126 = t125 then ((JP.jump_Jump.f a0 1).bind fun t127 => (haulagelaw03_JumpLittle.j1 kj5 a0 a1 a2 t125 (t127 != 0))) else (if t126 = a1 then ((JP.jump_Jump.f a0 1).bind fun t128 => (haulagelaw03_JumpLittle.j1 kj5 a0 a1 a2 t125 (t128 != 0))) else (haulagelaw03_JumpLittle.j1 kj5 a0 a1 a2 t125 true))))))) = some r := by rw [if_neg (show ¬ (false = true) by decide)] at H; exact H
          clear H
          have H := H1
          clear H1
          replace H := Option.bind_eq_some_iff.mp H
          obtain ⟨t125, A180, H⟩ := H
          replace H : ((JP.jump_Jump.f a0 (wrap64 (a1 + 1))).bind fun t126 => (if t125 < 0 then (haulagelaw03_JumpLittle.j1 kj5 a0 a1 a2 t125 true) else (if t125 ≥ a1 then (haulagelaw03_JumpLittle.j1 kj5 a0 a1 a2 t125 true) else (if t126 = t125 then ((JP.jump_Jump.f a0 1).bind fun t127 => (haulagelaw03_JumpLittle.j1 kj5 a0 a1 a2 t125 (t127 != 0))) else (if t126 = a1 then ((JP.jump_Jump.f a0 1).bind fun t128 => (haulagelaw03_JumpLittle.j1 kj5 a0 a1 a2 t125 (t128 != 0))) else (haulagelaw03_JumpLittle.j1 kj5 a0 a1 a2 t125 true)))))) = some r := H
          have A18 := Aside0.mk A180
          clear A180
          replace H := Option.bind_eq_some_iff.mp H
          obtain ⟨t126, A190, H⟩ := H
          replace H : (if t125 < 0 then (haulagelaw03_JumpLittle.j1 kj5 a0 a1 a2 t125 true) else (if t125 ≥ a1 then (haulagelaw03_JumpLittle.j1 kj5 a0 a1 a2 t125 true) else (if t126 = t125 then ((JP.jump_Jump.f a0 1).bind fun t127 => (haulagelaw03_JumpLittle.j1 kj5 a0 a1 a2 t125 (t127 != 0))) else (if t126 = a1 then ((JP.jump_Jump.f a0 1).bind fun t128 => (haulagelaw03_JumpLittle.j1 kj5 a0 a1 a2 t125 (t128 != 0))) else (haulagelaw03_JumpLittle.j1 kj5 a0 a1 a2 t125 true))))) = some r := H
          have A19 := Aside0.mk A190
          clear A190
          have HC20 := Aside0.mk H
          clear H
          go_upto_region 6 with (first | (go_at_call 10; (with_reducible refine (JP.jump_Jump.calls a0 a1 t125 _ A18.out).mono ?_); rintro e w21 ⟨rfl, hb⟩; have n0_ := Aside0.mk (below_step (by repeat (first | (with_reducible first | exact HB.out | apply below_alloc | apply pw_below_drewN | apply below_drew1) | exact HB.out)) hb); clear HB; have HB := n0_; clear n0_; (try clear hb); (try clear hb2); (try clear hk); (try clear hi)) | (go_at_call 10; (with_reducible refine (JP.jump_Jump.calls a0 (wrap64 (a1 + 1)) t126 _ A19.out).mono ?_); rintro e w22 ⟨rfl, hb⟩; have n0_ := Aside0.mk (below_step (by repeat (first | (with_reducible first | exact HB.out | apply below_alloc | apply pw_below_drewN | apply below_drew1) | exact HB.out)) hb); clear HB; have HB := n0_; clear n0_; (try clear hb); (try clear hb2); (try clear hk); (try clear hi)))
          repeat (go_quiet (first | (go_at_call 10; (with_reducible refine (JP.jump_Jump.calls a0 a1 t125 _ A18.out).mono ?_); rintro e w21 ⟨rfl, hb⟩; have n0_ := Aside0.mk (below_step (by repeat (first | (with_reducible first | exact HB.out | apply below_alloc | apply pw_below_drewN | apply below_drew1) | exact HB.out)) hb); clear HB; have HB := n0_; clear n0_; (try clear hb); (try clear hb2); (try clear hk); (try clear hi)) | (go_at_call 10; (with_reducible refine (JP.jump_Jump.calls a0 (wrap64 (a1 + 1)) t126 _ A19.out).mono ?_); rintro e w22 ⟨rfl, hb⟩; have n0_ := Aside0.mk (below_step (by repeat (first | (with_reducible first | exact HB.out | apply below_alloc | apply pw_below_drewN | apply below_drew1) | exact HB.out)) hb); clear HB; have HB := n0_; clear n0_; (try clear hb); (try clear hb2); (try clear hk); (try clear hi))); go_upto_region 6 with (first | (go_at_call 10; (with_reducible refine (JP.jump_Jump.calls a0 a1 t125 _ A18.out).mono ?_); rintro e w21 ⟨rfl, hb⟩; have n0_ := Aside0.mk (below_step (by repeat (first | (with_reducible first | exact HB.out | apply below_alloc | apply pw_below_drewN | apply below_drew1) | exact HB.out)) hb); clear HB; have HB := n0_; clear n0_; (try clear hb); (try clear hb2); (try clear hk); (try clear hi)) | (go_at_call 10; (with_reducible refine (JP.jump_Jump.calls a0 (wrap64 (a1 + 1)) t126 _ A19.out).mono ?_); rintro e w22 ⟨rfl, hb⟩; have n0_ := Aside0.mk (below_step (by repeat (first | (with_reducible first | exact HB.out | apply below_alloc | apply pw_below_drewN | apply below_drew1) | exact HB.out)) hb); clear HB; have HB := n0_; clear n0_; (try clear hb); (try clear hb2); (try clear hk); (try clear hi))))
          (try simp only [Act.put, List.setIfInBounds_toArray, List.set_cons_zero, List.set_cons_succ])
          go_cut [64] (fun v64 wc => ∃ (kq : Nat) (x64_19 : Bool), v64 = .bool x64_19 ∧ Aside0 (haulagelaw03_JumpLittle.j1 kq a0 a1 a2 t125 x64_19 = some r) ∧ Aside0 (kq ≤ kj5) ∧ Aside0 (Below w.heap.size w wc))
          case first =>
            have H := HC20.out
            clear HC20
            by_cases c23 : t125 < 0
            · rw [if_pos c23] at H
              have c23b0 : decide (t125 < 0) = true := decide_eq_true c23
              clear c23
              (first | rw [c23b0] | (simp only [i64_w, i32_w]; rw [c23b0]) | skip)
              have H' := Aside0.mk H
              clear H
              go_wp2
              repeat (go_quiet (fail); try go_wp2)
              go_meet
              case rel => exact ⟨_, (true), (by first | rfl | (simp; done) | (simp [*]; done) | (simp [Int.tdiv_eq_ediv_of_nonneg, Int.tmod_eq_emod_of_nonneg]; done)), H', ⟨by have := HJ5.out; first | omega | exact Nat.le_refl _⟩, ⟨by repeat (first | (with_reducible first | exact HB.out | apply below_alloc | apply pw_below_drewN | apply below_drew1) | exact HB.out)⟩⟩
            · rw [if_neg c23] at H
              have c23b0 : decide (t125 < 0) = false := decide_eq_false c23
              clear c23
              (first | rw [c23b0] | (simp only [i64_w, i32_w]; rw [c23b0]) | skip)
              by_cases c24 : t125 ≥ a1
              · rw [if_pos c24] at H
                have c24b0 : decide (a1 ≤ t125) = true := decide_eq_true c24
                clear c24
                have H' := Aside0.mk H
                clear H
                go_wp2
                repeat (go_quiet (fail); try go_wp2)
                go_meet
                case rel => exact ⟨_, (true), (by first | rfl | (simp; done) | (simp [*]; done) | (simp [Int.tdiv_eq_ediv_of_nonneg, Int.tmod_eq_emod_of_nonneg]; done)), H', ⟨by have := HJ5.out; first | omega | exact Nat.le_refl _⟩, ⟨by repeat (first | (with_reducible first | exact HB.out | apply below_alloc | apply pw_below_drewN | apply below_drew1) | exact HB.out)⟩⟩
              · rw [if_neg c24] at H
                have c24b0 : decide (a1 ≤ t125) = false := decide_eq_false c24
                clear c24
                by_cases c25 : t126 = t125
                · rw [if_pos c25] at H
                  have c25b0 : (t126 == t125) = true := beq_iff_eq.mpr c25
                  have c25b1 : (t126 != t125) = false := bne_eq_false_iff_eq.mpr c25
                  clear c25
                  replace H := Option.bind_eq_some_iff.mp H
                  obtain ⟨t127, A260, H⟩ := H
                  replace H : (haulagelaw03_JumpLittle.j1 kj5 a0 a1 a2 t125 (t127 != 0)) = some r := H
                  have A26 := Aside0.mk A260
                  clear A260
                  have H' := Aside0.mk H
                  clear H
                  go_wp2_with (first | (go_at_call 10; (with_reducible refine (JP.jump_Jump.calls a0 1 t127 _ A26.out).mono ?_); rintro e w27 ⟨rfl, hb⟩; have n0_ := Aside0.mk (below_step (by repeat (first | (with_reducible first | exact HB.out | apply below_alloc | apply pw_below_drewN | apply below_drew1) | exact HB.out)) hb); clear HB; have HB := n0_; clear n0_; (try clear hb); (try clear hb2); (try clear hk); (try clear hi)))
                  repeat (go_quiet (first | (go_at_call 10; (with_reducible refine (JP.jump_Jump.calls a0 1 t127 _ A26.out).mono ?_); rintro e w27 ⟨rfl, hb⟩; have n0_ := Aside0.mk (below_step (by repeat (first | (with_reducible first | exact HB.out | apply below_alloc | apply pw_below_drewN | apply below_drew1) | exact HB.out)) hb); clear HB; have HB := n0_; clear n0_; (try clear hb); (try clear hb2); (try clear hk); (try clear hi))); try go_wp2_with (first | (go_at_call 10; (with_reducible refine (JP.jump_Jump.calls a0 1 t127 _ A26.out).mono ?_); rintro e w27 ⟨rfl, hb⟩; have n0_ := Aside0.mk (below_step (by repeat (first | (with_reducible first | exact HB.out | apply below_alloc | apply pw_below_drewN | apply below_drew1) | exact HB.out)) hb); clear HB; have HB := n0_; clear n0_; (try clear hb); (try clear hb2); (try clear hk); (try clear hi))))
                  go_meet
                  case rel => exact ⟨_, ((t127 != 0)), (by first | rfl | (simp; done) | (simp [*]; done) | (simp [Int.tdiv_eq_ediv_of_nonneg, Int.tmod_eq_emod_of_nonneg]; done)), H', ⟨by have := HJ5.out; first | omega | exact Nat.le_refl _⟩, ⟨by repeat (first | (with_reducible first | exact HB.out | apply below_alloc | apply pw_below_drewN | apply below_drew1) | exact HB.out)⟩⟩
                · rw [if_neg c25] at H
                  have c25b0 : (t126 == t125) = false := beq_eq_false_iff_ne.mpr c25
                  have c25b1 : (t126 != t125) = true := bne_iff_ne.mpr c25
                  by_cases c28 : t126 = a1
                  · rw [if_pos c28] at H
                    have c28b0 : (t126 == a1) = true := beq_iff_eq.mpr c28
                    have c28b1 : (t126 != a1) = false := bne_eq_false_iff_eq.mpr c28
                    clear c28
                    replace H := Option.bind_eq_some_iff.mp H
                    obtain ⟨t128, A290, H⟩ := H
                    replace H : (haulagelaw03_JumpLittle.j1 kj5 a0 a1 a2 t125 (t128 != 0)) = some r := H
                    have A29 := Aside0.mk A290
                    clear A290
                    have H' := Aside0.mk H
                    clear H
                    go_wp2_with (first | (go_at_call 10; (with_reducible refine (JP.jump_Jump.calls a0 1 t128 _ A29.out).mono ?_); rintro e w30 ⟨rfl, hb⟩; have n0_ := Aside0.mk (below_step (by repeat (first | (with_reducible first | exact HB.out | apply below_alloc | apply pw_below_drewN | apply below_drew1) | exact HB.out)) hb); clear HB; have HB := n0_; clear n0_; (try clear hb); (try clear hb2); (try clear hk); (try clear hi)))
                    repeat (go_quiet (first | (go_at_call 10; (with_reducible refine (JP.jump_Jump.calls a0 1 t128 _ A29.out).mono ?_); rintro e w30 ⟨rfl, hb⟩; have n0_ := Aside0.mk (below_step (by repeat (first | (with_reducible first | exact HB.out | apply below_alloc | apply pw_below_drewN | apply below_drew1) | exact HB.out)) hb); clear HB; have HB := n0_; clear n0_; (try clear hb); (try clear hb2); (try clear hk); (try clear hi))); try go_wp2_with (first | (go_at_call 10; (with_reducible refine (JP.jump_Jump.calls a0 1 t128 _ A29.out).mono ?_); rintro e w30 ⟨rfl, hb⟩; have n0_ := Aside0.mk (below_step (by repeat (first | (with_reducible first | exact HB.out | apply below_alloc | apply pw_below_drewN | apply below_drew1) | exact HB.out)) hb); clear HB; have HB := n0_; clear n0_; (try clear hb); (try clear hb2); (try clear hk); (try clear hi))))
                    go_meet
                    case rel => exact ⟨_, ((t128 != 0)), (by first | rfl | (simp; done) | (simp [*]; done) | (simp [Int.tdiv_eq_ediv_of_nonneg, Int.tmod_eq_emod_of_nonneg]; done)), H', ⟨by have := HJ5.out; first | omega | exact Nat.le_refl _⟩, ⟨by repeat (first | (with_reducible first | exact HB.out | apply below_alloc | apply pw_below_drewN | apply below_drew1) | exact HB.out)⟩⟩
                  · rw [if_neg c28] at H
                    have c28b0 : (t126 == a1) = false := beq_eq_false_iff_ne.mpr c28
                    have c28b1 : (t126 != a1) = true := bne_iff_ne.mpr c28
                    have H' := Aside0.mk H
                    clear H
                    go_wp2
                    repeat (go_quiet (fail); try go_wp2)
                    go_meet
                    case rel => exact ⟨_, (true), (by first | rfl | (simp; done) | (simp [*]; done) | (simp [Int.tdiv_eq_ediv_of_nonneg, Int.tmod_eq_emod_of_nonneg]; done)), H', ⟨by have := HJ5.out; first | omega | exact Nat.le_refl _⟩, ⟨by repeat (first | (with_reducible first | exact HB.out | apply below_alloc | apply pw_below_drewN | apply below_drew1) | exact HB.out)⟩⟩
          case rest =>
            clear HC20
            try clear c1
            try clear c2
            try clear p2
            try clear c5
            try clear c6
            try clear p6
            try clear c8
            try clear c8b0
            try clear c9
            try clear c10
            try clear c10b0
            try clear c10b1
            try clear c12
            try clear c12b0
            try clear c12b1
            try clear c23
            try clear c23b0
            try clear c24
            try clear c24b0
            try clear c25
            try clear c25b0
            try clear c25b1
            try clear c28
            try clear c28b0
            try clear c28b1
            try clear p2
            obtain ⟨kq, x64_19, rfl, HA, HJ19, HB⟩ := hcut
            cases kq with
            | zero => exact absurd HA.out (by simp [haulagelaw03_JumpLittle.j1])
            | succ kj19 =>
              have H := HA.out
              clear HA
              simp only [haulagelaw03_JumpLittle.j1] at H
              by_cases c31 : x64_19 = true
              · subst c31
                have H1 : (some false) = some r := by rw [if_pos rfl] at H; exact H
                clear H
                have H := H1
                clear H1
                obtain rfl := Option.some.inj H
                go_wp2
                repeat (go_quiet (fail); try go_wp2)
                go_ret
                exact ⟨by first | rfl | (simp [errW_none, errW_some] <;> rfl) | (simp [*, errW_none, errW_some] <;> rfl), by repeat (first | (with_reducible first | exact HB.out | apply below_alloc | apply pw_below_drewN | apply below_drew1) | exact HB.out)⟩
              · replace c31 := Bool.eq_false_iff.mpr c31
                subst c31
                have H1 : (if a2 > 0 then (haulagelaw03_JumpLittle.j2 kj19 a0 a1 a2 t125 a1 (decide (a2 ≤ (wrap64 (1048576 - a1))))) else (haulagelaw03_JumpLittle.j2 kj19 a0 a1 a2 t125 a1 false)) = some r := by rw [if_neg (show ¬ (false = true) by decide)] at H; exact H
                clear H
                have H := H1
                clear H1
                have HC32 := Aside0.mk H
                clear H
                go_upto_region 9 with (fail)
                repeat (go_quiet (fail); go_upto_region 9 with (fail))
                go_cut [73] (fun v73 wc => ∃ (kq : Nat) (x73_31 : Bool), v73 = .bool x73_31 ∧ Aside0 (haulagelaw03_JumpLittle.j2 kq a0 a1 a2 t125 a1 x73_31 = some r) ∧ Aside0 (kq ≤ kj19) ∧ Aside0 (Below w.heap.size w wc))
                case first =>
                  have H := HC32.out
                  clear HC32
                  by_cases c33 : a2 > 0
                  · rw [if_pos c33] at H
                    have c33b0 : decide (0 < a2) = true := decide_eq_true c33
                    clear c33
                    (first | rw [c33b0] | (simp only [i64_w, i32_w]; rw [c33b0]) | skip)
                    have H' := Aside0.mk H
                    clear H
                    go_wp2
                    repeat (go_quiet (fail); try go_wp2)
                    go_meet
                    case rel => exact ⟨_, (decide (a2 ≤ (wrap64 (1048576 - a1)))), (by first | rfl | (simp; done) | (simp [*]; done) | (simp [Int.tdiv_eq_ediv_of_nonneg, Int.tmod_eq_emod_of_nonneg]; done)), H', ⟨by have := HJ5.out; have := HJ19.out; first | omega | exact Nat.le_refl _⟩, ⟨by repeat (first | (with_reducible first | exact HB.out | apply below_alloc | apply pw_below_drewN | apply below_drew1) | exact HB.out)⟩⟩
                  · rw [if_neg c33] at H
                    have c33b0 : decide (0 < a2) = false := decide_eq_false c33
                    clear c33
                    (first | rw [c33b0] | (simp only [i64_w, i32_w]; rw [c33b0]) | skip)
                    have H' := Aside0.mk H
                    clear H
                    go_wp2
                    repeat (go_quiet (fail); try go_wp2)
                    go_meet
                    case rel => exact ⟨_, (false), (by first | rfl | (simp; done) | (simp [*]; done) | (simp [Int.tdiv_eq_ediv_of_nonneg, Int.tmod_eq_emod_of_nonneg]; done)), H', ⟨by have := HJ5.out; have := HJ19.out; first | omega | exact Nat.le_refl _⟩, ⟨by repeat (first | (with_reducible first | exact HB.out | apply below_alloc | apply pw_below_drewN | apply below_drew1) | exact HB.out)⟩⟩
                case rest =>
                  clear HC32
                  try clear c1
                  try clear c2
                  try clear p2
                  try clear c3
                  try clear c5
                  try clear c6
                  try clear p6
                  try clear c8
                  try clear c8b0
                  try clear c9
                  try clear c10
                  try clear c10b0
                  try clear c10b1
                  try clear c12
                  try clear c12b0
                  try clear c12b1
                  try clear c23
                  try clear c23b0
                  try clear c24
                  try clear c24b0
                  try clear c25
                  try clear c25b0
                  try clear c25b1
                  try clear c28
                  try clear c28b0
                  try clear c28b1
                  try clear c31
                  try clear c33
                  try clear c33b0
                  try clear p2
                  try clear p6
                  obtain ⟨kq, x73_31, rfl, HA, HJ31, HB⟩ := hcut
                  cases kq with
                  | zero => exact absurd HA.out (by simp [haulagelaw03_JumpLittle.j2])
                  | succ kj31 =>
                    have H := HA.out
                    clear HA
                    simp only [haulagelaw03_JumpLittle.j2] at H
                    have HC34 := Aside0.mk H
                    clear H
                    go_upto_if 73 with (fail)
                    repeat (go_quiet (fail); go_upto_if 73 with (fail))
                    go_cut [9] (fun v9 wc => ∃ (kq : Nat) (x9_33 : Int), v9 = .int .i64 x9_33 ∧ Aside0 (haulagelaw03_JumpLittle.j3 kq a0 a1 t125 x9_33 = some r) ∧ Aside0 (kq ≤ kj31) ∧ Aside0 (Below w.heap.size w wc))
                    case first =>
                      have H := HC34.out
                      clear HC34
                      by_cases c35 : x73_31 = true
                      · subst c35
                        have H1 : (haulagelaw03_JumpLittle.j3 kj31 a0 a1 t125 (wrap64 (a1 + a2))) = some r := by rw [if_pos rfl] at H; exact H
                        clear H
                        have H := H1
                        clear H1
                        have H' := Aside0.mk H
                        clear H
                        go_wp2
                        repeat (go_quiet (fail); try go_wp2)
                        go_meet
                        case rel => exact ⟨_, (wrap64 (a1 + a2)), (by first | rfl | (simp; done) | (simp [*]; done) | (simp [Int.tdiv_eq_ediv_of_nonneg, Int.tmod_eq_emod_of_nonneg]; done)), H', ⟨by have := HJ5.out; have := HJ19.out; have := HJ31.out; first | omega | exact Nat.le_refl _⟩, ⟨by repeat (first | (with_reducible first | exact HB.out | apply below_alloc | apply pw_below_drewN | apply below_drew1) | exact HB.out)⟩⟩
                      · replace c35 := Bool.eq_false_iff.mpr c35
                        subst c35
                        have H1 : (haulagelaw03_JumpLittle.j3 kj31 a0 a1 t125 a1) = some r := by rw [if_neg (show ¬ (false = true) by decide)] at H; exact H
                        clear H
                        have H := H1
                        clear H1
                        have H' := Aside0.mk H
                        clear H
                        go_wp2
                        repeat (go_quiet (fail); try go_wp2)
                        go_meet
                        case rel => exact ⟨_, (a1), (by first | rfl | (simp; done) | (simp [*]; done) | (simp [Int.tdiv_eq_ediv_of_nonneg, Int.tmod_eq_emod_of_nonneg]; done)), H', ⟨by have := HJ5.out; have := HJ19.out; have := HJ31.out; first | omega | exact Nat.le_refl _⟩, ⟨by repeat (first | (with_reducible first | exact HB.out | apply below_alloc | apply pw_below_drewN | apply below_drew1) | exact HB.out)⟩⟩
                    case rest =>
                      clear HC34
                      try clear c1
                      try clear c2
                      try clear p2
                      try clear c3
                      try clear c5
                      try clear c6
                      try clear p6
                      try clear c8
                      try clear c8b0
                      try clear c9
                      try clear c10
                      try clear c10b0
                      try clear c10b1
                      try clear c12
                      try clear c12b0
                      try clear c12b1
                      try clear c23
                      try clear c23b0
                      try clear c24
                      try clear c24b0
                      try clear c25
                      try clear c25b0
                      try clear c25b1
                      try clear c28
                      try clear c28b0
                      try clear c28b1
                      try clear c31
                      try clear c33
                      try clear c33b0
                      try clear c35
                      try clear p2
                      try clear p6
                      obtain ⟨kq, x9_33, rfl, HA, HJ33, HB⟩ := hcut
                      cases kq with
                      | zero => exact absurd HA.out (by simp [haulagelaw03_JumpLittle.j3])
                      | succ kj33 =>
                        have H := HA.out
                        clear HA
                        simp only [haulagelaw03_JumpLittle.j3] at H
                        replace H := Option.bind_eq_some_iff.mp H
                        obtain ⟨t129, A360, H⟩ := H
                        replace H : ((JP.jump_Way.f a0 x9_33).bind fun t132 => (if (t129.length : Int) = 0 then (haulagelaw03_JumpLittle.j4 kj33 a1 x9_33 t129 t132 true) else (if (t132.length : Int) < (t129.length : Int) then (haulagelaw03_JumpLittle.j4 kj33 a1 x9_33 t129 t132 true) else (if 0 ≤ (t129.length : Int) then (if (t129.length : Int) ≤ (t132.length : Int) then ((PJ.haulagelaw03_same.f kj33 t129 (t132.take ((t129.length : Int) : Int).toNat)).bind fun t139 => (if t139 = true then (if 0 < (t129.length : Int) then (if (rd t129 0) = 0 then (if 0 ≤ (wrap64 ((t129.length : Int) - 1)) then (if (wrap64 ((t129.length : Int) - 1)) < (t129.length : Int) then (haulagelaw03_JumpLittle.j4 kj33 a1 x9_33 t129 t132 ((rd t129 (wrap64 ((t129.length : Int) - 1))) != t125)) else (none)) else (none)) else (haulagelaw03_JumpLittle.j4 kj33 a1 x9_33 t129 t132 true)) else (none)) else (haulagelaw03_JumpLittle.j4 kj33 a1 x9_33 t129 t132 true))) else (none)) else (none))))) = some r := H
                        have A36 := Aside0.mk A360
                        clear A360
                        replace H := Option.bind_eq_some_iff.mp H
                        obtain ⟨t132, A370, H⟩ := H
                        replace H : (if (t129.length : Int) = 0 then (haulagelaw03_JumpLittle.j4 kj33 a1 x9_33 t129 t132 true) else (if (t132.length : Int) < (t129.length : Int) then (haulagelaw03_JumpLittle.j4 kj33 a1 x9_33 t129 t132 true) else (if 0 ≤ (t129.length : Int) then (if (t129.length : Int) ≤ (t132.length : Int) then ((PJ.haulagelaw03_same.f kj33 t129 (t132.take ((t129.length : Int) : Int).toNat)).bind fun t139 => (if t139 = true then (if 0 < (t129.length : Int) then (if (rd t129 0) = 0 then (if 0 ≤ (wrap64 ((t129.length : Int) - 1)) then (if (wrap64 ((t129.length : Int) - 1)) < (t129.length : Int) then (haulagelaw03_JumpLittle.j4 kj33 a1 x9_33 t129 t132 ((rd t129 (wrap64 ((t129.length : Int) - 1))) != t125)) else (none)) else (none)) else (haulagelaw03_JumpLittle.j4 kj33 a1 x9_33 t129 t132 true)) else (none)) else (haulagelaw03_JumpLittle.j4 kj33 a1 x9_33 t129 t132 true))) else (none)) else (none)))) = some r := H
                        have A37 := Aside0.mk A370
                        clear A370
                        have HC38 := Aside0.mk H
                        clear H
                        go_upto_region 12 with (first | (go_at_call 13; (with_reducible refine (JP.jump_Way.calls a0 a1 t129 _ A36.out).mono ?_); rintro e w39 ⟨v130, rfl, ho0, hb⟩; have n0_ := Aside0.mk (Kd.R_lower ho0 (below_size (by repeat (first | (with_reducible first | exact HB.out | apply below_alloc | apply pw_below_drewN | apply below_drew1) | exact HB.out)))); have n1_ := Aside0.mk (below_step (by repeat (first | (with_reducible first | exact HB.out | apply below_alloc | apply pw_below_drewN | apply below_drew1) | exact HB.out)) hb); clear HB; have HO131 := n0_; have HB := n1_; clear n0_ n1_; (try clear hb); (try clear hb2); (try clear hk); (try clear hi); (try clear ho0)) | (go_at_call 13; (with_reducible refine (JP.jump_Way.calls a0 x9_33 t132 _ A37.out).mono ?_); rintro e w40 ⟨v133, rfl, ho0, hb⟩; have n0_ := Aside0.mk (Kd.R_elder' (by (with_reducible repeat (first | apply Kd.R_alloc | apply Kd.R_drewN | apply Kd.R_drew)); exact HO131.out) (Kd.R_base ho0) hb); have n1_ := Aside0.mk (Kd.R_lower (Kd.R_new' ho0 (Kd.R_lt (by (with_reducible repeat (first | apply Kd.R_alloc | apply Kd.R_drewN | apply Kd.R_drew)); exact HO131.out))) (below_size (by repeat (first | (with_reducible first | exact HB.out | apply below_alloc | apply pw_below_drewN | apply below_drew1) | exact HB.out)))); have n2_ := Aside0.mk (below_step (by repeat (first | (with_reducible first | exact HB.out | apply below_alloc | apply pw_below_drewN | apply below_drew1) | exact HB.out)) hb); clear HO131; clear HB; have HO131 := n0_; have HO134 := n1_; have HB := n2_; clear n0_ n1_ n2_; (try clear hb); (try clear hb2); (try clear hk); (try clear hi); (try clear ho0)))
                        repeat (go_quiet (first | (go_at_call 13; (with_reducible refine (JP.jump_Way.calls a0 a1 t129 _ A36.out).mono ?_); rintro e w39 ⟨v130, rfl, ho0, hb⟩; have n0_ := Aside0.mk (Kd.R_lower ho0 (below_size (by repeat (first | (with_reducible first | exact HB.out | apply below_alloc | apply pw_below_drewN | apply below_drew1) | exact HB.out)))); have n1_ := Aside0.mk (below_step (by repeat (first | (with_reducible first | exact HB.out | apply below_alloc | apply pw_below_drewN | apply below_drew1) | exact HB.out)) hb); clear HB; have HO131 := n0_; have HB := n1_; clear n0_ n1_; (try clear hb); (try clear hb2); (try clear hk); (try clear hi); (try clear ho0)) | (go_at_call 13; (with_reducible refine (JP.jump_Way.calls a0 x9_33 t132 _ A37.out).mono ?_); rintro e w40 ⟨v133, rfl, ho0, hb⟩; have n0_ := Aside0.mk (Kd.R_elder' (by (with_reducible repeat (first | apply Kd.R_alloc | apply Kd.R_drewN | apply Kd.R_drew)); exact HO131.out) (Kd.R_base ho0) hb); have n1_ := Aside0.mk (Kd.R_lower (Kd.R_new' ho0 (Kd.R_lt (by (with_reducible repeat (first | apply Kd.R_alloc | apply Kd.R_drewN | apply Kd.R_drew)); exact HO131.out))) (below_size (by repeat (first | (with_reducible first | exact HB.out | apply below_alloc | apply pw_below_drewN | apply below_drew1) | exact HB.out)))); have n2_ := Aside0.mk (below_step (by repeat (first | (with_reducible first | exact HB.out | apply below_alloc | apply pw_below_drewN | apply below_drew1) | exact HB.out)) hb); clear HO131; clear HB; have HO131 := n0_; have HO134 := n1_; have HB := n2_; clear n0_ n1_ n2_; (try clear hb); (try clear hb2); (try clear hk); (try clear hi); (try clear ho0))); go_upto_region 12 with (first | (go_at_call 13; (with_reducible refine (JP.jump_Way.calls a0 a1 t129 _ A36.out).mono ?_); rintro e w39 ⟨v130, rfl, ho0, hb⟩; have n0_ := Aside0.mk (Kd.R_lower ho0 (below_size (by repeat (first | (with_reducible first | exact HB.out | apply below_alloc | apply pw_below_drewN | apply below_drew1) | exact HB.out)))); have n1_ := Aside0.mk (below_step (by repeat (first | (with_reducible first | exact HB.out | apply below_alloc | apply pw_below_drewN | apply below_drew1) | exact HB.out)) hb); clear HB; have HO131 := n0_; have HB := n1_; clear n0_ n1_; (try clear hb); (try clear hb2); (try clear hk); (try clear hi); (try clear ho0)) | (go_at_call 13; (with_reducible refine (JP.jump_Way.calls a0 x9_33 t132 _ A37.out).mono ?_); rintro e w40 ⟨v133, rfl, ho0, hb⟩; have n0_ := Aside0.mk (Kd.R_elder' (by (with_reducible repeat (first | apply Kd.R_alloc | apply Kd.R_drewN | apply Kd.R_drew)); exact HO131.out) (Kd.R_base ho0) hb); have n1_ := Aside0.mk (Kd.R_lower (Kd.R_new' ho0 (Kd.R_lt (by (with_reducible repeat (first | apply Kd.R_alloc | apply Kd.R_drewN | apply Kd.R_drew)); exact HO131.out))) (below_size (by repeat (first | (with_reducible first | exact HB.out | apply below_alloc | apply pw_below_drewN | apply below_drew1) | exact HB.out)))); have n2_ := Aside0.mk (below_step (by repeat (first | (with_reducible first | exact HB.out | apply below_alloc | apply pw_below_drewN | apply below_drew1) | exact HB.out)) hb); clear HO131; clear HB; have HO131 := n0_; have HO134 := n1_; have HB := n2_; clear n0_ n1_ n2_; (try clear hb); (try clear hb2); (try clear hk); (try clear hi); (try clear ho0))))
                        (try simp only [Act.put, List.setIfInBounds_toArray, List.set_cons_zero, List.set_cons_succ])
                        go_cut [117] (fun v117 wc => ∃ (kq : Nat) (x117_37 : Bool), v117 = .bool x117_37 ∧ Aside0 (haulagelaw03_JumpLittle.j4 kq a1 x9_33 t129 t132 x117_37 = some r) ∧ Aside0 (kq ≤ kj33) ∧ Aside0 (Kd.R (Kd.int .i64) 3 wc w.heap.size (fun k_ => some k_ ≠ (v133 : Value).ownBlock) v130 t129) ∧ Aside0 (Kd.R (Kd.int .i64) 3 wc w.heap.size (fun k_ => some k_ ≠ (v130 : Value).ownBlock) v133 t132) ∧ Aside0 (Below w.heap.size w wc))
                        case first =>
                          have H := HC38.out
                          clear HC38
                          by_cases c41 : (t129.length : Int) = 0
                          · rw [if_pos c41] at H
                            have c41b0 : ((t129.length : Int) == 0) = true := beq_iff_eq.mpr c41
                            have c41b1 : ((t129.length : Int) != 0) = false := bne_eq_false_iff_eq.mpr c41
                            clear c41
                            (first | rw [c41b0] | (simp only [i64_w, i32_w]; rw [c41b0]) | skip)
                            have H' := Aside0.mk H
                            clear H
                            obtain ⟨Ao42, co42, eo42⟩ := Kd.R_slice HO131.out
                            subst eo42
                            go_wp2
                            repeat (go_quiet (fail); try go_wp2)
                            go_meet
                            case rel => exact ⟨_, (true), (by first | rfl | (simp; done) | (simp [*]; done) | (simp [Int.tdiv_eq_ediv_of_nonneg, Int.tmod_eq_emod_of_nonneg]; done)), H', ⟨by have := HJ5.out; have := HJ19.out; have := HJ31.out; have := HJ33.out; first | omega | exact Nat.le_refl _⟩, ⟨by (with_reducible repeat (first | apply Kd.R_alloc | apply Kd.R_drewN | apply Kd.R_drew)); exact Kd.R_mono HO131.out (fun _ hk => hk.2)⟩, ⟨by (with_reducible repeat (first | apply Kd.R_alloc | apply Kd.R_drewN | apply Kd.R_drew)); exact Kd.R_mono HO134.out (fun _ hk => hk.2)⟩, ⟨by repeat (first | (with_reducible first | exact HB.out | apply below_alloc | apply pw_below_drewN | apply below_drew1) | exact HB.out)⟩⟩
                          · rw [if_neg c41] at H
                            have c41b0 : ((t129.length : Int) == 0) = false := beq_eq_false_iff_ne.mpr c41
                            have c41b1 : ((t129.length : Int) != 0) = true := bne_iff_ne.mpr c41
                            have c41b2 : ¬ (t129 = []) := fun h_ => c41 (by rw [h_]; rfl)
                            (first | rw [c41b0] | (simp only [i64_w, i32_w]; rw [c41b0]) | skip)
                            by_cases c43 : (t132.length : Int) < (t129.length : Int)
                            · rw [if_pos c43] at H
                              have c43b0 : decide ((t132.length : Int) < (t129.length : Int)) = true := decide_eq_true c43
                              have c43b1 : decide (t132.length < t129.length) = true := decide_eq_true (Int.ofNat_lt.mp c43)
                              clear c43
                              have H' := Aside0.mk H
                              clear H
                              obtain ⟨Ao44, co44, eo44⟩ := Kd.R_slice HO131.out
                              subst eo44
                              obtain ⟨Ao45, co45, eo45⟩ := Kd.R_slice HO134.out
                              subst eo45
                              go_wp2
                              repeat (go_quiet (fail); try go_wp2)
                              go_meet
                              case rel => exact ⟨_, (true), (by first | rfl | (simp; done) | (simp [*]; done) | (simp [Int.tdiv_eq_ediv_of_nonneg, Int.tmod_eq_emod_of_nonneg]; done)), H', ⟨by have := HJ5.out; have := HJ19.out; have := HJ31.out; have := HJ33.out; first | omega | exact Nat.le_refl _⟩, ⟨by (with_reducible repeat (first | apply Kd.R_alloc | apply Kd.R_drewN | apply Kd.R_drew)); exact Kd.R_mono HO131.out (fun _ hk => hk.2)⟩, ⟨by (with_reducible repeat (first | apply Kd.R_alloc | apply Kd.R_drewN | apply Kd.R_drew)); exact Kd.R_mono HO134.out (fun _ hk => hk.2)⟩, ⟨by repeat (first | (with_reducible first | exact HB.out | apply below_alloc | apply pw_below_drewN | apply below_drew1) | exact HB.out)⟩⟩
                            · rw [if_neg c43] at H
                              have c43b0 : decide ((t132.length : Int) < (t129.length : Int)) = false := decide_eq_false c43
                              have c43b1 : decide (t132.length < t129.length) = false := decide_eq_false (fun h => c43 (Int.ofNat_lt.mpr h))
                              clear c43
                              by_cases c46 : 0 ≤ (t129.length : Int)
                              · rw [if_pos c46] at H
                                have c46b0 := eq_true c46
                                have c46b1 : decide (0 ≤ (t129.length : Int)) = true := decide_eq_true c46
                                clear c46
                                by_cases c47 : (t129.length : Int) ≤ (t132.length : Int)
                                · rw [if_pos c47] at H
                                  have c47b0 := eq_true c47
                                  have c47b1 : decide ((t129.length : Int) ≤ (t132.length : Int)) = true := decide_eq_true c47
                                  clear c47
                                  obtain ⟨y135, hy135⟩ : ∃ y_ : List Int, y_ = (t132.take ((t129.length : Int) : Int).toNat) := ⟨_, rfl⟩
                                  replace H : ((PJ.haulagelaw03_same.f kj33 t129 y135).bind fun t139 => (if t139 = true then (if 0 < (t129.length : Int) then (if (rd t129 0) = 0 then (if 0 ≤ (wrap64 ((t129.length : Int) - 1)) then (if (wrap64 ((t129.length : Int) - 1)) < (t129.length : Int) then (haulagelaw03_JumpLittle.j4 kj33 a1 x9_33 t129 t132 ((rd t129 (wrap64 ((t129.length : Int) - 1))) != t125)) else (none)) else (none)) else (haulagelaw03_JumpLittle.j4 kj33 a1 x9_33 t129 t132 true)) else (none)) else (haulagelaw03_JumpLittle.j4 kj33 a1 x9_33 t129 t132 true))) = some r := by first | (rw [hy135]; with_reducible exact H) | (have H2_ := (Option.bind_some _ _).symm.trans H; rw [hy135]; with_reducible exact H2_) | (have H2_ := (Option.bind_some _ _).symm.trans H; with_reducible exact H2_) | with_reducible exact H | (rw [hy135]; exact H) | exact H
                                  have Ny135 := Aside0.mk hy135
                                  clear hy135
                                  replace H := Option.bind_eq_some_iff.mp H
                                  obtain ⟨t139, A480, H⟩ := H
                                  replace H : (if t139 = true then (if 0 < (t129.length : Int) then (if (rd t129 0) = 0 then (if 0 ≤ (wrap64 ((t129.length : Int) - 1)) then (if (wrap64 ((t129.length : Int) - 1)) < (t129.length : Int) then (haulagelaw03_JumpLittle.j4 kj33 a1 x9_33 t129 t132 ((rd t129 (wrap64 ((t129.length : Int) - 1))) != t125)) else (none)) else (none)) else (haulagelaw03_JumpLittle.j4 kj33 a1 x9_33 t129 t132 true)) else (none)) else (haulagelaw03_JumpLittle.j4 kj33 a1 x9_33 t129 t132 true)) = some r := H
                                  have A48 := Aside0.mk A480
                                  clear A480
                                  by_cases c49 : t139 = true
                                  · subst c49
                                    have H1 : (if 0 < (t129.length : Int) then (if (rd t129 0) = 0 then (if 0 ≤ (wrap64 ((t129.length : Int) - 1)) then (if (wrap64 ((t129.length : Int) - 1)) < (t129.length : Int) then (haulagelaw03_JumpLittle.j4 kj33 a1 x9_33 t129 t132 ((rd t129 (wrap64 ((t129.length : Int) - 1))) != t125)) else (none)) else (none)) else (haulagelaw03_JumpLittle.j4 kj33 a1 x9_33 t129 t132 true)) else (none)) = some r := by rw [if_pos rfl] at H; exact H
                                    clear H
                                    have H := H1
                                    clear H1
                                    by_cases c50 : 0 < (t129.length : Int)
                                    · rw [if_pos c50] at H
                                      have c50b0 : decide (0 < (t129.length : Int)) = true := decide_eq_true c50
                                      have c50b1 : decide (0 < t129.length) = true := decide_eq_true (by omega)
                                      clear c50
                                      by_cases c51 : (rd t129 0) = 0
                                      · rw [if_pos c51] at H
                                        have c51b0 : ((rd t129 0) == 0) = true := beq_iff_eq.mpr c51
                                        have c51b1 : ((rd t129 0) != 0) = false := bne_eq_false_iff_eq.mpr c51
                                        clear c51
                                        obtain ⟨ji52, hji52⟩ : ∃ j_ : Int, (wrap64 ((t129.length : Int) - 1)) = j_ := ⟨_, rfl⟩
                                        replace H : (if 0 ≤ (ji52) then (if (ji52) < (t129.length : Int) then (haulagelaw03_JumpLittle.j4 kj33 a1 x9_33 t129 t132 ((rd t129 (ji52)) != t125)) else (none)) else (none)) = some r := by first | (rw [hji52] at H; exact H) | (simp only [hji52] at H ⊢; exact H)
                                        (try rw [hji52] at A48)
                                        have hji52w : (IntKind.i64.wrap ((t129.length : Int) - 1)) = ji52 := (i64_w _).trans hji52
                                        by_cases c53 : 0 ≤ (ji52)
                                        · rw [if_pos c53] at H
                                          have c53b0 : decide (0 ≤ (ji52)) = true := decide_eq_true c53
                                          clear c53
                                          by_cases c54 : (ji52) < (t129.length : Int)
                                          · rw [if_pos c54] at H
                                            have c54b0 : decide ((ji52) < (t129.length : Int)) = true := decide_eq_true c54
                                            clear c54
                                            have H' := Aside0.mk H
                                            clear H
                                            obtain ⟨Ao55, co55, eo55⟩ := Kd.R_slice HO131.out
                                            subst eo55
                                            obtain ⟨Ao56, co56, eo56⟩ := Kd.R_slice HO134.out
                                            subst eo56
                                            have q57 : ((t129.length : Int) : Int) ≤ ((t132.length : Int) : Int) := of_decide_eq_true (by first | (with_reducible assumption) | assumption)
                                            obtain ⟨i057, hi057, _, hsz57, _⟩ := info_parts info3
                                            have hroom57 : t132.length ≤ co56 := (Kd.R_reads' HO134.out).2.1
                                            have hC57 : Kd.C (Kd.int .i64) _ Ao56 t132.length t132 := (Kd.R_reads' HO134.out).2.2
                                            have hcut57 := cut_to (P := Try.prog) 25 3 .i64 Try.underlying25 hi057 Ao56 t132.length co56 (t129.length : Int) (of_decide_eq_true (by first | (with_reducible assumption) | assumption)) q57 hroom57
                                            have hr57 := Kd.C_take (m := ((t129.length : Int) : Int).toNat) hC57 (by omega)
                                            have hy57 : y135.length = ((t129.length : Int) : Int).toNat := (by rw [Ny135.out, List.length_take]; omega)
                                            rw [← Ny135.out] at hr57
                                            rw [← hy57] at hcut57
                                            have HR138 := Aside0.mk hr57
                                            have HC138 := Aside0.mk (show y135.length ≤ co56 from by omega)
                                            clear hr57 hC57 hroom57 hi057 hsz57
                                            have KY57 := Aside0.mk hy57
                                            clear hy57
                                            have KL57 := Aside0.mk (show ((t129.length : Int) : Int).toNat ≤ t132.length from by omega)
                                            replace q57 := eq_true q57
                                            go_wp2_with (first | (go_at_call 12; (with_reducible refine (PJ.haulagelaw03_same.calls kj33 _ _ t129 _ _ y135 true _ ?side1 ?side2 ?side3 ?side4 A48.out).mono ?_); (case side1 => repeat (first | exact (Kd.R_reads' HO131.out).2.2 | (with_reducible refine Kd.C_alloc ?_ _) | (with_reducible refine Kd.C_drewN ?_ _) | (with_reducible refine Kd.C_drew ?_))); (case side2 => exact (Kd.R_reads' HO131.out).2.1); (case side3 => repeat (first | exact (by repeat (first | (with_reducible exact HR138.out) | (with_reducible refine Kd.C_alloc ?_ _) | (with_reducible refine Kd.C_drewN ?_ _) | (with_reducible refine Kd.C_drew ?_) | exact HR138.out)) | (with_reducible refine Kd.C_alloc ?_ _) | (with_reducible refine Kd.C_drewN ?_ _) | (with_reducible refine Kd.C_drew ?_))); (case side4 => exact HC138.out); rintro e w' ⟨rfl, ⟨nd, rfl⟩⟩; (try first | exact ⟨rfl, _, World.drewN_drewN _ _ _⟩ | exact ⟨rfl, _, Eq.trans (World.drewN_drewN _ _ _) (congrArg (World.drewN _) (Nat.add_assoc _ _ _))⟩); have p140 : 0 ≤ (0 : Int) := (by omega); have q140 : 0 < (t129.length : Int) := of_decide_eq_true (by first | (with_reducible assumption) | assumption); obtain ⟨ad140, e140, hx140_0⟩ := Kd.at_int (Kd.R_reads' HO131.out).2.2 0 p140 q140; cases e140; have qi140 : (0 < t129.length) = True := eq_true (by omega); (try rw [show ((0 : Int)).toNat = 0 from rfl] at hx140_0); (try rw [Addr.add_zero'] at hx140_0); replace p140 := eq_true p140; replace q140 := eq_true q140; have p141 : 0 ≤ ((ji52) : Int) := of_decide_eq_true (by first | (with_reducible assumption) | assumption); have q141 : (ji52) < (t129.length : Int) := of_decide_eq_true (by first | (with_reducible assumption) | assumption); obtain ⟨ad141, e141, hx141_0⟩ := Kd.at_int (Kd.R_reads' HO131.out).2.2 (ji52) p141 q141; obtain rfl : ad140 = ad141 := (by injection e141); replace p141 := eq_true p141; replace q141 := eq_true q141))
                                            repeat (go_quiet (first | (go_at_call 12; (with_reducible refine (PJ.haulagelaw03_same.calls kj33 _ _ t129 _ _ y135 true _ ?side1 ?side2 ?side3 ?side4 A48.out).mono ?_); (case side1 => repeat (first | exact (Kd.R_reads' HO131.out).2.2 | (with_reducible refine Kd.C_alloc ?_ _) | (with_reducible refine Kd.C_drewN ?_ _) | (with_reducible refine Kd.C_drew ?_))); (case side2 => exact (Kd.R_reads' HO131.out).2.1); (case side3 => repeat (first | exact (by repeat (first | (with_reducible exact HR138.out) | (with_reducible refine Kd.C_alloc ?_ _) | (with_reducible refine Kd.C_drewN ?_ _) | (with_reducible refine Kd.C_drew ?_) | exact HR138.out)) | (with_reducible refine Kd.C_alloc ?_ _) | (with_reducible refine Kd.C_drewN ?_ _) | (with_reducible refine Kd.C_drew ?_))); (case side4 => exact HC138.out); rintro e w' ⟨rfl, ⟨nd, rfl⟩⟩; (try first | exact ⟨rfl, _, World.drewN_drewN _ _ _⟩ | exact ⟨rfl, _, Eq.trans (World.drewN_drewN _ _ _) (congrArg (World.drewN _) (Nat.add_assoc _ _ _))⟩); have p140 : 0 ≤ (0 : Int) := (by omega); have q140 : 0 < (t129.length : Int) := of_decide_eq_true (by first | (with_reducible assumption) | assumption); obtain ⟨ad140, e140, hx140_0⟩ := Kd.at_int (Kd.R_reads' HO131.out).2.2 0 p140 q140; cases e140; have qi140 : (0 < t129.length) = True := eq_true (by omega); (try rw [show ((0 : Int)).toNat = 0 from rfl] at hx140_0); (try rw [Addr.add_zero'] at hx140_0); replace p140 := eq_true p140; replace q140 := eq_true q140; have p141 : 0 ≤ ((ji52) : Int) := of_decide_eq_true (by first | (with_reducible assumption) | assumption); have q141 : (ji52) < (t129.length : Int) := of_decide_eq_true (by first | (with_reducible assumption) | assumption); obtain ⟨ad141, e141, hx141_0⟩ := Kd.at_int (Kd.R_reads' HO131.out).2.2 (ji52) p141 q141; obtain rfl : ad140 = ad141 := (by injection e141); replace p141 := eq_true p141; replace q141 := eq_true q141)); try go_wp2_with (first | (go_at_call 12; (with_reducible refine (PJ.haulagelaw03_same.calls kj33 _ _ t129 _ _ y135 true _ ?side1 ?side2 ?side3 ?side4 A48.out).mono ?_); (case side1 => repeat (first | exact (Kd.R_reads' HO131.out).2.2 | (with_reducible refine Kd.C_alloc ?_ _) | (with_reducible refine Kd.C_drewN ?_ _) | (with_reducible refine Kd.C_drew ?_))); (case side2 => exact (Kd.R_reads' HO131.out).2.1); (case side3 => repeat (first | exact (by repeat (first | (with_reducible exact HR138.out) | (with_reducible refine Kd.C_alloc ?_ _) | (with_reducible refine Kd.C_drewN ?_ _) | (with_reducible refine Kd.C_drew ?_) | exact HR138.out)) | (with_reducible refine Kd.C_alloc ?_ _) | (with_reducible refine Kd.C_drewN ?_ _) | (with_reducible refine Kd.C_drew ?_))); (case side4 => exact HC138.out); rintro e w' ⟨rfl, ⟨nd, rfl⟩⟩; (try first | exact ⟨rfl, _, World.drewN_drewN _ _ _⟩ | exact ⟨rfl, _, Eq.trans (World.drewN_drewN _ _ _) (congrArg (World.drewN _) (Nat.add_assoc _ _ _))⟩); have p140 : 0 ≤ (0 : Int) := (by omega); have q140 : 0 < (t129.length : Int) := of_decide_eq_true (by first | (with_reducible assumption) | assumption); obtain ⟨ad140, e140, hx140_0⟩ := Kd.at_int (Kd.R_reads' HO131.out).2.2 0 p140 q140; cases e140; have qi140 : (0 < t129.length) = True := eq_true (by omega); (try rw [show ((0 : Int)).toNat = 0 from rfl] at hx140_0); (try rw [Addr.add_zero'] at hx140_0); replace p140 := eq_true p140; replace q140 := eq_true q140; have p141 : 0 ≤ ((ji52) : Int) := of_decide_eq_true (by first | (with_reducible assumption) | assumption); have q141 : (ji52) < (t129.length : Int) := of_decide_eq_true (by first | (with_reducible assumption) | assumption); obtain ⟨ad141, e141, hx141_0⟩ := Kd.at_int (Kd.R_reads' HO131.out).2.2 (ji52) p141 q141; obtain rfl : ad140 = ad141 := (by injection e141); replace p141 := eq_true p141; replace q141 := eq_true q141)))
                                            go_meet
                                            case rel => exact ⟨_, (((rd t129 (ji52)) != t125)), (by first | rfl | (simp; done) | (simp only [← hji52] <;> (first | rfl | simp)) | (simp [*]; done)), H', ⟨by have := HJ5.out; have := HJ19.out; have := HJ31.out; have := HJ33.out; first | omega | exact Nat.le_refl _⟩, ⟨by (with_reducible repeat (first | apply Kd.R_alloc | apply Kd.R_drewN | apply Kd.R_drew)); exact Kd.R_mono HO131.out (fun _ hk => hk.2)⟩, ⟨by (with_reducible repeat (first | apply Kd.R_alloc | apply Kd.R_drewN | apply Kd.R_drew)); exact Kd.R_mono HO134.out (fun _ hk => hk.2)⟩, ⟨by repeat (first | (with_reducible first | exact HB.out | apply below_alloc | apply pw_below_drewN | apply below_drew1) | exact HB.out)⟩⟩
                                          · rw [if_neg c54] at H
                                            exact absurd H (by simp)
                                        · rw [if_neg c53] at H
                                          exact absurd H (by simp)
                                      · rw [if_neg c51] at H
                                        have c51b0 : ((rd t129 0) == 0) = false := beq_eq_false_iff_ne.mpr c51
                                        have c51b1 : ((rd t129 0) != 0) = true := bne_iff_ne.mpr c51
                                        have H' := Aside0.mk H
                                        clear H
                                        obtain ⟨Ao58, co58, eo58⟩ := Kd.R_slice HO131.out
                                        subst eo58
                                        obtain ⟨Ao59, co59, eo59⟩ := Kd.R_slice HO134.out
                                        subst eo59
                                        have q60 : ((t129.length : Int) : Int) ≤ ((t132.length : Int) : Int) := of_decide_eq_true (by first | (with_reducible assumption) | assumption)
                                        obtain ⟨i060, hi060, _, hsz60, _⟩ := info_parts info3
                                        have hroom60 : t132.length ≤ co59 := (Kd.R_reads' HO134.out).2.1
                                        have hC60 : Kd.C (Kd.int .i64) _ Ao59 t132.length t132 := (Kd.R_reads' HO134.out).2.2
                                        have hcut60 := cut_to (P := Try.prog) 25 3 .i64 Try.underlying25 hi060 Ao59 t132.length co59 (t129.length : Int) (of_decide_eq_true (by first | (with_reducible assumption) | assumption)) q60 hroom60
                                        have hr60 := Kd.C_take (m := ((t129.length : Int) : Int).toNat) hC60 (by omega)
                                        have hy60 : y135.length = ((t129.length : Int) : Int).toNat := (by rw [Ny135.out, List.length_take]; omega)
                                        rw [← Ny135.out] at hr60
                                        rw [← hy60] at hcut60
                                        have HR138 := Aside0.mk hr60
                                        have HC138 := Aside0.mk (show y135.length ≤ co59 from by omega)
                                        clear hr60 hC60 hroom60 hi060 hsz60
                                        have KY60 := Aside0.mk hy60
                                        clear hy60
                                        have KL60 := Aside0.mk (show ((t129.length : Int) : Int).toNat ≤ t132.length from by omega)
                                        replace q60 := eq_true q60
                                        go_wp2_with (first | (go_at_call 12; (with_reducible refine (PJ.haulagelaw03_same.calls kj33 _ _ t129 _ _ y135 true _ ?side1 ?side2 ?side3 ?side4 A48.out).mono ?_); (case side1 => repeat (first | exact (Kd.R_reads' HO131.out).2.2 | (with_reducible refine Kd.C_alloc ?_ _) | (with_reducible refine Kd.C_drewN ?_ _) | (with_reducible refine Kd.C_drew ?_))); (case side2 => exact (Kd.R_reads' HO131.out).2.1); (case side3 => repeat (first | exact (by repeat (first | (with_reducible exact HR138.out) | (with_reducible refine Kd.C_alloc ?_ _) | (with_reducible refine Kd.C_drewN ?_ _) | (with_reducible refine Kd.C_drew ?_) | exact HR138.out)) | (with_reducible refine Kd.C_alloc ?_ _) | (with_reducible refine Kd.C_drewN ?_ _) | (with_reducible refine Kd.C_drew ?_))); (case side4 => exact HC138.out); rintro e w' ⟨rfl, ⟨nd, rfl⟩⟩; (try first | exact ⟨rfl, _, World.drewN_drewN _ _ _⟩ | exact ⟨rfl, _, Eq.trans (World.drewN_drewN _ _ _) (congrArg (World.drewN _) (Nat.add_assoc _ _ _))⟩); have p140 : 0 ≤ (0 : Int) := (by omega); have q140 : 0 < (t129.length : Int) := of_decide_eq_true (by first | (with_reducible assumption) | assumption); obtain ⟨ad140, e140, hx140_0⟩ := Kd.at_int (Kd.R_reads' HO131.out).2.2 0 p140 q140; cases e140; have qi140 : (0 < t129.length) = True := eq_true (by omega); (try rw [show ((0 : Int)).toNat = 0 from rfl] at hx140_0); (try rw [Addr.add_zero'] at hx140_0); replace p140 := eq_true p140; replace q140 := eq_true q140))
                                        repeat (go_quiet (first | (go_at_call 12; (with_reducible refine (PJ.haulagelaw03_same.calls kj33 _ _ t129 _ _ y135 true _ ?side1 ?side2 ?side3 ?side4 A48.out).mono ?_); (case side1 => repeat (first | exact (Kd.R_reads' HO131.out).2.2 | (with_reducible refine Kd.C_alloc ?_ _) | (with_reducible refine Kd.C_drewN ?_ _) | (with_reducible refine Kd.C_drew ?_))); (case side2 => exact (Kd.R_reads' HO131.out).2.1); (case side3 => repeat (first | exact (by repeat (first | (with_reducible exact HR138.out) | (with_reducible refine Kd.C_alloc ?_ _) | (with_reducible refine Kd.C_drewN ?_ _) | (with_reducible refine Kd.C_drew ?_) | exact HR138.out)) | (with_reducible refine Kd.C_alloc ?_ _) | (with_reducible refine Kd.C_drewN ?_ _) | (with_reducible refine Kd.C_drew ?_))); (case side4 => exact HC138.out); rintro e w' ⟨rfl, ⟨nd, rfl⟩⟩; (try first | exact ⟨rfl, _, World.drewN_drewN _ _ _⟩ | exact ⟨rfl, _, Eq.trans (World.drewN_drewN _ _ _) (congrArg (World.drewN _) (Nat.add_assoc _ _ _))⟩); have p140 : 0 ≤ (0 : Int) := (by omega); have q140 : 0 < (t129.length : Int) := of_decide_eq_true (by first | (with_reducible assumption) | assumption); obtain ⟨ad140, e140, hx140_0⟩ := Kd.at_int (Kd.R_reads' HO131.out).2.2 0 p140 q140; cases e140; have qi140 : (0 < t129.length) = True := eq_true (by omega); (try rw [show ((0 : Int)).toNat = 0 from rfl] at hx140_0); (try rw [Addr.add_zero'] at hx140_0); replace p140 := eq_true p140; replace q140 := eq_true q140)); try go_wp2_with (first | (go_at_call 12; (with_reducible refine (PJ.haulagelaw03_same.calls kj33 _ _ t129 _ _ y135 true _ ?side1 ?side2 ?side3 ?side4 A48.out).mono ?_); (case side1 => repeat (first | exact (Kd.R_reads' HO131.out).2.2 | (with_reducible refine Kd.C_alloc ?_ _) | (with_reducible refine Kd.C_drewN ?_ _) | (with_reducible refine Kd.C_drew ?_))); (case side2 => exact (Kd.R_reads' HO131.out).2.1); (case side3 => repeat (first | exact (by repeat (first | (with_reducible exact HR138.out) | (with_reducible refine Kd.C_alloc ?_ _) | (with_reducible refine Kd.C_drewN ?_ _) | (with_reducible refine Kd.C_drew ?_) | exact HR138.out)) | (with_reducible refine Kd.C_alloc ?_ _) | (with_reducible refine Kd.C_drewN ?_ _) | (with_reducible refine Kd.C_drew ?_))); (case side4 => exact HC138.out); rintro e w' ⟨rfl, ⟨nd, rfl⟩⟩; (try first | exact ⟨rfl, _, World.drewN_drewN _ _ _⟩ | exact ⟨rfl, _, Eq.trans (World.drewN_drewN _ _ _) (congrArg (World.drewN _) (Nat.add_assoc _ _ _))⟩); have p140 : 0 ≤ (0 : Int) := (by omega); have q140 : 0 < (t129.length : Int) := of_decide_eq_true (by first | (with_reducible assumption) | assumption); obtain ⟨ad140, e140, hx140_0⟩ := Kd.at_int (Kd.R_reads' HO131.out).2.2 0 p140 q140; cases e140; have qi140 : (0 < t129.length) = True := eq_true (by omega); (try rw [show ((0 : Int)).toNat = 0 from rfl] at hx140_0); (try rw [Addr.add_zero'] at hx140_0); replace p140 := eq_true p140; replace q140 := eq_true q140)))
                                        go_meet
                                        case rel => exact ⟨_, (true), (by first | rfl | (simp; done) | (simp [*]; done) | (simp [Int.tdiv_eq_ediv_of_nonneg, Int.tmod_eq_emod_of_nonneg]; done)), H', ⟨by have := HJ5.out; have := HJ19.out; have := HJ31.out; have := HJ33.out; first | omega | exact Nat.le_refl _⟩, ⟨by (with_reducible repeat (first | apply Kd.R_alloc | apply Kd.R_drewN | apply Kd.R_drew)); exact Kd.R_mono HO131.out (fun _ hk => hk.2)⟩, ⟨by (with_reducible repeat (first | apply Kd.R_alloc | apply Kd.R_drewN | apply Kd.R_drew)); exact Kd.R_mono HO134.out (fun _ hk => hk.2)⟩, ⟨by repeat (first | (with_reducible first | exact HB.out | apply below_alloc | apply pw_below_drewN | apply below_drew1) | exact HB.out)⟩⟩
                                    · rw [if_neg c50] at H
                                      exact absurd H (by simp)
                                  · replace c49 := Bool.eq_false_iff.mpr c49
                                    subst c49
                                    have H1 : (haulagelaw03_JumpLittle.j4 kj33 a1 x9_33 t129 t132 true) = some r := by rw [if_neg (show ¬ (false = true) by decide)] at H; exact H
                                    clear H
                                    have H := H1
                                    clear H1
                                    have H' := Aside0.mk H
                                    clear H
                                    obtain ⟨Ao61, co61, eo61⟩ := Kd.R_slice HO131.out
                                    subst eo61
                                    obtain ⟨Ao62, co62, eo62⟩ := Kd.R_slice HO134.out
                                    subst eo62
                                    have q63 : ((t129.length : Int) : Int) ≤ ((t132.length : Int) : Int) := of_decide_eq_true (by first | (with_reducible assumption) | assumption)
                                    obtain ⟨i063, hi063, _, hsz63, _⟩ := info_parts info3
                                    have hroom63 : t132.length ≤ co62 := (Kd.R_reads' HO134.out).2.1
                                    have hC63 : Kd.C (Kd.int .i64) _ Ao62 t132.length t132 := (Kd.R_reads' HO134.out).2.2
                                    have hcut63 := cut_to (P := Try.prog) 25 3 .i64 Try.underlying25 hi063 Ao62 t132.length co62 (t129.length : Int) (of_decide_eq_true (by first | (with_reducible assumption) | assumption)) q63 hroom63
                                    have hr63 := Kd.C_take (m := ((t129.length : Int) : Int).toNat) hC63 (by omega)
                                    have hy63 : y135.length = ((t129.length : Int) : Int).toNat := (by rw [Ny135.out, List.length_take]; omega)
                                    rw [← Ny135.out] at hr63
                                    rw [← hy63] at hcut63
                                    have HR138 := Aside0.mk hr63
                                    have HC138 := Aside0.mk (show y135.length ≤ co62 from by omega)
                                    clear hr63 hC63 hroom63 hi063 hsz63
                                    have KY63 := Aside0.mk hy63
                                    clear hy63
                                    have KL63 := Aside0.mk (show ((t129.length : Int) : Int).toNat ≤ t132.length from by omega)
                                    replace q63 := eq_true q63
                                    go_wp2_with (first | (go_at_call 12; (with_reducible refine (PJ.haulagelaw03_same.calls kj33 _ _ t129 _ _ y135 false _ ?side1 ?side2 ?side3 ?side4 A48.out).mono ?_); (case side1 => repeat (first | exact (Kd.R_reads' HO131.out).2.2 | (with_reducible refine Kd.C_alloc ?_ _) | (with_reducible refine Kd.C_drewN ?_ _) | (with_reducible refine Kd.C_drew ?_))); (case side2 => exact (Kd.R_reads' HO131.out).2.1); (case side3 => repeat (first | exact (by repeat (first | (with_reducible exact HR138.out) | (with_reducible refine Kd.C_alloc ?_ _) | (with_reducible refine Kd.C_drewN ?_ _) | (with_reducible refine Kd.C_drew ?_) | exact HR138.out)) | (with_reducible refine Kd.C_alloc ?_ _) | (with_reducible refine Kd.C_drewN ?_ _) | (with_reducible refine Kd.C_drew ?_))); (case side4 => exact HC138.out); rintro e w' ⟨rfl, ⟨nd, rfl⟩⟩; (try first | exact ⟨rfl, _, World.drewN_drewN _ _ _⟩ | exact ⟨rfl, _, Eq.trans (World.drewN_drewN _ _ _) (congrArg (World.drewN _) (Nat.add_assoc _ _ _))⟩)))
                                    repeat (go_quiet (first | (go_at_call 12; (with_reducible refine (PJ.haulagelaw03_same.calls kj33 _ _ t129 _ _ y135 false _ ?side1 ?side2 ?side3 ?side4 A48.out).mono ?_); (case side1 => repeat (first | exact (Kd.R_reads' HO131.out).2.2 | (with_reducible refine Kd.C_alloc ?_ _) | (with_reducible refine Kd.C_drewN ?_ _) | (with_reducible refine Kd.C_drew ?_))); (case side2 => exact (Kd.R_reads' HO131.out).2.1); (case side3 => repeat (first | exact (by repeat (first | (with_reducible exact HR138.out) | (with_reducible refine Kd.C_alloc ?_ _) | (with_reducible refine Kd.C_drewN ?_ _) | (with_reducible refine Kd.C_drew ?_) | exact HR138.out)) | (with_reducible refine Kd.C_alloc ?_ _) | (with_reducible refine Kd.C_drewN ?_ _) | (with_reducible refine Kd.C_drew ?_))); (case side4 => exact HC138.out); rintro e w' ⟨rfl, ⟨nd, rfl⟩⟩; (try first | exact ⟨rfl, _, World.drewN_drewN _ _ _⟩ | exact ⟨rfl, _, Eq.trans (World.drewN_drewN _ _ _) (congrArg (World.drewN _) (Nat.add_assoc _ _ _))⟩))); try go_wp2_with (first | (go_at_call 12; (with_reducible refine (PJ.haulagelaw03_same.calls kj33 _ _ t129 _ _ y135 false _ ?side1 ?side2 ?side3 ?side4 A48.out).mono ?_); (case side1 => repeat (first | exact (Kd.R_reads' HO131.out).2.2 | (with_reducible refine Kd.C_alloc ?_ _) | (with_reducible refine Kd.C_drewN ?_ _) | (with_reducible refine Kd.C_drew ?_))); (case side2 => exact (Kd.R_reads' HO131.out).2.1); (case side3 => repeat (first | exact (by repeat (first | (with_reducible exact HR138.out) | (with_reducible refine Kd.C_alloc ?_ _) | (with_reducible refine Kd.C_drewN ?_ _) | (with_reducible refine Kd.C_drew ?_) | exact HR138.out)) | (with_reducible refine Kd.C_alloc ?_ _) | (with_reducible refine Kd.C_drewN ?_ _) | (with_reducible refine Kd.C_drew ?_))); (case side4 => exact HC138.out); rintro e w' ⟨rfl, ⟨nd, rfl⟩⟩; (try first | exact ⟨rfl, _, World.drewN_drewN _ _ _⟩ | exact ⟨rfl, _, Eq.trans (World.drewN_drewN _ _ _) (congrArg (World.drewN _) (Nat.add_assoc _ _ _))⟩))))
                                    go_meet
                                    case rel => exact ⟨_, (true), (by first | rfl | (simp; done) | (simp [*]; done) | (simp [Int.tdiv_eq_ediv_of_nonneg, Int.tmod_eq_emod_of_nonneg]; done)), H', ⟨by have := HJ5.out; have := HJ19.out; have := HJ31.out; have := HJ33.out; first | omega | exact Nat.le_refl _⟩, ⟨by (with_reducible repeat (first | apply Kd.R_alloc | apply Kd.R_drewN | apply Kd.R_drew)); exact Kd.R_mono HO131.out (fun _ hk => hk.2)⟩, ⟨by (with_reducible repeat (first | apply Kd.R_alloc | apply Kd.R_drewN | apply Kd.R_drew)); exact Kd.R_mono HO134.out (fun _ hk => hk.2)⟩, ⟨by repeat (first | (with_reducible first | exact HB.out | apply below_alloc | apply pw_below_drewN | apply below_drew1) | exact HB.out)⟩⟩
                                · rw [if_neg c47] at H
                                  exact absurd H (by simp)
                              · rw [if_neg c46] at H
                                exact absurd H (by simp)
                        case rest =>
                          clear HC38
                          try clear c1
                          try clear p1
                          try clear q1
                          try clear hx1
                          try clear qi1
                          try clear c2
                          try clear p2
                          try clear c3
                          try clear c4
                          try clear c5
                          try clear q5
                          try clear c6
                          try clear p6
                          try clear q6
                          try clear c8
                          try clear c8b0
                          try clear c9
                          try clear c10
                          try clear c10b0
                          try clear c10b1
                          try clear c12
                          try clear c12b0
                          try clear c12b1
                          try clear p14
                          try clear q14
                          try clear hx14
                          try clear qi14
                          try clear c23
                          try clear c23b0
                          try clear c24
                          try clear c24b0
                          try clear c25
                          try clear c25b0
                          try clear c25b1
                          try clear c28
                          try clear c28b0
                          try clear c28b1
                          try clear c31
                          try clear c33
                          try clear c33b0
                          try clear c35
                          try clear c41
                          try clear c41b0
                          try clear c41b1
                          try clear c41b2
                          try clear c43
                          try clear c43b0
                          try clear c43b1
                          try clear c46
                          try clear c46b0
                          try clear c46b1
                          try clear c47
                          try clear c47b0
                          try clear c47b1
                          try clear c49
                          try clear c50
                          try clear c50b0
                          try clear c50b1
                          try clear c51
                          try clear c51b0
                          try clear c51b1
                          try clear c53
                          try clear c53b0
                          try clear c54
                          try clear c54b0
                          try clear q57
                          try clear q60
                          try clear q63
                          try clear hx140_0
                          try clear hx141_0
                          try clear p140
                          try clear p141
                          try clear p2
                          try clear p6
                          try clear q140
                          try clear q141
                          try clear q57
                          try clear q60
                          try clear q63
                          obtain ⟨kq, x117_37, rfl, HA, HJ37, HO_10, HO_11, HB⟩ := hcut
                          cases kq with
                          | zero => exact absurd HA.out (by simp [haulagelaw03_JumpLittle.j4])
                          | succ kj37 =>
                            have H := HA.out
                            clear HA
                            simp only [haulagelaw03_JumpLittle.j4] at H
                            by_cases c64 : x117_37 = true
                            · subst c64
                              have H1 : (some false) = some r := by rw [if_pos rfl] at H; exact H
                              clear H
                              have H := H1
                              clear H1
                              obtain rfl := Option.some.inj H
                              go_wp2
                              repeat (go_quiet (fail); try go_wp2)
                              go_ret
                              exact ⟨by first | rfl | (simp [errW_none, errW_some] <;> rfl) | (simp [*, errW_none, errW_some] <;> rfl), by repeat (first | (with_reducible first | exact HB.out | apply below_alloc | apply pw_below_drewN | apply below_drew1) | exact HB.out)⟩
                            · replace c64 := Bool.eq_false_iff.mpr c64
                              subst c64
                              have H1 : (haulagelaw03_JumpLittle.l0 kj37 a1 x9_33 t129 t132 1) = some r := by rw [if_neg (show ¬ (false = true) by decide)] at H; exact H
                              clear H
                              have H := H1
                              clear H1
                              have H' := Aside0.mk H
                              clear H
                              go_wp2
                              repeat (go_quiet (fail); try go_wp2)
                              go_loopg [12] kj37 (fun kq v12 w' => ∃ (x12_6 : Int), v12 = .int .i64 x12_6 ∧ Aside0 (haulagelaw03_JumpLittle.l0 kq a1 x9_33 t129 t132 x12_6 = some r) ∧ Aside0 (kq ≤ kj37) ∧ Aside0 (Kd.R (Kd.int .i64) 3 w' w.heap.size (fun k_ => some k_ ≠ (v133 : Value).ownBlock) v130 t129) ∧ Aside0 (Kd.R (Kd.int .i64) 3 w' w.heap.size (fun k_ => some k_ ≠ (v130 : Value).ownBlock) v133 t132) ∧ Aside0 (Below w.heap.size w w'))
                              case atStart => exact ⟨(1), (by first | rfl | (simp; done) | (simp [*]; done) | (simp [Int.tdiv_eq_ediv_of_nonneg, Int.tmod_eq_emod_of_nonneg]; done)), H', ⟨Nat.le_refl _⟩, ⟨by (with_reducible repeat (first | apply Kd.R_alloc | apply Kd.R_drewN | apply Kd.R_drew)); exact HO_10.out⟩, ⟨by (with_reducible repeat (first | apply Kd.R_alloc | apply Kd.R_drewN | apply Kd.R_drew)); exact HO_11.out⟩, ⟨by repeat (first | (with_reducible first | exact HB.out | apply below_alloc | apply pw_below_drewN | apply below_drew1) | exact HB.out)⟩⟩
                              case round =>
                                clear H'
                                try clear c1
                                try clear p1
                                try clear q1
                                try clear hx1
                                try clear qi1
                                try clear c2
                                try clear p2
                                try clear c3
                                try clear c4
                                try clear c5
                                try clear q5
                                try clear c6
                                try clear p6
                                try clear q6
                                try clear c8
                                try clear c8b0
                                try clear c9
                                try clear c10
                                try clear c10b0
                                try clear c10b1
                                try clear c12
                                try clear c12b0
                                try clear c12b1
                                try clear p14
                                try clear q14
                                try clear hx14
                                try clear qi14
                                try clear c23
                                try clear c23b0
                                try clear c24
                                try clear c24b0
                                try clear c25
                                try clear c25b0
                                try clear c25b1
                                try clear c28
                                try clear c28b0
                                try clear c28b1
                                try clear c31
                                try clear c33
                                try clear c33b0
                                try clear c35
                                try clear c41
                                try clear c41b0
                                try clear c41b1
                                try clear c41b2
                                try clear c43
                                try clear c43b0
                                try clear c43b1
                                try clear c46
                                try clear c46b0
                                try clear c46b1
                                try clear c47
                                try clear c47b0
                                try clear c47b1
                                try clear c49
                                try clear c50
                                try clear c50b0
                                try clear c50b1
                                try clear c51
                                try clear c51b0
                                try clear c51b1
                                try clear c53
                                try clear c53b0
                                try clear c54
                                try clear c54b0
                                try clear q57
                                try clear q60
                                try clear q63
                                try clear c64
                                try clear p64
                                try clear hx140_0
                                try clear hx141_0
                                try clear p1
                                try clear p14
                                try clear p140
                                try clear p141
                                try clear p2
                                try clear p6
                                try clear q1
                                try clear q14
                                try clear q140
                                try clear q141
                                try clear q5
                                try clear q57
                                try clear q6
                                try clear q60
                                try clear q63
                                obtain ⟨x12_6, rfl, HA, HK6, HO_10, HO_11, HB⟩ := hrel
                                cases gk with
                                | zero => exact absurd HA.out (by simp [haulagelaw03_JumpLittle.l0])
                                | succ k6 =>
                                  have H := HA.out
                                  clear HA
                                  simp only [haulagelaw03_JumpLittle.l0] at H
                                  by_cases c65 : x12_6 < (t132.length : Int)
                                  · rw [if_pos c65] at H
                                    have c65b0 : decide (x12_6 < (t132.length : Int)) = true := decide_eq_true c65
                                    clear c65
                                    by_cases c66 : 0 ≤ x12_6
                                    · rw [if_pos c66] at H
                                      have c66b0 : decide (0 ≤ x12_6) = true := decide_eq_true c66
                                      clear c66
                                      obtain ⟨ji67, hji67⟩ : ∃ j_ : Int, (wrap64 (x12_6 - 1)) = j_ := ⟨_, rfl⟩
                                      replace H : (if 0 ≤ (ji67) then (if (ji67) < (t132.length : Int) then (if (rd t132 x12_6) ≤ (rd t132 (ji67)) then (some false) else (if (rd t132 x12_6) ≥ x9_33 then (some false) else (if x12_6 ≥ (t129.length : Int) then (if (rd t132 x12_6) < a1 then (some false) else (haulagelaw03_JumpLittle.l0 k6 a1 x9_33 t129 t132 (wrap64 (x12_6 + 1)))) else (haulagelaw03_JumpLittle.l0 k6 a1 x9_33 t129 t132 (wrap64 (x12_6 + 1)))))) else (none)) else (none)) = some r := by first | (rw [hji67] at H; exact H) | (simp only [hji67] at H ⊢; exact H)
                                      have hji67w : (IntKind.i64.wrap (x12_6 - 1)) = ji67 := (i64_w _).trans hji67
                                      by_cases c68 : 0 ≤ (ji67)
                                      · rw [if_pos c68] at H
                                        have c68b0 : decide (0 ≤ (ji67)) = true := decide_eq_true c68
                                        clear c68
                                        by_cases c69 : (ji67) < (t132.length : Int)
                                        · rw [if_pos c69] at H
                                          have c69b0 : decide ((ji67) < (t132.length : Int)) = true := decide_eq_true c69
                                          clear c69
                                          by_cases c70 : (rd t132 x12_6) ≤ (rd t132 (ji67))
                                          · rw [if_pos c70] at H
                                            have c70b0 : decide ((rd t132 x12_6) ≤ (rd t132 (ji67))) = true := decide_eq_true c70
                                            clear c70
                                            obtain rfl := Option.some.inj H
                                            obtain ⟨Ao71, co71, eo71⟩ := Kd.R_slice HO_11.out
                                            subst eo71
                                            have p142 : 0 ≤ (x12_6 : Int) := of_decide_eq_true (by first | (with_reducible assumption) | assumption)
                                            have q142 : x12_6 < (t132.length : Int) := of_decide_eq_true (by first | (with_reducible assumption) | assumption)
                                            obtain ⟨ad142, e142, hx142_0⟩ := Kd.at_int (Kd.R_reads' HO_11.out).2.2 x12_6 p142 q142
                                            cases e142
                                            replace p142 := eq_true p142
                                            replace q142 := eq_true q142
                                            have p143 : 0 ≤ ((ji67) : Int) := of_decide_eq_true (by first | (with_reducible assumption) | assumption)
                                            have q143 : (ji67) < (t132.length : Int) := of_decide_eq_true (by first | (with_reducible assumption) | assumption)
                                            obtain ⟨ad143, e143, hx143_0⟩ := Kd.at_int (Kd.R_reads' HO_11.out).2.2 (ji67) p143 q143
                                            obtain rfl : ad142 = ad143 := (by injection e143)
                                            replace p143 := eq_true p143
                                            replace q143 := eq_true q143
                                            go_wp2
                                            repeat (go_quiet (fail); try go_wp2)
                                            go_ret
                                            exact ⟨by first | rfl | (simp [errW_none, errW_some] <;> rfl) | (simp only [← hji67]; first | rfl | (simp [errW_none, errW_some] <;> rfl)) | (simp [*, errW_none, errW_some] <;> rfl), by repeat (first | (with_reducible first | exact HB.out | apply below_alloc | apply pw_below_drewN | apply below_drew1) | exact HB.out)⟩
                                          · rw [if_neg c70] at H
                                            have c70b0 : decide ((rd t132 x12_6) ≤ (rd t132 (ji67))) = false := decide_eq_false c70
                                            clear c70
                                            by_cases c72 : (rd t132 x12_6) ≥ x9_33
                                            · rw [if_pos c72] at H
                                              have c72b0 : decide (x9_33 ≤ (rd t132 x12_6)) = true := decide_eq_true c72
                                              clear c72
                                              obtain rfl := Option.some.inj H
                                              obtain ⟨Ao73, co73, eo73⟩ := Kd.R_slice HO_11.out
                                              subst eo73
                                              have p142 : 0 ≤ (x12_6 : Int) := of_decide_eq_true (by first | (with_reducible assumption) | assumption)
                                              have q142 : x12_6 < (t132.length : Int) := of_decide_eq_true (by first | (with_reducible assumption) | assumption)
                                              obtain ⟨ad142, e142, hx142_0⟩ := Kd.at_int (Kd.R_reads' HO_11.out).2.2 x12_6 p142 q142
                                              cases e142
                                              replace p142 := eq_true p142
                                              replace q142 := eq_true q142
                                              have p143 : 0 ≤ ((ji67) : Int) := of_decide_eq_true (by first | (with_reducible assumption) | assumption)
                                              have q143 : (ji67) < (t132.length : Int) := of_decide_eq_true (by first | (with_reducible assumption) | assumption)
                                              obtain ⟨ad143, e143, hx143_0⟩ := Kd.at_int (Kd.R_reads' HO_11.out).2.2 (ji67) p143 q143
                                              obtain rfl : ad142 = ad143 := (by injection e143)
                                              replace p143 := eq_true p143
                                              replace q143 := eq_true q143
                                              have p144 : 0 ≤ (x12_6 : Int) := of_decide_eq_true (by first | (with_reducible assumption) | assumption)
                                              have q144 : x12_6 < (t132.length : Int) := of_decide_eq_true (by first | (with_reducible assumption) | assumption)
                                              obtain ⟨ad144, e144, hx144_0⟩ := Kd.at_int (Kd.R_reads' HO_11.out).2.2 x12_6 p144 q144
                                              obtain rfl : ad142 = ad144 := (by injection e144)
                                              replace p144 := eq_true p144
                                              replace q144 := eq_true q144
                                              go_wp2
                                              repeat (go_quiet (fail); try go_wp2)
                                              go_ret
                                              exact ⟨by first | rfl | (simp [errW_none, errW_some] <;> rfl) | (simp only [← hji67]; first | rfl | (simp [errW_none, errW_some] <;> rfl)) | (simp [*, errW_none, errW_some] <;> rfl), by repeat (first | (with_reducible first | exact HB.out | apply below_alloc | apply pw_below_drewN | apply below_drew1) | exact HB.out)⟩
                                            · rw [if_neg c72] at H
                                              have c72b0 : decide (x9_33 ≤ (rd t132 x12_6)) = false := decide_eq_false c72
                                              clear c72
                                              by_cases c74 : x12_6 ≥ (t129.length : Int)
                                              · rw [if_pos c74] at H
                                                have c74b0 : decide ((t129.length : Int) ≤ x12_6) = true := decide_eq_true c74
                                                clear c74
                                                by_cases c75 : (rd t132 x12_6) < a1
                                                · rw [if_pos c75] at H
                                                  have c75b0 : decide ((rd t132 x12_6) < a1) = true := decide_eq_true c75
                                                  clear c75
                                                  obtain rfl := Option.some.inj H
                                                  obtain ⟨Ao76, co76, eo76⟩ := Kd.R_slice HO_11.out
                                                  subst eo76
                                                  have p142 : 0 ≤ (x12_6 : Int) := of_decide_eq_true (by first | (with_reducible assumption) | assumption)
                                                  have q142 : x12_6 < (t132.length : Int) := of_decide_eq_true (by first | (with_reducible assumption) | assumption)
                                                  obtain ⟨ad142, e142, hx142_0⟩ := Kd.at_int (Kd.R_reads' HO_11.out).2.2 x12_6 p142 q142
                                                  cases e142
                                                  replace p142 := eq_true p142
                                                  replace q142 := eq_true q142
                                                  have p143 : 0 ≤ ((ji67) : Int) := of_decide_eq_true (by first | (with_reducible assumption) | assumption)
                                                  have q143 : (ji67) < (t132.length : Int) := of_decide_eq_true (by first | (with_reducible assumption) | assumption)
                                                  obtain ⟨ad143, e143, hx143_0⟩ := Kd.at_int (Kd.R_reads' HO_11.out).2.2 (ji67) p143 q143
                                                  obtain rfl : ad142 = ad143 := (by injection e143)
                                                  replace p143 := eq_true p143
                                                  replace q143 := eq_true q143
                                                  have p144 : 0 ≤ (x12_6 : Int) := of_decide_eq_true (by first | (with_reducible assumption) | assumption)
                                                  have q144 : x12_6 < (t132.length : Int) := of_decide_eq_true (by first | (with_reducible assumption) | assumption)
                                                  obtain ⟨ad144, e144, hx144_0⟩ := Kd.at_int (Kd.R_reads' HO_11.out).2.2 x12_6 p144 q144
                                                  obtain rfl : ad142 = ad144 := (by injection e144)
                                                  replace p144 := eq_true p144
                                                  replace q144 := eq_true q144
                                                  obtain ⟨Ao77, co77, eo77⟩ := Kd.R_slice HO_10.out
                                                  subst eo77
                                                  have p145 : 0 ≤ (x12_6 : Int) := of_decide_eq_true (by first | (with_reducible assumption) | assumption)
                                                  have q145 : x12_6 < (t132.length : Int) := of_decide_eq_true (by first | (with_reducible assumption) | assumption)
                                                  obtain ⟨ad145, e145, hx145_0⟩ := Kd.at_int (Kd.R_reads' HO_11.out).2.2 x12_6 p145 q145
                                                  obtain rfl : ad142 = ad145 := (by injection e145)
                                                  replace p145 := eq_true p145
                                                  replace q145 := eq_true q145
                                                  go_wp2
                                                  repeat (go_quiet (fail); try go_wp2)
                                                  go_ret
                                                  exact ⟨by first | rfl | (simp [errW_none, errW_some] <;> rfl) | (simp only [← hji67]; first | rfl | (simp [errW_none, errW_some] <;> rfl)) | (simp [*, errW_none, errW_some] <;> rfl), by repeat (first | (with_reducible first | exact HB.out | apply below_alloc | apply pw_below_drewN | apply below_drew1) | exact HB.out)⟩
                                                · rw [if_neg c75] at H
                                                  have c75b0 : decide ((rd t132 x12_6) < a1) = false := decide_eq_false c75
                                                  clear c75
                                                  have H' := Aside0.mk H
                                                  clear H
                                                  obtain ⟨Ao78, co78, eo78⟩ := Kd.R_slice HO_11.out
                                                  subst eo78
                                                  have p142 : 0 ≤ (x12_6 : Int) := of_decide_eq_true (by first | (with_reducible assumption) | assumption)
                                                  have q142 : x12_6 < (t132.length : Int) := of_decide_eq_true (by first | (with_reducible assumption) | assumption)
                                                  obtain ⟨ad142, e142, hx142_0⟩ := Kd.at_int (Kd.R_reads' HO_11.out).2.2 x12_6 p142 q142
                                                  cases e142
                                                  replace p142 := eq_true p142
                                                  replace q142 := eq_true q142
                                                  have p143 : 0 ≤ ((ji67) : Int) := of_decide_eq_true (by first | (with_reducible assumption) | assumption)
                                                  have q143 : (ji67) < (t132.length : Int) := of_decide_eq_true (by first | (with_reducible assumption) | assumption)
                                                  obtain ⟨ad143, e143, hx143_0⟩ := Kd.at_int (Kd.R_reads' HO_11.out).2.2 (ji67) p143 q143
                                                  obtain rfl : ad142 = ad143 := (by injection e143)
                                                  replace p143 := eq_true p143
                                                  replace q143 := eq_true q143
                                                  have p144 : 0 ≤ (x12_6 : Int) := of_decide_eq_true (by first | (with_reducible assumption) | assumption)
                                                  have q144 : x12_6 < (t132.length : Int) := of_decide_eq_true (by first | (with_reducible assumption) | assumption)
                                                  obtain ⟨ad144, e144, hx144_0⟩ := Kd.at_int (Kd.R_reads' HO_11.out).2.2 x12_6 p144 q144
                                                  obtain rfl : ad142 = ad144 := (by injection e144)
                                                  replace p144 := eq_true p144
                                                  replace q144 := eq_true q144
                                                  obtain ⟨Ao79, co79, eo79⟩ := Kd.R_slice HO_10.out
                                                  subst eo79
                                                  have p145 : 0 ≤ (x12_6 : Int) := of_decide_eq_true (by first | (with_reducible assumption) | assumption)
                                                  have q145 : x12_6 < (t132.length : Int) := of_decide_eq_true (by first | (with_reducible assumption) | assumption)
                                                  obtain ⟨ad145, e145, hx145_0⟩ := Kd.at_int (Kd.R_reads' HO_11.out).2.2 x12_6 p145 q145
                                                  obtain rfl : ad142 = ad145 := (by injection e145)
                                                  replace p145 := eq_true p145
                                                  replace q145 := eq_true q145
                                                  go_wp2
                                                  repeat (go_quiet (fail); try go_wp2)
                                                  go_roundg k6
                                                  case measure => have := HJ5.out; have := HJ19.out; have := HJ31.out; have := HJ33.out; have := HJ37.out; have := HK6.out; omega
                                                  case rel => exact ⟨(wrap64 (x12_6 + 1)), (by first | rfl | (simp; done) | (simp [*]; done) | (simp [Int.tdiv_eq_ediv_of_nonneg, Int.tmod_eq_emod_of_nonneg]; done)), H', ⟨by have := HJ5.out; have := HJ19.out; have := HJ31.out; have := HJ33.out; have := HJ37.out; have := HK6.out; omega⟩, ⟨by (with_reducible repeat (first | apply Kd.R_alloc | apply Kd.R_drewN | apply Kd.R_drew)); exact HO_10.out⟩, ⟨by (with_reducible repeat (first | apply Kd.R_alloc | apply Kd.R_drewN | apply Kd.R_drew)); exact HO_11.out⟩, ⟨by repeat (first | (with_reducible first | exact HB.out | apply below_alloc | apply pw_below_drewN | apply below_drew1) | exact HB.out)⟩⟩
                                              · rw [if_neg c74] at H
                                                have c74b0 : decide ((t129.length : Int) ≤ x12_6) = false := decide_eq_false c74
                                                clear c74
                                                have H' := Aside0.mk H
                                                clear H
                                                obtain ⟨Ao80, co80, eo80⟩ := Kd.R_slice HO_11.out
                                                subst eo80
                                                have p142 : 0 ≤ (x12_6 : Int) := of_decide_eq_true (by first | (with_reducible assumption) | assumption)
                                                have q142 : x12_6 < (t132.length : Int) := of_decide_eq_true (by first | (with_reducible assumption) | assumption)
                                                obtain ⟨ad142, e142, hx142_0⟩ := Kd.at_int (Kd.R_reads' HO_11.out).2.2 x12_6 p142 q142
                                                cases e142
                                                replace p142 := eq_true p142
                                                replace q142 := eq_true q142
                                                have p143 : 0 ≤ ((ji67) : Int) := of_decide_eq_true (by first | (with_reducible assumption) | assumption)
                                                have q143 : (ji67) < (t132.length : Int) := of_decide_eq_true (by first | (with_reducible assumption) | assumption)
                                                obtain ⟨ad143, e143, hx143_0⟩ := Kd.at_int (Kd.R_reads' HO_11.out).2.2 (ji67) p143 q143
                                                obtain rfl : ad142 = ad143 := (by injection e143)
                                                replace p143 := eq_true p143
                                                replace q143 := eq_true q143
                                                have p144 : 0 ≤ (x12_6 : Int) := of_decide_eq_true (by first | (with_reducible assumption) | assumption)
                                                have q144 : x12_6 < (t132.length : Int) := of_decide_eq_true (by first | (with_reducible assumption) | assumption)
                                                obtain ⟨ad144, e144, hx144_0⟩ := Kd.at_int (Kd.R_reads' HO_11.out).2.2 x12_6 p144 q144
                                                obtain rfl : ad142 = ad144 := (by injection e144)
                                                replace p144 := eq_true p144
                                                replace q144 := eq_true q144
                                                obtain ⟨Ao81, co81, eo81⟩ := Kd.R_slice HO_10.out
                                                subst eo81
                                                go_wp2
                                                repeat (go_quiet (fail); try go_wp2)
                                                go_roundg k6
                                                case measure => have := HJ5.out; have := HJ19.out; have := HJ31.out; have := HJ33.out; have := HJ37.out; have := HK6.out; omega
                                                case rel => exact ⟨(wrap64 (x12_6 + 1)), (by first | rfl | (simp; done) | (simp [*]; done) | (simp [Int.tdiv_eq_ediv_of_nonneg, Int.tmod_eq_emod_of_nonneg]; done)), H', ⟨by have := HJ5.out; have := HJ19.out; have := HJ31.out; have := HJ33.out; have := HJ37.out; have := HK6.out; omega⟩, ⟨by (with_reducible repeat (first | apply Kd.R_alloc | apply Kd.R_drewN | apply Kd.R_drew)); exact HO_10.out⟩, ⟨by (with_reducible repeat (first | apply Kd.R_alloc | apply Kd.R_drewN | apply Kd.R_drew)); exact HO_11.out⟩, ⟨by repeat (first | (with_reducible first | exact HB.out | apply below_alloc | apply pw_below_drewN | apply below_drew1) | exact HB.out)⟩⟩
                                        · rw [if_neg c69] at H
                                          exact absurd H (by simp)
                                      · rw [if_neg c68] at H
                                        exact absurd H (by simp)
                                    · rw [if_neg c66] at H
                                      exact absurd H (by simp)
                                  · rw [if_neg c65] at H
                                    have c65b0 : decide (x12_6 < (t132.length : Int)) = false := decide_eq_false c65
                                    clear c65
                                    obtain rfl := Option.some.inj H
                                    obtain ⟨Ao82, co82, eo82⟩ := Kd.R_slice HO_11.out
                                    subst eo82
                                    go_wp2
                                    repeat (go_quiet (fail); try go_wp2)
                                    go_ret
                                    exact ⟨by first | rfl | (simp [errW_none, errW_some] <;> rfl) | (simp [*, errW_none, errW_some] <;> rfl), by repeat (first | (with_reducible first | exact HB.out | apply below_alloc | apply pw_below_drewN | apply below_drew1) | exact HB.out)⟩
  · replace c5 := Bool.eq_false_iff.mpr c5
    subst c5
    have H1 : (some false) = some r := by rw [if_neg (show ¬ (false = true) by decide)] at H; exact H
    clear H
    have H := H1
    clear H1
    obtain rfl := Option.some.inj H
    go_enter Try.func6, Try.ntmps6
    go_wp2_with (first | (go_at_call 29; (with_reducible refine (haulagelaw03_known.calls k  false _ A4.out).mono ?_); rintro e w83 ⟨rfl, hb⟩; have n0_ := Aside0.mk (below_step (by repeat (first | (with_reducible first | exact HB.out | apply below_alloc | apply pw_below_drewN | apply below_drew1) | exact HB.out)) hb); clear HB; have HB := n0_; clear n0_; (try clear hb); (try clear hb2); (try clear hk); (try clear hi)))
    repeat (go_quiet (first | (go_at_call 29; (with_reducible refine (haulagelaw03_known.calls k  false _ A4.out).mono ?_); rintro e w83 ⟨rfl, hb⟩; have n0_ := Aside0.mk (below_step (by repeat (first | (with_reducible first | exact HB.out | apply below_alloc | apply pw_below_drewN | apply below_drew1) | exact HB.out)) hb); clear HB; have HB := n0_; clear n0_; (try clear hb); (try clear hb2); (try clear hk); (try clear hi))); try go_wp2_with (first | (go_at_call 29; (with_reducible refine (haulagelaw03_known.calls k  false _ A4.out).mono ?_); rintro e w83 ⟨rfl, hb⟩; have n0_ := Aside0.mk (below_step (by repeat (first | (with_reducible first | exact HB.out | apply below_alloc | apply pw_below_drewN | apply below_drew1) | exact HB.out)) hb); clear HB; have HB := n0_; clear n0_; (try clear hb); (try clear hb2); (try clear hk); (try clear hi))))
    go_ret
    exact ⟨by first | rfl | (simp [errW_none, errW_some] <;> rfl) | (simp [*, errW_none, errW_some] <;> rfl), by repeat (first | (with_reducible first | exact HB.out | apply below_alloc | apply pw_below_drewN | apply below_drew1) | exact HB.out)⟩

/-- THE ONE PURE STATEMENT of haulagelaw03_JumpLittle: yours. -/
def haulagelaw03_JumpLittle.Pure : Prop := ∀ (a0 : Int) (a1 : Int) (a2 : Int), (Lit.int .u64 a0).wf = true → (Lit.int .i64 a1).wf = true → (Lit.int .i64 a2).wf = true → ∃ k, haulagelaw03_JumpLittle.f k a0 a1 a2 = some true
theorem haulagelaw03_JumpLittle.walk (P : haulagelaw03_JumpLittle.Pure) (a0 : Int) (a1 : Int) (a2 : Int) (w : World) (w0 : (Lit.int .u64 a0).wf = true) (w1 : (Lit.int .i64 a1).wf = true) (w2 : (Lit.int .i64 a2).wf = true) :
    Calls Try.prog 6 #[.int .u64 a0, .int .i64 a1, .int .i64 a2] w fun e w' => e = .returned (.bool true) ∧ Below w.heap.size w w' := by
  obtain ⟨k, h⟩ := P a0 a1 a2 w0 w1 w2
  refine (haulagelaw03_JumpLittle.calls k a0 a1 a2 true w h).mono ?_
  rintro e w' ⟨rfl, hd⟩
  exact ⟨rfl, hd⟩

end Go.Proofs.Ytchmknacofaepaa.PK
