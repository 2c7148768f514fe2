import Derived.Test.YtchmknacofaepaaShl
import Derived.Test.YtchmknacofaepaaJh
import Derived.Test.YtchmknacofaepaaSo
import Derived.Test.YtchmknacofaepaaPJx5
import Derived.StillTailTactics
import Derived.BigQuiet
import Derived.Outline
import Derived.Lib.Hide
namespace Go.Proofs.Ytchmknacofaepaa.RK
open Go.RowKit Go.Shelf Go.Sort Go.Lib Go.Proofs.YtchmknacofaepaaW.PrintWords Go.Proofs.YtchmknacofaepaaW.PrintLast Go.Proofs.YtchmknacofaepaaW.PrintMore Go.Proofs.Ytchmknacofaepaa.JF Go.Proofs.Ytchmknacofaepaa.JQ Go.Proofs.Ytchmknacofaepaa.PJ
set_option linter.unusedVariables false
set_option linter.unusedSimpArgs false

/-- cmp.Compare of whole numbers. -/
def cmpV (a b : Int) : Int := if a < b then -1 else if a > b then 1 else 0
/-- A server with its score: two cells. -/
def encS (x : Int × Int) : List Value := [.int .i64 x.1, .int .u64 x.2]
/-- The closure of Rank. -/
def orV (a b : Int) : Int := if a = 0 then b else a
def cf (x y : Int × Int) : Int := orV (cmpV y.2 x.2) (cmpV x.1 y.1)

theorem nanU (a : Int) (w : World) : Calls Try.prog 52 #[.int .u64 a] w fun e w' => e = .returned (.bool false) ∧ w' = w := by
  go_enter Try.func52, Try.ntmps52
  go_wp2
  go_ret
  exact ⟨by simp, rfl⟩
theorem cmpU (a b : Int) (w : World) : Calls Try.prog 45 #[.int .u64 a, .int .u64 b] w fun e w' => e = .returned (.int .i64 (cmpV a b)) ∧ w' = w := by
  by_cases h1 : a < b
  · have e1 : cmpV a b = -1 := by unfold cmpV; rw [if_pos h1]
    rw [e1]
    go_enter Try.func45, Try.ntmps45
    go_wp2_with (go_at_call 52; refine (nanU _ _).mono ?_; rintro e w' ⟨rfl, rfl⟩)
    go_ret
    exact ⟨rfl, rfl⟩
  · by_cases h2 : a > b
    · have e1 : cmpV a b = 1 := by unfold cmpV; rw [if_neg h1, if_pos h2]
      rw [e1]
      go_enter Try.func45, Try.ntmps45
      go_wp2_with (go_at_call 52; refine (nanU _ _).mono ?_; rintro e w' ⟨rfl, rfl⟩)
      go_ret
      exact ⟨rfl, rfl⟩
    · have e1 : cmpV a b = 0 := by unfold cmpV; rw [if_neg h1, if_neg h2]
      rw [e1]
      go_enter Try.func45, Try.ntmps45
      go_wp2_with (go_at_call 52; refine (nanU _ _).mono ?_; rintro e w' ⟨rfl, rfl⟩)
      go_ret
      exact ⟨rfl, rfl⟩

theorem nanI (a : Int) (w : World) : Calls Try.prog 53 #[.int .i64 a] w fun e w' => e = .returned (.bool false) ∧ w' = w := by
  go_enter Try.func53, Try.ntmps53
  go_wp2
  go_ret
  exact ⟨by simp, rfl⟩
theorem cmpI (a b : Int) (w : World) : Calls Try.prog 46 #[.int .i64 a, .int .i64 b] w fun e w' => e = .returned (.int .i64 (cmpV a b)) ∧ w' = w := by
  by_cases h1 : a < b
  · have e1 : cmpV a b = -1 := by unfold cmpV; rw [if_pos h1]
    rw [e1]
    go_enter Try.func46, Try.ntmps46
    go_wp2_with (go_at_call 53; refine (nanI _ _).mono ?_; rintro e w' ⟨rfl, rfl⟩)
    go_ret
    exact ⟨rfl, rfl⟩
  · by_cases h2 : a > b
    · have e1 : cmpV a b = 1 := by unfold cmpV; rw [if_neg h1, if_pos h2]
      rw [e1]
      go_enter Try.func46, Try.ntmps46
      go_wp2_with (go_at_call 53; refine (nanI _ _).mono ?_; rintro e w' ⟨rfl, rfl⟩)
      go_ret
      exact ⟨rfl, rfl⟩
    · have e1 : cmpV a b = 0 := by unfold cmpV; rw [if_neg h1, if_neg h2]
      rw [e1]
      go_enter Try.func46, Try.ntmps46
      go_wp2_with (go_at_call 53; refine (nanI _ _).mono ?_; rintro e w' ⟨rfl, rfl⟩)
      go_ret
      exact ⟨rfl, rfl⟩

theorem or_two (a b : Int) : cmp_Or_int.f 5 [a, b] = some (orV a b) := by
  unfold cmp_Or_int.f orV
  simp only [cmp_Or_int.l0, Go.Proofs.YtchmknacofaepaaW.PrintWords.rd, List.length_cons, List.length_nil]
  by_cases h : a = 0
  · subst h
    by_cases h2 : b = 0
    · subst h2; simp [wrap64]
    · simp [wrap64, h2]
  · simp [wrap64, h]

theorem or2 (a b : Int) (g : Nat) (w : World) (h : w.cell? ⟨g, 0, none⟩ = some (.int .i64 a) ∧ w.cell? ⟨g, 1, none⟩ = some (.int .i64 b)) :
    Calls Try.prog 44 #[.slice (some ⟨g, 0, none⟩) 2 2] w fun e w' => e = .returned (.int .i64 (orV a b)) ∧ ∃ n, w' = w.drewN n := by
  have hr : ReadsInt w .i64 (some ⟨g, 0, none⟩) 2 [a, b] := ⟨rfl, by omega, fun _ => ⟨_, rfl, fun j hj => by
    have hj' : j = 0 ∨ j = 1 := by omega
    rcases hj' with rfl | rfl
    · simpa [Addr.add] using h.1
    · rw [add_plain]; exact h.2⟩⟩
  refine (cmp_Or_int.calls 5 (some ⟨g, 0, none⟩) 2 [a, b] _ w (Kd.C_of_reads (d := (0 : Int)) (h1 := fun _ => rfl) hr) (by simp) (or_two a b)).mono (fun e w' ⟨he, hd⟩ => ⟨he, hd.out⟩)

set_option maxRecDepth 100000 in
set_option maxHeartbeats 2000000 in
theorem closure (x y : Int × Int) (W : World) : Calls Try.prog 43 #[.agg #[.int .i64 x.1, .int .u64 x.2], .agg #[.int .i64 y.1, .int .u64 y.2]] W fun e w' => e = .returned (.int .i64 (cf x y)) ∧ ∃ q os', w' = grow (W.drewN q) os' := by
  obtain ⟨x1, x2⟩ := x
  obtain ⟨y1, y2⟩ := y
  dsimp only
  go_enter Try.func43, Try.ntmps43
  go_wp2
  have c1 : ((W.alloc (.cells #[.int .i64 x1, .int .u64 x2] 61)).alloc (.cells #[.int .i64 y1, .int .u64 y2] 61)).cell? ⟨W.heap.size, 0, none⟩ = some (.int .i64 x1) := by go_simp
  have c2 : ((W.alloc (.cells #[.int .i64 x1, .int .u64 x2] 61)).alloc (.cells #[.int .i64 y1, .int .u64 y2] 61)).cell? ⟨W.heap.size, 1, none⟩ = some (.int .u64 x2) := by go_simp
  have c3 : ((W.alloc (.cells #[.int .i64 x1, .int .u64 x2] 61)).alloc (.cells #[.int .i64 y1, .int .u64 y2] 61)).cell? ⟨W.heap.size + 1, 0, none⟩ = some (.int .i64 y1) := by go_simp
  have c4 : ((W.alloc (.cells #[.int .i64 x1, .int .u64 x2] 61)).alloc (.cells #[.int .i64 y1, .int .u64 y2] 61)).cell? ⟨W.heap.size + 1, 1, none⟩ = some (.int .u64 y2) := by go_simp
  have hw2 : ((W.alloc (.cells #[.int .i64 x1, .int .u64 x2] 61)).alloc (.cells #[.int .i64 y1, .int .u64 y2] 61)) = grow W #[.cells #[.int .i64 x1, .int .u64 x2] 61, .cells #[.int .i64 y1, .int .u64 y2] 61] := by
    rw [alloc_eq_grow, alloc_eq_grow, grow_grow]; rfl
  generalize ((W.alloc (.cells #[.int .i64 x1, .int .u64 x2] 61)).alloc (.cells #[.int .i64 y1, .int .u64 y2] 61)) = W1 at c1 c2 c3 c4 hw2 ⊢
  have HW2 := Lib.hid hw2
  clear hw2
  refine wp_region_still_tail 10 (by kernel_rfl) (by kernel_rfl) ?_
  simp only [List.take_succ_cons, List.take_zero, List.drop_succ_cons, List.drop_zero]
  change wpStill _ _ W1.drew _ _ _
  repeat still_step
  still_call (cmpU _ _ _)
  repeat still_step
  still_call (cmpI _ _ _)
  refine wpStill_nil ?_
  change wpList _ _ _ _ _ W1.drew
  go_wp2_with (go_at_call 44; refine (or2 (cmpV y2 x2) (cmpV x1 y1) _ _ (by constructor <;> go_simp)).mono ?_; rintro e w' ⟨rfl, n, rfl⟩)
  go_ret
  refine ⟨rfl, 1 + n, #[.cells #[.int .i64 x1, .int .u64 x2] 61, .cells #[.int .i64 y1, .int .u64 y2] 61] ++ #[.cells #[.int .i64 (cmpV y2 x2), .int .i64 (cmpV x1 y1)] 3], ?_⟩
  rw [HW2.out, alloc_eq_grow, grow_grow]
  rfl

theorem lt_cf (x y : Int × Int) : ltOf cf x y = decide (y.2 < x.2 ∨ (x.2 = y.2 ∧ x.1 < y.1)) := by
  unfold ltOf cf orV cmpV
  rcases Int.lt_trichotomy y.2 x.2 with h | h | h
  · simp [h]
  · rcases Int.lt_trichotomy x.1 y.1 with h2 | h2 | h2
    · simp [h, h2]
    · simp [h, h2]
    · have : ¬ x.1 < y.1 := by omega
      simp [h, h2, this]
  · have h1 : ¬ y.2 < x.2 := by omega
    have h3 : ¬ x.2 = y.2 := by omega
    have h4 : x.2 < y.2 := h
    simp [h1, h3, h4]

theorem swo : SWO (ltOf cf) where
  irrefl x := by rw [lt_cf]; simp
  trans x y z h1 h2 := by rw [lt_cf] at *; simp at *; omega
  ntrans x y z h1 h2 := by rw [lt_cf] at *; simp at *; omega

theorem total (x y : Int × Int) (h1 : ltOf cf x y = false) (h2 : ltOf cf y x = false) : x = y := by
  rw [lt_cf] at *
  simp at h1 h2
  obtain ⟨x1, x2⟩ := x
  obtain ⟨y1, y2⟩ := y
  simp at h1 h2
  have e2 : x2 = y2 := by omega
  subst e2
  have := h1.2 rfl
  have := h2.2 rfl
  have : x1 = y1 := by omega
  rw [this]

/-- The strongest first; of equals the lower number. -/
def sortV (xs : List (Int × Int)) : List (Int × Int) := xs.mergeSort fun x y => !(ltOf cf) y x

theorem cmpLays (blk off size : Nat) (w : World) : CmpLays Try.prog 43 #[] encS 2 cf blk off size w := fun _ _ _ _ x y => closure x y _

set_option maxHeartbeats 1000000 in
theorem sort_all (g cap base : Nat) (xs : List (Int × Int)) (w : World) (hl : xs.length ≤ 65536) (h : w.ownsRow base 61 2 (.slice (some ⟨g, 0, none⟩) xs.length cap) xs.length ((xs.map encS).flatten)) :
    Calls Try.prog 42 #[.slice (some ⟨g, 0, none⟩) xs.length cap, .func (.func 43) #[] #[]] w fun e w' => e = .returned (.tuple #[]) ∧
      w'.ownsRow base 61 2 (.slice (some ⟨g, 0, none⟩) xs.length cap) xs.length (((sortV xs).map encS).flatten) ∧ w.grownBy w' (some g) := by
  have eg : ∀ args w, (callFunc 43 args).run Try.prog w = .ok (.enter 43 args) w := enters_of Try.func43 (by kernel_rfl) rfl
  have hk : ∀ x, (encS x).length = 2 := fun _ => rfl
  have hg : g < w.heap.size := by
    rcases h.2 with ⟨h2, _⟩ | ⟨g', cap', cur, e1, hb, hh, _⟩
    · cases h2
    · cases e1; exact (Array.getElem?_eq_some_iff.1 hh).1
  have hc := AnyQ.slices_SortFunc_total Try.sortScored 2 Try.isAgg61 Try.sizeOf61 encS hk (fun x v hv => by simp [encS] at hv; rcases hv with rfl | rfl <;> rfl) cf swo 43 #[] g 0 cap xs.toArray w eg (cmpLays g 0 _ w) (SO.holdsK_of_own encS hk (by omega) h) hg (by simp; omega) total
  change Calls Try.prog 42 #[.slice (some ⟨g, 0, none⟩) xs.length cap, .func (.func 43) #[] #[]] w _ at hc
  refine hc.mono ?_
  rintro e w' ⟨rfl, n, os, rfl⟩
  refine ⟨rfl, ?_, SO.grownBy_sortedK encS n _ os⟩
  exact SO.own_sortedK encS hk (by omega) h (by simp [sortV]) n os

theorem sort_none (cap : Nat) (w : World) :
    Calls Try.prog 42 #[.slice none 0 cap, .func (.func 43) #[] #[]] w fun e w' => e = .returned (.tuple #[]) ∧ w' = w :=
  AnyF.slices_SortFunc_none Try.sortScored none cap _ w

end Go.Proofs.Ytchmknacofaepaa.RK
