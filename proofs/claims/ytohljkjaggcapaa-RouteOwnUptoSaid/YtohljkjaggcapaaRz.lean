import Derived.Test.YtohljkjaggcapaaRt
/-! A nil route: what each call answers. -/
namespace Go.Proofs.Ytohljkjaggcapaa.RT
open Go.RowKit Go.Proofs.YtohljkjaggcapaaW.PrintWords Go.Proofs.YtohljkjaggcapaaW.PrintLast Go.Proofs.Ytohljkjaggcapaa.PJ Go.Proofs.Ytohljkjaggcapaa.JF Go.Proofs.Ytohljkjaggcapaa.JQ Go.Proofs.Ytohljkjaggcapaa.MV
set_option linter.unusedVariables false
set_option linter.unusedSimpArgs false
theorem is_nil (s v : Int) (w : World) : Calls Try.prog 23 #[.pointer none, .int .i64 s, .int .i64 v] w fun e w' => e = .returned (.bool false) ∧ Drawn0 w w' := by
  go_enter Try.func23, Try.ntmps23
  go_wp2
  repeat (go_quiet (fail); try go_wp2)
  go_ret
  exact ⟨by simp, by repeat (first | exact Drawn0.refl _ | apply Drawn0.step)⟩
theorem where_nil (s : Int) (w : World) : Calls Try.prog 14 #[.pointer none, .int .i64 s] w fun e w' => e = .returned (.int .i64 (-1)) ∧ Below w.heap.size w w' := by
  go_enter Try.func14, Try.ntmps14
  go_wp2_with (go_at_call 23; refine (is_nil s 0 _).mono ?_; rintro e w1 ⟨rfl, k1, rfl⟩)
  go_ret
  exact ⟨rfl, by repeat (first | exact Below.refl _ _ | apply below_drew1 | exact Drawn0.below ⟨_, rfl⟩)⟩
theorem fine_nil (s v : Int) (w : World) : Calls Try.prog 12 #[.pointer none, .int .i64 s, .int .i64 v] w fun e w' => e = .returned (.bool false) ∧ Drawn0 w w' := by
  go_enter Try.func12, Try.ntmps12
  go_wp2_with (go_at_call 23; refine (is_nil s v _).mono ?_; rintro e w1 ⟨rfl, k1, rfl⟩)
  go_ret
  exact ⟨rfl, by repeat (first | exact Drawn0.refl _ | apply Drawn0.step)⟩
theorem hint_nil (s v : Int) (w : World) : Calls Try.prog 13 #[.pointer none, .int .i64 s, .int .i64 v] w fun e w' => e = .returned (.bool false) ∧ Drawn0 w w' := by
  go_enter Try.func13, Try.ntmps13
  go_wp2_with (go_at_call 23; refine (is_nil s v _).mono ?_; rintro e w1 ⟨rfl, k1, rfl⟩)
  go_ret
  exact ⟨rfl, by repeat (first | exact Drawn0.refl _ | apply Drawn0.step)⟩
theorem trail_nil (s : Int) (w : World) : Calls Try.prog 16 #[.pointer none, .int .i64 s] w fun e w' => e = .returned nilS ∧ Drawn0 w w' := by
  go_enter Try.func16, Try.ntmps16
  go_wp2
  go_ret
  exact ⟨rfl, by repeat (first | exact Drawn0.refl _ | apply Drawn0.step)⟩
theorem at_nil (s : Int) (w : World) : Calls Try.prog 18 #[.pointer none, .int .i64 s] w fun e w' => e = .returned nilS ∧ Drawn0 w w' := by
  go_enter Try.func18, Try.ntmps18
  go_wp2
  go_ret
  exact ⟨rfl, by repeat (first | exact Drawn0.refl _ | apply Drawn0.step)⟩
theorem shard_nil (A : Option Addr) (n c : Nat) (w : World) : Calls Try.prog 17 #[.pointer none, .slice A n c] w fun e w' => e = .returned (.int .i64 (-1)) ∧ Drawn0 w w' := by
  go_enter Try.func17, Try.ntmps17
  go_wp2
  go_ret
  exact ⟨rfl, by repeat (first | exact Drawn0.refl _ | apply Drawn0.step)⟩
end Go.Proofs.Ytohljkjaggcapaa.RT
