import Derived.Test.YtchmknacofaepaaJa
import Derived.Test.YtchmknacofaepaaWWords
namespace Go.Proofs.Ytchmknacofaepaa.JP
open Go.RowKit Go.Proofs.YtchmknacofaepaaW.PrintWords Go.Proofs.Ytchmknacofaepaa.JF Go.Proofs.Ytchmknacofaepaa.JW

theorem R_of_own {k : IntKind} {e : TypeId} {W : World} {base : Nat} {v : Value} {xs : List Int} (h : W.ownsRow base e 1 v xs.length (xs.map (Value.int k))) :
    Kd.R (Kd.int k) e W base (fun _ => True) v xs := by
  refine ⟨fun _ _ => trivial, xs.map (Value.int k), h, ⟨by simp [Kd.int, Kd.scalar], fun j p hj => ?_⟩⟩
  have hl := (List.getElem?_eq_some_iff.1 hj).1
  show ((xs.map (Value.int k)).drop (j * 1)).take 1 = [Value.int k p]
  rw [Nat.mul_one, List.drop_eq_getElem_cons (by simpa using hl)]
  simp [List.getElem_map, (List.getElem?_eq_some_iff.1 hj).2]

/-- The bounds of a hash and of a number. -/
def fits (h b : Int) : Bool := decide (0 ≤ h) && decide (h ≤ 18446744073709551615) && decide (-9223372036854775808 ≤ b) && decide (b ≤ 9223372036854775807)
theorem fits_of {h b : Int} (e : fits h b = true) : 0 ≤ h ∧ h ≤ 18446744073709551615 ∧ -9223372036854775808 ≤ b ∧ b ≤ 9223372036854775807 := by
  unfold fits at e; simpa [and_assoc] using e
theorem fits_mk {h b : Int} (h0 : 0 ≤ h) (h1 : h ≤ 18446744073709551615) (b0 : -9223372036854775808 ≤ b) (b1 : b ≤ 9223372036854775807) : fits h b = true := by
  unfold fits; simp [h0, h1, b0, b1]

def jump_Jump.f (a0 a1 : Int) : Option Int := if fits a0 a1 = true then some (jumpV a0 a1) else none
theorem jump_Jump.calls (a0 : Int) (a1 : Int) (r : Int) (w : World) (h : jump_Jump.f a0 a1 = some r) :
    Calls Try.prog 10 #[.int .u64 a0, .int .i64 a1] w fun e w' => e = .returned (.int .i64 r) ∧ Below w.heap.size w w' := by
  unfold jump_Jump.f at h
  split at h
  · rename_i hf
    obtain ⟨h0, h1, b0, b1⟩ := fits_of hf
    obtain rfl := Option.some.inj h
    exact callsIn_wide.1 (jump_in Fence.wide 3 trivial trivial trivial rfl (by omega) a0 a1 h0 h1 b0 b1 w)
  · cases h

def jump_Way.f (a0 a1 : Int) : Option (List Int) := if fits a0 a1 = true then some (wayV a0 a1) else none
theorem jump_Way.calls (a0 : Int) (a1 : Int) (r : List Int) (w : World) (h : jump_Way.f a0 a1 = some r) :
    Calls Try.prog 13 #[.int .u64 a0, .int .i64 a1] w fun e w' => ∃ v0_ : Value, e = .returned (v0_) ∧ Kd.R (Kd.int .i64) 3 w' w.heap.size (fun _ => True) v0_ r ∧ Below w.heap.size w w' := by
  unfold jump_Way.f at h
  split at h
  · rename_i hf
    obtain ⟨h0, h1, b0, b1⟩ := fits_of hf
    obtain rfl := Option.some.inj h
    refine (callsIn_wide.1 (Way_in Fence.wide 5 trivial trivial trivial trivial trivial rfl (by omega) a0 a1 h0 h1 b0 b1 w)).mono ?_
    rintro e w' ⟨v, rfl, hown, hbel⟩
    exact ⟨v, rfl, R_of_own hown, hbel⟩
  · cases h

end Go.Proofs.Ytchmknacofaepaa.JP
