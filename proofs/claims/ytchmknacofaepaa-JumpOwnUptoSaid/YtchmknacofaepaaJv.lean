import Derived.Test.YtchmknacofaepaaJf
import Derived.IntWalk
import Derived.RowKit
import Derived.PlainAid
namespace Go.Proofs.Ytchmknacofaepaa.JF
open Go.RowKit Ieee

/-- The next hash. -/
def nh (h : Int) : Int := IntKind.u64.wrap (IntKind.u64.wrap (h * 2862933555777941757) + 1)
/-- The divisor of a leap. -/
def dv (h : Int) : Int := h / 8589934592 + 1
/-- Where a leap comes to. -/
def na (h at_ : Int) : Int := (leapN (at_ + 1).toNat (dv h).toNat : Nat)

/-- The way from a place on, with so many leaps at the most. -/
def wayL : Nat → Int → Int → Int → List Int
  | 0, _, _, _ => []
  | k + 1, h, a, b => if a < b then a :: wayL k (nh h) (na (nh h) a) b else []

/-- P3.2: the way of a hash. -/
def wayV (h b : Int) : List Int := if b < 1 ∨ 1048576 < b then [] else wayL b.toNat h 0 b
/-- P3.2: the bucket. -/
def jumpV (h b : Int) : Int := (wayV h b).getLast?.getD (-1)

theorem nh_bd (h : Int) : 0 ≤ nh h ∧ nh h ≤ 18446744073709551615 := by
  unfold nh
  generalize IntKind.u64.wrap (h * 2862933555777941757) + 1 = x
  rw [IntKind.wrap_u64]; omega

theorem dv_bd {h : Int} (h0 : 0 ≤ h) (h1 : h ≤ 18446744073709551615) : 1 ≤ dv h ∧ dv h ≤ 2147483648 := by unfold dv; omega

theorem na_bd {h a : Int} (h0 : 0 ≤ h) (h1 : h ≤ 18446744073709551615) (a0 : 0 ≤ a) (a1 : a < 1048576) : a + 1 ≤ na h a ∧ na h a ≤ 9007199254740992 := by
  obtain ⟨d0, d1⟩ := dv_bd h0 h1
  have g := leapN_ge (a + 1).toNat (dv h).toNat (by omega) (by omega) (by omega) (by omega)
  have l := leapN_lt (a + 1).toNat (dv h).toNat (by omega) (by omega) (by omega) (by omega)
  unfold na
  omega

theorem wayL_done {k : Nat} {h a b : Int} (hab : b ≤ a) : wayL k h a b = [] := by
  cases k with
  | zero => rfl
  | succ k => show (if a < b then _ else _) = _; rw [if_neg (by omega)]

theorem wayL_step {k : Nat} {h a b : Int} (hab : a < b) : wayL (k + 1) h a b = a :: wayL k (nh h) (na (nh h) a) b := by
  show (if a < b then _ else _) = _; rw [if_pos hab]

/-- Enough is enough. -/
theorem wayL_more : ∀ (k m : Nat) (h a b : Int), 0 ≤ a → b ≤ 1048576 → b - a ≤ k → b - a ≤ m → wayL k h a b = wayL m h a b
  | 0, m, h, a, b, _, _, hk, _ => by rw [wayL_done (by omega), wayL_done (by omega)]
  | k + 1, 0, h, a, b, _, _, _, hm => by rw [wayL_done (by omega), wayL_done (by omega)]
  | k + 1, m + 1, h, a, b, a0, hb, hk, hm => by
    by_cases c : a < b
    · rw [wayL_step c, wayL_step c]
      obtain ⟨n0, n1⟩ := nh_bd h
      obtain ⟨g, _⟩ := na_bd n0 n1 a0 (by omega : a < 1048576)
      rw [wayL_more k m (nh h) (na (nh h) a) b (by omega) hb (by omega) (by omega)]
    · rw [wayL_done (by omega), wayL_done (by omega)]

theorem wayL_length : ∀ (k : Nat) (h a b : Int), 0 ≤ a → b ≤ 1048576 → ((wayL k h a b).length : Int) ≤ max (b - a) 0
  | 0, h, a, b, _, _ => by show (0 : Int) ≤ _; omega
  | k + 1, h, a, b, a0, hb => by
    by_cases c : a < b
    · rw [wayL_step c]
      obtain ⟨n0, n1⟩ := nh_bd h
      obtain ⟨g, _⟩ := na_bd n0 n1 a0 (by omega : a < 1048576)
      have := wayL_length k (nh h) (na (nh h) a) b (by omega) hb
      simp only [List.length_cons]
      omega
    · rw [wayL_done (by omega)]; show (0 : Int) ≤ _; omega

theorem wayL_bd : ∀ (k : Nat) (h a b : Int), 0 ≤ a → b ≤ 1048576 → ∀ x ∈ wayL k h a b, a ≤ x ∧ x < b
  | 0, h, a, b, _, _ => by intro x hx; cases hx
  | k + 1, h, a, b, a0, hb => by
    intro x hx
    by_cases c : a < b
    · rw [wayL_step c] at hx
      obtain ⟨n0, n1⟩ := nh_bd h
      obtain ⟨g, _⟩ := na_bd n0 n1 a0 (by omega : a < 1048576)
      rcases List.mem_cons.1 hx with rfl | hx
      · exact ⟨Int.le_refl _, c⟩
      · have := wayL_bd k (nh h) (na (nh h) a) b (by omega) hb x hx
        omega
    · rw [wayL_done (by omega)] at hx; cases hx

theorem wayV_length (h b : Int) : (wayV h b).length ≤ 1048576 := by
  unfold wayV
  split
  · exact Nat.zero_le _
  · have := wayL_length b.toNat h 0 b (Int.le_refl _) (by omega)
    omega

/-- The words of a leap. -/
theorem leap_words {h a : Int} (h0 : 0 ≤ h) (h1 : h ≤ 18446744073709551615) (a0 : 0 ≤ a) (a1 : a < 1048576) :
    ∃ r p, floatBits .quo .f64 4746794007248502784 (floatOfInt .f64 (dv h)) = some r ∧ floatBits .mul .f64 (floatOfInt .f64 (a + 1)) r = some p ∧ floatToIntVal .f64 p .i64 = some (na h a) := by
  obtain ⟨d0, d1⟩ := dv_bd h0 h1
  obtain ⟨b0, b1⟩ := na_bd h0 h1 a0 a1
  obtain ⟨r, hr, hrr⟩ := read_quo (dv h).toNat (by omega) (by omega)
  obtain ⟨p, hp, hpp⟩ := int_mul (a + 1).toNat (dv h).toNat r (by omega) (by omega) (by omega) (by omega) hrr
  have e1 : ((dv h).toNat : Int) = dv h := by omega
  have e2 : ((a + 1).toNat : Int) = a + 1 := by omega
  rw [e1] at hr
  rw [e2] at hp
  refine ⟨r, p, hr, hp, ?_⟩
  unfold floatToIntVal
  have e3 : (FloatKind.f64.decode p).toInt .zero = some (na h a) := hpp
  rw [e3]
  have c1 : IntKind.i64.min = -9223372036854775808 := rfl
  have c2 : IntKind.i64.max = 9223372036854775807 := rfl
  simp only [c1, c2]
  rw [if_pos ⟨by omega, by omega⟩]

end Go.Proofs.Ytchmknacofaepaa.JF
