import Derived.Laws.FloatArith
namespace Go.Proofs.Ytchmknacofaepaa.JF
open Ieee

/-- 'a / 2^j', rounded to nearest, ties to even. -/
def rne (a j : Nat) : Nat := a / 2 ^ j + (if 2 ^ j < 2 * (a % 2 ^ j) ∨ (2 ^ j = 2 * (a % 2 ^ j) ∧ a / 2 ^ j % 2 = 1) then 1 else 0)

theorem rne_zero (a : Nat) : rne a 0 = a := by
  unfold rne; simp [Nat.mod_one]

theorem cut_even (n drop : Nat) (h : drop ≤ n.log2 + 2) : Toward.even.cut false n drop = rne n drop := by
  unfold Toward.cut rne
  rw [Nat.min_eq_left h]
  simp only [Nat.one_shiftLeft]
  congr 1
  by_cases c : 2 ^ drop < 2 * (n % 2 ^ drop)
  · simp [c]
  · by_cases d : 2 ^ drop = 2 * (n % 2 ^ drop)
    · by_cases e : n / 2 ^ drop % 2 = 1
      · simp [d.symm, e]
      · have e' : n / 2 ^ drop % 2 = 0 := by omega
        simp [d.symm, e']
    · simp [c, d]

theorem cut_zero (n drop : Nat) (h : drop ≤ n.log2 + 2) : Toward.zero.cut false n drop = n / 2 ^ drop := by
  unfold Toward.cut
  rw [Nat.min_eq_left h]
  simp only [Nat.one_shiftLeft]
  simp

theorem rne_le (a j : Nat) : rne a j ≤ a / 2 ^ j + 1 := by unfold rne; split <;> omega
theorem le_rne (a j : Nat) : a / 2 ^ j ≤ rne a j := by unfold rne; omega

/-- What is read of a word that 'nearest' wrote: 'kept' has 53 digits, or is 2^53. -/
theorem read_word (last : Int) (kept : Nat) (h1 : -1000 ≤ last) (h2 : last ≤ 900) (k1 : 2 ^ 52 ≤ kept) (k2 : kept ≤ 2 ^ 53) :
    double.read (double.word false (min ((last - double.leastPlace).toNat * double.binade + kept) double.infRung)) =
      if kept < 2 ^ 53 then .number false kept last else .number false (2 ^ 52) (last + 1) := by
  have e1 : double.leastPlace = -1074 := by decide
  have e2 : double.binade = 2 ^ 52 := rfl
  have e3 : double.infRung = 2047 * 2 ^ 52 := by decide
  have e4 : double.signWeight = 2 ^ 63 := rfl
  obtain ⟨p, hp⟩ : ∃ p : Nat, (last - double.leastPlace).toNat = p ∧ (p : Int) = last + 1074 := ⟨_, rfl, by rw [e1]; omega⟩
  obtain ⟨hp, hp'⟩ := hp
  rw [hp]
  have hr : p * 2 ^ 52 + kept < 2047 * 2 ^ 52 := by omega
  rw [e2, e3, Nat.min_eq_left (by omega)]
  unfold Format.word Format.read
  simp only [e4, e2, e3, e1]
  have a1 : (if False then 2 ^ 63 + (p * 2 ^ 52 + kept) else p * 2 ^ 52 + kept) = p * 2 ^ 52 + kept := by simp
  have a2 : (p * 2 ^ 52 + kept) / 2 ^ 63 = 0 := Nat.div_eq_of_lt (by omega)
  have a3 : (p * 2 ^ 52 + kept) % 2 ^ 63 = p * 2 ^ 52 + kept := Nat.mod_eq_of_lt (by omega)
  simp only [Bool.false_eq_true, if_false, a2, a3]
  rw [if_neg (by omega), if_pos (by omega)]
  by_cases c : kept < 2 ^ 53
  · rw [if_pos c]
    have b1 : (p * 2 ^ 52 + kept) % 2 ^ 52 = kept - 2 ^ 52 := by omega
    have b2 : (p * 2 ^ 52 + kept) / 2 ^ 52 = p + 1 := by omega
    rw [b1, b2]
    have : 2 ^ 52 + (kept - 2 ^ 52) = kept := by omega
    rw [this]
    have : (-1074 : Int) + ((p + 1 - 1 : Nat) : Int) = last := by omega
    rw [this]; simp
  · rw [if_neg c]
    have b1 : (p * 2 ^ 52 + kept) % 2 ^ 52 = 0 := by omega
    have b2 : (p * 2 ^ 52 + kept) / 2 ^ 52 = p + 2 := by omega
    rw [b1, b2]
    have : (-1074 : Int) + ((p + 2 - 1 : Nat) : Int) = last + 1 := by omega
    rw [this]; simp

theorem log2_spec (a : Nat) (h : a ≠ 0) : 2 ^ a.log2 ≤ a ∧ a < 2 ^ (a.log2 + 1) := ⟨Nat.log2_self_le h, Nat.lt_log2_self⟩

/-- A whole number of at most 53 digits, times a power of two, is written as it is. -/
theorem nearest_small (mag : Nat) (place : Int) (h0 : mag ≠ 0) (hl : mag.log2 ≤ 52) (h1 : -900 ≤ place) (h2 : place ≤ 800) :
    double.read (double.nearest false mag place) = .number false (mag * 2 ^ (52 - mag.log2)) (place + mag.log2 - 52) := by
  obtain ⟨s1, s2⟩ := log2_spec mag h0
  have k1 : 2 ^ 52 ≤ mag * 2 ^ (52 - mag.log2) := by
    have := Nat.mul_le_mul_right (2 ^ (52 - mag.log2)) s1
    rwa [← Nat.pow_add, show mag.log2 + (52 - mag.log2) = 52 by omega] at this
  have k2 : mag * 2 ^ (52 - mag.log2) < 2 ^ 53 := by
    have := Nat.mul_lt_mul_of_pos_right s2 (Nat.two_pow_pos (52 - mag.log2))
    rwa [← Nat.pow_add, show mag.log2 + 1 + (52 - mag.log2) = 53 by omega] at this
  unfold Format.nearest
  rw [if_neg h0]
  have e1 : double.leastPlace = -1074 := by decide
  have e2 : (double.fractionBits : Int) = 52 := rfl
  have em : max (place + (mag.log2 : Int) - (double.fractionBits : Int)) double.leastPlace = place + mag.log2 - 52 := by rw [e1, e2]; omega
  simp only [em]
  have d1 : (place + (mag.log2 : Int) - 52 - place).toNat = 0 := by omega
  have d2 : (place - (place + (mag.log2 : Int) - 52)).toNat = 52 - mag.log2 := by omega
  rw [d1, d2, cut_even _ _ (Nat.zero_le _), rne_zero, Nat.shiftLeft_eq]
  rw [read_word _ _ (by omega) (by omega) k1 (by omega), if_pos k2]

/-- A greater one is rounded. -/
theorem nearest_great (mag : Nat) (place : Int) (hl : 52 ≤ mag.log2) (h1 : -900 ≤ place) (h2 : place + mag.log2 ≤ 800) :
    double.read (double.nearest false mag place) =
      if rne mag (mag.log2 - 52) < 2 ^ 53 then .number false (rne mag (mag.log2 - 52)) (place + mag.log2 - 52) else .number false (2 ^ 52) (place + mag.log2 - 52 + 1) := by
  have h0 : mag ≠ 0 := by rintro rfl; simp at hl
  obtain ⟨s1, s2⟩ := log2_spec mag h0
  have q1 : 2 ^ 52 ≤ mag / 2 ^ (mag.log2 - 52) := by
    rw [Nat.le_div_iff_mul_le (Nat.two_pow_pos _), ← Nat.pow_add, show 52 + (mag.log2 - 52) = mag.log2 by omega]; exact s1
  have q2 : mag / 2 ^ (mag.log2 - 52) < 2 ^ 53 := by
    rw [Nat.div_lt_iff_lt_mul (Nat.two_pow_pos _), ← Nat.pow_add, show 53 + (mag.log2 - 52) = mag.log2 + 1 by omega]; exact s2
  have r1 := le_rne mag (mag.log2 - 52)
  have r2 := rne_le mag (mag.log2 - 52)
  unfold Format.nearest
  rw [if_neg h0]
  have e1 : double.leastPlace = -1074 := by decide
  have e2 : (double.fractionBits : Int) = 52 := rfl
  have em : max (place + (mag.log2 : Int) - (double.fractionBits : Int)) double.leastPlace = place + mag.log2 - 52 := by rw [e1, e2]; omega
  simp only [em]
  have d1 : (place + (mag.log2 : Int) - 52 - place).toNat = mag.log2 - 52 := by omega
  have d2 : (place - (place + (mag.log2 : Int) - 52)).toNat = 0 := by omega
  rw [d1, d2, Nat.shiftLeft_zero, cut_even _ _ (by omega)]
  rw [read_word _ _ (by omega) (by omega) (by omega) (by omega)]

/-- 'float64(n)'. -/
theorem read_ofInt (n : Nat) (h0 : n ≠ 0) (hl : n.log2 ≤ 52) : double.read (Go.floatOfInt .f64 (n : Int)) = .number false (n * 2 ^ (52 - n.log2)) (n.log2 - 52) := by
  have e : Go.floatOfInt .f64 (n : Int) = double.nearest false n 0 := by
    unfold Go.floatOfInt Go.FloatKind.nearest Go.FloatKind.encode Go.FloatKind.format Format.write
    have : decide ((n : Int) < 0) = false := decide_eq_false (by omega)
    simp only [this, Int.natAbs_natCast]
  rw [e, nearest_small n 0 h0 hl (by omega) (by omega)]
  simp

theorem read_two31 : double.read 4746794007248502784 = .number false (2 ^ 52) (-21) := by decide

theorem sticky_core (d r q s Hh t : Nat) (hd : 0 < d) (hR : 2 * (r * Hh) = d * q + s) (hH : 0 < Hh) (hsd : s < d) (ht : t = if s ≠ 0 then 1 else 0) :
    (2 * (2 * Hh) < 2 * (2 * q + t) ↔ d < 2 * r) ∧ (2 * (2 * Hh) = 2 * (2 * q + t) ↔ d = 2 * r) := by
  have b1 : d < 2 * r ↔ d * Hh < d * q + s := by
    rw [← hR, ← Nat.mul_assoc]
    exact ⟨fun h => Nat.mul_lt_mul_of_pos_right h hH, fun h => Nat.lt_of_mul_lt_mul_right h⟩
  have b2 : d = 2 * r ↔ d * Hh = d * q + s := by
    rw [← hR, ← Nat.mul_assoc]
    exact ⟨fun h => by rw [← h], fun h => Nat.eq_of_mul_eq_mul_right hH h⟩
  rw [b1, b2]
  by_cases hs0 : s = 0
  · have ht0 : t = 0 := by rw [ht]; simp [hs0]
    subst hs0; subst ht0
    rw [Nat.add_zero, Nat.add_zero]
    have c1 : d * Hh < d * q ↔ Hh < q := ⟨fun h => Nat.lt_of_mul_lt_mul_left h, fun h => Nat.mul_lt_mul_of_pos_left h hd⟩
    have c2 : d * Hh = d * q ↔ Hh = q := ⟨fun h => Nat.eq_of_mul_eq_mul_left hd h, fun h => by rw [h]⟩
    rw [c1, c2]; constructor <;> omega
  · have ht1 : t = 1 := by rw [ht]; simp [hs0]
    subst ht1
    have c1 : d * Hh < d * q + s ↔ Hh ≤ q := by
      constructor
      · intro h
        by_cases c : Hh ≤ q
        · exact c
        · exfalso
          have : d * (q + 1) ≤ d * Hh := Nat.mul_le_mul_left d (by omega)
          rw [Nat.mul_add] at this; omega
      · intro h
        have : d * Hh ≤ d * q := Nat.mul_le_mul_left d h
        omega
    rw [c1]
    refine ⟨by omega, ⟨fun h => by omega, fun h => ?_⟩⟩
    exfalso
    have h1 : d * q < d * Hh := by omega
    have h2 : q + 1 ≤ Hh := Nat.lt_of_mul_lt_mul_left h1
    have h3 : d * (q + 1) ≤ d * Hh := Nat.mul_le_mul_left d h2
    rw [Nat.mul_add] at h3; omega

/-- Rounding of a quotient that bears a last digit for what is left over is rounding of the quotient itself. -/
theorem rne_sticky (A d j : Nat) (hd : 0 < d) (hj : 0 < j) :
    rne (2 * (A * 2 ^ j / d) + (if A * 2 ^ j % d ≠ 0 then 1 else 0)) (j + 1) =
      A / d + (if d < 2 * (A % d) ∨ (d = 2 * (A % d) ∧ A / d % 2 = 1) then 1 else 0) := by
  obtain ⟨i, rfl⟩ : ∃ i, j = i + 1 := ⟨j - 1, by omega⟩
  obtain ⟨m, hm⟩ : ∃ m, A / d = m := ⟨_, rfl⟩
  obtain ⟨r, hr⟩ : ∃ r, A % d = r := ⟨_, rfl⟩
  have hA : A = d * m + r := by rw [← hm, ← hr]; exact (Nat.div_add_mod A d).symm
  have hrd : r < d := by rw [← hr]; exact Nat.mod_lt _ hd
  obtain ⟨G, hG⟩ : ∃ G, 2 ^ (i + 1) = G := ⟨_, rfl⟩
  obtain ⟨Hh, hH⟩ : ∃ Hh, 2 ^ i = Hh := ⟨_, rfl⟩
  have hHpos : 0 < Hh := by rw [← hH]; exact Nat.two_pow_pos _
  have hGH : G = 2 * Hh := by rw [← hG, ← hH, Nat.pow_succ]; omega
  have hGG : 2 ^ (i + 1 + 1) = 2 * G := by rw [Nat.pow_succ, hG]; omega
  obtain ⟨q, hq⟩ : ∃ q, r * G / d = q := ⟨_, rfl⟩
  obtain ⟨s, hs⟩ : ∃ s, r * G % d = s := ⟨_, rfl⟩
  have hR : r * G = d * q + s := by rw [← hq, ← hs]; exact (Nat.div_add_mod _ d).symm
  have hsd : s < d := by rw [← hs]; exact Nat.mod_lt _ hd
  have hAe : A * G = d * (m * G + q) + s := by
    rw [hA, Nat.add_mul, hR, Nat.mul_add, Nat.mul_assoc]; omega
  have hq2 : q < G := by
    rw [← hq, Nat.div_lt_iff_lt_mul hd, Nat.mul_comm]
    exact Nat.mul_lt_mul_of_pos_left hrd (by omega)
  have e1 : A * G / d = m * G + q := by
    rw [hAe, Nat.add_comm, Nat.add_mul_div_left _ _ hd, Nat.div_eq_of_lt hsd, Nat.zero_add]
  have e2 : A * G % d = s := by
    rw [hAe, Nat.add_comm, Nat.add_mul_mod_self_left, Nat.mod_eq_of_lt hsd]
  rw [hG, e1, e2, hm, hr]
  obtain ⟨t, ht, ht1⟩ : ∃ t, t = (if s ≠ 0 then 1 else 0) ∧ t ≤ 1 := ⟨_, rfl, by split <;> omega⟩
  rw [← ht]
  unfold rne
  rw [hGG]
  have f0 : 2 * (m * G + q) + t = (2 * q + t) + 2 * G * m := by rw [Nat.mul_add, Nat.mul_comm m G, ← Nat.mul_assoc]; omega
  have f1 : (2 * (m * G + q) + t) / (2 * G) = m := by
    rw [f0, Nat.add_mul_div_left _ _ (by omega), Nat.div_eq_of_lt (by omega), Nat.zero_add]
  have f2 : (2 * (m * G + q) + t) % (2 * G) = 2 * q + t := by
    rw [f0, Nat.add_mul_mod_self_left, Nat.mod_eq_of_lt (by omega)]
  rw [f1, f2]
  congr 1
  obtain ⟨k1, k2⟩ := sticky_core d r q s Hh t hd (by rw [← hR, hGH, Nat.mul_left_comm]) hHpos hsd ht
  rw [← hGH] at k1 k2
  simp only [k1, k2]

/-- How many places 2^31 / d has behind the point, with 53 digits in all. -/
def cq (d : Nat) : Nat := if d = 2 ^ d.log2 then 21 + d.log2 else 22 + d.log2
/-- 2^31 / d in units of 2^-(cq d), rounded to nearest, ties to even. -/
def mq (d : Nat) : Nat := 2 ^ (31 + cq d) / d + (if d < 2 * (2 ^ (31 + cq d) % d) ∨ (d = 2 * (2 ^ (31 + cq d) % d) ∧ 2 ^ (31 + cq d) / d % 2 = 1) then 1 else 0)

theorem floor_q (d : Nat) (h0 : d ≠ 0) : 2 ^ 52 ≤ 2 ^ (31 + cq d) / d ∧ 2 ^ (31 + cq d) / d < 2 ^ 53 := by
  obtain ⟨s1, s2⟩ := log2_spec d h0
  have hd : 0 < d := by omega
  unfold cq
  by_cases e : d = 2 ^ d.log2
  · rw [if_pos e]
    have q : 2 ^ (31 + (21 + d.log2)) / d = 2 ^ 52 := by
      have : 2 ^ (31 + (21 + d.log2)) = 2 ^ 52 * d := by
        rw [show 31 + (21 + d.log2) = 52 + d.log2 by omega, Nat.pow_add, ← e]
      rw [this, Nat.mul_div_cancel _ hd]
    rw [q]; decide
  · rw [if_neg e]
    constructor
    · rw [Nat.le_div_iff_mul_le hd]
      have : 2 ^ (31 + (22 + d.log2)) = 2 ^ 52 * 2 ^ (d.log2 + 1) := by rw [← Nat.pow_add]; congr 1; omega
      rw [this]; exact Nat.mul_le_mul_left _ (by omega)
    · rw [Nat.div_lt_iff_lt_mul hd]
      have : 2 ^ (31 + (22 + d.log2)) = 2 ^ 53 * 2 ^ d.log2 := by rw [← Nat.pow_add]; congr 1; omega
      rw [this]; exact Nat.mul_lt_mul_of_pos_left (by omega) (by decide)

theorem log2_le_of {d : Nat} (h : d ≤ 2 ^ 31) : d.log2 ≤ 31 := by
  by_cases h0 : d = 0
  · subst h0; simp
  · by_cases c : d.log2 ≤ 31
    · exact c
    · have := (log2_spec d h0).1
      have : 2 ^ 32 ≤ 2 ^ d.log2 := Nat.pow_le_pow_right (by omega) (by omega)
      omega

theorem mq_bd (d : Nat) (h0 : d ≠ 0) (h : d ≤ 2 ^ 31) : 2 ^ 52 ≤ mq d ∧ mq d < 2 ^ 53 := by
  obtain ⟨f1, f2⟩ := floor_q d h0
  unfold mq
  refine ⟨by omega, ?_⟩
  split
  · rename_i hc
    by_cases e : 2 ^ (31 + cq d) / d = 2 ^ 53 - 1
    · exfalso
      have hdm := Nat.div_add_mod (2 ^ (31 + cq d)) d
      have hlt := Nat.mod_lt (2 ^ (31 + cq d)) (show d > 0 by omega)
      rw [e] at hdm
      obtain ⟨r, hr⟩ : ∃ r, 2 ^ (31 + cq d) % d = r := ⟨_, rfl⟩
      rw [hr] at hdm hlt hc
      have hr2 : d ≤ 2 * r := by omega
      have hc52 : 21 ≤ cq d := by unfold cq; split <;> omega
      obtain ⟨k, hk⟩ : ∃ k, 2 ^ (31 + cq d) = 2 ^ 52 * k := ⟨2 ^ (31 + cq d - 52), by rw [← Nat.pow_add]; congr 1; omega⟩
      rw [hk] at hdm
      omega
    · omega
  · omega

theorem log2_of {a k : Nat} (h1 : 2 ^ k ≤ a) (h2 : a < 2 ^ (k + 1)) : a.log2 = k := by
  have h0 : a ≠ 0 := by have := Nat.two_pow_pos k; omega
  exact Nat.log2_eq_iff h0 |>.2 ⟨h1, h2⟩

/-- '2^31 / float64(d)': the word's reading. -/
theorem read_quo (d : Nat) (h0 : d ≠ 0) (h : d ≤ 2 ^ 31) :
    ∃ r, double.div 4746794007248502784 (Go.floatOfInt .f64 (d : Int)) = some r ∧ double.read r = .number false (mq d) (-(cq d : Int)) := by
  have hl := log2_le_of h
  have hd : 0 < d := by omega
  obtain ⟨s1, s2⟩ := log2_spec d h0
  obtain ⟨f1, f2⟩ := floor_q d h0
  obtain ⟨m1, m2⟩ := mq_bd d h0 h
  have hn0 : d * 2 ^ (52 - d.log2) ≠ 0 := by have := Nat.mul_pos hd (Nat.two_pow_pos (52 - d.log2)); omega
  have hnl : (d * 2 ^ (52 - d.log2)).log2 = 52 := by
    refine log2_of ?_ ?_
    · have := Nat.mul_le_mul_right (2 ^ (52 - d.log2)) s1
      rwa [← Nat.pow_add, show d.log2 + (52 - d.log2) = 52 by omega] at this
    · have := Nat.mul_lt_mul_of_pos_right s2 (Nat.two_pow_pos (52 - d.log2))
      rwa [← Nat.pow_add, show d.log2 + 1 + (52 - d.log2) = 53 by omega] at this
  have e54 : double.fractionBits + 2 + (d * 2 ^ (52 - d.log2)).log2 - (2 ^ 52 : Nat).log2 = 54 := by
    rw [hnl, show (2 ^ 52 : Nat).log2 = 52 from log2_of (Nat.le_refl _) (by decide)]; rfl
  -- the quotient in d's own terms
  obtain ⟨j, hj, hjp⟩ : ∃ j, 54 + d.log2 = 31 + cq d + j ∧ 0 < j := by
    unfold cq; split
    · exact ⟨2, by omega, by omega⟩
    · exact ⟨1, by omega, by omega⟩
  have hP : (2 ^ 52 : Nat) <<< 54 = 2 ^ (31 + cq d) * 2 ^ j * 2 ^ (52 - d.log2) := by
    rw [Nat.shiftLeft_eq, ← Nat.pow_add, ← Nat.pow_add, ← Nat.pow_add]; congr 1; omega
  have hp0 : 0 < 2 ^ (52 - d.log2) := Nat.two_pow_pos _
  have hq : (2 ^ 52 : Nat) <<< 54 / (d * 2 ^ (52 - d.log2)) = 2 ^ (31 + cq d) * 2 ^ j / d := by
    rw [hP, Nat.mul_div_mul_right _ _ hp0]
  have hm : ((2 ^ 52 : Nat) <<< 54 % (d * 2 ^ (52 - d.log2)) != 0) = (2 ^ (31 + cq d) * 2 ^ j % d != 0) := by
    rw [hP, Nat.mul_mod_mul_right]
    by_cases z : 2 ^ (31 + cq d) * 2 ^ j % d = 0
    · rw [z, Nat.zero_mul]
    · have hz : 2 ^ (31 + cq d) * 2 ^ j % d * 2 ^ (52 - d.log2) ≠ 0 := Nat.mul_ne_zero z (by omega)
      rw [bne_iff_ne.2 hz, bne_iff_ne.2 z]
  obtain ⟨M, hM⟩ : ∃ M, 2 * (2 ^ (31 + cq d) * 2 ^ j / d) + (if 2 ^ (31 + cq d) * 2 ^ j % d ≠ 0 then 1 else 0) = M := ⟨_, rfl⟩
  have hMe : 2 * (2 ^ (31 + cq d) * 2 ^ j / d) + (2 ^ (31 + cq d) * 2 ^ j % d != 0).toNat = M := by
    rw [← hM]; congr 1
    by_cases z : 2 ^ (31 + cq d) * 2 ^ j % d = 0 <;> simp [z]
  have st := rne_sticky (2 ^ (31 + cq d)) d j hd hjp
  rw [hM] at st
  have hMb : 2 ^ (53 + j) ≤ M ∧ M < 2 ^ (53 + j + 1) := by
    obtain ⟨g1, g2⟩ : 2 ^ 52 * 2 ^ j ≤ 2 ^ (31 + cq d) * 2 ^ j / d ∧ 2 ^ (31 + cq d) * 2 ^ j / d < 2 ^ 53 * 2 ^ j := by
      constructor
      · rw [Nat.le_div_iff_mul_le hd]
        have := (Nat.le_div_iff_mul_le hd).1 f1
        rw [Nat.mul_right_comm]; exact Nat.mul_le_mul_right _ this
      · rw [Nat.div_lt_iff_lt_mul hd]
        have := (Nat.div_lt_iff_lt_mul hd).1 f2
        rw [Nat.mul_right_comm]; exact Nat.mul_lt_mul_of_pos_right this (Nat.two_pow_pos _)
    have p1 : 2 ^ (53 + j) = 2 * (2 ^ 52 * 2 ^ j) := by rw [Nat.pow_add]; omega
    have p2 : 2 ^ (53 + j + 1) = 2 * (2 ^ 53 * 2 ^ j) := by rw [Nat.pow_succ, Nat.pow_add]; omega
    rw [p1, p2, ← hM]
    constructor
    · omega
    · split <;> omega
  have hMl : M.log2 = 53 + j := log2_of hMb.1 hMb.2
  have hst : rne M (M.log2 - 52) = mq d := by rw [hMl, show 53 + j - 52 = j + 1 by omega, st]; rfl
  have hdiv : double.div 4746794007248502784 (Go.floatOfInt .f64 (d : Int)) = some (double.nearest false M (-21 - ((d.log2 : Int) - 52) - (54 : Nat) - 1)) := by
    unfold Format.div
    rw [read_two31, read_ofInt d h0 (by omega)]
    unfold Datum.quotient
    simp only
    rw [if_neg hn0]
    simp only [e54]
    rw [hq, hm, hMe]
    rfl
  refine ⟨_, hdiv, ?_⟩
  rw [nearest_great M _ (by omega) (by omega) (by omega), hst, if_pos m2]
  congr 1
  omega

/-- The bits that are cut off the product. -/
def cut (n d : Nat) : Nat := (n * mq d).log2 - 52
/-- 'int(float64(n) * leap)'. -/
def leapN (n d : Nat) : Nat := rne (n * mq d) (cut n d) / 2 ^ (cq d - cut n d)

theorem cq_ge (d : Nat) : 21 ≤ cq d := by unfold cq; split <;> omega
theorem cq_le (d : Nat) (h : d ≤ 2 ^ 31) : cq d ≤ 53 := by have := log2_le_of h; unfold cq; split <;> omega

theorem prod_bd (n d : Nat) (hn : n ≠ 0) (hn2 : n ≤ 2 ^ 20) (h0 : d ≠ 0) (h : d ≤ 2 ^ 31) : 2 ^ 52 ≤ n * mq d ∧ n * mq d < 2 ^ 73 ∧ 52 ≤ (n * mq d).log2 ∧ (n * mq d).log2 ≤ 72 := by
  obtain ⟨m1, m2⟩ := mq_bd d h0 h
  have a1 : 2 ^ 52 ≤ n * mq d := by
    have : 1 * mq d ≤ n * mq d := Nat.mul_le_mul_right _ (by omega)
    omega
  have a2 : n * mq d < 2 ^ 73 := by
    have h1 : n * mq d ≤ 2 ^ 20 * mq d := Nat.mul_le_mul_right _ hn2
    omega
  have hne : n * mq d ≠ 0 := by omega
  obtain ⟨s1, s2⟩ := log2_spec _ hne
  refine ⟨a1, a2, ?_, ?_⟩
  · by_cases c : 52 ≤ (n * mq d).log2
    · exact c
    · have : 2 ^ ((n * mq d).log2 + 1) ≤ 2 ^ 52 := Nat.pow_le_pow_right (by omega) (by omega)
      omega
  · by_cases c : (n * mq d).log2 ≤ 72
    · exact c
    · have : 2 ^ 73 ≤ 2 ^ (n * mq d).log2 := Nat.pow_le_pow_right (by omega) (by omega)
      omega

theorem rne_scale (x t k : Nat) : rne (x * 2 ^ t) (k + t) = rne x k := by
  have hp : 0 < 2 ^ t := Nat.two_pow_pos _
  unfold rne
  rw [Nat.pow_add, Nat.mul_div_mul_right _ _ hp, Nat.mul_mod_mul_right]
  congr 1
  have e1 : (2 ^ k * 2 ^ t < 2 * (x % 2 ^ k * 2 ^ t)) ↔ (2 ^ k < 2 * (x % 2 ^ k)) := by
    rw [← Nat.mul_assoc]; exact ⟨fun h => Nat.lt_of_mul_lt_mul_right h, fun h => Nat.mul_lt_mul_of_pos_right h hp⟩
  have e2 : (2 ^ k * 2 ^ t = 2 * (x % 2 ^ k * 2 ^ t)) ↔ (2 ^ k = 2 * (x % 2 ^ k)) := by
    rw [← Nat.mul_assoc]; exact ⟨fun h => Nat.eq_of_mul_eq_mul_right hp h, fun h => congrArg (· * 2 ^ t) h⟩
  simp only [e1, e2]

theorem rne_bd (n d : Nat) (hn : n ≠ 0) (hn2 : n ≤ 2 ^ 20) (h0 : d ≠ 0) (h : d ≤ 2 ^ 31) : 2 ^ 52 ≤ rne (n * mq d) (cut n d) ∧ rne (n * mq d) (cut n d) ≤ 2 ^ 53 := by
  obtain ⟨a1, a2, l1, l2⟩ := prod_bd n d hn hn2 h0 h
  have hne : n * mq d ≠ 0 := by omega
  obtain ⟨s1, s2⟩ := log2_spec _ hne
  have r1 := le_rne (n * mq d) (cut n d)
  have r2 := rne_le (n * mq d) (cut n d)
  have q1 : 2 ^ 52 ≤ n * mq d / 2 ^ cut n d := by
    rw [Nat.le_div_iff_mul_le (Nat.two_pow_pos _), ← Nat.pow_add, show 52 + cut n d = (n * mq d).log2 by unfold cut; omega]; exact s1
  have q2 : n * mq d / 2 ^ cut n d < 2 ^ 53 := by
    rw [Nat.div_lt_iff_lt_mul (Nat.two_pow_pos _), ← Nat.pow_add, show 53 + cut n d = (n * mq d).log2 + 1 by unfold cut; omega]; exact s2
  omega

theorem pow_split {c i j : Nat} (h : c = i + j) : 2 ^ c = 2 ^ i * 2 ^ j := by rw [h, Nat.pow_add]

/-- 'int(float64(n) * leap)', 'leap' a word that is read as 2^31 / d. -/
theorem int_mul (n d r : Nat) (hn : n ≠ 0) (hn2 : n ≤ 2 ^ 20) (h0 : d ≠ 0) (h : d ≤ 2 ^ 31) (hr : double.read r = .number false (mq d) (-(cq d : Int))) :
    ∃ p, double.mul (Go.floatOfInt .f64 (n : Int)) r = some p ∧ (double.read p).toInt .zero = some (leapN n d : Int) := by
  obtain ⟨a1, a2, l1, l2⟩ := prod_bd n d hn hn2 h0 h
  obtain ⟨v1, v2⟩ := rne_bd n d hn hn2 h0 h
  have c1 := cq_ge d
  have c2 := cq_le d h
  have hln : n.log2 ≤ 20 := by
    by_cases c : n.log2 ≤ 20
    · exact c
    · have := (log2_spec n hn).1
      have : 2 ^ 21 ≤ 2 ^ n.log2 := Nat.pow_le_pow_right (by omega) (by omega)
      omega
  have hM : n * 2 ^ (52 - n.log2) * mq d = n * mq d * 2 ^ (52 - n.log2) := by rw [Nat.mul_right_comm]
  have hne : n * mq d ≠ 0 := by omega
  obtain ⟨s1, s2⟩ := log2_spec _ hne
  have hMl : (n * mq d * 2 ^ (52 - n.log2)).log2 = (n * mq d).log2 + (52 - n.log2) := by
    refine log2_of ?_ ?_
    · rw [Nat.pow_add]; exact Nat.mul_le_mul_right _ s1
    · rw [show (n * mq d).log2 + (52 - n.log2) + 1 = (n * mq d).log2 + 1 + (52 - n.log2) by omega, Nat.pow_add]; exact Nat.mul_lt_mul_of_pos_right s2 (Nat.two_pow_pos _)
  have hmul : double.mul (Go.floatOfInt .f64 (n : Int)) r = some (double.nearest false (n * mq d * 2 ^ (52 - n.log2)) ((n.log2 : Int) - 52 + -(cq d : Int))) := by
    unfold Format.mul
    rw [hr, read_ofInt n hn (by omega)]
    unfold Datum.product
    simp only [hM]
    rfl
  refine ⟨_, hmul, ?_⟩
  have hcut : (n * mq d).log2 = cut n d + 52 := by unfold cut; omega
  have hk : rne (n * mq d * 2 ^ (52 - n.log2)) ((n * mq d * 2 ^ (52 - n.log2)).log2 - 52) = rne (n * mq d) (cut n d) := by
    rw [hMl, show (n * mq d).log2 + (52 - n.log2) - 52 = cut n d + (52 - n.log2) by omega, rne_scale]
  rw [nearest_great _ _ (by omega) (by omega) (by omega), hk]
  by_cases e : rne (n * mq d) (cut n d) < 2 ^ 53
  · rw [if_pos e]
    unfold Datum.toInt Datum.integral
    have z1 : ((n.log2 : Int) - 52 + -(cq d : Int) + ((n * mq d * 2 ^ (52 - n.log2)).log2 : Int) - 52).toNat = 0 := by omega
    have z2 : (-((n.log2 : Int) - 52 + -(cq d : Int) + ((n * mq d * 2 ^ (52 - n.log2)).log2 : Int) - 52)).toNat = cq d - cut n d := by omega
    simp only [z1, z2, Nat.shiftLeft_zero]
    have hl : (rne (n * mq d) (cut n d)).log2 = 52 := log2_of v1 (by omega)
    rw [cut_zero _ _ (by omega)]
    simp only [signed, Nat.shiftLeft_zero]
    rfl
  · rw [if_neg e]
    have e' : rne (n * mq d) (cut n d) = 2 ^ 53 := by omega
    unfold Datum.toInt Datum.integral leapN
    rw [e']
    have z1 : ((n.log2 : Int) - 52 + -(cq d : Int) + ((n * mq d * 2 ^ (52 - n.log2)).log2 : Int) - 52 + 1).toNat = 1 - (cq d - cut n d) := by omega
    have z2 : (-((n.log2 : Int) - 52 + -(cq d : Int) + ((n * mq d * 2 ^ (52 - n.log2)).log2 : Int) - 52 + 1)).toNat = cq d - cut n d - 1 := by omega
    simp only [z1, z2]
    by_cases g : cq d - cut n d = 0
    · rw [g, cut_zero _ _ (by omega)]; decide
    · obtain ⟨i, hi⟩ : ∃ i, cq d - cut n d = i + 1 := ⟨cq d - cut n d - 1, by omega⟩
      have : (2 ^ 52 : Nat).log2 = 52 := log2_of (Nat.le_refl _) (by decide)
      rw [show 1 - (cq d - cut n d) = 0 by omega, Nat.shiftLeft_zero, cut_zero _ _ (by omega), hi]
      simp only [signed, Nat.shiftLeft_zero, Nat.add_sub_cancel]
      have : 2 ^ 53 / 2 ^ (i + 1) = 2 ^ 52 / 2 ^ i := by rw [Nat.pow_succ 2 i, show (2 ^ 53 : Nat) = 2 ^ 52 * 2 by decide, Nat.mul_div_mul_right _ _ (by decide)]
      rw [this]
      rfl

/-- A leap leads on. -/
theorem leapN_ge (n d : Nat) (hn : n ≠ 0) (hn2 : n ≤ 2 ^ 20) (h0 : d ≠ 0) (h : d ≤ 2 ^ 31) : n ≤ leapN n d := by
  obtain ⟨a1, a2, l1, l2⟩ := prod_bd n d hn hn2 h0 h
  have c1 := cq_ge d
  have hcut : cut n d ≤ cq d := by unfold cut; omega
  have hm : 2 ^ cq d ≤ mq d := by
    have : 2 ^ cq d ≤ 2 ^ (31 + cq d) / d := by
      rw [Nat.le_div_iff_mul_le (by omega)]
      rw [Nat.add_comm, Nat.pow_add]; exact Nat.mul_le_mul_left _ h
    unfold mq; omega
  unfold leapN
  rw [Nat.le_div_iff_mul_le (Nat.two_pow_pos _)]
  refine Nat.le_trans ?_ (le_rne _ _)
  rw [Nat.le_div_iff_mul_le (Nat.two_pow_pos _), Nat.mul_assoc, ← Nat.pow_add, show cq d - cut n d + cut n d = cq d by omega]
  exact Nat.mul_le_mul_left _ hm

theorem leapN_lt (n d : Nat) (hn : n ≠ 0) (hn2 : n ≤ 2 ^ 20) (h0 : d ≠ 0) (h : d ≤ 2 ^ 31) : leapN n d ≤ 2 ^ 53 := by
  obtain ⟨v1, v2⟩ := rne_bd n d hn hn2 h0 h
  exact Nat.le_trans (Nat.div_le_self _ _) v2

end Go.Proofs.Ytchmknacofaepaa.JF
