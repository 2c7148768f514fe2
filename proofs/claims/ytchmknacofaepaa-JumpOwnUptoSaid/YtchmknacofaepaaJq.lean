import Derived.Test.YtchmknacofaepaaPJx1
import Derived.Test.YtchmknacofaepaaPJx2
namespace Go.Proofs.Ytchmknacofaepaa.JQ
open Go.RowKit Go.Proofs.YtchmknacofaepaaW.PrintWords Go.Proofs.YtchmknacofaepaaW.PrintLast Go.Proofs.Ytchmknacofaepaa.JF Go.Proofs.Ytchmknacofaepaa.PJ

theorem u64_id {x : Int} (h0 : 0 ≤ x) (h1 : x ≤ 18446744073709551615) : IntKind.u64.wrap x = x := by rw [IntKind.wrap_u64]; omega
theorem w64_id {x : Int} (h0 : -9223372036854775808 ≤ x) (h1 : x ≤ 9223372036854775807) : wrap64 x = x := by unfold wrap64; omega
theorem bd_u64 {n : Int} (h : (Lit.int .u64 n).wf = true) : 0 ≤ n ∧ n ≤ 18446744073709551615 := by
  simp [Lit.wf, IntKind.min, IntKind.max, IntKind.signed, IntKind.bits] at h; omega
theorem bd_i64 {n : Int} (h : (Lit.int .i64 n).wf = true) : -9223372036854775808 ≤ n ∧ n ≤ 9223372036854775807 := by
  simp [Lit.wf, IntKind.min, IntKind.max, IntKind.signed, IntKind.bits] at h; omega
theorem bd_u8 {n : Int} (h : (Lit.int .u8 n).wf = true) : 0 ≤ n ∧ n ≤ 255 := by
  simp [Lit.wf, IntKind.min, IntKind.max, IntKind.signed, IntKind.bits] at h; omega
theorem succ_of {d k : Nat} (h : d < k) : ∃ m, k = m + 1 := ⟨k - 1, by omega⟩

/-! ### the quotient -/
theorem div_double (A d : Nat) (hd : 0 < d) : 2 * A / d = 2 * (A / d) + (if d ≤ 2 * (A % d) then 1 else 0) ∧ 2 * A % d = 2 * (A % d) - (if d ≤ 2 * (A % d) then d else 0) := by
  have h1 := Nat.div_add_mod A d
  have h2 := Nat.mod_lt A hd
  obtain ⟨q, hq⟩ : ∃ q, A / d = q := ⟨_, rfl⟩
  obtain ⟨r, hr⟩ : ∃ r, A % d = r := ⟨_, rfl⟩
  rw [hq, hr] at h1
  rw [hr] at h2
  rw [hq, hr]
  by_cases c : d ≤ 2 * r
  · rw [if_pos c, if_pos c]
    have e : 2 * A = (2 * r - d) + d * (2 * q + 1) := by
      have : d * (2 * q + 1) = 2 * (d * q) + d := by rw [Nat.mul_add, Nat.mul_one, Nat.mul_left_comm]
      omega
    rw [e, Nat.add_mul_div_left _ _ hd, Nat.add_mul_mod_self_left, Nat.div_eq_of_lt (by omega), Nat.mod_eq_of_lt (by omega)]
    omega
  · rw [if_neg c, if_neg c]
    have e : 2 * A = 2 * r + d * (2 * q) := by
      have : d * (2 * q) = 2 * (d * q) := by rw [Nat.mul_left_comm]
      omega
    rw [e, Nat.add_mul_div_left _ _ hd, Nat.add_mul_mod_self_left, Nat.div_eq_of_lt (by omega), Nat.mod_eq_of_lt (by omega)]
    omega

theorem quot_loop (d : Nat) (h0 : d ≠ 0) (h : d ≤ 2 ^ 31) : ∀ (m c k : Nat), cq d = c + m → m < k →
    haulageref03_quotient.l0 k (d : Int) ((2 ^ (31 + c) / d : Nat) : Int) ((2 ^ (31 + c) % d : Nat) : Int) (c : Int) = some ((mq d : Int), (cq d : Int)) := by
  have hd : 0 < d := by omega
  obtain ⟨f1, f2⟩ := floor_q d h0
  have hc53 := cq_le d h
  intro m
  induction m with
  | zero =>
    intro c k hc hk
    obtain ⟨k, rfl⟩ := succ_of hk
    obtain rfl : c = cq d := by omega
    have hr := Nat.mod_lt (2 ^ (31 + cq d)) hd
    obtain ⟨q, hq⟩ : ∃ q, 2 ^ (31 + cq d) / d = q := ⟨_, rfl⟩
    obtain ⟨r, hrr⟩ : ∃ r, 2 ^ (31 + cq d) % d = r := ⟨_, rfl⟩
    rw [hrr] at hr
    rw [hq] at f1 f2
    have hm : mq d = q + (if d < 2 * r ∨ (d = 2 * r ∧ q % 2 = 1) then 1 else 0) := by unfold mq; rw [hq, hrr]
    rw [hq, hrr, hm]
    have e1 : IntKind.u64.wrap (2 * (r : Int)) = 2 * (r : Int) := u64_id (by omega) (by omega)
    have e2 : IntKind.u64.wrap ((q : Int) + 1) = (q : Int) + 1 := u64_id (by omega) (by omega)
    have e3 : Int.tmod (q : Int) 2 = (q : Int) % 2 := Int.tmod_eq_emod_of_nonneg (by omega)
    simp only [haulageref03_quotient.l0, e1, e2, e3]
    rw [if_neg (by omega)]
    by_cases c1 : d < 2 * r
    · rw [if_pos (by omega), if_pos (.inl c1)]; rfl
    · rw [if_neg (by omega)]
      by_cases c2 : d = 2 * r
      · rw [if_pos (by omega)]
        by_cases c3 : q % 2 = 1
        · rw [if_pos (by omega), if_pos (.inr ⟨c2, c3⟩)]; rfl
        · rw [if_neg (by omega), if_neg (by omega)]; rfl
      · rw [if_neg (by omega), if_neg (by omega)]; rfl
  | succ m ih =>
    intro c k hc hk
    obtain ⟨k, rfl⟩ := succ_of hk
    have hlt : 2 ^ (31 + c) / d < 2 ^ 52 := by
      rw [Nat.div_lt_iff_lt_mul hd] at f2 ⊢
      have h1 : 2 ^ (31 + c) * 2 ≤ 2 ^ (31 + cq d) := by rw [← Nat.pow_succ]; exact Nat.pow_le_pow_right (by omega) (by omega)
      omega
    have hr := Nat.mod_lt (2 ^ (31 + c)) hd
    obtain ⟨dd, dm⟩ := div_double (2 ^ (31 + c)) d hd
    have hp : 2 * 2 ^ (31 + c) = 2 ^ (31 + (c + 1)) := by rw [← Nat.add_assoc, Nat.pow_succ]; omega
    rw [hp] at dd dm
    have key := ih (c + 1) k (by omega) (by omega)
    rw [dd, dm] at key
    obtain ⟨q, hq⟩ : ∃ q, 2 ^ (31 + c) / d = q := ⟨_, rfl⟩
    obtain ⟨r, hrr⟩ : ∃ r, 2 ^ (31 + c) % d = r := ⟨_, rfl⟩
    rw [hq, hrr] at key ⊢
    rw [hq] at hlt
    rw [hrr] at hr
    have e1 : IntKind.u64.wrap (2 * (r : Int)) = 2 * (r : Int) := u64_id (by omega) (by omega)
    have e2 : IntKind.u64.wrap (2 * (q : Int)) = 2 * (q : Int) := u64_id (by omega) (by omega)
    have e3 : IntKind.u64.wrap (2 * (q : Int) + 1) = 2 * (q : Int) + 1 := u64_id (by omega) (by omega)
    have e4 : wrap64 ((c : Int) + 1) = ((c + 1 : Nat) : Int) := by rw [w64_id (by omega) (by omega)]; omega
    simp only [haulageref03_quotient.l0, e1, e2, e3, e4]
    rw [if_pos (by omega)]
    by_cases c1 : d ≤ 2 * r
    · rw [if_pos c1, if_pos c1] at key
      rw [if_pos (by omega)]
      have e5 : IntKind.u64.wrap (2 * (r : Int) - (d : Int)) = ((2 * r - d : Nat) : Int) := by rw [u64_id (by omega) (by omega)]; omega
      have e6 : (2 * (q : Int) + 1) = ((2 * q + 1 : Nat) : Int) := by omega
      rw [e5, e6]; exact key
    · rw [if_neg c1, if_neg c1] at key
      rw [if_neg (by omega)]
      have e5 : (2 * (r : Int)) = ((2 * r - 0 : Nat) : Int) := by omega
      have e6 : (2 * (q : Int)) = ((2 * q + 0 : Nat) : Int) := by omega
      rw [e5, e6]; exact key

theorem quot_ev (d : Nat) (h0 : d ≠ 0) (h : d ≤ 2 ^ 31) {k : Nat} (hk : 53 < k) : haulageref03_quotient.f k (d : Int) = some ((mq d : Int), (cq d : Int)) := by
  have hd : 0 < d := by omega
  have key := quot_loop d h0 h (cq d) 0 k (by omega) (by have := cq_le d h; omega)
  unfold haulageref03_quotient.f
  rw [if_neg (by omega)]
  have p31 : (2147483648 : Int) = ((2 ^ (31 + 0) : Nat) : Int) := rfl
  have e1 : IntKind.u64.wrap ((2147483648 : Int) / (d : Int)) = ((2 ^ (31 + 0) / d : Nat) : Int) := by
    rw [p31, ← Int.natCast_ediv]
    have h1 : 2 ^ (31 + 0) / d ≤ 2147483648 := Nat.div_le_self _ _
    generalize 2 ^ (31 + 0) / d = q at h1
    exact u64_id (by omega) (by omega)
  have e2 : ((2147483648 : Int) % (d : Int)) = ((2 ^ (31 + 0) % d : Nat) : Int) := by rw [p31, ← Int.natCast_emod]
  rw [e1, e2]; exact key

/-! ### the leap -/
/-- The last bit that was cut off; was any ahead of it 1? -/
def half (X c : Nat) : Nat := if c = 0 then 0 else X / 2 ^ (c - 1) % 2
def lows (X c : Nat) : Nat := if c = 0 then 0 else if X % 2 ^ (c - 1) = 0 then 0 else 1

theorem half_le (X c : Nat) : half X c ≤ 1 := by unfold half; split <;> omega
theorem lows_le (X c : Nat) : lows X c ≤ 1 := by unfold lows; split <;> (try split) <;> omega

theorem mod_bit (X c : Nat) : X % 2 ^ (c + 1) = X / 2 ^ c % 2 * 2 ^ c + X % 2 ^ c := by
  rw [Nat.pow_succ, Nat.mod_mul]; rw [Nat.mul_comm (X / 2 ^ c % 2)]; omega

theorem or_bit {a b : Nat} (ha : a ≤ 1) (hb : b ≤ 1) : Go.bits .or .u64 (a : Int) (b : Int) = ((if a = 0 ∧ b = 0 then 0 else 1 : Nat) : Int) := by
  have h1 : a = 0 ∨ a = 1 := by omega
  have h2 : b = 0 ∨ b = 1 := by omega
  rcases h1 with rfl | rfl <;> rcases h2 with rfl | rfl <;> decide

theorem lows_succ (X c : Nat) : lows X (c + 1) = if X % 2 ^ c = 0 then 0 else 1 := by unfold lows; rw [if_neg (by omega), Nat.add_sub_cancel]
theorem half_succ (X c : Nat) : half X (c + 1) = X / 2 ^ c % 2 := by unfold half; rw [if_neg (by omega), Nat.add_sub_cancel]

theorem lows_step (X c : Nat) : (if lows X c = 0 ∧ half X c = 0 then 0 else 1) = lows X (c + 1) := by
  rw [lows_succ]
  cases c with
  | zero => simp [lows, half, Nat.mod_one]
  | succ i =>
    rw [lows_succ, half_succ, mod_bit X i]
    have hp : 0 < 2 ^ i := Nat.two_pow_pos _
    have h2 : X / 2 ^ i % 2 = 0 ∨ X / 2 ^ i % 2 = 1 := by omega
    generalize X / 2 ^ i % 2 = u at h2
    generalize X % 2 ^ i = r
    generalize 2 ^ i = G at hp
    rcases h2 with rfl | rfl
    · by_cases h1 : r = 0 <;> simp [h1]
    · rw [if_neg (by simp), if_neg (by omega)]

theorem rne_bits (X c : Nat) : rne X c = X / 2 ^ c + (if half X c = 1 ∧ (lows X c = 1 ∨ X / 2 ^ c % 2 = 1) then 1 else 0) := by
  unfold rne
  congr 1
  cases c with
  | zero => simp [half, Nat.mod_one]
  | succ i =>
    rw [lows_succ, half_succ, mod_bit X i]
    have hp : 0 < 2 ^ i := Nat.two_pow_pos _
    have hl := Nat.mod_lt X hp
    have h2 : X / 2 ^ i % 2 = 0 ∨ X / 2 ^ i % 2 = 1 := by omega
    have hpp : 2 ^ (i + 1) = 2 * 2 ^ i := by rw [Nat.pow_succ]; omega
    generalize X / 2 ^ (i + 1) % 2 = v
    generalize X / 2 ^ i % 2 = u at h2
    generalize X % 2 ^ i = r at hl
    rw [hpp]
    generalize 2 ^ i = G at hp hl
    rcases h2 with rfl | rfl
    · rw [if_neg (by omega), if_neg (by omega)]
    · by_cases h1 : r = 0
      · subst h1
        by_cases hv : v = 1
        · rw [if_pos (by omega), if_pos (by simp [hv])]
        · rw [if_neg (by omega), if_neg (by simp [hv])]
      · rw [if_pos (by omega), if_pos (by simp [h1])]

theorem leap_l2 : ∀ (m p cc v k : Nat), p = cc + m → m < k → v ≤ 2 ^ 53 → p ≤ 60 → haulageref03_leap.l2 k (p : Int) (cc : Int) (v : Int) = some ((v / 2 ^ m : Nat) : Int)
  | 0, p, cc, v, k, hp, hk, hv, _ => by
    obtain ⟨k, rfl⟩ := succ_of hk
    simp only [haulageref03_leap.l2]
    rw [if_neg (by omega), w64_id (by omega) (by omega)]; simp
  | m + 1, p, cc, v, k, hp, hk, hv, h60 => by
    obtain ⟨k, rfl⟩ := succ_of hk
    simp only [haulageref03_leap.l2]
    rw [if_pos (by omega)]
    have e1 : wrap64 ((p : Int) - 1) = ((p - 1 : Nat) : Int) := by rw [w64_id (by omega) (by omega)]; omega
    have e2 : IntKind.u64.wrap (Int.tdiv (v : Int) 2) = ((v / 2 : Nat) : Int) := by
      rw [Int.tdiv_eq_ediv_of_nonneg (by omega), u64_id (by omega) (by omega)]; omega
    rw [e1, e2, leap_l2 m (p - 1) cc (v / 2) k (by omega) (by omega) (by omega) (by omega), Nat.div_div_eq_div_mul, Nat.pow_succ, Nat.mul_comm 2]

theorem leap_tail (p cc v k : Nat) (hp : cc ≤ p) (hk : p + 3 < k) (hv : v ≤ 2 ^ 53) (h60 : p ≤ 60) : haulageref03_leap.j2 k (p : Int) (cc : Int) (v : Int) = some ((v / 2 ^ (p - cc) : Nat) : Int) := by
  obtain ⟨k, rfl⟩ := succ_of hk
  obtain ⟨k, rfl⟩ : ∃ m, k = m + 1 := ⟨k - 1, by omega⟩
  simp only [haulageref03_leap.j2, haulageref03_leap.l1]
  rw [if_neg (by omega)]
  exact leap_l2 (p - cc) p cc v k (by omega) (by omega) hv h60

theorem leap_j1 (p cc v k : Nat) (b : Bool) (hp : cc ≤ p) (hk : p + 4 < k) (hv : v < 2 ^ 53) (h60 : p ≤ 60) :
    haulageref03_leap.j1 k (p : Int) (cc : Int) (v : Int) b = some (((v + (if b = true then 1 else 0)) / 2 ^ (p - cc) : Nat) : Int) := by
  obtain ⟨k, rfl⟩ := succ_of hk
  simp only [haulageref03_leap.j1]
  cases b with
  | true =>
    rw [if_pos rfl, if_pos rfl, u64_id (by omega) (by omega)]
    have : (v : Int) + 1 = ((v + 1 : Nat) : Int) := by omega
    rw [this]; exact leap_tail p cc (v + 1) k hp (by omega) (by omega) h60
  | false =>
    rw [if_neg (by simp), if_neg (by simp)]
    exact leap_tail p cc v k hp (by omega) (by omega) h60

theorem leap_l0 (X p : Nat) (hX : 2 ^ 52 ≤ X) (hX2 : X < 2 ^ 73) (hp1 : 21 ≤ p) (hp2 : p ≤ 60) : ∀ (m c k : Nat), X.log2 - 52 = c + m → m + 70 < k →
    haulageref03_leap.l0 k (p : Int) ((X / 2 ^ c % 2 ^ 32 : Nat) : Int) ((X / 2 ^ c / 2 ^ 32 : Nat) : Int) (c : Int) (half X c : Int) (lows X c : Int) = some ((rne X (X.log2 - 52) / 2 ^ (p - (X.log2 - 52)) : Nat) : Int) := by
  have hne : X ≠ 0 := by omega
  obtain ⟨s1, s2⟩ := log2_spec X hne
  have l1 : 52 ≤ X.log2 := by
    by_cases c : 52 ≤ X.log2
    · exact c
    · have : 2 ^ (X.log2 + 1) ≤ 2 ^ 52 := Nat.pow_le_pow_right (by omega) (by omega)
      omega
  have l2 : X.log2 ≤ 72 := by
    by_cases c : X.log2 ≤ 72
    · exact c
    · have : 2 ^ 73 ≤ 2 ^ X.log2 := Nat.pow_le_pow_right (by omega) (by omega)
      omega
  intro m
  induction m with
  | zero =>
    intro c k hc hk
    obtain ⟨k, rfl⟩ := succ_of hk
    have hcc : X.log2 - 52 = c := by omega
    rw [hcc, rne_bits]
    have q2 : X / 2 ^ c < 2 ^ 53 := by
      rw [Nat.div_lt_iff_lt_mul (Nat.two_pow_pos _), ← Nat.pow_add, show 53 + c = X.log2 + 1 by omega]; exact s2
    have hh := half_le X c
    have hlw := lows_le X c
    generalize half X c = hf at hh
    generalize lows X c = lw at hlw
    generalize X / 2 ^ c = v at q2
    have e1 : IntKind.u64.wrap (IntKind.u64.wrap (((v / 2 ^ 32 : Nat) : Int) * 4294967296) + ((v % 2 ^ 32 : Nat) : Int)) = (v : Int) := by
      rw [u64_id (x := ((v / 2 ^ 32 : Nat) : Int) * 4294967296) (by omega) (by omega), u64_id (by omega) (by omega)]; omega
    have e2 : Int.tmod (v : Int) 2 = ((v % 2 : Nat) : Int) := by rw [Int.tmod_eq_emod_of_nonneg (by omega)]; omega
    simp only [haulageref03_leap.l0, e1, e2]
    rw [if_neg (by omega)]
    by_cases c1 : hf = 1
    · rw [if_pos (by omega)]
      by_cases c2 : lw = 1
      · rw [if_pos (by omega), leap_j1 p c v k _ (by omega) (by omega) q2 hp2, if_pos rfl, if_pos ⟨c1, .inl c2⟩]
      · rw [if_neg (by omega), leap_j1 p c v k _ (by omega) (by omega) q2 hp2]
        by_cases c3 : v % 2 = 1
        · rw [if_pos (by simp [c3]), if_pos ⟨c1, .inr c3⟩]
        · have c3' : v % 2 = 0 := by omega
          rw [if_neg (by simp [c3']), if_neg (by omega)]
    · rw [if_neg (by omega), leap_j1 p c v k _ (by omega) (by omega) q2 hp2, if_neg (by simp), if_neg (by omega)]
  | succ m ih =>
    intro c k hc hk
    obtain ⟨k, rfl⟩ := succ_of hk
    have key := ih (c + 1) k (by omega) (by omega)
    have q1 : 2 ^ 53 ≤ X / 2 ^ c := by
      rw [Nat.le_div_iff_mul_le (Nat.two_pow_pos _), ← Nat.pow_add]
      exact Nat.le_trans (Nat.pow_le_pow_right (by omega) (by omega)) s1
    have q2 : X / 2 ^ c < 2 ^ 73 := Nat.lt_of_le_of_lt (Nat.div_le_self _ _) hX2
    have hs : X / 2 ^ (c + 1) = X / 2 ^ c / 2 := by rw [Nat.pow_succ, Nat.div_div_eq_div_mul]
    have hhf : half X (c + 1) = X / 2 ^ c % 2 := by unfold half; rw [if_neg (by omega), Nat.add_sub_cancel]
    have hor := or_bit (lows_le X c) (half_le X c)
    rw [lows_step] at hor
    rw [hs, hhf] at key
    generalize X / 2 ^ c = v at q1 q2 key
    have e1 : IntKind.u64.wrap (IntKind.u64.wrap (Int.tdiv ((v % 2 ^ 32 : Nat) : Int) 2) + IntKind.u64.wrap (Int.tmod ((v / 2 ^ 32 : Nat) : Int) 2 * 2147483648)) = ((v / 2 % 2 ^ 32 : Nat) : Int) := by
      rw [Int.tdiv_eq_ediv_of_nonneg (by omega), Int.tmod_eq_emod_of_nonneg (by omega), u64_id (x := ((v % 2 ^ 32 : Nat) : Int) / 2) (by omega) (by omega), u64_id (x := ((v / 2 ^ 32 : Nat) : Int) % 2 * 2147483648) (by omega) (by omega), u64_id (by omega) (by omega)]; omega
    have e2 : IntKind.u64.wrap (Int.tdiv ((v / 2 ^ 32 : Nat) : Int) 2) = ((v / 2 / 2 ^ 32 : Nat) : Int) := by
      rw [Int.tdiv_eq_ediv_of_nonneg (by omega), u64_id (by omega) (by omega)]; omega
    have e3 : wrap64 ((c : Int) + 1) = ((c + 1 : Nat) : Int) := by rw [w64_id (by omega) (by omega)]; omega
    have e4 : Int.tmod ((v % 2 ^ 32 : Nat) : Int) 2 = ((v % 2 : Nat) : Int) := by rw [Int.tmod_eq_emod_of_nonneg (by omega)]; omega
    simp only [haulageref03_leap.l0, e1, e2, e3, e4, hor]
    rw [if_pos (by omega)]
    exact key

theorem leap_ev (n d : Nat) (hn : n ≠ 0) (hn2 : n ≤ 2 ^ 20) (h0 : d ≠ 0) (h : d ≤ 2 ^ 31) {k : Nat} (hk : 100 < k) :
    haulageref03_leap.f k (n : Int) (mq d : Int) (cq d : Int) = some (leapN n d : Int) := by
  obtain ⟨a1, a2, l1, l2⟩ := prod_bd n d hn hn2 h0 h
  obtain ⟨m1, m2⟩ := mq_bd d h0 h
  have key := leap_l0 (n * mq d) (cq d) a1 a2 (cq_ge d) (by have := cq_le d h; omega) ((n * mq d).log2 - 52) 0 k (by omega) (by omega)
  have hlo : n * (mq d % 2 ^ 32) < 2 ^ 52 := by
    have h1 : n * (mq d % 2 ^ 32) ≤ 2 ^ 20 * (mq d % 2 ^ 32) := Nat.mul_le_mul_right _ hn2
    omega
  have hhi : n * (mq d / 2 ^ 32) ≤ 2 ^ 41 := by
    have h1 : n * (mq d / 2 ^ 32) ≤ 2 ^ 20 * (mq d / 2 ^ 32) := Nat.mul_le_mul_right _ hn2
    omega
  have hX : n * mq d = 2 ^ 32 * (n * (mq d / 2 ^ 32)) + n * (mq d % 2 ^ 32) := by
    conv => lhs; rw [← Nat.div_add_mod (mq d) (2 ^ 32)]
    rw [Nat.mul_add, Nat.mul_left_comm]
  have e1 : Int.tmod (mq d : Int) 4294967296 = ((mq d % 2 ^ 32 : Nat) : Int) := by rw [Int.tmod_eq_emod_of_nonneg (by omega)]; omega
  have e2 : (mq d : Int) / 4294967296 = ((mq d / 2 ^ 32 : Nat) : Int) := by omega
  have e3 : IntKind.u64.wrap ((n : Int) * ((mq d % 2 ^ 32 : Nat) : Int)) = ((n * (mq d % 2 ^ 32) : Nat) : Int) := by
    rw [← Int.natCast_mul]; exact u64_id (by omega) (by omega)
  have e4 : IntKind.u64.wrap ((n : Int) * ((mq d / 2 ^ 32 : Nat) : Int)) = ((n * (mq d / 2 ^ 32) : Nat) : Int) := by
    rw [← Int.natCast_mul]; exact u64_id (by omega) (by omega)
  unfold haulageref03_leap.f
  rw [e1, e2, e3, e4]
  have e5 : Int.tmod ((n * (mq d % 2 ^ 32) : Nat) : Int) 4294967296 = ((n * mq d / 2 ^ 0 % 2 ^ 32 : Nat) : Int) := by
    rw [Int.tmod_eq_emod_of_nonneg (by omega), hX]; generalize n * (mq d % 2 ^ 32) = u at *; generalize n * (mq d / 2 ^ 32) = z at *; omega
  have e6 : IntKind.u64.wrap (((n * (mq d / 2 ^ 32) : Nat) : Int) + ((n * (mq d % 2 ^ 32) : Nat) : Int) / 4294967296) = ((n * mq d / 2 ^ 0 / 2 ^ 32 : Nat) : Int) := by
    rw [hX]; generalize n * (mq d % 2 ^ 32) = u at *; generalize n * (mq d / 2 ^ 32) = z at *
    rw [u64_id (by omega) (by omega)]; omega
  rw [e5, e6]
  exact key

/-! ### the ways -/
theorem refWay_l0 : ∀ (m : Nat) (h a b : Int) (pre : List Int) (k : Nat), 0 ≤ a → a ≤ 9007199254740992 → b ≤ 1048576 → b - a ≤ m → m + 120 < k → pre.length + m ≤ 2097152 →
    haulageref03_Way.l0 k h b pre a = some (pre ++ wayL m h a b)
  | m, h, a, b, pre, k, a0, a1, hb, hm, hk, hl => by
    obtain ⟨k, rfl⟩ := succ_of hk
    by_cases c : a < b
    · obtain ⟨m, rfl⟩ : ∃ j, m = j + 1 := ⟨m - 1, by omega⟩
      obtain ⟨n0, n1⟩ := nh_bd h
      obtain ⟨d0, d1⟩ := dv_bd n0 n1
      obtain ⟨b0, b1⟩ := na_bd n0 n1 a0 (by omega : a < 1048576)
      have e1 : IntKind.u64.wrap (nh h / 8589934592 + 1) = ((dv (nh h)).toNat : Int) := by
        unfold dv at d0 d1 ⊢; rw [u64_id (by omega) (by omega)]; omega
      have e2 : IntKind.u64.wrap (wrap64 (a + 1)) = ((a + 1).toNat : Int) := by
        rw [w64_id (by omega) (by omega), u64_id (by omega) (by omega)]; omega
      have q := quot_ev (dv (nh h)).toNat (by omega) (by omega) (k := k) (by omega)
      have l := leap_ev (a + 1).toNat (dv (nh h)).toNat (by omega) (by omega) (by omega) (by omega) (k := k) (by omega)
      simp only [haulageref03_Way.l0]
      rw [if_pos c, if_pos (by omega)]
      show (haulageref03_quotient.f k (IntKind.u64.wrap (nh h / 8589934592 + 1))).bind _ = _
      rw [e1, q, Option.bind_some, e2, l, Option.bind_some]
      show haulageref03_Way.l0 k (nh h) b (pre ++ [a]) (na (nh h) a) = _
      rw [refWay_l0 m (nh h) (na (nh h) a) b (pre ++ [a]) k (by omega) (by omega) hb (by omega) (by omega) (by simp; omega), wayL_step c, List.append_assoc]
      rfl
    · simp only [haulageref03_Way.l0]
      rw [if_neg c, wayL_done (by omega), List.append_nil]
  termination_by m => m

theorem refWay_ev (h b : Int) {k : Nat} (hk : 1048800 < k) : haulageref03_Way.f k h b = some (wayV h b) := by
  obtain ⟨k, rfl⟩ := succ_of hk
  unfold haulageref03_Way.f wayV
  by_cases c1 : b < 1
  · rw [if_pos c1, if_pos (.inl c1)]; simp [haulageref03_Way.j0]
  · rw [if_neg c1]
    by_cases c2 : b > 1048576
    · rw [if_pos (.inr c2)]; simp [haulageref03_Way.j0, c2]
    · rw [if_neg (by omega)]
      simp only [haulageref03_Way.j0]
      rw [if_neg (by simp; omega)]
      rw [refWay_l0 b.toNat h 0 b [] k (by omega) (by omega) (by omega) (by omega) (by omega) (by simp; omega)]
      rfl

theorem rd_last (l : List Int) (h : l ≠ []) : rd l ((l.length : Int) - 1) = l.getLast?.getD (-1) := by
  have hl : 0 < l.length := by cases l with | nil => exact absurd rfl h | cons => simp
  unfold rd
  have e : ((l.length : Int) - 1).toNat = l.length - 1 := by omega
  rw [e, List.getLast?_eq_getElem?, List.getD_eq_getElem?_getD, List.getElem?_eq_getElem (by omega)]
  rfl

theorem refJump_ev (h b : Int) {k : Nat} (hk : 1048800 < k) : haulageref03_Jump.f k h b = some (jumpV h b) := by
  unfold haulageref03_Jump.f jumpV
  rw [refWay_ev h b hk, Option.bind_some]
  have hl := wayV_length h b
  by_cases c : wayV h b = []
  · rw [c]; simp
  · have h0 : 0 < (wayV h b).length := by cases hw : wayV h b with | nil => exact absurd hw c | cons => simp
    rw [if_neg (by omega), w64_id (by omega) (by omega), if_pos (by omega), if_pos (by omega), rd_last _ c]

theorem same_l0 : ∀ (m : Nat) (l : List Int) (i : Int) (k : Nat), 0 ≤ i → l.length ≤ 9223372036854775807 → (l.length : Int) - i ≤ m → m < k → haulagelaw03_same.l0 k l l i = some true
  | m, l, i, k, i0, hl, hm, hk => by
    obtain ⟨k, rfl⟩ := succ_of hk
    simp only [haulagelaw03_same.l0]
    by_cases c : i < (l.length : Int)
    · obtain ⟨m, rfl⟩ : ∃ j, m = j + 1 := ⟨m - 1, by omega⟩
      rw [if_pos c, if_pos i0, if_pos c, if_pos trivial, w64_id (by omega) (by omega)]
      exact same_l0 m l (i + 1) k (by omega) hl (by omega) (by omega)
    · rw [if_neg c]
  termination_by m => m

theorem same_ev (l : List Int) (hl : l.length ≤ 9223372036854775807) {k : Nat} (hk : l.length < k) : haulagelaw03_same.f k l l = some true := by
  unfold haulagelaw03_same.f
  rw [if_pos rfl]
  exact same_l0 l.length l 0 k (by omega) hl (by omega) hk

end Go.Proofs.Ytchmknacofaepaa.JQ
