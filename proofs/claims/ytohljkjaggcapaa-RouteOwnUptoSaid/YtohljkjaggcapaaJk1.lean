import Derived.Test.YtohljkjaggcapaaJh1
namespace Go.Proofs.Ytohljkjaggcapaa.JQ
open Go.RowKit Go.Proofs.YtohljkjaggcapaaW.PrintWords Go.Proofs.YtohljkjaggcapaaW.PrintLast Go.Proofs.YtohljkjaggcapaaW.PrintMore Go.Proofs.Ytohljkjaggcapaa.JF Go.Proofs.Ytohljkjaggcapaa.PJ
set_option linter.unusedVariables false
set_option linter.unusedSimpArgs false

/-! ### the ways of more buckets -/
theorem wayL_grows : ∀ (k m : Nat) (h a b c : Int), 0 ≤ a → b ≤ c → c ≤ 1048576 → b - a ≤ k → c - a ≤ m →
    ∃ rest, wayL m h a c = wayL k h a b ++ rest ∧ (∀ x ∈ rest, b ≤ x ∧ x < c)
  | k, 0, h, a, b, c, a0, hbc, hc, hk, hm => ⟨[], by rw [wayL_done (by omega), wayL_done (by omega)]; rfl, fun x hx => by cases hx⟩
  | 0, m + 1, h, a, b, c, a0, hbc, hc, hk, hm => ⟨wayL (m + 1) h a c, by rw [wayL_done (k := 0) (by omega)]; rfl, fun x hx => by have := wayL_bd (m + 1) h a c a0 hc x hx; omega⟩
  | k + 1, m + 1, h, a, b, c, a0, hbc, hc, hk, hm => by
    by_cases cb : a < b
    · obtain ⟨n0, n1⟩ := nh_bd h
      obtain ⟨g, _⟩ := na_bd n0 n1 a0 (by omega : a < 1048576)
      obtain ⟨rest, e, hr⟩ := wayL_grows k m (nh h) (na (nh h) a) b c (by omega) hbc hc (by omega) (by omega)
      exact ⟨rest, by rw [wayL_step cb, wayL_step (by omega : a < c), e]; rfl, hr⟩
    · exact ⟨wayL (m + 1) h a c, by rw [wayL_done (k := k + 1) (by omega)]; rfl, fun x hx => by have := wayL_bd (m + 1) h a c a0 hc x hx; omega⟩

theorem wayL_rises : ∀ (k : Nat) (h a b : Int), 0 ≤ a → b ≤ 1048576 → (wayL k h a b).Pairwise (· < ·)
  | 0, h, a, b, _, _ => List.Pairwise.nil
  | k + 1, h, a, b, a0, hb => by
    by_cases c : a < b
    · rw [wayL_step c]
      obtain ⟨n0, n1⟩ := nh_bd h
      obtain ⟨g, _⟩ := na_bd n0 n1 a0 (by omega : a < 1048576)
      refine List.Pairwise.cons (fun x hx => ?_) (wayL_rises k (nh h) (na (nh h) a) b (by omega) hb)
      have := wayL_bd k (nh h) (na (nh h) a) b (by omega) hb x hx
      omega
    · rw [wayL_done (by omega)]; exact List.Pairwise.nil

theorem wayV_in {h b : Int} (b0 : 1 ≤ b) (b1 : b ≤ 1048576) : wayV h b = wayL b.toNat h 0 b := by unfold wayV; rw [if_neg (by omega)]
theorem wayV_out {h b : Int} (hb : b < 1 ∨ 1048576 < b) : wayV h b = [] := by unfold wayV; rw [if_pos hb]
theorem wayV_grows (h : Int) {b c : Int} (b0 : 1 ≤ b) (hbc : b ≤ c) (hc : c ≤ 1048576) : ∃ rest, wayV h c = wayV h b ++ rest ∧ (∀ x ∈ rest, b ≤ x ∧ x < c) := by
  rw [wayV_in b0 (by omega), wayV_in (by omega) hc]
  exact wayL_grows b.toNat c.toNat h 0 b c (by omega) hbc hc (by omega) (by omega)
theorem wayV_rises (h b : Int) : (wayV h b).Pairwise (· < ·) := by
  unfold wayV; split
  · exact List.Pairwise.nil
  · exact wayL_rises _ _ _ _ (by omega) (by omega)
theorem wayV_bd (h b : Int) : ∀ x ∈ wayV h b, 0 ≤ x ∧ x < b := by
  unfold wayV; split
  · intro x hx; cases hx
  · exact wayL_bd _ _ _ _ (by omega) (by omega)
theorem wayV_head {h b : Int} (b0 : 1 ≤ b) (b1 : b ≤ 1048576) : ∃ tl, wayV h b = 0 :: tl := by
  rw [wayV_in b0 b1]
  obtain ⟨k, hk⟩ : ∃ k, b.toNat = k + 1 := ⟨b.toNat - 1, by omega⟩
  rw [hk, wayL_step (by omega)]
  exact ⟨_, rfl⟩

theorem jumpV_out {h b : Int} (hb : b < 1 ∨ 1048576 < b) : jumpV h b = -1 := by unfold jumpV; rw [wayV_out hb]; rfl
theorem jumpV_mem {h b : Int} (b0 : 1 ≤ b) (b1 : b ≤ 1048576) : jumpV h b ∈ wayV h b := by
  obtain ⟨tl, e⟩ := wayV_head (h := h) b0 b1
  unfold jumpV
  rw [e]
  have : (0 :: tl : List Int).getLast? = some ((0 :: tl).getLast (by simp)) := List.getLast?_eq_some_getLast (by simp)
  rw [this]
  exact List.getLast_mem (by simp)
theorem jumpV_bd {h b : Int} (b0 : 1 ≤ b) (b1 : b ≤ 1048576) : 0 ≤ jumpV h b ∧ jumpV h b < b := wayV_bd h b _ (jumpV_mem b0 b1)
theorem jumpV_one (h : Int) : jumpV h 1 = 0 := by have := jumpV_bd (h := h) (b := 1) (by omega) (by omega); omega

/-- With one bucket more a hash stays, or comes to the new one. -/
theorem jumpV_more (h : Int) {b : Int} (b0 : 1 ≤ b) (b1 : b ≤ 1048575) : jumpV h (b + 1) = jumpV h b ∨ jumpV h (b + 1) = b := by
  obtain ⟨rest, e, hr⟩ := wayV_grows h b0 (by omega : b ≤ b + 1) (by omega)
  by_cases c : rest = []
  · left; unfold jumpV; rw [e, c, List.append_nil]
  · right
    unfold jumpV
    rw [e, List.getLast?_append, List.getLast?_eq_some_getLast c]
    have := hr _ (List.getLast_mem c)
    simp; omega

end Go.Proofs.Ytohljkjaggcapaa.JQ
