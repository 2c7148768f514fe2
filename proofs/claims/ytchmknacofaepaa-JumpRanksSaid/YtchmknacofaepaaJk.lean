import Derived.Test.YtchmknacofaepaaPKx1
import Derived.Test.YtchmknacofaepaaJh
namespace Go.Proofs.Ytchmknacofaepaa.JQ
open Go.RowKit Go.Sort Go.Proofs.YtchmknacofaepaaW.PrintWords Go.Proofs.YtchmknacofaepaaW.PrintLast Go.Proofs.YtchmknacofaepaaW.PrintMore Go.Proofs.Ytchmknacofaepaa.JF Go.Proofs.Ytchmknacofaepaa.PJ Go.Proofs.Ytchmknacofaepaa.RK
set_option linter.unusedVariables false
set_option linter.unusedSimpArgs false

/-! ### the ways of more buckets -/
theorem wayL_grows : ∀ (k m : Nat) (h a b c : Int), 0 ≤ a → b ≤ c → c ≤ 1048576 → b - a ≤ k → c - a ≤ m →
    ∃ rest, wayL m h a c = wayL k h a b ++ rest ∧ (∀ x ∈ rest, b ≤ x ∧ x < c)
  | k, 0, h, a, b, c, a0, hbc, hc, hk, hm => ⟨[], by rw [wayL_done (by omega), wayL_done (by omega)]; rfl, fun x hx => by cases hx⟩
  | 0, m + 1, h, a, b, c, a0, hbc, hc, hk, hm => ⟨wayL (m + 1) h a c, by rw [wayL_done (k := 0) (by omega)]; rfl, fun x hx => by have := wayL_bd (m + 1) h a c a0 hc x hx; omega⟩
  | k + 1, m + 1, h, a, b, c, a0, hbc, hc, hk, hm => by
    by_cases cb : a < b
    · obtain ⟨n0, n1⟩ := nh_bd h
      obtain ⟨g, _⟩ := na_bd n0 n1 a0 (by omega : a < 1048576)
      obtain ⟨rest, e, hr⟩ := wayL_grows k m (nh h) (na (nh h) a) b c (by omega) hbc hc (by omega) (by omega)
      exact ⟨rest, by rw [wayL_step cb, wayL_step (by omega : a < c), e]; rfl, hr⟩
    · exact ⟨wayL (m + 1) h a c, by rw [wayL_done (k := k + 1) (by omega)]; rfl, fun x hx => by have := wayL_bd (m + 1) h a c a0 hc x hx; omega⟩

theorem wayL_rises : ∀ (k : Nat) (h a b : Int), 0 ≤ a → b ≤ 1048576 → (wayL k h a b).Pairwise (· < ·)
  | 0, h, a, b, _, _ => List.Pairwise.nil
  | k + 1, h, a, b, a0, hb => by
    by_cases c : a < b
    · rw [wayL_step c]
      obtain ⟨n0, n1⟩ := nh_bd h
      obtain ⟨g, _⟩ := na_bd n0 n1 a0 (by omega : a < 1048576)
      refine List.Pairwise.cons (fun x hx => ?_) (wayL_rises k (nh h) (na (nh h) a) b (by omega) hb)
      have := wayL_bd k (nh h) (na (nh h) a) b (by omega) hb x hx
      omega
    · rw [wayL_done (by omega)]; exact List.Pairwise.nil

theorem wayV_in {h b : Int} (b0 : 1 ≤ b) (b1 : b ≤ 1048576) : wayV h b = wayL b.toNat h 0 b := by unfold wayV; rw [if_neg (by omega)]
theorem wayV_out {h b : Int} (hb : b < 1 ∨ 1048576 < b) : wayV h b = [] := by unfold wayV; rw [if_pos hb]
theorem wayV_grows (h : Int) {b c : Int} (b0 : 1 ≤ b) (hbc : b ≤ c) (hc : c ≤ 1048576) : ∃ rest, wayV h c = wayV h b ++ rest ∧ (∀ x ∈ rest, b ≤ x ∧ x < c) := by
  rw [wayV_in b0 (by omega), wayV_in (by omega) hc]
  exact wayL_grows b.toNat c.toNat h 0 b c (by omega) hbc hc (by omega) (by omega)
theorem wayV_rises (h b : Int) : (wayV h b).Pairwise (· < ·) := by
  unfold wayV; split
  · exact List.Pairwise.nil
  · exact wayL_rises _ _ _ _ (by omega) (by omega)
theorem wayV_bd (h b : Int) : ∀ x ∈ wayV h b, 0 ≤ x ∧ x < b := by
  unfold wayV; split
  · intro x hx; cases hx
  · exact wayL_bd _ _ _ _ (by omega) (by omega)
theorem wayV_head {h b : Int} (b0 : 1 ≤ b) (b1 : b ≤ 1048576) : ∃ tl, wayV h b = 0 :: tl := by
  rw [wayV_in b0 b1]
  obtain ⟨k, hk⟩ : ∃ k, b.toNat = k + 1 := ⟨b.toNat - 1, by omega⟩
  rw [hk, wayL_step (by omega)]
  exact ⟨_, rfl⟩

theorem jumpV_out {h b : Int} (hb : b < 1 ∨ 1048576 < b) : jumpV h b = -1 := by unfold jumpV; rw [wayV_out hb]; rfl
theorem jumpV_mem {h b : Int} (b0 : 1 ≤ b) (b1 : b ≤ 1048576) : jumpV h b ∈ wayV h b := by
  obtain ⟨tl, e⟩ := wayV_head (h := h) b0 b1
  unfold jumpV
  rw [e]
  have : (0 :: tl : List Int).getLast? = some ((0 :: tl).getLast (by simp)) := List.getLast?_eq_some_getLast (by simp)
  rw [this]
  exact List.getLast_mem (by simp)
theorem jumpV_bd {h b : Int} (b0 : 1 ≤ b) (b1 : b ≤ 1048576) : 0 ≤ jumpV h b ∧ jumpV h b < b := wayV_bd h b _ (jumpV_mem b0 b1)
theorem jumpV_one (h : Int) : jumpV h 1 = 0 := by have := jumpV_bd (h := h) (b := 1) (by omega) (by omega); omega

/-- With one bucket more a hash stays, or comes to the new one. -/
theorem jumpV_more (h : Int) {b : Int} (b0 : 1 ≤ b) (b1 : b ≤ 1048575) : jumpV h (b + 1) = jumpV h b ∨ jumpV h (b + 1) = b := by
  obtain ⟨rest, e, hr⟩ := wayV_grows h b0 (by omega : b ≤ b + 1) (by omega)
  by_cases c : rest = []
  · left; unfold jumpV; rw [e, c, List.append_nil]
  · right
    unfold jumpV
    rw [e, List.getLast?_append, List.getLast?_eq_some_getLast c]
    have := hr _ (List.getLast_mem c)
    simp; omega

/-! ### what the document names -/
/-- A row that is sorted already, and the one that it is sorted to. -/
theorem sortV_eq {xs ys : List (Int × Int)} (hp : xs.Perm ys) (hs : ys.Pairwise fun x y => ltOf cf y x = false) : sortV xs = ys := by
  have h1 : (sortV xs).Perm ys := (List.mergeSort_perm xs _).trans hp
  have h2 : (sortV xs).Pairwise fun x y => ltOf cf y x = false := by
    have := List.pairwise_mergeSort (le := fun x y => !(ltOf cf) y x) (fun a b c h1 h2 => by
      simp only [Bool.not_eq_true'] at h1 h2 ⊢
      rw [lt_cf] at *; simp at *; omega) (fun a b => by
      simp only [Bool.or_eq_true, Bool.not_eq_true']
      rw [lt_cf, lt_cf]; simp; omega) xs
    exact this.imp (fun h => by simpa using h)
  exact h1.eq_of_pairwise (fun a b _ _ h3 h4 => total a b h4 h3) h2 hs

/-- The mark of a server's slot; the best of the first n; the score. -/
def markV (h s t : Int) : Int := fnvV [wideV h 8, wideV (IntKind.u64.wrap s) 4, wideV (IntKind.u64.wrap t) 4]
def bestV (h s : Int) : Nat → Int
  | 0 => 0
  | n + 1 => mx (bestV h s n) (markV h s n)
def scoreV (h s w : Int) : Int := if 1 ≤ w ∧ w ≤ 64 ∧ 0 ≤ s ∧ s < 65536 then bestV h s w.toNat else 0

theorem three_rows {a b c : List Int} (ha : a.length ≤ 8) (hb : b.length ≤ 8) (hc : c.length ≤ 8) : ∀ r ∈ [a, b, c], r.length ≤ 4611686018427387904 := fun r hr => by
  simp at hr; rcases hr with rfl | rfl | rfl <;> omega

theorem score_l0 (h s w : Int) (w1 : w ≤ 64) : ∀ (d n : Nat), (w : Int) - n = d → Ev (fun k => jump_Score.l0 k h s (bestV h s n) w n) (bestV h s w.toNat)
  | 0, n, hd => ⟨1, fun k hk => by
    obtain ⟨k, rfl⟩ := succ_of (show 0 < k by omega)
    simp only [jump_Score.l0]
    rw [if_neg (by omega)]
    congr; omega⟩
  | d + 1, n, hd => by
    have ih := score_l0 h s w w1 d (n + 1) (by omega)
    refine Ev.step (f := fun k => (jump_wide.f k h 8).bind fun t182 => ((jump_wide.f k (IntKind.u64.wrap (s)) 4).bind fun t185 => ((jump_wide.f k (IntKind.u64.wrap (n : Int)) 4).bind fun t188 => ((seal_FNV.f k (([t182, t185, t188] : List (List Int)))).bind fun t194 => (jump_Score.l0 k h s (mx (bestV h s n) t194) w ((n + 1 : Nat) : Int)))))) (fun k => by
      simp only [jump_Score.l0]
      rw [if_pos (by omega), w64_id (by omega) (by omega)]
      rfl) ?_
    exact Ev.bind (wide8_ev _) (Ev.bind (wide4_ev _) (Ev.bind (wide4_ev _) (Ev.bind (seal_ev _ (by simp) (three_rows (by simp [wideV_length]) (by simp [wideV_length]) (by simp [wideV_length]))) ih)))

theorem score_j0 (h s w : Int) (b : Bool) (hb : b = true ∨ w ≤ 64) : Ev (fun k => jump_Score.j0 k h s w b) (if b = true then 0 else bestV h s w.toNat) := by
  cases b with
  | true => exact ⟨1, fun k hk => by
      obtain ⟨k, rfl⟩ := succ_of (show 0 < k by omega)
      simp [jump_Score.j0]⟩
  | false =>
    rcases hb with hb | hb
    · cases hb
    · refine Ev.step (f := fun k => jump_Score.l0 k h s 0 w 0) (fun k => by simp [jump_Score.j0]) ?_
      by_cases c : 0 ≤ w
      · exact score_l0 h s w hb w.toNat 0 (by omega)
      · refine ⟨1, fun k hk => ?_⟩
        obtain ⟨k, rfl⟩ := succ_of (show 0 < k by omega)
        simp only [jump_Score.l0]
        rw [if_neg (by omega), show w.toNat = 0 by omega]; rfl

theorem Score_ev (h s w : Int) : Ev (fun k => jump_Score.f k h s w) (scoreV h s w) := by
  unfold scoreV jump_Score.f
  by_cases c1 : w < 1
  · simp only [if_pos c1]
    rw [if_neg (by omega)]
    exact score_j0 h s w true (.inl rfl)
  · simp only [if_neg c1]
    by_cases c2 : w > 64
    · simp only [if_pos c2]
      rw [if_neg (by omega)]
      exact score_j0 h s w true (.inl rfl)
    · simp only [if_neg c2]
      by_cases c3 : s < 0
      · simp only [if_pos c3]
        rw [if_neg (by omega)]
        exact score_j0 h s w true (.inl rfl)
      · simp only [if_neg c3]
        have := score_j0 h s w (decide (s ≥ 65536)) (.inr (by omega))
        by_cases c4 : s ≥ 65536
        · rw [if_neg (by omega)]
          simp only [c4, decide_true, if_true] at this ⊢; exact this
        · rw [if_pos ⟨by omega, by omega, by omega, by omega⟩]
          simp only [c4, decide_false] at this ⊢; exact this

/-- The servers that have a weight, from a number on, each with its score. -/
def rankRow (h : Int) : List Int → Int → List (Int × Int)
  | [], _ => []
  | x :: ws, i => if 1 ≤ x ∧ x ≤ 64 then (i, scoreV h i x) :: rankRow h ws (i + 1) else rankRow h ws (i + 1)
def rankV (h : Int) (ws : List Int) : List Int := if ws.length > 65536 then [] else (sortV (rankRow h ws 0)).map Prod.fst

theorem rankAll_ev : ∀ (h : Int) (ws : List Int) (i : Int) (acc : List (Int × Int)), Ev (fun k => rankAll k h ws i acc) (acc ++ rankRow h ws i)
  | h, [], i, acc => by unfold rankAll rankRow; rw [List.append_nil]; exact Ev.now _
  | h, x :: ws, i, acc => by
    unfold rankAll rankRow
    by_cases c : 1 ≤ x ∧ x ≤ 64
    · simp only [if_pos c]
      have := rankAll_ev h ws (i + 1) (acc ++ [(i, scoreV h i x)])
      rw [List.append_assoc] at this
      exact Ev.bind (Score_ev h i x) this
    · simp only [if_neg c]
      exact rankAll_ev h ws (i + 1) acc

theorem Rank_ev (h : Int) (ws : List Int) : Ev (fun k => jump_Rank.f k h ws) (rankV h ws) := by
  unfold jump_Rank.f rankV
  by_cases c : ws.length > 65536
  · simp only [if_pos c]; exact Ev.now _
  · simp only [if_neg c]
    have := rankAll_ev h ws 0 []
    rw [List.nil_append] at this
    exact Ev.bind this (Ev.now _)

theorem rank_known : rankV 6 [1, 0, 1, 1] = [2, 3, 0] := by
  have e : rankRow 6 [1, 0, 1, 1] 0 = [(0, scoreV 6 0 1), (2, scoreV 6 2 1), (3, scoreV 6 3 1)] := rfl
  have o1 : scoreV 6 2 1 > scoreV 6 3 1 := by decide +kernel
  have o2 : scoreV 6 3 1 > scoreV 6 0 1 := by decide +kernel
  unfold rankV
  rw [if_neg (by simp), e, sortV_eq (ys := [(2, scoreV 6 2 1), (3, scoreV 6 3 1), (0, scoreV 6 0 1)])]
  · rfl
  · exact (List.Perm.swap (2, scoreV 6 2 1) (0, scoreV 6 0 1) _).trans (List.Perm.cons _ (List.Perm.swap (3, scoreV 6 3 1) (0, scoreV 6 0 1) _))
  · refine List.Pairwise.cons (fun x hx => ?_) (List.Pairwise.cons (fun x hx => ?_) (List.Pairwise.cons (fun x hx => by cases hx) List.Pairwise.nil))
    · simp at hx; rcases hx with rfl | rfl <;> rw [lt_cf] <;> simp <;> omega
    · simp at hx; subst hx; rw [lt_cf]; simp; omega

theorem way_known : wayV 1 50 = [0, 6, 17, 42, 43, 45] := by decide +kernel
theorem jump_known0 : jumpV 0 1 = 0 := jumpV_one 0
theorem jump_known1 : jumpV 0 0 = -1 := jumpV_out (by omega)

theorem same_Ev (l : List Int) (hl : l.length ≤ 9223372036854775807) : Ev (fun k => haulagelaw03_same.f k l l) true := ⟨l.length + 1, fun k hk => same_ev l hl (by omega)⟩
theorem Ev.some_ {α : Type} {o : Option α} {r : α} (h : o = some r) : Ev (fun _ => o) r := ⟨0, fun _ _ => h⟩
theorem wayE {h b : Int} (h0 : 0 ≤ h) (h1 : h ≤ 18446744073709551615) (b0 : -9223372036854775808 ≤ b) (b1 : b ≤ 9223372036854775807) : JP.jump_Way.f h b = some (wayV h b) := by
  unfold JP.jump_Way.f; rw [if_pos (JP.fits_mk h0 h1 b0 b1)]

theorem known_ev : Ev (fun k => PK.haulagelaw03_known.f k) true := by
  unfold PK.haulagelaw03_known.f
  rw [jumpE (by decide) (by decide) (by decide) (by decide), jumpE (by decide) (by decide) (by decide) (by decide), wayE (by decide) (by decide) (by decide) (by decide), jump_known0, jump_known1, way_known]
  simp only [Option.bind_some, if_true]
  refine Ev.bind (same_Ev _ (by simp)) ?_
  simp only [if_true]
  refine Ev.bind (a := [2, 3, 0]) ?_ (Ev.bind (same_Ev _ (by simp)) (Ev.now _))
  rw [← rank_known]; exact Rank_ev _ _

end Go.Proofs.Ytchmknacofaepaa.JQ
