import Derived.Test.YtchmknacofaepaaJk
namespace Go.Proofs.Ytchmknacofaepaa.JQ
open Go.RowKit Go.Sort Go.Proofs.YtchmknacofaepaaW.PrintWords Go.Proofs.YtchmknacofaepaaW.PrintLast Go.Proofs.YtchmknacofaepaaW.PrintMore Go.Proofs.Ytchmknacofaepaa.JF Go.Proofs.Ytchmknacofaepaa.PJ Go.Proofs.Ytchmknacofaepaa.RK
set_option linter.unusedVariables false
set_option linter.unusedSimpArgs false

/-! ### the order of servers, in plain words -/
/-- x stands before y. -/
def Bf (x y : Int × Int) : Prop := y.2 < x.2 ∨ (x.2 = y.2 ∧ x.1 < y.1)
instance (x y : Int × Int) : Decidable (Bf x y) := inferInstanceAs (Decidable (_ ∨ _))
theorem lt_bf (x y : Int × Int) : ltOf cf x y = decide (Bf x y) := lt_cf x y

theorem rankRow_mem (h : Int) : ∀ (ws : List Int) (i : Int) (p : Int × Int), p ∈ rankRow h ws i → ∃ j, j < ws.length ∧ p.1 = i + j ∧ 1 ≤ ws.getD j 0 ∧ ws.getD j 0 ≤ 64 ∧ p.2 = scoreV h p.1 (ws.getD j 0)
  | [], i, p, hp => by cases hp
  | x :: ws, i, p, hp => by
    unfold rankRow at hp
    by_cases c : 1 ≤ x ∧ x ≤ 64
    · rw [if_pos c] at hp
      rcases List.mem_cons.1 hp with rfl | hp
      · exact ⟨0, by simp, by simp, by simpa using c.1, by simpa using c.2, by simp⟩
      · obtain ⟨j, h1, h2, h3⟩ := rankRow_mem h ws (i + 1) p hp
        exact ⟨j + 1, by simp; omega, by omega, by simpa using h3⟩
    · rw [if_neg c] at hp
      obtain ⟨j, h1, h2, h3⟩ := rankRow_mem h ws (i + 1) p hp
      exact ⟨j + 1, by simp; omega, by omega, by simpa using h3⟩

theorem rankRow_has (h : Int) : ∀ (ws : List Int) (i : Int) (j : Nat), j < ws.length → 1 ≤ ws.getD j 0 → ws.getD j 0 ≤ 64 → (i + j, scoreV h (i + j) (ws.getD j 0)) ∈ rankRow h ws i
  | [], i, j, hj, _, _ => by simp at hj
  | x :: ws, i, 0, hj, h1, h2 => by
    unfold rankRow
    simp at h1 h2
    rw [if_pos ⟨h1, h2⟩]
    simp
  | x :: ws, i, j + 1, hj, h1, h2 => by
    have ih := rankRow_has h ws (i + 1) j (by simpa using hj) (by simpa using h1) (by simpa using h2)
    have e : i + ((j + 1 : Nat) : Int) = i + 1 + j := by omega
    unfold rankRow
    rw [e]
    have e2 : (x :: ws).getD (j + 1) 0 = ws.getD j 0 := by simp
    rw [e2]
    split
    · exact List.mem_cons_of_mem _ ih
    · exact ih

theorem rankRow_up (h : Int) : ∀ (ws : List Int) (i : Int), (rankRow h ws i).Pairwise (fun x y => x.1 < y.1)
  | [], i => List.Pairwise.nil
  | x :: ws, i => by
    unfold rankRow
    split
    · refine List.Pairwise.cons (fun p hp => ?_) (rankRow_up h ws (i + 1))
      obtain ⟨j, _, h2, _⟩ := rankRow_mem h ws (i + 1) p hp
      show i < p.1; omega
    · exact rankRow_up h ws (i + 1)

theorem rankRow_len (h : Int) : ∀ (ws : List Int) (i : Int), (rankRow h ws i).length ≤ ws.length
  | [], i => by simp [rankRow]
  | x :: ws, i => by
    have := rankRow_len h ws (i + 1)
    unfold rankRow; split <;> simp <;> omega

theorem sortV_perm (xs : List (Int × Int)) : (sortV xs).Perm xs := List.mergeSort_perm xs _
theorem sortV_sorted (xs : List (Int × Int)) : (sortV xs).Pairwise fun x y => ltOf cf y x = false := by
  have := List.pairwise_mergeSort (le := fun x y => !(ltOf cf) y x) (fun a b c h1 h2 => by
    simp only [Bool.not_eq_true'] at h1 h2 ⊢
    rw [lt_cf] at *; simp at *; omega) (fun a b => by
    simp only [Bool.or_eq_true, Bool.not_eq_true']
    rw [lt_cf, lt_cf]; simp; omega) xs
  exact this.imp (fun h => by simpa using h)

/-- No server twice. -/
def Once (xs : List (Int × Int)) : Prop := xs.Pairwise fun x y => x.1 ≠ y.1
theorem once_row (h : Int) (ws : List Int) (i : Int) : Once (rankRow h ws i) := (rankRow_up h ws i).imp fun h => by omega
theorem once_sort {xs : List (Int × Int)} (h : Once xs) : Once (sortV xs) :=
  ((sortV_perm xs).pairwise_iff (fun h => fun e => h e.symm)).2 h
theorem sort_bf {xs : List (Int × Int)} (h : Once xs) : (sortV xs).Pairwise Bf := by
  have h1 := sortV_sorted xs
  have h2 := once_sort h
  unfold Once at h2
  have h3 := h1.and h2
  refine h3.imp ?_
  intro x y ⟨h4, h5⟩
  rw [lt_cf] at h4
  simp at h4
  unfold Bf; omega

theorem sort_filter (xs : List (Int × Int)) (p : Int × Int → Bool) : sortV (xs.filter p) = (sortV xs).filter p :=
  sortV_eq ((sortV_perm xs).symm.filter p) (List.Pairwise.filter _ (sortV_sorted xs))

/-- Another weight of one server: all others stay. -/
theorem row_set (h x : Int) : ∀ (ws : List Int) (i : Int) (j : Nat), (rankRow h (ws.set j x) i).filter (fun p => p.1 != i + j) = (rankRow h ws i).filter (fun p => p.1 != i + j)
  | [], i, j => by simp
  | w :: ws, i, 0 => by
    have e : ((i : Int) != i + ((0 : Nat) : Int)) = false := by simp
    simp only [List.set_cons_zero, rankRow]
    split <;> split <;> simp [List.filter_cons]
  | w :: ws, i, j + 1 => by
    have ih := row_set h x ws (i + 1) j
    have e : i + ((j + 1 : Nat) : Int) = i + 1 + j := by omega
    rw [e]
    simp only [List.set_cons_succ, rankRow]
    split
    · rw [List.filter_cons, List.filter_cons, ih]
    · exact ih

theorem row_app (h x : Int) : ∀ (ws : List Int) (i : Int), (rankRow h (ws ++ [x]) i).filter (fun p => p.1 != i + (ws.length : Int)) = (rankRow h ws i).filter (fun p => p.1 != i + (ws.length : Int))
  | [], i => by
    simp only [List.nil_append, rankRow]
    split <;> simp [List.filter_cons]
  | w :: ws, i => by
    have ih := row_app h x ws (i + 1)
    have e : i + ((w :: ws).length : Int) = i + 1 + ws.length := by simp; omega
    rw [e]
    simp only [List.cons_append, rankRow]
    split
    · rw [List.filter_cons, List.filter_cons, ih]
    · exact ih

theorem map_filter (xs : List (Int × Int)) (n : Int) : (xs.map Prod.fst).filter (fun x => x != n) = (xs.filter fun p => p.1 != n).map Prod.fst := by
  rw [List.filter_map]; rfl

/-- Where a number stands. -/
def placeV : List Int → Int → Int
  | [], _ => -1
  | x :: l, n => if x = n then 0 else if placeV l n < 0 then -1 else placeV l n + 1

theorem bf_irr {x y : Int × Int} (h1 : Bf x y) (h2 : Bf y x) : False := by unfold Bf at *; omega
theorem place_count : ∀ (L : List (Int × Int)) (n v : Int), L.Pairwise Bf → Once L → (n, v) ∈ L → placeV (L.map Prod.fst) n = ((L.filter fun p => decide (Bf p (n, v))).length : Int)
  | [], n, v, _, _, hm => by cases hm
  | x :: L, n, v, hs, ho, hm => by
    have ho' := List.pairwise_cons.1 ho
    have hs' := List.pairwise_cons.1 hs
    by_cases c : x.1 = n
    · have e : x = (n, v) := by
        rcases List.mem_cons.1 hm with h | h
        · exact h.symm
        · exact absurd c (ho'.1 _ h)
      subst e
      have : (((n, v) :: L).filter fun p => decide (Bf p (n, v))) = [] := by
        rw [List.filter_eq_nil_iff]
        intro p hp
        rcases List.mem_cons.1 hp with rfl | hp
        · simp [Bf]
        · have := hs'.1 p hp
          simp; intro h; exact bf_irr h this
      rw [this]
      simp [placeV]
    · have hm2 : (n, v) ∈ L := by
        rcases List.mem_cons.1 hm with h | h
        · rw [← h] at c; exact absurd rfl c
        · exact h
      have ih := place_count L n v hs'.2 ho'.2 hm2
      have hb := hs'.1 _ hm2
      rw [List.filter_cons, if_pos (by simpa using hb)]
      simp only [List.map_cons, placeV]
      rw [if_neg c, ih, if_neg (by omega)]
      simp

theorem sort_place {xs : List (Int × Int)} (ho : Once xs) {n v : Int} (hm : (n, v) ∈ xs) : placeV ((sortV xs).map Prod.fst) n = ((xs.filter fun p => decide (Bf p (n, v))).length : Int) := by
  rw [place_count _ n v (sort_bf ho) (once_sort ho) ((sortV_perm xs).mem_iff.2 hm), ((sortV_perm xs).filter _).length_eq]

theorem once_eq {xs : List (Int × Int)} (h : Once xs) {p q : Int × Int} (hp : p ∈ xs) (hq : q ∈ xs) (e : p.1 = q.1) : p = q := by
  rcases List.mem_iff_getElem.1 hp with ⟨i, hi, rfl⟩
  rcases List.mem_iff_getElem.1 hq with ⟨j, hj, rfl⟩
  by_cases c : i = j
  · subst c; rfl
  · exfalso
    unfold Once at h
    rcases Nat.lt_or_gt_of_ne c with hlt | hlt
    · exact List.pairwise_iff_getElem.1 h i j hi hj hlt e
    · exact List.pairwise_iff_getElem.1 h j i hj hi hlt e.symm

/-- A greater score comes no later. -/
theorem place_le {xs ys : List (Int × Int)} (hx : Once xs) (hy : Once ys) {n v v' : Int} (mx_ : (n, v) ∈ xs) (my : (n, v') ∈ ys) (he : ys.filter (fun p => p.1 != n) = xs.filter (fun p => p.1 != n)) (hv : v ≤ v') :
    placeV ((sortV ys).map Prod.fst) n ≤ placeV ((sortV xs).map Prod.fst) n := by
  rw [sort_place hx mx_, sort_place hy my]
  have e1 : (ys.filter fun p => decide (Bf p (n, v'))) = (ys.filter (fun p => p.1 != n)).filter fun p => decide (Bf p (n, v')) := by
    rw [List.filter_filter]
    refine List.filter_congr fun p hp => ?_
    by_cases c : p.1 = n
    · have : p = (n, v') := once_eq hy hp my c
      subst this; simp [Bf]
    · simp [c]
  have e2 : ((xs.filter fun p => p.1 != n).filter fun p => decide (Bf p (n, v'))).length ≤ (xs.filter fun p => decide (Bf p (n, v))).length := by
    rw [List.filter_filter, ← List.countP_eq_length_filter, ← List.countP_eq_length_filter]
    refine List.countP_mono_left fun p _ hq => ?_
    simp at hq ⊢
    unfold Bf at *; simp only at *; omega
  rw [e1, he]; omega

/-! ### the score -/
theorem mx_le (a b : Int) : a ≤ mx a b := by unfold mx; split <;> omega
theorem best_le (h s : Int) : ∀ (n m : Nat), n ≤ m → bestV h s n ≤ bestV h s m
  | n, 0, hn => by rw [show n = 0 by omega]; exact Int.le_refl _
  | n, m + 1, hn => by
    by_cases c : n = m + 1
    · rw [c]; exact Int.le_refl _
    · exact Int.le_trans (best_le h s n m (by omega)) (mx_le _ _)
theorem score_le (h s : Int) {a b : Int} (a1 : 1 ≤ a) (hab : a ≤ b) (hb : b ≤ 64) : scoreV h s a ≤ scoreV h s b := by
  unfold scoreV
  by_cases c : 0 ≤ s ∧ s < 65536
  · rw [if_pos ⟨a1, by omega, c⟩, if_pos ⟨by omega, hb, c⟩]; exact best_le h s _ _ (by omega)
  · rw [if_neg (fun q => c q.2.2), if_neg (fun q => c q.2.2)]; exact Int.le_refl _

/-! ### without, place -/
theorem without_ev (l : List Int) (n : Int) (hl : l.length ≤ 1048576) : Ev (fun k => haulagelaw03_without.f k l n) (l.filter fun x => x != n) := by
  have loop : ∀ (d : Nat) (i : Int) (acc : List Int), 0 ≤ i → (l.length : Int) - i ≤ d → acc.length ≤ i → Ev (fun k => haulagelaw03_without.l0 k l n acc i) (acc ++ (l.drop i.toNat).filter fun x => x != n) := by
    intro d
    induction d with
    | zero =>
      intro i acc i0 hd ha
      refine ⟨1, fun k hk => ?_⟩
      obtain ⟨k, rfl⟩ := succ_of (show 0 < k by omega)
      simp only [haulagelaw03_without.l0]
      rw [if_neg (by omega), drop_done (by omega), List.filter_nil, List.append_nil]
    | succ d ih =>
      intro i acc i0 hd ha
      by_cases c : i < (l.length : Int)
      · rw [rd_drop i0 c, List.filter_cons]
        by_cases c2 : rd l i = n
        · refine Ev.step (f := fun k => haulagelaw03_without.l0 k l n acc (i + 1)) (fun k => ?_) ?_
          · simp only [haulagelaw03_without.l0]; rw [if_pos c, if_pos i0, if_pos c2, w64_id (by omega) (by omega)]
          · rw [if_neg (by simp [c2])]; exact ih (i + 1) acc (by omega) (by omega) (by omega)
        · refine Ev.step (f := fun k => haulagelaw03_without.l0 k l n (acc ++ [rd l i]) (i + 1)) (fun k => ?_) ?_
          · simp only [haulagelaw03_without.l0]; rw [if_pos c, if_pos i0, if_neg c2, if_pos (by omega), w64_id (by omega) (by omega)]
          · rw [if_pos (by simp [c2])]
            have := ih (i + 1) (acc ++ [rd l i]) (by omega) (by omega) (by simp; omega)
            rwa [List.append_assoc] at this
      · refine ⟨1, fun k hk => ?_⟩
        obtain ⟨k, rfl⟩ := succ_of (show 0 < k by omega)
        simp only [haulagelaw03_without.l0]
        rw [if_neg c, drop_done c, List.filter_nil, List.append_nil]
  have := loop l.length 0 [] (by omega) (by omega) (by simp)
  simp at this; exact this

theorem placeV_ge (l : List Int) (n : Int) : -1 ≤ placeV l n := by
  induction l with
  | nil => simp [placeV]
  | cons x l ih => unfold placeV; split <;> (try split) <;> omega

theorem place_ev (l : List Int) (n : Int) (hl : l.length ≤ 1048576) : Ev (fun k => haulagelaw03_place.f k l n) (placeV l n) := by
  have loop : ∀ (d : Nat) (i : Int), 0 ≤ i → (l.length : Int) - i ≤ d → Ev (fun k => haulagelaw03_place.l0 k l n i) (if placeV (l.drop i.toNat) n < 0 then -1 else placeV (l.drop i.toNat) n + i) := by
    intro d
    induction d with
    | zero =>
      intro i i0 hd
      refine ⟨1, fun k hk => ?_⟩
      obtain ⟨k, rfl⟩ := succ_of (show 0 < k by omega)
      simp only [haulagelaw03_place.l0]
      rw [if_neg (by omega), drop_done (by omega)]; simp [placeV]
    | succ d ih =>
      intro i i0 hd
      by_cases c : i < (l.length : Int)
      · rw [rd_drop i0 c]
        unfold placeV
        by_cases c2 : rd l i = n
        · refine ⟨1, fun k hk => ?_⟩
          obtain ⟨k, rfl⟩ := succ_of (show 0 < k by omega)
          simp only [haulagelaw03_place.l0]
          rw [if_pos c, if_pos i0, if_pos c2, if_pos c2, if_neg (by omega)]
          simp
        · refine Ev.step (f := fun k => haulagelaw03_place.l0 k l n (i + 1)) (fun k => ?_) ?_
          · simp only [haulagelaw03_place.l0]; rw [if_pos c, if_pos i0, if_neg c2, w64_id (by omega) (by omega)]
          · have := ih (i + 1) (by omega) (by omega)
            rw [if_neg c2]
            by_cases c3 : placeV (l.drop (i + 1).toNat) n < 0
            · rw [if_pos c3] at this ⊢; simpa using this
            · rw [if_neg c3] at this ⊢
              rw [if_neg (by omega)]
              rw [show placeV (l.drop (i + 1).toNat) n + 1 + i = placeV (l.drop (i + 1).toNat) n + (i + 1) by omega]
              exact this
      · refine ⟨1, fun k hk => ?_⟩
        obtain ⟨k, rfl⟩ := succ_of (show 0 < k by omega)
        simp only [haulagelaw03_place.l0]
        rw [if_neg c, drop_done c]; simp [placeV]
  have := loop l.length 0 (by omega) (by omega)
  have g := placeV_ge l n
  by_cases c : placeV l n < 0
  · simp [c] at this; rw [show placeV l n = -1 by omega]; exact this
  · simp [c] at this; exact this

/-- In a row without a number twice: what goes with one number. -/
theorem filter_len : ∀ (l : List Int) (n : Int), l.Pairwise (· ≠ ·) → ((l.filter fun x => x != n).length : Int) = (l.length : Int) - (if n ∈ l then 1 else 0)
  | [], n, _ => by simp
  | x :: l, n, h => by
    have h' := List.pairwise_cons.1 h
    have ih := filter_len l n h'.2
    rw [List.filter_cons]
    by_cases c : x = n
    · subst c
      have : x ∉ l := fun hm => h'.1 x hm rfl
      rw [if_neg this] at ih
      simp; omega
    · rw [if_pos (by simp [c])]
      by_cases c2 : n ∈ l
      · rw [if_pos c2] at ih
        rw [if_pos (List.mem_cons_of_mem _ c2)]; simp; omega
      · rw [if_neg c2] at ih
        rw [if_neg (by simp [c2]; exact fun e => c e.symm)]; simp; omega

end Go.Proofs.Ytchmknacofaepaa.JQ
