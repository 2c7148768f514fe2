import Derived.Shelf.SlSortCmp.NoneTotal
import Derived.Laws.OwnMore
/-
  A row of structs of the call's own, sorted by the library: between append's word (ownsRow) and the sort's (HoldsK, sortWorldK).
-/
namespace Go.Proofs.Ytchmknacofaepaa.SO
open Go.RowKit Go.Shelf Go.Sort Go.Lib
set_option linter.unusedVariables false
set_option linter.unusedSimpArgs false

variable {α : Type} [Inhabited α]

omit [Inhabited α] in
theorem flat_length (enc : α → List Value) (k : Nat) (hk : ∀ x, (enc x).length = k) (xs : List α) : ((xs.map enc).flatten).length = xs.length * k := by
  induction xs with
  | nil => simp
  | cons x xs ih => simp only [List.map_cons, List.flatten_cons, List.length_append, ih, hk, List.length_cons, Nat.add_mul]; omega

theorem flat_eq (enc : α → List Value) (k : Nat) (hk : ∀ x, (enc x).length = k) (k0 : 0 < k) (xs : List α) : (flatK enc k xs.toArray).toList = (xs.map enc).flatten := by
  apply List.ext_getElem?
  intro t
  by_cases ht : t < xs.length * k
  · have h1 : (flatK enc k xs.toArray)[t]! = (enc xs.toArray[t / k]!)[t % k]! := get_flatK enc k xs.toArray t (by simpa using ht)
    have hs : t < (flatK enc k xs.toArray).size := by rw [size_flatK]; simpa using ht
    rw [Array.getElem?_toList, Array.getElem?_eq_getElem hs]
    rw [getElem!_pos _ t hs] at h1
    rw [h1]
    clear h1 hs
    induction xs generalizing t with
    | nil => simp at ht
    | cons x xs ih =>
      simp only [List.map_cons, List.flatten_cons]
      by_cases c : t < k
      · rw [List.getElem?_append_left (by rw [hk]; exact c), Nat.div_eq_of_lt c, Nat.mod_eq_of_lt c, List.getElem?_eq_getElem (by rw [hk]; exact c)]
        simp [getElem!_pos (enc x) t (by rw [hk]; exact c)]
      · rw [List.getElem?_append_right (by rw [hk]; omega), hk]
        have ht' : t - k < xs.length * k := by simp only [List.length_cons, Nat.add_mul] at ht; omega
        rw [← ih (t - k) ht']
        have e1 : t / k = (t - k) / k + 1 := by
          rw [← Nat.add_div_right _ k0]; congr 1; omega
        have e2 : t % k = (t - k) % k := by rw [← Nat.mod_eq_sub_mod (by omega)]
        rw [e1, e2]
        have hd : (t - k) / k < xs.length := by rw [Nat.div_lt_iff_lt_mul k0]; exact ht'
        simp [getElem!_pos, hd]
  · rw [List.getElem?_eq_none (by rw [Array.length_toList, size_flatK]; simp; omega), List.getElem?_eq_none (by rw [flat_length enc k hk]; omega)]

variable {W : World} {base e k n cap g : Nat}

theorem holdsK_of_own (enc : α → List Value) (hk : ∀ x, (enc x).length = k) (k0 : 0 < k) {xs : List α} (h : W.ownsRow base e k (.slice (some ⟨g, 0, none⟩) n cap) n ((xs.map enc).flatten)) : HoldsK enc k W g 0 xs.toArray := by
  intro j hj
  have hj' : j < xs.length * k := by rw [size_flatK] at hj; simpa using hj
  have hn : n * k = xs.length * k := by rw [← h.1, flat_length enc k hk]
  refine ⟨?_, ?_⟩
  · rw [Nat.zero_add, h.cellAt j (by omega), ← flat_eq enc k hk k0, Array.getElem?_toList, Array.getElem?_eq_getElem hj, getElem!_pos _ j hj]; rfl
  · rw [Nat.zero_add]; exact h.frozenAt j

theorem grownBy_sortedK (enc : α → List Value) (m : Nat) (d : Array α) (os : Array Obj) : W.grownBy (sortWorldK enc k W g 0 m d os) (some g) := by
  refine ⟨rfl, rfl, rfl, by simp [sortWorldK, putRowK, putRow, mapBlock, ahead], fun i hi hne => ?_⟩
  unfold sortWorldK
  rw [heap_grow_old _ _ (by simpa [putRowK, putRow, mapBlock, ahead] using hi)]
  have : g ≠ i := fun e => hne (by rw [e])
  simp [putRowK, putRow, mapBlock, Sort.ahead, Array.getElem?_modify, this]

theorem own_sortedK (enc : α → List Value) (hk : ∀ x, (enc x).length = k) (k0 : 0 < k) {xs ys : List α} (h : W.ownsRow base e k (.slice (some ⟨g, 0, none⟩) n cap) n ((xs.map enc).flatten)) (hl : ys.length = xs.length) (m : Nat) (os : Array Obj) :
    (sortWorldK enc k W g 0 m ys.toArray os).ownsRow base e k (.slice (some ⟨g, 0, none⟩) n cap) n ((ys.map enc).flatten) := by
  obtain ⟨h1, h2⟩ := h
  have hn : n * k = xs.length * k := by rw [← h1, flat_length enc k hk]
  refine ⟨by rw [flat_length enc k hk, hl, hn], ?_⟩
  rcases h2 with ⟨h2, _⟩ | ⟨g', cap', cur, e1, hb, hh, hc, hm, hs, ht⟩
  · cases h2
  · cases e1
    have hg : g < W.heap.size := (Array.getElem?_eq_some_iff.1 hh).1
    refine .inr ⟨g, cap, putCells id 0 (flatK enc k ys.toArray) cur, rfl, hb, ?_, hc, hm, by simp [putCells, hs], ?_⟩
    · unfold sortWorldK
      rw [heap_grow_old _ _ (by simpa [putRowK, putRow, mapBlock, ahead] using hg)]
      simp [putRowK, putRow, mapBlock, Sort.ahead, Array.getElem?_modify, hh, onCells]
    · have hle : n * k ≤ cur.size := by rw [hs]; exact Nat.mul_le_mul_right k hc
      rw [← flat_eq enc k hk k0]
      apply List.ext_getElem?
      intro j
      by_cases hj : j < n * k
      · have hj2 : j < (flatK enc k ys.toArray).size := by rw [size_flatK]; simp [hl]; omega
        rw [List.getElem?_take_of_lt hj, Array.getElem?_toList, Array.getElem?_toList, Array.getElem?_eq_getElem hj2]
        have hj3 : j < ys.length * k := by rw [hl]; omega
        simp [putCells, show j < cur.size by omega, hj3, getElem!_pos, hj2]
      · rw [List.getElem?_take_eq_none (by omega), List.getElem?_eq_none (by rw [Array.length_toList, size_flatK]; simp [hl]; omega)]

end Go.Proofs.Ytchmknacofaepaa.SO
