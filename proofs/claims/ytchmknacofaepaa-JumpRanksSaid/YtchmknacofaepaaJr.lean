import Derived.Test.YtchmknacofaepaaJg
import Derived.Test.YtchmknacofaepaaPJx4
namespace Go.Proofs.Ytchmknacofaepaa.JQ
open Go.RowKit Go.Proofs.YtchmknacofaepaaW.PrintWords Go.Proofs.YtchmknacofaepaaW.PrintLast Go.Proofs.YtchmknacofaepaaW.PrintMore Go.Proofs.Ytchmknacofaepaa.JF Go.Proofs.Ytchmknacofaepaa.PJ Go.Proofs.Ytchmknacofaepaa.RK
set_option linter.unusedVariables false
set_option linter.unusedSimpArgs false

/-! ### the document's score -/
theorem can_eq (s w : Int) : haulageref03_can.f s w = some (decide (1 ≤ w ∧ w ≤ 64 ∧ 0 ≤ s ∧ s < 65536)) := by
  unfold haulageref03_can.f
  by_cases c1 : w ≥ 1
  · rw [if_pos c1]
    by_cases c2 : w ≤ 64
    · rw [if_pos c2]
      by_cases c3 : s ≥ 0
      · rw [if_pos c3]; congr 1; simp [show 1 ≤ w by omega, c2, show 0 ≤ s by omega]
      · rw [if_neg c3, decide_eq_false (by omega)]
    · rw [if_neg c2, decide_eq_false (by omega)]
  · rw [if_neg c1, decide_eq_false (by omega)]

theorem mark_flat (a b c : List Int) : fnvV [a ++ b ++ c] = fnvV [a, b, c] := by unfold fnvV; simp

theorem refScore_l0 (h s w : Int) (h0 : 0 ≤ h) (h1 : h ≤ 18446744073709551615) (hc : 1 ≤ w ∧ w ≤ 64 ∧ 0 ≤ s ∧ s < 65536) : ∀ (d n : Nat), (w : Int) - n = d → Ev (fun k => haulageref03_Score.l0 k h s w (bestV h s n) n) (bestV h s w.toNat)
  | 0, n, hd => by
    refine Ev.step (f := fun k => haulageref03_Score.j1 k h s w (bestV h s n) n false) (fun k => by
      simp only [haulageref03_Score.l0]
      rw [can_eq, decide_eq_true hc, Option.bind_some, if_pos rfl, decide_eq_false (by omega)]) ?_
    refine Ev.step (f := fun k => some (bestV h s n)) (fun k => by simp only [haulageref03_Score.j1]; rw [if_neg (by simp)]) ?_
    rw [show n = w.toNat by omega]; exact Ev.now _
  | d + 1, n, hd => by
    have ih := refScore_l0 h s w h0 h1 hc d (n + 1) (by omega)
    refine Ev.step (f := fun k => haulageref03_Score.j1 k h s w (bestV h s n) n true) (fun k => by
      simp only [haulageref03_Score.l0]
      rw [can_eq, decide_eq_true hc, Option.bind_some, if_pos rfl, decide_eq_true (by omega)]) ?_
    refine Ev.step (f := fun k => (haulageref03_bytes.f k h 8).bind fun t196 => ((haulageref03_bytes.f k (IntKind.u64.wrap (s)) 4).bind fun t199 => (if t196.length + t199.length < 140737488355328 then ((some (t196 ++ t199 : List Int)).bind fun y202 => ((haulageref03_bytes.f k (IntKind.u64.wrap (n : Int)) 4).bind fun t205 => (if y202.length + t205.length < 140737488355328 then ((haulageref03_Hash.f k (y202 ++ t205)).bind fun t211 => (if t211 > bestV h s n then (haulageref03_Score.l0 k h s w t211 ((n + 1 : Nat) : Int)) else (haulageref03_Score.l0 k h s w (bestV h s n) ((n + 1 : Nat) : Int)))) else (none)))) else (none)))) (fun k => by
      simp only [haulageref03_Score.j1]
      rw [if_pos trivial, w64_id (by omega) (by omega)]
      rfl) ?_
    refine Ev.bind (bytes8_ev h h0 h1) (Ev.bind (bytes4_ev _ (u64_bd _).1 (u64_bd _).2) ?_)
    simp only [wideV_length, Option.bind_some]
    simp only [show (8 + 4 < 140737488355328) = True by simp, if_true]
    refine Ev.bind (bytes4_ev _ (u64_bd _).1 (u64_bd _).2) ?_
    have hlen : (wideV h 8 ++ wideV (IntKind.u64.wrap s) 4).length + (wideV (IntKind.u64.wrap (n : Int)) 4).length < 140737488355328 := by simp [wideV_length]
    simp only [if_pos hlen]
    refine Ev.bind (refHash_ev _ (by simp [wideV_length])) ?_
    rw [mark_flat]
    have e : bestV h s (n + 1) = mx (bestV h s n) (fnvV [wideV h 8, wideV (IntKind.u64.wrap s) 4, wideV (IntKind.u64.wrap (n : Int)) 4]) := rfl
    unfold mx at e
    by_cases c : bestV h s n < fnvV [wideV h 8, wideV (IntKind.u64.wrap s) 4, wideV (IntKind.u64.wrap (n : Int)) 4]
    · rw [if_pos c] at e
      simp only [if_pos (show fnvV [wideV h 8, wideV (IntKind.u64.wrap s) 4, wideV (IntKind.u64.wrap (n : Int)) 4] > bestV h s n from c)]
      rw [← e]; exact ih
    · rw [if_neg c] at e
      simp only [if_neg (show ¬ fnvV [wideV h 8, wideV (IntKind.u64.wrap s) 4, wideV (IntKind.u64.wrap (n : Int)) 4] > bestV h s n from c)]
      rw [← e]; exact ih

theorem refScore_ev (h s w : Int) (h0 : 0 ≤ h) (h1 : h ≤ 18446744073709551615) : Ev (fun k => haulageref03_Score.f k h s w) (scoreV h s w) := by
  unfold haulageref03_Score.f scoreV
  by_cases c : 1 ≤ w ∧ w ≤ 64 ∧ 0 ≤ s ∧ s < 65536
  · rw [if_pos c]
    exact refScore_l0 h s w h0 h1 c w.toNat 0 (by omega)
  · rw [if_neg c]
    refine Ev.step (f := fun k => haulageref03_Score.j1 k h s w 0 0 false) (fun k => by
      simp only [haulageref03_Score.l0]
      rw [can_eq, decide_eq_false c, Option.bind_some, if_neg (by simp)]) ?_
    exact Ev.step (f := fun k => some 0) (fun k => by simp only [haulageref03_Score.j1]; rw [if_neg (by simp)]) (Ev.now _)

/-! ### the document's order: again and again the strongest that is left -/
def pool : List Bool → List Int → Int → List (Int × Int)
  | [], _, _ => []
  | _ :: _, [], _ => []
  | b :: bs, s :: ss, i => if b = true then (i, s) :: pool bs ss (i + 1) else pool bs ss (i + 1)

theorem pool_mem : ∀ (bs : List Bool) (ss : List Int) (i : Int) (p : Int × Int), p ∈ pool bs ss i → ∃ j, j < bs.length ∧ p.1 = i + j ∧ p.2 = ss.getD j 0
  | [], _, _, p, hp => by simp [pool] at hp
  | _ :: _, [], _, p, hp => by simp [pool] at hp
  | b :: bs, s :: ss, i, p, hp => by
    have rest : p ∈ pool bs ss (i + 1) → ∃ j, j < (b :: bs).length ∧ p.1 = i + j ∧ p.2 = (s :: ss).getD j 0 := fun hp => by
      obtain ⟨j, h1, h2, h3⟩ := pool_mem bs ss (i + 1) p hp
      exact ⟨j + 1, by simp; omega, by omega, by simpa using h3⟩
    unfold pool at hp
    split at hp
    · rcases List.mem_cons.1 hp with rfl | hp
      · exact ⟨0, by simp, by simp, by simp⟩
      · exact rest hp
    · exact rest hp

theorem pool_up : ∀ (bs : List Bool) (ss : List Int) (i : Int), (pool bs ss i).Pairwise (fun x y => x.1 < y.1)
  | [], _, _ => List.Pairwise.nil
  | _ :: _, [], _ => List.Pairwise.nil
  | b :: bs, s :: ss, i => by
    unfold pool
    split
    · refine List.Pairwise.cons (fun p hp => ?_) (pool_up bs ss (i + 1))
      obtain ⟨j, _, h2, _⟩ := pool_mem bs ss (i + 1) p hp
      show i < p.1; omega
    · exact pool_up bs ss (i + 1)

theorem pool_set : ∀ (bs : List Bool) (ss : List Int) (i : Int) (j : Nat), pool (bs.set j false) ss i = (pool bs ss i).filter (fun p => p.1 != i + j)
  | [], _, _, _ => by simp [pool]
  | _ :: _, [], _, j => by cases j <;> simp [pool]
  | b :: bs, s :: ss, i, 0 => by
    have hf : (pool bs ss (i + 1)).filter (fun p => p.1 != i + ((0 : Nat) : Int)) = pool bs ss (i + 1) := by
      rw [List.filter_eq_self]
      intro p hp
      obtain ⟨j, _, h2, _⟩ := pool_mem bs ss (i + 1) p hp
      simp; omega
    simp only [List.set_cons_zero, pool]
    rw [if_neg (by simp)]
    split
    · rw [List.filter_cons, hf]; simp
    · exact hf.symm
  | b :: bs, s :: ss, i, j + 1 => by
    have ih := pool_set bs ss (i + 1) j
    have e : i + ((j + 1 : Nat) : Int) = i + 1 + j := by omega
    rw [e]
    simp only [List.set_cons_succ, pool]
    split
    · rw [List.filter_cons, ih, if_pos (by simp; omega)]
    · exact ih

/-- The strongest so far. -/
def stepV (cur : Option (Int × Int)) (p : Int × Int) : Option (Int × Int) := match cur with
  | none => some p
  | some q => if q.2 < p.2 then some p else some q
theorem pick_some : ∀ (P : List (Int × Int)) (q : Int × Int), (q :: P).Pairwise (fun x y => x.1 < y.1) → ∃ m, P.foldl stepV (some q) = some m ∧ m ∈ q :: P ∧ ∀ x ∈ q :: P, x = m ∨ Bf m x
  | [], q, _ => ⟨q, rfl, by simp, fun x hx => by simp at hx; exact .inl hx⟩
  | p :: P, q, h => by
    have h' := List.pairwise_cons.1 h
    have hp := h'.1 p (by simp)
    by_cases c : q.2 < p.2
    · obtain ⟨m, e, hm, hb⟩ := pick_some P p h'.2
      refine ⟨m, by simp only [List.foldl_cons, stepV, if_pos c]; exact e, List.mem_cons_of_mem _ hm, fun x hx => ?_⟩
      rcases List.mem_cons.1 hx with rfl | hx
      · right
        rcases hb p (by simp) with rfl | hb
        · unfold Bf; omega
        · unfold Bf at *; omega
      · exact hb x hx
    · have hq : (q :: P).Pairwise (fun x y => x.1 < y.1) := List.Pairwise.cons (fun x hx => h'.1 x (List.mem_cons_of_mem _ hx)) (List.pairwise_cons.1 h'.2).2
      obtain ⟨m, e, hm, hb⟩ := pick_some P q hq
      refine ⟨m, by simp only [List.foldl_cons, stepV, if_neg c]; exact e, by
        rcases List.mem_cons.1 hm with rfl | hm
        · simp
        · simp [hm], fun x hx => ?_⟩
      rcases List.mem_cons.1 hx with rfl | hx
      · exact hb _ (by simp)
      · rcases List.mem_cons.1 hx with rfl | hx
        · right
          rcases hb q (by simp) with rfl | hb
          · unfold Bf; omega
          · unfold Bf at *; omega
        · exact hb x (List.mem_cons_of_mem _ hx)

theorem once_perm : ∀ (P : List (Int × Int)) (m : Int × Int), Once P → m ∈ P → P.Perm (m :: P.filter (fun p => p.1 != m.1))
  | [], m, _, hm => by cases hm
  | p :: P, m, ho, hm => by
    have ho' := List.pairwise_cons.1 ho
    rw [List.filter_cons]
    by_cases c : p.1 = m.1
    · have e : p = m := once_eq ho (by simp) hm c
      subst e
      have hf : P.filter (fun x => x.1 != p.1) = P := by
        rw [List.filter_eq_self]; intro x hx; have := ho'.1 x hx; simp; exact fun e => this e.symm
      rw [hf]; simp
    · have hm2 : m ∈ P := by
        rcases List.mem_cons.1 hm with h | h
        · rw [h] at c; exact absurd rfl c
        · exact h
      rw [if_pos (by simp [c])]
      exact (List.Perm.cons p (once_perm P m ho'.2 hm2)).trans (List.Perm.swap m p _)

theorem sort_pick {P : List (Int × Int)} {m : Int × Int} (ho : Once P) (hm : m ∈ P) (hb : ∀ x ∈ P, x = m ∨ Bf m x) : sortV P = m :: sortV (P.filter fun p => p.1 != m.1) := by
  refine sortV_eq ((once_perm P m ho hm).trans (List.Perm.cons m (sortV_perm _).symm)) (List.Pairwise.cons (fun y hy => ?_) (sortV_sorted _))
  have hy2 := List.mem_filter.1 ((sortV_perm _).mem_iff.1 hy)
  rcases hb y hy2.1 with e | e
  · rw [e] at hy2; simp at hy2
  · rw [lt_cf]; unfold Bf at e; simp; omega

theorem pool_cons {bs : List Bool} {ss : List Int} (hl : bs.length = ss.length) {i : Int} (i0 : 0 ≤ i) (h : i < (bs.length : Int)) :
    pool (bs.drop i.toNat) (ss.drop i.toNat) i = if rdOf false bs i = true then (i, rd ss i) :: pool (bs.drop (i + 1).toNat) (ss.drop (i + 1).toNat) (i + 1) else pool (bs.drop (i + 1).toNat) (ss.drop (i + 1).toNat) (i + 1) := by
  have h1 : i.toNat < bs.length := by omega
  have h2 : i.toNat < ss.length := by omega
  have e1 : bs.drop i.toNat = rdOf false bs i :: bs.drop (i.toNat + 1) := by
    rw [List.drop_eq_getElem_cons h1]; congr 1; unfold rdOf; rw [List.getD_eq_getElem?_getD, List.getElem?_eq_getElem h1]; rfl
  have e2 : ss.drop i.toNat = rd ss i :: ss.drop (i.toNat + 1) := by
    rw [List.drop_eq_getElem_cons h2]; congr 1; unfold rd; rw [List.getD_eq_getElem?_getD, List.getElem?_eq_getElem h2]; rfl
  rw [e1, e2, show (i + 1).toNat = i.toNat + 1 by omega]
  rfl

/-- The number that stands for the strongest so far. -/
def codeV : Option (Int × Int) → Int
  | none => -1
  | some q => q.1

/-- What comes when the row has been gone through. -/
def endV (k : Nat) (n : Int) (ss : List Int) (bs : List Bool) (acc : List Int) (b : Int) : Option (List Int) := if b < 0 then (some acc) else (if 0 ≤ b then (if b < (bs.length : Int) then (if acc.length < 17592186044416 then (haulageref03_Rank.l1 k n ss (bs.set b.toNat false) (acc ++ [b])) else (none)) else (none)) else (none))

theorem rank_l2 (n : Int) (ss : List Int) (bs : List Bool) (acc r : List Int) (hl : bs.length = ss.length) (hn : n = bs.length) (hn2 : bs.length ≤ 65536) (m : Option (Int × Int)) (H : Ev (fun k => endV k n ss bs acc (codeV m)) r) :
    ∀ (d : Nat) (i : Int) (cur : Option (Int × Int)), 0 ≤ i → (bs.length : Int) - i ≤ d → (∀ q, cur = some q → 0 ≤ q.1 ∧ q.1 < i ∧ q.2 = rd ss q.1) → i ≤ bs.length → (pool (bs.drop i.toNat) (ss.drop i.toNat) i).foldl stepV cur = m →
    Ev (fun k => haulageref03_Rank.l2 k n ss bs acc (codeV cur) i) r
  | d, i, cur, i0, hd, hq, hi, hm => by
    by_cases c : i < (bs.length : Int)
    · obtain ⟨d, rfl⟩ : ∃ j, d = j + 1 := ⟨d - 1, by omega⟩
      rw [pool_cons hl i0 c] at hm
      by_cases cb : rdOf false bs i = true
      · rw [if_pos cb, List.foldl_cons] at hm
        cases cur with
        | none =>
          have ih := rank_l2 n ss bs acc r hl hn hn2 m H d (i + 1) (some (i, rd ss i)) (by omega) (by omega) (fun q e => by injection e with e; subst e; exact ⟨i0, by show i < i + 1; omega, rfl⟩) (by omega) hm
          refine Ev.step (f := fun k => haulageref03_Rank.l2 k n ss bs acc i (i + 1)) (fun k => by
            show haulageref03_Rank.l2 (k + 1) n ss bs acc (-1) i = _
            simp only [haulageref03_Rank.l2]
            rw [if_pos (by omega), if_pos i0, if_pos c, if_pos cb, if_pos (by omega), w64_id (by omega) (by omega)]) ih
        | some q =>
          obtain ⟨q0, q1, q2⟩ := hq q rfl
          simp only [stepV] at hm
          by_cases c2 : q.2 < rd ss i
          · rw [if_pos c2] at hm
            have ih := rank_l2 n ss bs acc r hl hn hn2 m H d (i + 1) (some (i, rd ss i)) (by omega) (by omega) (fun q e => by injection e with e; subst e; exact ⟨i0, by show i < i + 1; omega, rfl⟩) (by omega) hm
            refine Ev.step (f := fun k => haulageref03_Rank.l2 k n ss bs acc i (i + 1)) (fun k => by
              show haulageref03_Rank.l2 (k + 1) n ss bs acc q.1 i = _
              simp only [haulageref03_Rank.l2]
              rw [if_pos (by omega), if_pos i0, if_pos c, if_pos cb, if_neg (by omega), if_pos (by omega), if_pos (by omega), if_pos (by omega), if_pos (by omega), w64_id (by omega) (by omega)]) ih
          · rw [if_neg c2] at hm
            have ih := rank_l2 n ss bs acc r hl hn hn2 m H d (i + 1) (some q) (by omega) (by omega) (fun q' e => by injection e with e; subst e; exact ⟨q0, by omega, q2⟩) (by omega) hm
            refine Ev.step (f := fun k => haulageref03_Rank.l2 k n ss bs acc q.1 (i + 1)) (fun k => by
              show haulageref03_Rank.l2 (k + 1) n ss bs acc q.1 i = _
              simp only [haulageref03_Rank.l2]
              rw [if_pos (by omega), if_pos i0, if_pos c, if_pos cb, if_neg (by omega), if_pos (by omega), if_pos (by omega), if_pos (by omega), if_neg (by omega), w64_id (by omega) (by omega)]) ih
      · rw [if_neg cb] at hm
        have ih := rank_l2 n ss bs acc r hl hn hn2 m H d (i + 1) cur (by omega) (by omega) (fun q e => by obtain ⟨a, b, c⟩ := hq q e; exact ⟨a, by omega, c⟩) (by omega) hm
        refine Ev.step (f := fun k => haulageref03_Rank.l2 k n ss bs acc (codeV cur) (i + 1)) (fun k => by
          simp only [haulageref03_Rank.l2]
          rw [if_pos (by omega), if_pos i0, if_pos c, if_neg cb, w64_id (by omega) (by omega)]) ih
    · have e : cur = m := by rw [List.drop_of_length_le (by omega), List.drop_of_length_le (by omega)] at hm; exact hm
      subst e
      refine Ev.step (f := fun k => endV k n ss bs acc (codeV cur)) (fun k => by
        simp only [haulageref03_Rank.l2]
        rw [if_neg (by omega)]; rfl) H
  termination_by d => d

theorem rank_l1 (n : Int) (ss : List Int) : ∀ (d : Nat) (bs : List Bool) (acc : List Int), bs.length = ss.length → n = bs.length → bs.length ≤ 65536 → (pool bs ss 0).length ≤ d → acc.length + d ≤ 131072 →
    Ev (fun k => haulageref03_Rank.l1 k n ss bs acc) (acc ++ (sortV (pool bs ss 0)).map Prod.fst)
  | d, bs, acc, hl, hn, hn2, hd, ha => by
    refine Ev.step (f := fun k => haulageref03_Rank.l2 k n ss bs acc (-1) 0) (fun k => by simp only [haulageref03_Rank.l1]) ?_
    cases hP : pool bs ss 0 with
    | nil =>
      refine rank_l2 n ss bs acc _ hl hn hn2 none ?_ bs.length 0 none (by omega) (by omega) (fun q e => by cases e) (by omega) (by show (pool bs ss 0).foldl stepV none = none; rw [hP]; rfl)
      show Ev (fun k => endV k n ss bs acc (-1)) _
      have : (sortV ([] : List (Int × Int))).map Prod.fst = [] := by rw [List.eq_nil_iff_length_eq_zero, List.length_map, (sortV_perm _).length_eq]; rfl
      rw [this, List.append_nil]
      exact Ev.now _
    | cons q P =>
      have hup := pool_up bs ss 0
      rw [hP] at hup
      obtain ⟨m, e, hm, hb⟩ := pick_some P q hup
      obtain ⟨j, j1, j2, j3⟩ := pool_mem bs ss 0 m (by rw [hP]; exact hm)
      have ho : Once (q :: P) := hup.imp fun h => by omega
      obtain ⟨d, rfl⟩ : ∃ j, d = j + 1 := ⟨d - 1, by rw [hP] at hd; simp at hd; omega⟩
      have hset := pool_set bs ss 0 m.1.toNat
      rw [show (0 : Int) + (m.1.toNat : Int) = m.1 by omega, hP] at hset
      have hplen := (once_perm _ m ho hm).length_eq
      refine rank_l2 n ss bs acc _ hl hn hn2 (some m) ?_ bs.length 0 none (by omega) (by omega) (fun q e => by cases e) (by omega) (by show (pool bs ss 0).foldl stepV none = some m; rw [hP]; exact e)
      have ih := rank_l1 n ss d (bs.set m.1.toNat false) (acc ++ [m.1]) (by simpa using hl) (by simpa using hn) (by simpa using hn2) (by rw [hset]; rw [hP] at hd; simp at hd hplen ⊢; omega) (by simp; omega)
      rw [hset, List.append_assoc] at ih
      rw [sort_pick ho hm hb]
      have ee : (fun k => endV k n ss bs acc (codeV (some m))) = fun k => haulageref03_Rank.l1 k n ss (bs.set m.1.toNat false) (acc ++ [m.1]) := by
        funext k
        show endV k n ss bs acc m.1 = _
        unfold endV
        rw [if_neg (by omega), if_pos (by omega), if_pos (by omega), if_pos (by omega)]
      rw [ee]; exact ih
  termination_by d => d

/-! ### the rows that it fills first -/
def scoreRow (h : Int) : List Int → Int → List Int
  | [], _ => []
  | w :: ws, i => scoreV h i w :: scoreRow h ws (i + 1)
def canRow : List Int → List Bool
  | [] => []
  | w :: ws => decide (1 ≤ w ∧ w ≤ 64) :: canRow ws
theorem scoreRow_length (h : Int) : ∀ (ws : List Int) (i : Int), (scoreRow h ws i).length = ws.length
  | [], _ => rfl
  | w :: ws, i => by simp [scoreRow, scoreRow_length h ws]
theorem canRow_length : ∀ (ws : List Int), (canRow ws).length = ws.length
  | [] => rfl
  | w :: ws => by simp [canRow, canRow_length ws]
theorem scoreRow_at (h : Int) : ∀ (ws : List Int) (i : Int) (j : Nat) (hj : j < (scoreRow h ws i).length), (scoreRow h ws i)[j] = scoreV h (i + j) (ws.getD j 0)
  | [], _, _, hj => by simp [scoreRow] at hj
  | w :: ws, i, 0, hj => by simp [scoreRow]
  | w :: ws, i, j + 1, hj => by
    have := scoreRow_at h ws (i + 1) j (by simpa [scoreRow] using hj)
    simp only [scoreRow, List.getElem_cons_succ]
    rw [this, show i + 1 + (j : Int) = i + ((j + 1 : Nat) : Int) by omega]; simp
theorem canRow_at : ∀ (ws : List Int) (j : Nat) (hj : j < (canRow ws).length), (canRow ws)[j] = decide (1 ≤ ws.getD j 0 ∧ ws.getD j 0 ≤ 64)
  | [], _, hj => by simp [canRow] at hj
  | w :: ws, 0, hj => by simp [canRow]
  | w :: ws, j + 1, hj => by
    have := canRow_at ws j (by simpa [canRow] using hj)
    simp only [canRow, List.getElem_cons_succ]
    rw [this]; simp
theorem pool_row (h : Int) : ∀ (ws : List Int) (i : Int), pool (canRow ws) (scoreRow h ws i) i = rankRow h ws i
  | [], _ => rfl
  | w :: ws, i => by
    simp only [canRow, scoreRow, pool, rankRow, pool_row h ws (i + 1)]
    by_cases c : 1 ≤ w ∧ w ≤ 64
    · rw [if_pos c, if_pos (by simpa using c)]
    · rw [if_neg c, if_neg (by simpa using c)]
/-- A row that has been filled so far. -/
def fillTo {α : Type} (z : α) (full : List α) (i : Nat) : List α := full.take i ++ List.replicate (full.length - i) z
theorem fillTo_length {α : Type} (z : α) (full : List α) (i : Nat) (h : i ≤ full.length) : (fillTo z full i).length = full.length := by simp [fillTo]; omega
theorem fillTo_set {α : Type} (z : α) (full : List α) (i : Nat) (h : i < full.length) : (fillTo z full i).set i full[i] = fillTo z full (i + 1) := by
  unfold fillTo
  rw [List.set_append_right _ _ (by simp; omega), show full.length - i = full.length - (i + 1) + 1 by omega, List.replicate_succ, show i - (full.take i).length = 0 by simp; omega, List.set_cons_zero, List.take_succ_eq_append_getElem h, List.append_assoc]
  rfl
theorem fillTo_full {α : Type} (z : α) (full : List α) : fillTo z full full.length = full := by simp [fillTo]
theorem fillTo_zero {α : Type} (z : α) (full : List α) : fillTo z full 0 = List.replicate full.length z := by simp [fillTo]

theorem refRank_l0 (h : Int) (ws : List Int) (h0 : 0 ≤ h) (h1 : h ≤ 18446744073709551615) (hl : ws.length ≤ 65536) : ∀ (d i : Nat), ws.length - i ≤ d → i ≤ ws.length →
    Ev (fun k => haulageref03_Rank.l0 k h ws (ws.length : Int) (fillTo 0 (scoreRow h ws 0) i) (fillTo false (canRow ws) i) (i : Int)) ((sortV (rankRow h ws 0)).map Prod.fst)
  | d, i, hd, hi => by
    have s1 := scoreRow_length h ws 0
    have s2 := canRow_length ws
    by_cases c : i < ws.length
    · obtain ⟨d, rfl⟩ : ∃ j, d = j + 1 := ⟨d - 1, by omega⟩
      have ih := refRank_l0 h ws h0 h1 hl d (i + 1) (by omega) (by omega)
      have f1 := fillTo_length (0 : Int) (scoreRow h ws 0) i (by omega)
      have f2 := fillTo_length false (canRow ws) i (by omega)
      rw [← fillTo_set (0 : Int) _ i (by omega), ← fillTo_set false _ i (by omega), scoreRow_at, canRow_at, show (0 : Int) + (i : Int) = i by omega] at ih
      have ec : haulageref03_can.f (i : Int) (rd ws (i : Int)) = some (decide (1 ≤ ws.getD i 0 ∧ ws.getD i 0 ≤ 64)) := by
        rw [can_eq]; unfold rd; rw [Int.toNat_natCast]; congr 1; refine decide_eq_decide.2 ⟨fun q => ⟨q.1, q.2.1⟩, fun q => ⟨q.1, q.2, by omega, by omega⟩⟩
      have er : rd ws (i : Int) = ws.getD i 0 := by unfold rd; rw [Int.toNat_natCast]
      refine Ev.step (f := fun k => (haulageref03_Score.f k h (i : Int) (ws.getD i 0)).bind fun t239 => haulageref03_Rank.l0 k h ws (ws.length : Int) ((fillTo 0 (scoreRow h ws 0) i).set i t239) ((fillTo false (canRow ws) i).set i (decide (1 ≤ ws.getD i 0 ∧ ws.getD i 0 ≤ 64))) ((i + 1 : Nat) : Int)) (fun k => ?_) (Ev.bind (refScore_ev h _ _ h0 h1) ih)
      simp only [haulageref03_Rank.l0]
      rw [if_pos (by omega), if_pos (by omega), if_pos (by omega), ec, w64_id (by omega) (by omega), er]
      simp only [if_pos (show (i : Int) < ((fillTo 0 (scoreRow h ws 0) i).length : Int) by omega), if_pos (show (i : Int) < ((fillTo false (canRow ws) i).length : Int) by omega), Option.bind_some, Int.toNat_natCast]
      rfl
    · obtain rfl : i = ws.length := by omega
      have e1 : fillTo 0 (scoreRow h ws 0) ws.length = scoreRow h ws 0 := by rw [← s1]; exact fillTo_full _ _
      have e2 : fillTo false (canRow ws) ws.length = canRow ws := by rw [← s2]; exact fillTo_full _ _
      rw [e1, e2]
      refine Ev.step (f := fun k => haulageref03_Rank.l1 k (ws.length : Int) (scoreRow h ws 0) (canRow ws) []) (fun k => by
        simp only [haulageref03_Rank.l0]; rw [if_neg (by omega)]) ?_
      have pl := rankRow_len h ws 0
      have := rank_l1 (ws.length : Int) (scoreRow h ws 0) ws.length (canRow ws) [] (by omega) (by omega) (by omega) (by rw [pool_row]; exact pl) (by simp; omega)
      rw [pool_row, List.nil_append] at this
      exact this
  termination_by d => d

theorem refRank_ev (h : Int) (ws : List Int) (h0 : 0 ≤ h) (h1 : h ≤ 18446744073709551615) : Ev (fun k => haulageref03_Rank.f k h ws) (rankV h ws) := by
  unfold haulageref03_Rank.f rankV
  by_cases c : ws.length > 65536
  · rw [if_pos c]
    simp only [if_pos (show (ws.length : Int) > 65536 by omega)]
    exact Ev.now _
  · rw [if_neg c]
    simp only [if_neg (show ¬ (ws.length : Int) > 65536 by omega), if_pos (show 0 ≤ (ws.length : Int) by omega), Int.toNat_natCast, if_pos (show ws.length ≤ 35184372088832 by omega), if_pos (show ws.length ≤ 281474976710656 by omega)]
    have := refRank_l0 h ws h0 h1 (by omega) ws.length 0 (by omega) (by omega)
    rw [fillTo_zero, fillTo_zero, scoreRow_length, canRow_length] at this
    exact this

end Go.Proofs.Ytchmknacofaepaa.JQ
