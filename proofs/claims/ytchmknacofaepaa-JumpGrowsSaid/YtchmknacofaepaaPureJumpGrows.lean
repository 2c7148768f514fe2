/- JumpGrows: if one server's weight changes the order of all others stays; with a greater one it comes no later; each server that has a weight stands in the order once, no other one does, and it falls by score. No condition. -/
import Derived.Test.YtchmknacofaepaaPKx3
import Derived.Test.YtchmknacofaepaaJg
namespace Go.Proofs.Ytchmknacofaepaa.Pure
open Go.RowKit Go.Proofs.Ytchmknacofaepaa.PK Go.Proofs.YtchmknacofaepaaW.PrintWords Go.Proofs.YtchmknacofaepaaW.PrintLast Go.Proofs.Ytchmknacofaepaa.JQ Go.Proofs.Ytchmknacofaepaa.JF Go.Proofs.Ytchmknacofaepaa.RK
set_option linter.unusedVariables false
set_option linter.unusedSimpArgs false

section
variable {h : Int} {ws : List Int}
theorem rank_in (hl : ws.length ≤ 65536) : rankV h ws = (sortV (rankRow h ws 0)).map Prod.fst := by unfold rankV; rw [if_neg (by omega)]
theorem rank_once (hl : ws.length ≤ 65536) : (rankV h ws).Pairwise (· ≠ ·) := by
  rw [rank_in hl]; exact List.pairwise_map.2 (once_sort (once_row h ws 0))
theorem rank_len (hl : ws.length ≤ 65536) : (rankV h ws).length ≤ ws.length := by
  rw [rank_in hl, List.length_map, (sortV_perm _).length_eq]; exact rankRow_len h ws 0
theorem rank_mem (hl : ws.length ≤ 65536) {i : Int} (i0 : 0 ≤ i) (i1 : i < (ws.length : Int)) : i ∈ rankV h ws ↔ 1 ≤ rd ws i ∧ rd ws i ≤ 64 := by
  rw [rank_in hl, List.mem_map]
  constructor
  · rintro ⟨p, hp, rfl⟩
    obtain ⟨j, h1, h2, h3, h4, h5⟩ := rankRow_mem h ws 0 p ((sortV_perm _).mem_iff.1 hp)
    unfold rd; rw [show p.1.toNat = j by omega]; exact ⟨h3, h4⟩
  · rintro ⟨h1, h2⟩
    unfold rd at h1 h2
    have := rankRow_has h ws 0 i.toNat (by omega) h1 h2
    rw [show (0 : Int) + (i.toNat : Int) = i by omega] at this
    exact ⟨_, (sortV_perm _).mem_iff.2 this, rfl⟩

/-- Each server of the order has a weight; and of two that follow each other the first one stands before. -/
theorem rank_at (hl : ws.length ≤ 65536) {i : Int} (i0 : 0 ≤ i) (i1 : i < ((rankV h ws).length : Int)) : 0 ≤ rd (rankV h ws) i ∧ rd (rankV h ws) i < (ws.length : Int) := by
  rw [rank_in hl] at *
  rw [List.length_map] at i1
  unfold rd
  rw [List.getD_eq_getElem?_getD, List.getElem?_map, List.getElem?_eq_getElem (by omega)]
  obtain ⟨j, h1, h2, _⟩ := rankRow_mem h ws 0 _ ((sortV_perm _).mem_iff.1 (List.getElem_mem (l := sortV (rankRow h ws 0)) (n := i.toNat) (by omega)))
  simp; omega
theorem rank_next (hl : ws.length ≤ 65536) {i : Int} (i0 : 1 ≤ i) (i1 : i < ((rankV h ws).length : Int)) :
    Bf (rd (rankV h ws) (i - 1), scoreV h (rd (rankV h ws) (i - 1)) (rd ws (rd (rankV h ws) (i - 1)))) (rd (rankV h ws) i, scoreV h (rd (rankV h ws) i) (rd ws (rd (rankV h ws) i))) := by
  rw [rank_in hl] at *
  rw [List.length_map] at i1
  have at_ : ∀ (n : Nat) (hn : n < (sortV (rankRow h ws 0)).length), ((sortV (rankRow h ws 0))[n]) = (rd ((sortV (rankRow h ws 0)).map Prod.fst) n, scoreV h (rd ((sortV (rankRow h ws 0)).map Prod.fst) n) (rd ws (rd ((sortV (rankRow h ws 0)).map Prod.fst) n))) := by
    intro n hn
    have e : rd ((sortV (rankRow h ws 0)).map Prod.fst) n = ((sortV (rankRow h ws 0))[n]).1 := by
      unfold rd; rw [Int.toNat_natCast, List.getD_eq_getElem?_getD, List.getElem?_map, List.getElem?_eq_getElem hn]; rfl
    obtain ⟨j, h1, h2, h3, h4, h5⟩ := rankRow_mem h ws 0 _ ((sortV_perm _).mem_iff.1 (List.getElem_mem hn))
    rw [e]
    refine Prod.ext rfl ?_
    rw [h5]
    show _ = scoreV h _ _
    unfold rd
    rw [show ((sortV (rankRow h ws 0))[n]).1.toNat = j by omega]
  have := List.pairwise_iff_getElem.1 (sort_bf (once_row h ws 0)) (i - 1).toNat i.toNat (by omega) (by omega) (by omega)
  rw [at_ _ (by omega), at_ _ (by omega), show (((i - 1).toNat : Nat) : Int) = i - 1 by omega, show ((i.toNat : Nat) : Int) = i by omega] at this
  exact this
end

section
variable (h : Int) (ws : List Int) (who x : Int) (hl : ws.length ≤ 4096)
include hl

theorem grows_j4 (row : List Int) (was : Int) (w0 : 0 ≤ who) (hr : row.length ≤ 4097)
    (he : (rankRow h row 0).filter (fun p => p.1 != who) = (rankRow h ws 0).filter (fun p => p.1 != who))
    (hw : 1 ≤ was → was ≤ 64 → was ≤ x → x ≤ 64 → (who < (ws.length : Int) ∧ rd ws who = was ∧ who < (row.length : Int) ∧ rd row who = x)) :
    Ev (fun k => haulagelaw03_JumpGrows.j4 k h who x (rankV h ws) row was) true := by
  have l1 := rank_len (h := h) (ws := ws) (by omega)
  have l2 := rank_len (h := h) (ws := row) (by omega)
  have ew : (rankV h ws).filter (fun y => y != who) = (rankV h row).filter (fun y => y != who) := by
    rw [rank_in (by omega), rank_in (by omega), map_filter, map_filter, ← sort_filter, ← sort_filter, he]
  have l3 := List.length_filter_le (fun y => y != who) (rankV h ws)
  refine Ev.step (f := fun k => (RK.jump_Rank.f k h row).bind fun t180 => ((PJ.haulagelaw03_without.f k (rankV h ws) who).bind fun t183 => ((PJ.haulagelaw03_without.f k t180 who).bind fun t186 => ((PJ.haulagelaw03_same.f k t183 t186).bind fun t189 => (if t189 = true then (if was ≥ 1 then (if was ≤ 64 then (if x ≥ was then (if x ≤ 64 then ((PJ.haulagelaw03_place.f k t180 who).bind fun t190 => (if t190 ≥ 0 then ((PJ.haulagelaw03_place.f k t180 who).bind fun t191 => ((PJ.haulagelaw03_place.f k (rankV h ws) who).bind fun t192 => (some (decide (t191 ≤ t192))))) else (some false))) else (some true)) else (some true)) else (some true)) else (some true)) else (some false)))))) (fun k => by
    simp only [haulagelaw03_JumpGrows.j4]) ?_
  refine Ev.bind (Rank_ev h row) (Ev.bind (without_ev _ who (by omega)) (Ev.bind (without_ev _ who (by omega)) ?_))
  rw [ew]
  refine Ev.bind (same_Ev _ (by rw [← ew]; omega)) ?_
  simp only [if_true]
  by_cases c1 : was ≥ 1
  · simp only [if_pos c1]
    by_cases c2 : was ≤ 64
    · simp only [if_pos c2]
      by_cases c3 : x ≥ was
      · simp only [if_pos c3]
        by_cases c4 : x ≤ 64
        · simp only [if_pos c4]
          obtain ⟨a1, a2, a3, a4⟩ := hw c1 c2 c3 c4
          have m1 := rankRow_has h ws 0 who.toNat (by omega) (by unfold rd at a2; omega) (by unfold rd at a2; omega)
          have m2 := rankRow_has h row 0 who.toNat (by omega) (by unfold rd at a4; omega) (by unfold rd at a4; omega)
          rw [show (0 : Int) + (who.toNat : Int) = who by omega] at m1 m2
          have e1 : ws.getD who.toNat 0 = was := a2
          have e2 : row.getD who.toNat 0 = x := a4
          rw [e1] at m1
          rw [e2] at m2
          have p := place_le (once_row h ws 0) (once_row h row 0) m1 m2 he (score_le h who c1 c3 c4)
          have g := sort_place (once_row h row 0) m2
          rw [← rank_in (by omega), ← rank_in (by omega)] at p
          rw [← rank_in (by omega)] at g
          refine Ev.bind (place_ev _ who (by omega)) ?_
          simp only [if_pos (show placeV (rankV h row) who ≥ 0 by omega)]
          refine Ev.bind (place_ev _ who (by omega)) (Ev.bind (place_ev _ who (by omega)) ?_)
          rw [decide_eq_true p]; exact Ev.now _
        · simp only [if_neg c4]; exact Ev.now _
      · simp only [if_neg c3]; exact Ev.now _
    · simp only [if_neg c2]; exact Ev.now _
  · simp only [if_neg c1]; exact Ev.now _

theorem grows_j3 (b : Bool) (hb : b = true ∨ (0 ≤ who ∧ who ≤ (ws.length : Int))) : Ev (fun k => haulagelaw03_JumpGrows.j3 k h ws who x (rankV h ws) b) true := by
  cases b with
  | true => exact Ev.step (f := fun _ => some true) (fun k => by simp only [haulagelaw03_JumpGrows.j3]; rw [if_pos trivial]) (Ev.now _)
  | false =>
    rcases hb with hb | ⟨b0, b1⟩
    · cases hb
    · by_cases c : who = (ws.length : Int)
      · refine Ev.step (f := fun k => haulagelaw03_JumpGrows.j4 k h who x (rankV h ws) (ws ++ [x]) 0) (fun k => ?_) (grows_j4 h ws who x hl (ws ++ [x]) 0 b0 (by simp; omega) ?_ (fun q => by omega))
        · simp only [haulagelaw03_JumpGrows.j3, Option.bind_some, List.nil_append, List.length_nil]
          rw [if_neg (by simp), if_pos (by omega), if_pos c, if_pos (by omega)]
        · have := row_app h x ws 0
          rwa [show (0 : Int) + (ws.length : Int) = who by omega] at this
      · refine Ev.step (f := fun k => haulagelaw03_JumpGrows.j4 k h who x (rankV h ws) (ws.set who.toNat x) (rd ws who)) (fun k => ?_) (grows_j4 h ws who x hl (ws.set who.toNat x) (rd ws who) b0 (by simp; omega) ?_ (fun _ _ _ _ => ⟨by omega, rfl, by simp; omega, ?_⟩))
        · simp only [haulagelaw03_JumpGrows.j3, Option.bind_some, List.nil_append, List.length_nil]
          rw [if_neg (by simp), if_pos (by omega), if_neg c, if_pos b0, if_pos (by omega)]
        · have := row_set h x ws 0 who.toNat
          rwa [show (0 : Int) + (who.toNat : Int) = who by omega] at this
        · unfold rd; rw [List.getD_eq_getElem?_getD, List.getElem?_set_self (by omega)]; rfl

theorem grows_l1 : ∀ (d : Nat) (i : Int), 0 ≤ i → ((rankV h ws).length : Int) - i ≤ d → Ev (fun k => haulagelaw03_JumpGrows.l1 k h ws who x (rankV h ws) i) true
  | d, i, i0, hd => by
    have ll := rank_len (h := h) (ws := ws) (by omega)
    by_cases c : i < ((rankV h ws).length : Int)
    · obtain ⟨d, rfl⟩ : ∃ j, d = j + 1 := ⟨d - 1, by omega⟩
      have ih := grows_l1 d (i + 1) (by omega) (by omega)
      obtain ⟨a0, a1⟩ := rank_at (h := h) (ws := ws) (by omega) i0 c
      refine Ev.step (f := fun k => haulagelaw03_JumpGrows.j2 k h ws who x (rankV h ws) i (rd (rankV h ws) i) false) (fun k => by
        simp only [haulagelaw03_JumpGrows.l1]
        rw [if_pos c, if_pos i0, if_neg (by omega), decide_eq_false (by omega)]) ?_
      by_cases c0 : i = 0
      · refine Ev.step (f := fun k => haulagelaw03_JumpGrows.l1 k h ws who x (rankV h ws) (i + 1)) (fun k => by
          simp only [haulagelaw03_JumpGrows.j2]
          rw [if_neg (by simp), if_pos c0, w64_id (by omega) (by omega)]) ih
      · obtain ⟨q0, q1⟩ := rank_at (h := h) (ws := ws) (i := i - 1) (by omega) (by omega) (by omega)
        have bf := rank_next (h := h) (ws := ws) (by omega) (by omega : 1 ≤ i) c
        refine Ev.step (f := fun k => (PJ.jump_Score.f k h (rd (rankV h ws) (i - 1)) (rd ws (rd (rankV h ws) (i - 1)))).bind fun t165 => ((PJ.jump_Score.f k h (rd (rankV h ws) i) (rd ws (rd (rankV h ws) i))).bind fun t167 => (if t165 < t167 then (some false) else (if t165 = t167 then (if (rd (rankV h ws) (i - 1)) ≥ rd (rankV h ws) i then (some false) else (haulagelaw03_JumpGrows.l1 k h ws who x (rankV h ws) (i + 1))) else (haulagelaw03_JumpGrows.l1 k h ws who x (rankV h ws) (i + 1)))))) (fun k => by
          simp only [haulagelaw03_JumpGrows.j2]
          rw [if_neg (by simp), if_neg c0, w64_id (x := i - 1) (by omega) (by omega), if_pos (by omega), if_pos (by omega), if_pos q0, if_pos q1]
          simp only [if_pos a0, if_pos a1]
          rw [w64_id (x := i + 1) (by omega) (by omega)]) ?_
        refine Ev.bind (Score_ev _ _ _) (Ev.bind (Score_ev _ _ _) ?_)
        unfold Bf at bf
        simp only at bf
        simp only [if_neg (show ¬ scoreV h (rd (rankV h ws) (i - 1)) (rd ws (rd (rankV h ws) (i - 1))) < scoreV h (rd (rankV h ws) i) (rd ws (rd (rankV h ws) i)) by omega)]
        by_cases c3 : scoreV h (rd (rankV h ws) (i - 1)) (rd ws (rd (rankV h ws) (i - 1))) = scoreV h (rd (rankV h ws) i) (rd ws (rd (rankV h ws) i))
        · simp only [if_pos c3]
          simp only [if_neg (show ¬ rd (rankV h ws) (i - 1) ≥ rd (rankV h ws) i by omega)]; exact ih
        · simp only [if_neg c3]; exact ih
    · by_cases cw : who < 0
      · exact Ev.step (f := fun k => haulagelaw03_JumpGrows.j3 k h ws who x (rankV h ws) true) (fun k => by
          simp only [haulagelaw03_JumpGrows.l1]; rw [if_neg c, if_pos cw]) (grows_j3 h ws who x hl true (.inl rfl))
      · exact Ev.step (f := fun k => haulagelaw03_JumpGrows.j3 k h ws who x (rankV h ws) (decide (who > (ws.length : Int)))) (fun k => by
          simp only [haulagelaw03_JumpGrows.l1]; rw [if_neg c, if_neg cw]) (grows_j3 h ws who x hl _ (by
            by_cases q : who > (ws.length : Int)
            · left; simpa using q
            · right; omega))
  termination_by d => d

theorem grows_l0 : ∀ (d : Nat) (i : Int), 0 ≤ i → (ws.length : Int) - i ≤ d → Ev (fun k => haulagelaw03_JumpGrows.l0 k h ws who x (rankV h ws) i) true
  | d, i, i0, hd => by
    have ll := rank_len (h := h) (ws := ws) (by omega)
    by_cases c : i < (ws.length : Int)
    · obtain ⟨d, rfl⟩ : ∃ j, d = j + 1 := ⟨d - 1, by omega⟩
      have ih := grows_l0 d (i + 1) (by omega) (by omega)
      have fl := filter_len _ i (rank_once (h := h) (ws := ws) (by omega))
      have rm := rank_mem (h := h) (ws := ws) (by omega) i0 c
      refine Ev.step (f := fun k => (PJ.haulagelaw03_without.f k (rankV h ws) i).bind fun t156 => (if (rd ws i) ≥ 1 then (if ((decide ((rd ws i) ≤ 64)) != ((wrap64 (((rankV h ws).length : Int) - (t156.length : Int))) == 1)) = true then (some false) else (if (wrap64 (((rankV h ws).length : Int) - (t156.length : Int))) > 1 then (some false) else (haulagelaw03_JumpGrows.l0 k h ws who x (rankV h ws) (i + 1)))) else (if (false != ((wrap64 (((rankV h ws).length : Int) - (t156.length : Int))) == 1)) = true then (some false) else (if (wrap64 (((rankV h ws).length : Int) - (t156.length : Int))) > 1 then (some false) else (haulagelaw03_JumpGrows.l0 k h ws who x (rankV h ws) (i + 1)))))) (fun k => by
        simp only [haulagelaw03_JumpGrows.l0]
        rw [if_pos c, w64_id (x := i + 1) (by omega) (by omega)]
        simp only [if_pos i0]) ?_
      refine Ev.bind (without_ev _ i (by omega)) ?_
      rw [w64_id (by omega) (by omega), fl]
      by_cases cm : i ∈ rankV h ws
      · obtain ⟨v0, v1⟩ := rm.1 cm
        rw [if_pos cm, show ((rankV h ws).length : Int) - (((rankV h ws).length : Int) - 1) = 1 by omega, decide_eq_true v1]
        simp [v0]; exact ih
      · have nv : ¬ (1 ≤ rd ws i ∧ rd ws i ≤ 64) := fun q => cm (rm.2 q)
        rw [if_neg cm, show ((rankV h ws).length : Int) - (((rankV h ws).length : Int) - 0) = 0 by omega]
        by_cases c1 : rd ws i ≥ 1
        · rw [decide_eq_false (by omega)]; simp [c1]; exact ih
        · simp [c1]; exact ih
    · exact Ev.step (f := fun k => haulagelaw03_JumpGrows.l1 k h ws who x (rankV h ws) 0) (fun k => by
        simp only [haulagelaw03_JumpGrows.l0]; rw [if_neg c]) (grows_l1 h ws who x hl (rankV h ws).length 0 (by omega) (by omega))
  termination_by d => d
end

theorem JumpGrows : haulagelaw03_JumpGrows.Pure := by
  intro h ws who x wh hl hl2 hw ww wx
  suffices H : Ev (fun k => haulagelaw03_JumpGrows.f k h ws who x) true by
    obtain ⟨K, hK⟩ := H; exact ⟨K, hK K (Nat.le_refl _)⟩
  unfold haulagelaw03_JumpGrows.f
  refine Ev.bind known_ev ?_
  simp only [if_true]
  by_cases c : (ws.length : Int) > 4096
  · simp only [if_pos c]; exact Ev.now _
  · simp only [if_neg c, Option.bind_some, List.nil_append, List.length_nil]
    simp only [if_pos (show 0 + ws.length < 17592186044416 by omega)]
    exact Ev.bind (Rank_ev h ws) (grows_l0 h ws who x (by omega) ws.length 0 (by omega) (by omega))

end Go.Proofs.Ytchmknacofaepaa.Pure
