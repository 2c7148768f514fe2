/- JumpLittle: with one bucket more a hash stays or comes to the new one; a longer way goes on from a shorter one and rises. No condition. -/
import Derived.Test.YtchmknacofaepaaPKx2
import Derived.Test.YtchmknacofaepaaJk
namespace Go.Proofs.Ytchmknacofaepaa.Pure
open Go.RowKit Go.Proofs.Ytchmknacofaepaa.PK Go.Proofs.YtchmknacofaepaaW.PrintWords Go.Proofs.YtchmknacofaepaaW.PrintLast Go.Proofs.Ytchmknacofaepaa.JQ Go.Proofs.Ytchmknacofaepaa.JF
set_option linter.unusedVariables false
set_option linter.unusedSimpArgs false

theorem rd_at {l : List Int} {i : Int} (i0 : 0 ≤ i) (h : i < (l.length : Int)) : rd l i = l[i.toNat]'(by omega) := by
  unfold rd; rw [List.getD_eq_getElem?_getD, List.getElem?_eq_getElem (by omega)]; rfl

theorem little_l0 (b c : Int) (xs rest : List Int) (hr : ∀ x ∈ rest, b ≤ x) (hs : (xs ++ rest).Pairwise (· < ·)) (hb : ∀ x ∈ xs ++ rest, x < c) (hl : (xs ++ rest).length ≤ 1048577) :
    ∀ (d : Nat) (i : Int), 1 ≤ i → ((xs ++ rest).length : Int) - i ≤ d → Ev (fun k => haulagelaw03_JumpLittle.l0 k b c xs (xs ++ rest) i) true
  | d, i, i1, hd => by
    by_cases cc : i < ((xs ++ rest).length : Int)
    · obtain ⟨d, rfl⟩ : ∃ j, d = j + 1 := ⟨d - 1, by omega⟩
      have ih := little_l0 b c xs rest hr hs hb hl d (i + 1) (by omega) (by omega)
      refine Ev.step (f := fun k => haulagelaw03_JumpLittle.l0 k b c xs (xs ++ rest) (i + 1)) (fun k => ?_) ih
      simp only [haulagelaw03_JumpLittle.l0]
      rw [if_pos cc, if_pos (by omega), w64_id (x := i - 1) (by omega) (by omega), if_pos (by omega), if_pos (by omega), rd_at (by omega) cc, rd_at (i := i - 1) (by omega) (by omega)]
      have h1 := List.pairwise_iff_getElem.1 hs (i - 1).toNat i.toNat (by omega) (by omega) (by omega)
      have h2 := hb _ (List.getElem_mem (l := xs ++ rest) (n := i.toNat) (by omega))
      rw [if_neg (by omega), if_neg (by omega), w64_id (by omega) (by omega)]
      by_cases c3 : i ≥ (xs.length : Int)
      · rw [if_pos c3]
        have h3 : b ≤ (xs ++ rest)[i.toNat]'(by omega) := by
          rw [List.getElem_append_right (by omega)]
          exact hr _ (List.getElem_mem _)
        rw [if_neg (by omega)]
      · rw [if_neg c3]
    · exact ⟨1, fun k hk => by
        obtain ⟨k, rfl⟩ := succ_of (show 0 < k by omega)
        simp only [haulagelaw03_JumpLittle.l0]
        rw [if_neg cc]⟩
  termination_by d => d

theorem little_j3 (h b c : Int) (h0 : 0 ≤ h) (h1 : h ≤ 18446744073709551615) (b0 : 1 ≤ b) (hbc : b ≤ c) (hc : c ≤ 1048576) : Ev (fun k => haulagelaw03_JumpLittle.j3 k h b (jumpV h b) c) true := by
  obtain ⟨rest, e, hr⟩ := wayV_grows h b0 hbc hc
  obtain ⟨tl, et⟩ := wayV_head (h := h) b0 (by omega : b ≤ 1048576)
  have l1 := wayV_length h b
  have l2 := wayV_length h c
  have hp : 0 < (wayV h b).length := by rw [et]; simp
  have hle : (wayV h b).length ≤ (wayV h c).length := by rw [e]; simp
  have hl : rd (wayV h b) ((wayV h b).length - 1 : Int) = jumpV h b := by
    rw [rd_last _ (by rw [et]; simp)]; rfl
  have h00 : rd (wayV h b) 0 = 0 := by rw [et]; rfl
  have ht : (wayV h c).take ((wayV h b).length : Int).toNat = wayV h b := by
    rw [e, Int.toNat_natCast, List.take_left]
  refine Ev.step (f := fun k => (PJ.haulagelaw03_same.f k (wayV h b) (wayV h b)).bind fun t139 => if t139 = true then haulagelaw03_JumpLittle.j4 k b c (wayV h b) (wayV h c) false else haulagelaw03_JumpLittle.j4 k b c (wayV h b) (wayV h c) true) (fun k => ?_) ?_
  · simp only [haulagelaw03_JumpLittle.j3]
    rw [wayE h0 h1 (by omega) (by omega), wayE h0 h1 (by omega) (by omega), Option.bind_some, Option.bind_some, if_neg (by omega), if_neg (by omega), if_pos (by omega), if_pos (by omega), ht, w64_id (by omega) (by omega), if_pos (by omega : (0 : Int) < _), if_pos h00, if_pos (by omega), if_pos (by omega), hl]
    simp
  · refine Ev.bind (same_Ev _ (by omega)) ?_
    simp only [if_true]
    refine Ev.step (f := fun k => haulagelaw03_JumpLittle.l0 k b c (wayV h b) (wayV h c) 1) (fun k => by simp [haulagelaw03_JumpLittle.j4]) ?_
    rw [e]
    refine little_l0 b c _ rest (fun x hx => (hr x hx).1) (by rw [← e]; exact wayV_rises h c) (fun x hx => ?_) (by rw [← e]; omega) (wayV h c).length 1 (by omega) (by rw [← e]; omega)
    rw [← e] at hx
    exact (wayV_bd h c x hx).2

theorem little_j1 (h b m : Int) (h0 : 0 ≤ h) (h1 : h ≤ 18446744073709551615) (b0 : 1 ≤ b) (hb : b ≤ 1048575) : Ev (fun k => haulagelaw03_JumpLittle.j1 k h b m (jumpV h b) false) true := by
  by_cases c1 : m > 0
  · refine Ev.step (f := fun k => haulagelaw03_JumpLittle.j2 k h b m (jumpV h b) b (decide (m ≤ 1048576 - b))) (fun k => by
      simp only [haulagelaw03_JumpLittle.j1]
      rw [if_neg (by simp), if_pos c1, w64_id (by omega) (by omega)]) ?_
    by_cases c2 : m ≤ 1048576 - b
    · refine Ev.step (f := fun k => haulagelaw03_JumpLittle.j3 k h b (jumpV h b) (b + m)) (fun k => ?_) (little_j3 h b (b + m) h0 h1 b0 (by omega) (by omega))
      simp only [haulagelaw03_JumpLittle.j2]
      rw [if_pos (by simpa using c2), w64_id (by omega) (by omega)]
    · refine Ev.step (f := fun k => haulagelaw03_JumpLittle.j3 k h b (jumpV h b) b) (fun k => ?_) (little_j3 h b b h0 h1 b0 (by omega) (by omega))
      simp only [haulagelaw03_JumpLittle.j2]
      rw [if_neg (by simpa using c2)]
  · refine Ev.step (f := fun k => haulagelaw03_JumpLittle.j2 k h b m (jumpV h b) b false) (fun k => by
      simp only [haulagelaw03_JumpLittle.j1]
      rw [if_neg (by simp), if_neg c1]) ?_
    refine Ev.step (f := fun k => haulagelaw03_JumpLittle.j3 k h b (jumpV h b) b) (fun k => ?_) (little_j3 h b b h0 h1 b0 (by omega) (by omega))
    simp only [haulagelaw03_JumpLittle.j2]
    rw [if_neg (by simp)]

theorem JumpLittle : haulagelaw03_JumpLittle.Pure := by
  intro h b m wh wb wm
  have b1 := bd_u64 wh
  have b2 := bd_i64 wb
  suffices H : Ev (fun k => haulagelaw03_JumpLittle.f k h b m) true by
    obtain ⟨K, hK⟩ := H; exact ⟨K, hK K (Nat.le_refl _)⟩
  unfold haulagelaw03_JumpLittle.f
  refine Ev.bind known_ev ?_
  simp only [if_true]
  have out : ∀ (hb : b < 1 ∨ 1048575 < b), Ev (fun k => haulagelaw03_JumpLittle.j0 k h b m true) true := fun hb => ⟨1, fun k hk => by
    obtain ⟨k, rfl⟩ := succ_of (show 0 < k by omega)
    simp only [haulagelaw03_JumpLittle.j0, if_true]
    by_cases c : b = 1048576
    · rw [if_pos c]
    · rw [if_neg c, jumpE b1.1 b1.2 b2.1 b2.2, jumpV_out (by omega), Option.bind_some, if_pos rfl, wayE b1.1 b1.2 b2.1 b2.2, wayV_out (by omega)]; rfl⟩
  by_cases c1 : b < 1
  · simp only [if_pos c1]; exact out (.inl c1)
  · simp only [if_neg c1]
    by_cases c2 : b > 1048575
    · simp only [c2, decide_true]; exact out (.inr c2)
    · simp only [c2, decide_false]
      have g := jumpV_bd (h := h) (b := b) (by omega) (by omega)
      refine Ev.step (f := fun k => haulagelaw03_JumpLittle.j1 k h b m (jumpV h b) false) (fun k => ?_) (little_j1 h b m b1.1 b1.2 (by omega) (by omega))
      simp only [haulagelaw03_JumpLittle.j0]
      rw [if_neg (by simp), jumpE b1.1 b1.2 b2.1 b2.2, Option.bind_some, w64_id (x := b + 1) (by omega) (by omega), jumpE b1.1 b1.2 (by omega) (by omega), Option.bind_some, if_neg (by omega), if_neg (by omega), jumpE b1.1 b1.2 (by omega) (by omega), jumpV_one]
      rcases jumpV_more h (b := b) (by omega) (by omega) with e | e
      · rw [if_pos e]; rfl
      · rw [if_neg (by omega), if_pos e]; rfl

end Go.Proofs.Ytchmknacofaepaa.Pure
