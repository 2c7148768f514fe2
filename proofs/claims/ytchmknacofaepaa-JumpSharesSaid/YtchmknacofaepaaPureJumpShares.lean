/- JumpShares: a shard and a home are the bucket of the key's and of the shard's mark, a key alone says its shard, and with one server more a shard stays or comes to the new one. No condition. -/
import Derived.Test.YtchmknacofaepaaPKx4
import Derived.Test.YtchmknacofaepaaJk
namespace Go.Proofs.Ytchmknacofaepaa.Pure
open Go.RowKit Go.Proofs.Ytchmknacofaepaa.PK Go.Proofs.YtchmknacofaepaaW.PrintWords Go.Proofs.YtchmknacofaepaaW.PrintLast Go.Proofs.Ytchmknacofaepaa.JQ Go.Proofs.Ytchmknacofaepaa.JF
set_option linter.unusedVariables false
set_option linter.unusedSimpArgs false

theorem JumpShares : haulagelaw03_JumpShares.Pure := by
  intro l b s n hl hl2 hw wb ws wn
  have b1 := bd_i64 wb
  have b2 := bd_i64 ws
  have b3 := bd_i64 wn
  suffices H : Ev (fun k => haulagelaw03_JumpShares.f k l b s n) true by
    obtain ⟨K, hK⟩ := H; exact ⟨K, hK K (Nat.le_refl _)⟩
  have hl3 : l.length ≤ 4611686018427387904 := by omega
  have hl4 : ([] : List Int).length + l.length < 140737488355328 := by simp; omega
  have fb := fnvV_bd [l]
  unfold haulagelaw03_JumpShares.f
  refine Ev.bind known_ev ?_
  simp only [if_true, Option.bind_some, List.nil_append, if_pos hl4]
  refine Ev.bind (Shard_ev l b hl3 b1.1 b1.2) (Ev.bind (Hash_ev l hl3) ?_)
  simp only [jumpE fb.1 fb.2 b1.1 b1.2, Option.bind_some, if_true]
  refine Ev.bind (Shard_ev l b hl3 b1.1 b1.2) (Ev.bind (Shard_ev l b hl3 b1.1 b1.2) ?_)
  simp only [bne_self_eq_false]
  have tail : ∀ (x : Bool), (x = true ↔ (n < 1 ∨ 1048575 < n)) → Ev (fun k => haulagelaw03_JumpShares.j1 k s n x) true := by
    intro x hx
    cases x with
    | true =>
      have hn := hx.1 rfl
      by_cases c : n = 1048576
      · exact Ev.step (f := fun _ => some true) (fun k => by simp only [haulagelaw03_JumpShares.j1, if_true, if_pos c]) (Ev.now _)
      · refine Ev.step (f := fun k => (PJ.jump_Home.f k s n).bind fun t279 => some (t279 == -1)) (fun k => by simp only [haulagelaw03_JumpShares.j1, if_true, if_neg c]) ?_
        refine Ev.bind (Home_ev s n b3.1 b3.2) ?_
        have : homeV s n = -1 := by unfold homeV; exact jumpV_out (by omega)
        rw [this]; exact Ev.now _
    | false =>
      have hn : ¬ (n < 1 ∨ 1048575 < n) := fun h => by simpa using hx.2 h
      refine Ev.step (f := fun k => (PJ.jump_Home.f k s n).bind fun t280 => ((PJ.jump_Home.f k s (n + 1)).bind fun t281 => (if t280 ≥ 0 then (if t280 < n then (if t281 = t280 then (some true) else (some (t281 == n))) else (some false)) else (some false)))) (fun k => by
        simp only [haulagelaw03_JumpShares.j1]
        rw [if_neg (by simp), w64_id (by omega) (by omega)]) ?_
      refine Ev.bind (Home_ev s n b3.1 b3.2) (Ev.bind (Home_ev s (n + 1) (by omega) (by omega)) ?_)
      have g : 0 ≤ homeV s n ∧ homeV s n < n := jumpV_bd (by omega) (by omega)
      rw [if_pos (by omega), if_pos g.2]
      have m : homeV s (n + 1) = homeV s n ∨ homeV s (n + 1) = n := jumpV_more _ (by omega) (by omega)
      rcases m with e | e
      · rw [if_pos e]; exact Ev.now _
      · rw [if_neg (by omega), e, beq_self_eq_true]; exact Ev.now _
  refine Ev.step (f := fun k => if n < 1 then haulagelaw03_JumpShares.j1 k s n true else haulagelaw03_JumpShares.j1 k s n (decide (n > 1048575))) (fun k => by
    simp only [haulagelaw03_JumpShares.j0]; rw [if_neg (by simp)]) ?_
  by_cases c1 : n < 1
  · simp only [if_pos c1]; exact tail true (by simp [c1])
  · simp only [if_neg c1]
    exact tail _ (by simp; omega)

end Go.Proofs.Ytchmknacofaepaa.Pure
