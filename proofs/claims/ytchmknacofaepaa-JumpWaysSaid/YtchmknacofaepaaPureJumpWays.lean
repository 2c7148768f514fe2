/- JumpWays: for every hash and every number of buckets, the program's bucket and way are those of the document's reference. No condition. -/
import Derived.Test.YtchmknacofaepaaJq
namespace Go.Proofs.Ytchmknacofaepaa.Pure
open Go.RowKit Go.Proofs.Ytchmknacofaepaa.PJ Go.Proofs.Ytchmknacofaepaa.JQ Go.Proofs.Ytchmknacofaepaa.JF

theorem JumpWays : haulagelaw03_JumpWays.Pure := by
  intro h b wh wb
  have b1 := bd_u64 wh
  have b2 := bd_i64 wb
  refine ⟨1048801, ?_⟩
  unfold haulagelaw03_JumpWays.f
  have hf := JP.fits_mk b1.1 b1.2 b2.1 b2.2
  have e1 : JP.jump_Jump.f h b = some (jumpV h b) := by unfold JP.jump_Jump.f; rw [if_pos hf]
  have e2 : JP.jump_Way.f h b = some (wayV h b) := by unfold JP.jump_Way.f; rw [if_pos hf]
  have hl := wayV_length h b
  rw [e1, Option.bind_some, refJump_ev h b (by omega), Option.bind_some, if_pos rfl, e2, Option.bind_some, refWay_ev h b (by omega), Option.bind_some, same_ev _ (by omega) (by omega)]
  rfl

end Go.Proofs.Ytchmknacofaepaa.Pure
