/- RouteFollows: for every servers, shards, shard, order and beginning, the route comes to the server that has the shard by hints each of which is believed, and its trail is the way. No condition. -/
import Derived.Test.YtohljkjaggcapaaRw
namespace Go.Proofs.Ytohljkjaggcapaa.Hand
open Go.RowKit Go.Proofs.YtohljkjaggcapaaW.PrintWords Go.Proofs.YtohljkjaggcapaaW.PrintLast
set_option linter.unusedVariables false

theorem RouteFollows_walk (a0 a1 a2 : Int) (a3 : Option Addr) (len3 cap3 : Nat) (z3 : List Int) (a4 : Int) (w : World) (w0 : (Lit.int .i64 a0).wf = true) (w1 : (Lit.int .i64 a1).wf = true) (w2 : (Lit.int .i64 a2).wf = true)
    (w3 : (a3 = none ∧ len3 = 0 ∧ cap3 = 0 ∧ z3 = []) ∨ ∃ x, a3 = some x ∧ len3 ≤ cap3 ∧ cap3 ≤ maxLen ∧ z3.length = cap3 ∧ (∀ i, i < z3.length → w.cell? (x.add i) = some (.int .i64 (z3.getD i 0))) ∧ ∀ n ∈ z3, (Lit.int .i64 n).wf = true)
    (y3 : len3 * 8 ≤ 140737488351232) (w4 : (Lit.int .i64 a4).wf = true) :
    Calls Try.prog 3 #[.int .i64 a0, .int .i64 a1, .int .i64 a2, .slice a3 len3 cap3, .int .i64 a4] w fun e w' => e = .returned (.bool true) ∧ Below w.heap.size w w' := by
  obtain ⟨l0, rfl, hr0, hm0, hw0, hc0⟩ := ReadsInt.ofRowC w3
  exact RT.follows_walk a0 a1 a2 a4 a3 cap3 l0 w (Kd.C_of_reads (d := (0 : Int)) (h1 := fun _ => rfl) hr0) hc0 (by omega) w2

end Go.Proofs.Ytohljkjaggcapaa.Hand
