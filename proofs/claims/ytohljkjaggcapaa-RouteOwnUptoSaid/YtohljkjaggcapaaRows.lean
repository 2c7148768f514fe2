/-
  No cell of these rows narrows 'for every input' (looked for: loops, veiled, ifaces, maps, wideKeys, modest, calm, conditions, laid).
  DERIVED. THE GIVEN ROWS OF THIS SEAT. 6 by the template 'for every input the law returns true; each argument reads behind the call as it read before'; 0 by the template 'total and deterministic' (their statements: YtohljkjaggcapaaTotals.lean).
  GIVEN WITH THE SEED: the statements are not yours to turn. If you find one false, say at which input.
  Laid BY PROGRAM, IN A SANDBOX (cutbox-rows.mjs): the forced cells as the released guide's own fill.sh prints them over the translation 102409aa15b359c3… (all of the seat's roots in one cut). By AI agents, Wed Nov 11 2026. No macro, syntax, notation, axiom, sorry.
-/
import Derived.Test.YtohljkjaggcapaaChecked
import GoSem.Claim
import GoSem.ClaimJoined
import GoSem.ClaimMapViews
import Derived.JoinedTies
import Derived.KernelRfl
namespace Go.Proofs.Ytohljkjaggcapaa
/- THE CELL 'sum', in the pinned program and in every row, IS THE sha256 OF THE DUMP (.gsa) THAT YtohljkjaggcapaaProg.lean LOADS. Nothing in Lean hashes anything: it is a label: what it is worth is what the hold of that sum in a sandbox is worth. -/
noncomputable def Try.pinned : Pinned := { name := "ytohljkjaggcapaa", sum := "102409aa15b359c377f91e23d43797e421464d69889b6e6049da4e80505b300e", checked := Try.checked }
namespace Rows
def none {H : Type} : Left H := { results := [], args := [] }

/-- 'haulagelaw23.RouteFollows': WHATEVER THE INPUT: true; the input reads as it did. -/
def routeFollowsSpec : ChangeSpec := { name := "routeFollows", fn := fun _ => fun
  | [d1, d2, d3, d4, d5] => { results := [.lit (.bool true)], args := [d1, d2, d3, d4, d5] }
  | _ => none }
def routeFollowsRow : OpenClaim := { program := "ytohljkjaggcapaa", sum := "102409aa15b359c377f91e23d43797e421464d69889b6e6049da4e80505b300e", func := "haulage/haulagelaw23.RouteFollows", spec := "routeFollows", unfollowed := true, recurses := true, apart := false }
def RouteFollowsSaid : Prop := routeFollowsRow.holds Try.pinned (OpenSpec.ofChange routeFollowsSpec)

/-- ITS FALSE NEIGHBOUR: 'it returns false'. Refute it at one input. -/
def routeFollowsWrong : ChangeSpec := { name := "routeFollows", fn := fun _ => fun
  | [d1, d2, d3, d4, d5] => { results := [.lit (.bool false)], args := [d1, d2, d3, d4, d5] }
  | _ => none }
def RouteFollowsWrongFalsely : Prop := routeFollowsRow.holds Try.pinned (OpenSpec.ofChange routeFollowsWrong)

/-- 'haulagelaw23.RouteHomes': WHATEVER THE INPUT: true; the input reads as it did. -/
def routeHomesSpec : ChangeSpec := { name := "routeHomes", fn := fun _ => fun
  | [d1, d2, d3] => { results := [.lit (.bool true)], args := [d1, d2, d3] }
  | _ => none }
def routeHomesRow : OpenClaim := { program := "ytohljkjaggcapaa", sum := "102409aa15b359c377f91e23d43797e421464d69889b6e6049da4e80505b300e", func := "haulage/haulagelaw23.RouteHomes", spec := "routeHomes", unfollowed := true, recurses := true, apart := false }
def RouteHomesSaid : Prop := routeHomesRow.holds Try.pinned (OpenSpec.ofChange routeHomesSpec)

/-- ITS FALSE NEIGHBOUR: 'it returns false'. Refute it at one input. -/
def routeHomesWrong : ChangeSpec := { name := "routeHomes", fn := fun _ => fun
  | [d1, d2, d3] => { results := [.lit (.bool false)], args := [d1, d2, d3] }
  | _ => none }
def RouteHomesWrongFalsely : Prop := routeHomesRow.holds Try.pinned (OpenSpec.ofChange routeHomesWrong)

/-- 'haulagelaw23.RouteOwn': WHATEVER THE INPUT: true; the input reads as it did. -/
def routeOwnSpec : ChangeSpec := { name := "routeOwn", fn := fun _ => fun
  | [d1, d2, d3, d4, d5] => { results := [.lit (.bool true)], args := [d1, d2, d3, d4, d5] }
  | _ => none }
def routeOwnRow : OpenClaim := { program := "ytohljkjaggcapaa", sum := "102409aa15b359c377f91e23d43797e421464d69889b6e6049da4e80505b300e", func := "haulage/haulagelaw23.RouteOwn", spec := "routeOwn", unfollowed := true, recurses := true, apart := false }
def RouteOwnSaid : Prop := routeOwnRow.holds Try.pinned (OpenSpec.ofChange routeOwnSpec)

/-- ITS FALSE NEIGHBOUR: 'it returns false'. Refute it at one input. -/
def routeOwnWrong : ChangeSpec := { name := "routeOwn", fn := fun _ => fun
  | [d1, d2, d3, d4, d5] => { results := [.lit (.bool false)], args := [d1, d2, d3, d4, d5] }
  | _ => none }
def RouteOwnWrongFalsely : Prop := routeOwnRow.holds Try.pinned (OpenSpec.ofChange routeOwnWrong)

/-- 'haulagelaw23.RouteScript': WHATEVER THE INPUT: true; the input reads as it did. -/
def routeScriptSpec : ChangeSpec := { name := "routeScript", fn := fun _ => fun
  | [d1, d2, d3] => { results := [.lit (.bool true)], args := [d1, d2, d3] }
  | _ => none }
def routeScriptRow : OpenClaim := { program := "ytohljkjaggcapaa", sum := "102409aa15b359c377f91e23d43797e421464d69889b6e6049da4e80505b300e", func := "haulage/haulagelaw23.RouteScript", spec := "routeScript", unfollowed := true, recurses := true, apart := false }
def RouteScriptSaid : Prop := routeScriptRow.holds Try.pinned (OpenSpec.ofChange routeScriptSpec)

/-- ITS FALSE NEIGHBOUR: 'it returns false'. Refute it at one input. -/
def routeScriptWrong : ChangeSpec := { name := "routeScript", fn := fun _ => fun
  | [d1, d2, d3] => { results := [.lit (.bool false)], args := [d1, d2, d3] }
  | _ => none }
def RouteScriptWrongFalsely : Prop := routeScriptRow.holds Try.pinned (OpenSpec.ofChange routeScriptWrong)

/-- 'haulagelaw23.RouteKnown': WHATEVER THE INPUT: true; the input reads as it did. -/
def routeKnownSpec : ChangeSpec := { name := "routeKnown", fn := fun _ => fun
  | [] => { results := [.lit (.bool true)], args := [] }
  | _ => none }
def routeKnownRow : OpenClaim := { program := "ytohljkjaggcapaa", sum := "102409aa15b359c377f91e23d43797e421464d69889b6e6049da4e80505b300e", func := "haulage/haulagelaw23.RouteKnown", spec := "routeKnown", unfollowed := true, recurses := true, apart := false }
def RouteKnownSaid : Prop := routeKnownRow.holds Try.pinned (OpenSpec.ofChange routeKnownSpec)

/-- ITS FALSE NEIGHBOUR: 'it returns false'. Refute it at one input. -/
def routeKnownWrong : ChangeSpec := { name := "routeKnown", fn := fun _ => fun
  | [] => { results := [.lit (.bool false)], args := [] }
  | _ => none }
def RouteKnownWrongFalsely : Prop := routeKnownRow.holds Try.pinned (OpenSpec.ofChange routeKnownWrong)

/-- 'haulagelaw23.RouteBooks': WHATEVER THE INPUT: true; the input reads as it did. -/
def routeBooksSpec : ChangeSpec := { name := "routeBooks", fn := fun _ => fun
  | [d1, d2, d3, d4, d5] => { results := [.lit (.bool true)], args := [d1, d2, d3, d4, d5] }
  | _ => none }
def routeBooksRow : OpenClaim := { program := "ytohljkjaggcapaa", sum := "102409aa15b359c377f91e23d43797e421464d69889b6e6049da4e80505b300e", func := "haulage/haulagelaw23.RouteBooks", spec := "routeBooks", unfollowed := true, recurses := true, apart := false }
def RouteBooksSaid : Prop := routeBooksRow.holds Try.pinned (OpenSpec.ofChange routeBooksSpec)

/-- ITS FALSE NEIGHBOUR: 'it returns false'. Refute it at one input. -/
def routeBooksWrong : ChangeSpec := { name := "routeBooks", fn := fun _ => fun
  | [d1, d2, d3, d4, d5] => { results := [.lit (.bool false)], args := [d1, d2, d3, d4, d5] }
  | _ => none }
def RouteBooksWrongFalsely : Prop := routeBooksRow.holds Try.pinned (OpenSpec.ofChange routeBooksWrong)

/- THE SECOND FORM. 'bulk': how many values and letters a reading holds, each counted each time it is reached (what is shared counts as often as it is met; a slice's spare places count too). A statement '..UptoSaid' is the law's where the arguments, and the package variables that the reading takes, are together of bulk at most 1048576: NARROWER than '..Said'. Prove '..Said' where nothing that the law and all that it calls make is longer than what came in: it says more and counts as full. Else prove '..UptoSaid'. A law counts once. -/
mutual
def uptoBulk {H : Type} : DataW H → Nat
  | .lit (.string bytes) => bytes.length + 1
  | .lit _ => 1
  | .nil => 1
  | .ptr d => uptoBulk d + 1
  | .slice elems spare => uptoBulkAll elems + uptoBulkAll spare + 1
  | .agg parts => uptoBulkAll parts + 1
  | .iface _ d => uptoBulk d + 1
  | .map entries => uptoBulkEntries entries + 1
  | .held _ => 1
def uptoBulkAll {H : Type} : List (DataW H) → Nat
  | [] => 0
  | d :: r => uptoBulk d + uptoBulkAll r
def uptoBulkEntries {H : Type} : List (Lit × DataW H) → Nat
  | [] => 0
  | x :: r => uptoBulkEntry x + uptoBulkEntries r
def uptoBulkEntry {H : Type} : Lit × DataW H → Nat
  | (.string bytes, d) => bytes.length + uptoBulk d + 1
  | (_, d) => uptoBulk d + 1
 end
def uptoSmall : (H : Type) → List (DataW H) → Bool := fun _ ds => decide (uptoBulkAll ds ≤ 1048576)
def OpenSpec.upto (s : _root_.Go.ChangeSpec) : _root_.Go.OpenSpec := { _root_.Go.OpenSpec.ofChange s with cond := some uptoSmall }

/-- 'haulagelaw23.RouteFollows', WHERE WHAT IT READS IS OF BULK AT MOST 1048576: true; the input reads as it did. -/
def routeFollowsUptoRow : OpenClaim := { program := "ytohljkjaggcapaa", sum := "102409aa15b359c377f91e23d43797e421464d69889b6e6049da4e80505b300e", func := "haulage/haulagelaw23.RouteFollows", spec := "routeFollows", unfollowed := true, recurses := true, apart := false, narrowed := true }
def RouteFollowsUptoSaid : Prop := routeFollowsUptoRow.holds Try.pinned (OpenSpec.upto routeFollowsSpec)

/-- 'haulagelaw23.RouteHomes', WHERE WHAT IT READS IS OF BULK AT MOST 1048576: true; the input reads as it did. -/
def routeHomesUptoRow : OpenClaim := { program := "ytohljkjaggcapaa", sum := "102409aa15b359c377f91e23d43797e421464d69889b6e6049da4e80505b300e", func := "haulage/haulagelaw23.RouteHomes", spec := "routeHomes", unfollowed := true, recurses := true, apart := false, narrowed := true }
def RouteHomesUptoSaid : Prop := routeHomesUptoRow.holds Try.pinned (OpenSpec.upto routeHomesSpec)

/-- 'haulagelaw23.RouteOwn', WHERE WHAT IT READS IS OF BULK AT MOST 1048576: true; the input reads as it did. -/
def routeOwnUptoRow : OpenClaim := { program := "ytohljkjaggcapaa", sum := "102409aa15b359c377f91e23d43797e421464d69889b6e6049da4e80505b300e", func := "haulage/haulagelaw23.RouteOwn", spec := "routeOwn", unfollowed := true, recurses := true, apart := false, narrowed := true }
def RouteOwnUptoSaid : Prop := routeOwnUptoRow.holds Try.pinned (OpenSpec.upto routeOwnSpec)

/-- 'haulagelaw23.RouteScript', WHERE WHAT IT READS IS OF BULK AT MOST 1048576: true; the input reads as it did. -/
def routeScriptUptoRow : OpenClaim := { program := "ytohljkjaggcapaa", sum := "102409aa15b359c377f91e23d43797e421464d69889b6e6049da4e80505b300e", func := "haulage/haulagelaw23.RouteScript", spec := "routeScript", unfollowed := true, recurses := true, apart := false, narrowed := true }
def RouteScriptUptoSaid : Prop := routeScriptUptoRow.holds Try.pinned (OpenSpec.upto routeScriptSpec)

/-- 'haulagelaw23.RouteKnown', WHERE WHAT IT READS IS OF BULK AT MOST 1048576: true; the input reads as it did. -/
def routeKnownUptoRow : OpenClaim := { program := "ytohljkjaggcapaa", sum := "102409aa15b359c377f91e23d43797e421464d69889b6e6049da4e80505b300e", func := "haulage/haulagelaw23.RouteKnown", spec := "routeKnown", unfollowed := true, recurses := true, apart := false, narrowed := true }
def RouteKnownUptoSaid : Prop := routeKnownUptoRow.holds Try.pinned (OpenSpec.upto routeKnownSpec)

/-- 'haulagelaw23.RouteBooks', WHERE WHAT IT READS IS OF BULK AT MOST 1048576: true; the input reads as it did. -/
def routeBooksUptoRow : OpenClaim := { program := "ytohljkjaggcapaa", sum := "102409aa15b359c377f91e23d43797e421464d69889b6e6049da4e80505b300e", func := "haulage/haulagelaw23.RouteBooks", spec := "routeBooks", unfollowed := true, recurses := true, apart := false, narrowed := true }
def RouteBooksUptoSaid : Prop := routeBooksUptoRow.holds Try.pinned (OpenSpec.upto routeBooksSpec)

end Rows
end Go.Proofs.Ytohljkjaggcapaa
