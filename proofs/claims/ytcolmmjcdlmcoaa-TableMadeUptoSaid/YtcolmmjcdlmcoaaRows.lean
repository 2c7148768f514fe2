/-
  No cell of these rows narrows 'for every input' (looked for: loops, veiled, ifaces, maps, wideKeys, modest, calm, conditions, laid).
  DERIVED. THE GIVEN ROWS OF THIS SEAT. 9 by the template 'for every input the law returns true; each argument reads behind the call as it read before'; 0 by the template 'total and deterministic' (their statements: YtcolmmjcdlmcoaaTotals.lean).
  GIVEN WITH THE SEED: the statements are not yours to turn. If you find one false, say at which input.
  Laid BY PROGRAM, IN A SANDBOX (cutbox-rows.mjs): the forced cells as the released guide's own fill.sh prints them over the translation c2aef50582443cd5… (all of the seat's roots in one cut). By AI agents, Wed Nov 11 2026. No macro, syntax, notation, axiom, sorry.
-/
import Derived.Test.YtcolmmjcdlmcoaaChecked
import GoSem.Claim
import GoSem.ClaimJoined
import GoSem.ClaimMapViews
import Derived.JoinedTies
import Derived.KernelRfl
namespace Go.Proofs.Ytcolmmjcdlmcoaa
/- THE CELL 'sum', in the pinned program and in every row, IS THE sha256 OF THE DUMP (.gsa) THAT YtcolmmjcdlmcoaaProg.lean LOADS. Nothing in Lean hashes anything: it is a label: what it is worth is what the hold of that sum in a sandbox is worth. -/
noncomputable def Try.pinned : Pinned := { name := "ytcolmmjcdlmcoaa", sum := "c2aef50582443cd5657236001c67df08a2e842ee2365eeccbb1be48f31e8e01b", checked := Try.checked }
namespace Rows
def none {H : Type} : Left H := { results := [], args := [] }

/-- 'haulagelaw13.TableSwaps': WHATEVER THE INPUT: true; the input reads as it did. -/
def tableSwapsSpec : ChangeSpec := { name := "tableSwaps", fn := fun _ => fun
  | [d1, d2, d3, d4] => { results := [.lit (.bool true)], args := [d1, d2, d3, d4] }
  | _ => none }
def tableSwapsRow : OpenClaim := { program := "ytcolmmjcdlmcoaa", sum := "c2aef50582443cd5657236001c67df08a2e842ee2365eeccbb1be48f31e8e01b", func := "haulage/haulagelaw13.TableSwaps", spec := "tableSwaps", unfollowed := true, recurses := true, apart := false }
def TableSwapsSaid : Prop := tableSwapsRow.holds Try.pinned (OpenSpec.ofChange tableSwapsSpec)

/-- ITS FALSE NEIGHBOUR: 'it returns false'. Refute it at one input. -/
def tableSwapsWrong : ChangeSpec := { name := "tableSwaps", fn := fun _ => fun
  | [d1, d2, d3, d4] => { results := [.lit (.bool false)], args := [d1, d2, d3, d4] }
  | _ => none }
def TableSwapsWrongFalsely : Prop := tableSwapsRow.holds Try.pinned (OpenSpec.ofChange tableSwapsWrong)

/-- 'haulagelaw13.TableCopies': WHATEVER THE INPUT: true; the input reads as it did. -/
def tableCopiesSpec : ChangeSpec := { name := "tableCopies", fn := fun _ => fun
  | [d1, d2, d3] => { results := [.lit (.bool true)], args := [d1, d2, d3] }
  | _ => none }
def tableCopiesRow : OpenClaim := { program := "ytcolmmjcdlmcoaa", sum := "c2aef50582443cd5657236001c67df08a2e842ee2365eeccbb1be48f31e8e01b", func := "haulage/haulagelaw13.TableCopies", spec := "tableCopies", unfollowed := true, recurses := true, apart := false }
def TableCopiesSaid : Prop := tableCopiesRow.holds Try.pinned (OpenSpec.ofChange tableCopiesSpec)

/-- ITS FALSE NEIGHBOUR: 'it returns false'. Refute it at one input. -/
def tableCopiesWrong : ChangeSpec := { name := "tableCopies", fn := fun _ => fun
  | [d1, d2, d3] => { results := [.lit (.bool false)], args := [d1, d2, d3] }
  | _ => none }
def TableCopiesWrongFalsely : Prop := tableCopiesRow.holds Try.pinned (OpenSpec.ofChange tableCopiesWrong)

/-- 'haulagelaw13.TablePlace': WHATEVER THE INPUT: true; the input reads as it did. -/
def tablePlaceSpec : ChangeSpec := { name := "tablePlace", fn := fun _ => fun
  | [d1, d2] => { results := [.lit (.bool true)], args := [d1, d2] }
  | _ => none }
def tablePlaceRow : OpenClaim := { program := "ytcolmmjcdlmcoaa", sum := "c2aef50582443cd5657236001c67df08a2e842ee2365eeccbb1be48f31e8e01b", func := "haulage/haulagelaw13.TablePlace", spec := "tablePlace", unfollowed := true, recurses := true, apart := false }
def TablePlaceSaid : Prop := tablePlaceRow.holds Try.pinned (OpenSpec.ofChange tablePlaceSpec)

/-- ITS FALSE NEIGHBOUR: 'it returns false'. Refute it at one input. -/
def tablePlaceWrong : ChangeSpec := { name := "tablePlace", fn := fun _ => fun
  | [d1, d2] => { results := [.lit (.bool false)], args := [d1, d2] }
  | _ => none }
def TablePlaceWrongFalsely : Prop := tablePlaceRow.holds Try.pinned (OpenSpec.ofChange tablePlaceWrong)

/-- 'haulagelaw13.TableWalk': WHATEVER THE INPUT: true; the input reads as it did. -/
def tableWalkSpec : ChangeSpec := { name := "tableWalk", fn := fun _ => fun
  | [d] => { results := [.lit (.bool true)], args := [d] }
  | _ => none }
def tableWalkRow : OpenClaim := { program := "ytcolmmjcdlmcoaa", sum := "c2aef50582443cd5657236001c67df08a2e842ee2365eeccbb1be48f31e8e01b", func := "haulage/haulagelaw13.TableWalk", spec := "tableWalk", unfollowed := true, recurses := true, apart := false }
def TableWalkSaid : Prop := tableWalkRow.holds Try.pinned (OpenSpec.ofChange tableWalkSpec)

/-- ITS FALSE NEIGHBOUR: 'it returns false'. Refute it at one input. -/
def tableWalkWrong : ChangeSpec := { name := "tableWalk", fn := fun _ => fun
  | [d] => { results := [.lit (.bool false)], args := [d] }
  | _ => none }
def TableWalkWrongFalsely : Prop := tableWalkRow.holds Try.pinned (OpenSpec.ofChange tableWalkWrong)

/-- 'haulagelaw13.TableMap': WHATEVER THE INPUT: true; the input reads as it did. -/
def tableMapSpec : ChangeSpec := { name := "tableMap", fn := fun _ => fun
  | [d] => { results := [.lit (.bool true)], args := [d] }
  | _ => none }
def tableMapRow : OpenClaim := { program := "ytcolmmjcdlmcoaa", sum := "c2aef50582443cd5657236001c67df08a2e842ee2365eeccbb1be48f31e8e01b", func := "haulage/haulagelaw13.TableMap", spec := "tableMap", unfollowed := true, recurses := true, apart := false }
def TableMapSaid : Prop := tableMapRow.holds Try.pinned (OpenSpec.ofChange tableMapSpec)

/-- ITS FALSE NEIGHBOUR: 'it returns false'. Refute it at one input. -/
def tableMapWrong : ChangeSpec := { name := "tableMap", fn := fun _ => fun
  | [d] => { results := [.lit (.bool false)], args := [d] }
  | _ => none }
def TableMapWrongFalsely : Prop := tableMapRow.holds Try.pinned (OpenSpec.ofChange tableMapWrong)

/-- 'haulagelaw13.TableBack': WHATEVER THE INPUT: true; the input reads as it did. -/
def tableBackSpec : ChangeSpec := { name := "tableBack", fn := fun _ => fun
  | [d1, d2, d3] => { results := [.lit (.bool true)], args := [d1, d2, d3] }
  | _ => none }
def tableBackRow : OpenClaim := { program := "ytcolmmjcdlmcoaa", sum := "c2aef50582443cd5657236001c67df08a2e842ee2365eeccbb1be48f31e8e01b", func := "haulage/haulagelaw13.TableBack", spec := "tableBack", unfollowed := true, recurses := true, apart := false }
def TableBackSaid : Prop := tableBackRow.holds Try.pinned (OpenSpec.ofChange tableBackSpec)

/-- ITS FALSE NEIGHBOUR: 'it returns false'. Refute it at one input. -/
def tableBackWrong : ChangeSpec := { name := "tableBack", fn := fun _ => fun
  | [d1, d2, d3] => { results := [.lit (.bool false)], args := [d1, d2, d3] }
  | _ => none }
def TableBackWrongFalsely : Prop := tableBackRow.holds Try.pinned (OpenSpec.ofChange tableBackWrong)

/-- 'haulagelaw13.TableForm': WHATEVER THE INPUT: true; the input reads as it did. -/
def tableFormSpec : ChangeSpec := { name := "tableForm", fn := fun _ => fun
  | [d] => { results := [.lit (.bool true)], args := [d] }
  | _ => none }
def tableFormRow : OpenClaim := { program := "ytcolmmjcdlmcoaa", sum := "c2aef50582443cd5657236001c67df08a2e842ee2365eeccbb1be48f31e8e01b", func := "haulage/haulagelaw13.TableForm", spec := "tableForm", unfollowed := true, recurses := true, apart := false }
def TableFormSaid : Prop := tableFormRow.holds Try.pinned (OpenSpec.ofChange tableFormSpec)

/-- ITS FALSE NEIGHBOUR: 'it returns false'. Refute it at one input. -/
def tableFormWrong : ChangeSpec := { name := "tableForm", fn := fun _ => fun
  | [d] => { results := [.lit (.bool false)], args := [d] }
  | _ => none }
def TableFormWrongFalsely : Prop := tableFormRow.holds Try.pinned (OpenSpec.ofChange tableFormWrong)

/-- 'haulagelaw13.TableMade': WHATEVER THE INPUT: true; the input reads as it did. -/
def tableMadeSpec : ChangeSpec := { name := "tableMade", fn := fun _ => fun
  | [d] => { results := [.lit (.bool true)], args := [d] }
  | _ => none }
def tableMadeRow : OpenClaim := { program := "ytcolmmjcdlmcoaa", sum := "c2aef50582443cd5657236001c67df08a2e842ee2365eeccbb1be48f31e8e01b", func := "haulage/haulagelaw13.TableMade", spec := "tableMade", unfollowed := true, recurses := true, apart := false }
def TableMadeSaid : Prop := tableMadeRow.holds Try.pinned (OpenSpec.ofChange tableMadeSpec)

/-- ITS FALSE NEIGHBOUR: 'it returns false'. Refute it at one input. -/
def tableMadeWrong : ChangeSpec := { name := "tableMade", fn := fun _ => fun
  | [d] => { results := [.lit (.bool false)], args := [d] }
  | _ => none }
def TableMadeWrongFalsely : Prop := tableMadeRow.holds Try.pinned (OpenSpec.ofChange tableMadeWrong)

/-- 'haulagelaw13.TableOwn': WHATEVER THE INPUT: true; the input reads as it did. -/
def tableOwnSpec : ChangeSpec := { name := "tableOwn", fn := fun _ => fun
  | [d1, d2] => { results := [.lit (.bool true)], args := [d1, d2] }
  | _ => none }
def tableOwnRow : OpenClaim := { program := "ytcolmmjcdlmcoaa", sum := "c2aef50582443cd5657236001c67df08a2e842ee2365eeccbb1be48f31e8e01b", func := "haulage/haulagelaw13.TableOwn", spec := "tableOwn", unfollowed := true, recurses := true, apart := false }
def TableOwnSaid : Prop := tableOwnRow.holds Try.pinned (OpenSpec.ofChange tableOwnSpec)

/-- ITS FALSE NEIGHBOUR: 'it returns false'. Refute it at one input. -/
def tableOwnWrong : ChangeSpec := { name := "tableOwn", fn := fun _ => fun
  | [d1, d2] => { results := [.lit (.bool false)], args := [d1, d2] }
  | _ => none }
def TableOwnWrongFalsely : Prop := tableOwnRow.holds Try.pinned (OpenSpec.ofChange tableOwnWrong)

/- THE SECOND FORM. 'bulk': how many values and letters a reading holds, each counted each time it is reached (what is shared counts as often as it is met; a slice's spare places count too). A statement '..UptoSaid' is the law's where the arguments, and the package variables that the reading takes, are together of bulk at most 1048576: NARROWER than '..Said'. Prove '..Said' where nothing that the law and all that it calls make is longer than what came in: it says more and counts as full. Else prove '..UptoSaid'. A law counts once. -/
mutual
def uptoBulk {H : Type} : DataW H → Nat
  | .lit (.string bytes) => bytes.length + 1
  | .lit _ => 1
  | .nil => 1
  | .ptr d => uptoBulk d + 1
  | .slice elems spare => uptoBulkAll elems + uptoBulkAll spare + 1
  | .agg parts => uptoBulkAll parts + 1
  | .iface _ d => uptoBulk d + 1
  | .map entries => uptoBulkEntries entries + 1
  | .held _ => 1
def uptoBulkAll {H : Type} : List (DataW H) → Nat
  | [] => 0
  | d :: r => uptoBulk d + uptoBulkAll r
def uptoBulkEntries {H : Type} : List (Lit × DataW H) → Nat
  | [] => 0
  | x :: r => uptoBulkEntry x + uptoBulkEntries r
def uptoBulkEntry {H : Type} : Lit × DataW H → Nat
  | (.string bytes, d) => bytes.length + uptoBulk d + 1
  | (_, d) => uptoBulk d + 1
 end
def uptoSmall : (H : Type) → List (DataW H) → Bool := fun _ ds => decide (uptoBulkAll ds ≤ 1048576)
def OpenSpec.upto (s : _root_.Go.ChangeSpec) : _root_.Go.OpenSpec := { _root_.Go.OpenSpec.ofChange s with cond := some uptoSmall }

/-- 'haulagelaw13.TableSwaps', WHERE WHAT IT READS IS OF BULK AT MOST 1048576: true; the input reads as it did. -/
def tableSwapsUptoRow : OpenClaim := { program := "ytcolmmjcdlmcoaa", sum := "c2aef50582443cd5657236001c67df08a2e842ee2365eeccbb1be48f31e8e01b", func := "haulage/haulagelaw13.TableSwaps", spec := "tableSwaps", unfollowed := true, recurses := true, apart := false, narrowed := true }
def TableSwapsUptoSaid : Prop := tableSwapsUptoRow.holds Try.pinned (OpenSpec.upto tableSwapsSpec)

/-- 'haulagelaw13.TableCopies', WHERE WHAT IT READS IS OF BULK AT MOST 1048576: true; the input reads as it did. -/
def tableCopiesUptoRow : OpenClaim := { program := "ytcolmmjcdlmcoaa", sum := "c2aef50582443cd5657236001c67df08a2e842ee2365eeccbb1be48f31e8e01b", func := "haulage/haulagelaw13.TableCopies", spec := "tableCopies", unfollowed := true, recurses := true, apart := false, narrowed := true }
def TableCopiesUptoSaid : Prop := tableCopiesUptoRow.holds Try.pinned (OpenSpec.upto tableCopiesSpec)

/-- 'haulagelaw13.TablePlace', WHERE WHAT IT READS IS OF BULK AT MOST 1048576: true; the input reads as it did. -/
def tablePlaceUptoRow : OpenClaim := { program := "ytcolmmjcdlmcoaa", sum := "c2aef50582443cd5657236001c67df08a2e842ee2365eeccbb1be48f31e8e01b", func := "haulage/haulagelaw13.TablePlace", spec := "tablePlace", unfollowed := true, recurses := true, apart := false, narrowed := true }
def TablePlaceUptoSaid : Prop := tablePlaceUptoRow.holds Try.pinned (OpenSpec.upto tablePlaceSpec)

/-- 'haulagelaw13.TableWalk', WHERE WHAT IT READS IS OF BULK AT MOST 1048576: true; the input reads as it did. -/
def tableWalkUptoRow : OpenClaim := { program := "ytcolmmjcdlmcoaa", sum := "c2aef50582443cd5657236001c67df08a2e842ee2365eeccbb1be48f31e8e01b", func := "haulage/haulagelaw13.TableWalk", spec := "tableWalk", unfollowed := true, recurses := true, apart := false, narrowed := true }
def TableWalkUptoSaid : Prop := tableWalkUptoRow.holds Try.pinned (OpenSpec.upto tableWalkSpec)

/-- 'haulagelaw13.TableMap', WHERE WHAT IT READS IS OF BULK AT MOST 1048576: true; the input reads as it did. -/
def tableMapUptoRow : OpenClaim := { program := "ytcolmmjcdlmcoaa", sum := "c2aef50582443cd5657236001c67df08a2e842ee2365eeccbb1be48f31e8e01b", func := "haulage/haulagelaw13.TableMap", spec := "tableMap", unfollowed := true, recurses := true, apart := false, narrowed := true }
def TableMapUptoSaid : Prop := tableMapUptoRow.holds Try.pinned (OpenSpec.upto tableMapSpec)

/-- 'haulagelaw13.TableBack', WHERE WHAT IT READS IS OF BULK AT MOST 1048576: true; the input reads as it did. -/
def tableBackUptoRow : OpenClaim := { program := "ytcolmmjcdlmcoaa", sum := "c2aef50582443cd5657236001c67df08a2e842ee2365eeccbb1be48f31e8e01b", func := "haulage/haulagelaw13.TableBack", spec := "tableBack", unfollowed := true, recurses := true, apart := false, narrowed := true }
def TableBackUptoSaid : Prop := tableBackUptoRow.holds Try.pinned (OpenSpec.upto tableBackSpec)

/-- 'haulagelaw13.TableForm', WHERE WHAT IT READS IS OF BULK AT MOST 1048576: true; the input reads as it did. -/
def tableFormUptoRow : OpenClaim := { program := "ytcolmmjcdlmcoaa", sum := "c2aef50582443cd5657236001c67df08a2e842ee2365eeccbb1be48f31e8e01b", func := "haulage/haulagelaw13.TableForm", spec := "tableForm", unfollowed := true, recurses := true, apart := false, narrowed := true }
def TableFormUptoSaid : Prop := tableFormUptoRow.holds Try.pinned (OpenSpec.upto tableFormSpec)

/-- 'haulagelaw13.TableMade', WHERE WHAT IT READS IS OF BULK AT MOST 1048576: true; the input reads as it did. -/
def tableMadeUptoRow : OpenClaim := { program := "ytcolmmjcdlmcoaa", sum := "c2aef50582443cd5657236001c67df08a2e842ee2365eeccbb1be48f31e8e01b", func := "haulage/haulagelaw13.TableMade", spec := "tableMade", unfollowed := true, recurses := true, apart := false, narrowed := true }
def TableMadeUptoSaid : Prop := tableMadeUptoRow.holds Try.pinned (OpenSpec.upto tableMadeSpec)

/-- 'haulagelaw13.TableOwn', WHERE WHAT IT READS IS OF BULK AT MOST 1048576: true; the input reads as it did. -/
def tableOwnUptoRow : OpenClaim := { program := "ytcolmmjcdlmcoaa", sum := "c2aef50582443cd5657236001c67df08a2e842ee2365eeccbb1be48f31e8e01b", func := "haulage/haulagelaw13.TableOwn", spec := "tableOwn", unfollowed := true, recurses := true, apart := false, narrowed := true }
def TableOwnUptoSaid : Prop := tableOwnUptoRow.holds Try.pinned (OpenSpec.upto tableOwnSpec)

end Rows
end Go.Proofs.Ytcolmmjcdlmcoaa
