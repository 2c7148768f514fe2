/-
  No cell of these rows narrows 'for every input' (looked for: loops, veiled, ifaces, maps, wideKeys, modest, calm, conditions, laid).
  DERIVED. THE GIVEN ROWS OF THIS SEAT. 5 by the template 'for every input the law returns true; each argument reads behind the call as it read before'; 0 by the template 'total and deterministic' (their statements: YthankpjbfpcldaaGreatTotals.lean).
  GIVEN WITH THE SEED: the statements are not yours to turn. If you find one false, say at which input.
  Laid BY PROGRAM, IN A SANDBOX (cutbox-rows.mjs): the forced cells as the released guide's own fill.sh prints them over the translation 5e2545f2e0cdd404… (all of the seat's roots in one cut). By AI agents, Wed Nov 11 2026. No macro, syntax, notation, axiom, sorry.
-/
import Derived.Test.YthankpjbfpcldaaGreatChecked
import GoSem.Claim
import GoSem.ClaimJoined
import GoSem.ClaimMapViews
import Derived.JoinedTies
import Derived.KernelRfl
namespace Go.Proofs.YthankpjbfpcldaaGreat
/- THE CELL 'sum', in the pinned program and in every row, IS THE sha256 OF THE DUMP (.gsa) THAT YthankpjbfpcldaaGreatProg.lean LOADS. Nothing in Lean hashes anything: it is a label: what it is worth is what the hold of that sum in a sandbox is worth. -/
noncomputable def Tryz.pinned : Pinned := { name := "ythankpjbfpcldaagreat", sum := "5e2545f2e0cdd4044ce7a81fbd01de350b8f1a7267f277ac58a099e86e2af6d5", checked := Tryz.checked }
namespace Rows
def none {H : Type} : Left H := { results := [], args := [] }

/-- 'haulagelaw14.ShardFull': WHATEVER THE INPUT: true; the input reads as it did. -/
def shardFullSpec : ChangeSpec := { name := "shardFull", fn := fun _ => fun
  | [d1, d2, d3] => { results := [.lit (.bool true)], args := [d1, d2, d3] }
  | _ => none }
def shardFullRow : OpenClaim := { program := "ythankpjbfpcldaagreat", sum := "5e2545f2e0cdd4044ce7a81fbd01de350b8f1a7267f277ac58a099e86e2af6d5", func := "haulage/haulagelaw14.ShardFull", spec := "shardFull", inPlace := ["internal/bytealg.Compare"], unfollowed := true, recurses := true, apart := false }
def ShardFullSaid : Prop := shardFullRow.holds Tryz.pinned (OpenSpec.ofChange shardFullSpec)

/-- ITS FALSE NEIGHBOUR: 'it returns false'. Refute it at one input. -/
def shardFullWrong : ChangeSpec := { name := "shardFull", fn := fun _ => fun
  | [d1, d2, d3] => { results := [.lit (.bool false)], args := [d1, d2, d3] }
  | _ => none }
def ShardFullWrongFalsely : Prop := shardFullRow.holds Tryz.pinned (OpenSpec.ofChange shardFullWrong)

/-- 'haulagelaw14.ShardImports': WHATEVER THE INPUT: true; the input reads as it did. -/
def shardImportsSpec : ChangeSpec := { name := "shardImports", fn := fun _ => fun
  | [d1, d2, d3] => { results := [.lit (.bool true)], args := [d1, d2, d3] }
  | _ => none }
def shardImportsRow : OpenClaim := { program := "ythankpjbfpcldaagreat", sum := "5e2545f2e0cdd4044ce7a81fbd01de350b8f1a7267f277ac58a099e86e2af6d5", func := "haulage/haulagelaw14.ShardImports", spec := "shardImports", inPlace := ["internal/bytealg.Compare"], unfollowed := true, recurses := true, apart := false }
def ShardImportsSaid : Prop := shardImportsRow.holds Tryz.pinned (OpenSpec.ofChange shardImportsSpec)

/-- ITS FALSE NEIGHBOUR: 'it returns false'. Refute it at one input. -/
def shardImportsWrong : ChangeSpec := { name := "shardImports", fn := fun _ => fun
  | [d1, d2, d3] => { results := [.lit (.bool false)], args := [d1, d2, d3] }
  | _ => none }
def ShardImportsWrongFalsely : Prop := shardImportsRow.holds Tryz.pinned (OpenSpec.ofChange shardImportsWrong)

/-- 'haulagelaw14.ShardMoves': WHATEVER THE INPUT: true; the input reads as it did. -/
def shardMovesSpec : ChangeSpec := { name := "shardMoves", fn := fun _ => fun
  | [d1, d2] => { results := [.lit (.bool true)], args := [d1, d2] }
  | _ => none }
def shardMovesRow : OpenClaim := { program := "ythankpjbfpcldaagreat", sum := "5e2545f2e0cdd4044ce7a81fbd01de350b8f1a7267f277ac58a099e86e2af6d5", func := "haulage/haulagelaw14.ShardMoves", spec := "shardMoves", inPlace := ["internal/bytealg.Compare"], unfollowed := true, recurses := true, apart := false }
def ShardMovesSaid : Prop := shardMovesRow.holds Tryz.pinned (OpenSpec.ofChange shardMovesSpec)

/-- ITS FALSE NEIGHBOUR: 'it returns false'. Refute it at one input. -/
def shardMovesWrong : ChangeSpec := { name := "shardMoves", fn := fun _ => fun
  | [d1, d2] => { results := [.lit (.bool false)], args := [d1, d2] }
  | _ => none }
def ShardMovesWrongFalsely : Prop := shardMovesRow.holds Tryz.pinned (OpenSpec.ofChange shardMovesWrong)

/-- 'haulagelaw14.ShardScript': WHATEVER THE INPUT: true; the input reads as it did. -/
def shardScriptSpec : ChangeSpec := { name := "shardScript", fn := fun _ => fun
  | [d] => { results := [.lit (.bool true)], args := [d] }
  | _ => none }
def shardScriptRow : OpenClaim := { program := "ythankpjbfpcldaagreat", sum := "5e2545f2e0cdd4044ce7a81fbd01de350b8f1a7267f277ac58a099e86e2af6d5", func := "haulage/haulagelaw14.ShardScript", spec := "shardScript", inPlace := ["internal/bytealg.Compare"], unfollowed := true, recurses := true, apart := false }
def ShardScriptSaid : Prop := shardScriptRow.holds Tryz.pinned (OpenSpec.ofChange shardScriptSpec)

/-- ITS FALSE NEIGHBOUR: 'it returns false'. Refute it at one input. -/
def shardScriptWrong : ChangeSpec := { name := "shardScript", fn := fun _ => fun
  | [d] => { results := [.lit (.bool false)], args := [d] }
  | _ => none }
def ShardScriptWrongFalsely : Prop := shardScriptRow.holds Tryz.pinned (OpenSpec.ofChange shardScriptWrong)

/-- 'haulagelaw14.ShardKnown': WHATEVER THE INPUT: true; the input reads as it did. -/
def shardKnownSpec : ChangeSpec := { name := "shardKnown", fn := fun _ => fun
  | [] => { results := [.lit (.bool true)], args := [] }
  | _ => none }
def shardKnownRow : OpenClaim := { program := "ythankpjbfpcldaagreat", sum := "5e2545f2e0cdd4044ce7a81fbd01de350b8f1a7267f277ac58a099e86e2af6d5", func := "haulage/haulagelaw14.ShardKnown", spec := "shardKnown", inPlace := ["internal/bytealg.Compare"], unfollowed := true, recurses := true, apart := false }
def ShardKnownSaid : Prop := shardKnownRow.holds Tryz.pinned (OpenSpec.ofChange shardKnownSpec)

/-- ITS FALSE NEIGHBOUR: 'it returns false'. Refute it at one input. -/
def shardKnownWrong : ChangeSpec := { name := "shardKnown", fn := fun _ => fun
  | [] => { results := [.lit (.bool false)], args := [] }
  | _ => none }
def ShardKnownWrongFalsely : Prop := shardKnownRow.holds Tryz.pinned (OpenSpec.ofChange shardKnownWrong)

/- THE SECOND FORM. 'bulk': how many values and letters a reading holds, each counted each time it is reached (what is shared counts as often as it is met; a slice's spare places count too). A statement '..UptoSaid' is the law's where the arguments, and the package variables that the reading takes, are together of bulk at most 1048576: NARROWER than '..Said'. Prove '..Said' where nothing that the law and all that it calls make is longer than what came in: it says more and counts as full. Else prove '..UptoSaid'. A law counts once. -/
mutual
def uptoBulk {H : Type} : DataW H → Nat
  | .lit (.string bytes) => bytes.length + 1
  | .lit _ => 1
  | .nil => 1
  | .ptr d => uptoBulk d + 1
  | .slice elems spare => uptoBulkAll elems + uptoBulkAll spare + 1
  | .agg parts => uptoBulkAll parts + 1
  | .iface _ d => uptoBulk d + 1
  | .map entries => uptoBulkEntries entries + 1
  | .held _ => 1
def uptoBulkAll {H : Type} : List (DataW H) → Nat
  | [] => 0
  | d :: r => uptoBulk d + uptoBulkAll r
def uptoBulkEntries {H : Type} : List (Lit × DataW H) → Nat
  | [] => 0
  | x :: r => uptoBulkEntry x + uptoBulkEntries r
def uptoBulkEntry {H : Type} : Lit × DataW H → Nat
  | (.string bytes, d) => bytes.length + uptoBulk d + 1
  | (_, d) => uptoBulk d + 1
 end
def uptoSmall : (H : Type) → List (DataW H) → Bool := fun _ ds => decide (uptoBulkAll ds ≤ 1048576)
def OpenSpec.upto (s : _root_.Go.ChangeSpec) : _root_.Go.OpenSpec := { _root_.Go.OpenSpec.ofChange s with cond := some uptoSmall }

/-- 'haulagelaw14.ShardFull', WHERE WHAT IT READS IS OF BULK AT MOST 1048576: true; the input reads as it did. -/
def shardFullUptoRow : OpenClaim := { program := "ythankpjbfpcldaagreat", sum := "5e2545f2e0cdd4044ce7a81fbd01de350b8f1a7267f277ac58a099e86e2af6d5", func := "haulage/haulagelaw14.ShardFull", spec := "shardFull", inPlace := ["internal/bytealg.Compare"], unfollowed := true, recurses := true, apart := false, narrowed := true }
def ShardFullUptoSaid : Prop := shardFullUptoRow.holds Tryz.pinned (OpenSpec.upto shardFullSpec)

/-- 'haulagelaw14.ShardImports', WHERE WHAT IT READS IS OF BULK AT MOST 1048576: true; the input reads as it did. -/
def shardImportsUptoRow : OpenClaim := { program := "ythankpjbfpcldaagreat", sum := "5e2545f2e0cdd4044ce7a81fbd01de350b8f1a7267f277ac58a099e86e2af6d5", func := "haulage/haulagelaw14.ShardImports", spec := "shardImports", inPlace := ["internal/bytealg.Compare"], unfollowed := true, recurses := true, apart := false, narrowed := true }
def ShardImportsUptoSaid : Prop := shardImportsUptoRow.holds Tryz.pinned (OpenSpec.upto shardImportsSpec)

/-- 'haulagelaw14.ShardMoves', WHERE WHAT IT READS IS OF BULK AT MOST 1048576: true; the input reads as it did. -/
def shardMovesUptoRow : OpenClaim := { program := "ythankpjbfpcldaagreat", sum := "5e2545f2e0cdd4044ce7a81fbd01de350b8f1a7267f277ac58a099e86e2af6d5", func := "haulage/haulagelaw14.ShardMoves", spec := "shardMoves", inPlace := ["internal/bytealg.Compare"], unfollowed := true, recurses := true, apart := false, narrowed := true }
def ShardMovesUptoSaid : Prop := shardMovesUptoRow.holds Tryz.pinned (OpenSpec.upto shardMovesSpec)

/-- 'haulagelaw14.ShardScript', WHERE WHAT IT READS IS OF BULK AT MOST 1048576: true; the input reads as it did. -/
def shardScriptUptoRow : OpenClaim := { program := "ythankpjbfpcldaagreat", sum := "5e2545f2e0cdd4044ce7a81fbd01de350b8f1a7267f277ac58a099e86e2af6d5", func := "haulage/haulagelaw14.ShardScript", spec := "shardScript", inPlace := ["internal/bytealg.Compare"], unfollowed := true, recurses := true, apart := false, narrowed := true }
def ShardScriptUptoSaid : Prop := shardScriptUptoRow.holds Tryz.pinned (OpenSpec.upto shardScriptSpec)

/-- 'haulagelaw14.ShardKnown', WHERE WHAT IT READS IS OF BULK AT MOST 1048576: true; the input reads as it did. -/
def shardKnownUptoRow : OpenClaim := { program := "ythankpjbfpcldaagreat", sum := "5e2545f2e0cdd4044ce7a81fbd01de350b8f1a7267f277ac58a099e86e2af6d5", func := "haulage/haulagelaw14.ShardKnown", spec := "shardKnown", inPlace := ["internal/bytealg.Compare"], unfollowed := true, recurses := true, apart := false, narrowed := true }
def ShardKnownUptoSaid : Prop := shardKnownUptoRow.holds Tryz.pinned (OpenSpec.upto shardKnownSpec)

end Rows
end Go.Proofs.YthankpjbfpcldaaGreat
