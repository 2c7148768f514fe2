/-
  No cell of these rows narrows 'for every input' (looked for: loops, veiled, ifaces, maps, wideKeys, modest, calm, conditions, laid).
  DERIVED. THE GIVEN ROWS OF THIS SEAT. 5 by the template 'for every input the law returns true; each argument reads behind the call as it read before'; 0 by the template 'total and deterministic' (their statements: YtdlokohmdnkdoaaTotals.lean).
  GIVEN WITH THE SEED: the statements are not yours to turn. If you find one false, say at which input.
  Laid BY PROGRAM, IN A SANDBOX (cutbox-rows.mjs): the forced cells as the released guide's own fill.sh prints them over the translation 044ef90a09fec705… (all of the seat's roots in one cut). By AI agents, Wed Nov 11 2026. No macro, syntax, notation, axiom, sorry.
-/
import Derived.Test.YtdlokohmdnkdoaaChecked
import GoSem.Claim
import GoSem.ClaimJoined
import GoSem.ClaimMapViews
import Derived.JoinedTies
import Derived.KernelRfl
namespace Go.Proofs.Ytdlokohmdnkdoaa
/- THE CELL 'sum', in the pinned program and in every row, IS THE sha256 OF THE DUMP (.gsa) THAT YtdlokohmdnkdoaaProg.lean LOADS. Nothing in Lean hashes anything: it is a label: what it is worth is what the hold of that sum in a sandbox is worth. -/
noncomputable def Try.pinned : Pinned := { name := "ytdlokohmdnkdoaa", sum := "044ef90a09fec705ce2fcdd4c9c8453fbab2da038d27ca360cc71dd49d0b3dcf", checked := Try.checked }
namespace Rows
def none {H : Type} : Left H := { results := [], args := [] }

/-- 'haulagelaw20.BagOwn': WHATEVER THE INPUT: true; the input reads as it did. -/
def bagOwnSpec : ChangeSpec := { name := "bagOwn", fn := fun _ => fun
  | [d] => { results := [.lit (.bool true)], args := [d] }
  | _ => none }
def bagOwnRow : OpenClaim := { program := "ytdlokohmdnkdoaa", sum := "044ef90a09fec705ce2fcdd4c9c8453fbab2da038d27ca360cc71dd49d0b3dcf", func := "haulage/haulagelaw20.BagOwn", spec := "bagOwn", unfollowed := true, recurses := true, apart := false }
def BagOwnSaid : Prop := bagOwnRow.holds Try.pinned (OpenSpec.ofChange bagOwnSpec)

/-- ITS FALSE NEIGHBOUR: 'it returns false'. Refute it at one input. -/
def bagOwnWrong : ChangeSpec := { name := "bagOwn", fn := fun _ => fun
  | [d] => { results := [.lit (.bool false)], args := [d] }
  | _ => none }
def BagOwnWrongFalsely : Prop := bagOwnRow.holds Try.pinned (OpenSpec.ofChange bagOwnWrong)

/-- 'haulagelaw20.BagScript': WHATEVER THE INPUT: true; the input reads as it did. -/
def bagScriptSpec : ChangeSpec := { name := "bagScript", fn := fun _ => fun
  | [d] => { results := [.lit (.bool true)], args := [d] }
  | _ => none }
def bagScriptRow : OpenClaim := { program := "ytdlokohmdnkdoaa", sum := "044ef90a09fec705ce2fcdd4c9c8453fbab2da038d27ca360cc71dd49d0b3dcf", func := "haulage/haulagelaw20.BagScript", spec := "bagScript", unfollowed := true, recurses := true, apart := false }
def BagScriptSaid : Prop := bagScriptRow.holds Try.pinned (OpenSpec.ofChange bagScriptSpec)

/-- ITS FALSE NEIGHBOUR: 'it returns false'. Refute it at one input. -/
def bagScriptWrong : ChangeSpec := { name := "bagScript", fn := fun _ => fun
  | [d] => { results := [.lit (.bool false)], args := [d] }
  | _ => none }
def BagScriptWrongFalsely : Prop := bagScriptRow.holds Try.pinned (OpenSpec.ofChange bagScriptWrong)

/-- 'haulagelaw20.BagFull': WHATEVER THE INPUT: true; the input reads as it did. -/
def bagFullSpec : ChangeSpec := { name := "bagFull", fn := fun _ => fun
  | [d1, d2] => { results := [.lit (.bool true)], args := [d1, d2] }
  | _ => none }
def bagFullRow : OpenClaim := { program := "ytdlokohmdnkdoaa", sum := "044ef90a09fec705ce2fcdd4c9c8453fbab2da038d27ca360cc71dd49d0b3dcf", func := "haulage/haulagelaw20.BagFull", spec := "bagFull", unfollowed := true, recurses := true, apart := false }
def BagFullSaid : Prop := bagFullRow.holds Try.pinned (OpenSpec.ofChange bagFullSpec)

/-- ITS FALSE NEIGHBOUR: 'it returns false'. Refute it at one input. -/
def bagFullWrong : ChangeSpec := { name := "bagFull", fn := fun _ => fun
  | [d1, d2] => { results := [.lit (.bool false)], args := [d1, d2] }
  | _ => none }
def BagFullWrongFalsely : Prop := bagFullRow.holds Try.pinned (OpenSpec.ofChange bagFullWrong)

/-- 'haulagelaw20.BagKnown': WHATEVER THE INPUT: true; the input reads as it did. -/
def bagKnownSpec : ChangeSpec := { name := "bagKnown", fn := fun _ => fun
  | [] => { results := [.lit (.bool true)], args := [] }
  | _ => none }
def bagKnownRow : OpenClaim := { program := "ytdlokohmdnkdoaa", sum := "044ef90a09fec705ce2fcdd4c9c8453fbab2da038d27ca360cc71dd49d0b3dcf", func := "haulage/haulagelaw20.BagKnown", spec := "bagKnown", unfollowed := true, recurses := true, apart := false }
def BagKnownSaid : Prop := bagKnownRow.holds Try.pinned (OpenSpec.ofChange bagKnownSpec)

/-- ITS FALSE NEIGHBOUR: 'it returns false'. Refute it at one input. -/
def bagKnownWrong : ChangeSpec := { name := "bagKnown", fn := fun _ => fun
  | [] => { results := [.lit (.bool false)], args := [] }
  | _ => none }
def BagKnownWrongFalsely : Prop := bagKnownRow.holds Try.pinned (OpenSpec.ofChange bagKnownWrong)

/-- 'haulagelaw20.BagNothingElse': WHATEVER THE INPUT: true; the input reads as it did. -/
def bagNothingElseSpec : ChangeSpec := { name := "bagNothingElse", fn := fun _ => fun
  | [d] => { results := [.lit (.bool true)], args := [d] }
  | _ => none }
def bagNothingElseRow : OpenClaim := { program := "ytdlokohmdnkdoaa", sum := "044ef90a09fec705ce2fcdd4c9c8453fbab2da038d27ca360cc71dd49d0b3dcf", func := "haulage/haulagelaw20.BagNothingElse", spec := "bagNothingElse", unfollowed := true, recurses := true, apart := false }
def BagNothingElseSaid : Prop := bagNothingElseRow.holds Try.pinned (OpenSpec.ofChange bagNothingElseSpec)

/-- ITS FALSE NEIGHBOUR: 'it returns false'. Refute it at one input. -/
def bagNothingElseWrong : ChangeSpec := { name := "bagNothingElse", fn := fun _ => fun
  | [d] => { results := [.lit (.bool false)], args := [d] }
  | _ => none }
def BagNothingElseWrongFalsely : Prop := bagNothingElseRow.holds Try.pinned (OpenSpec.ofChange bagNothingElseWrong)

/- THE SECOND FORM. 'bulk': how many values and letters a reading holds, each counted each time it is reached (what is shared counts as often as it is met; a slice's spare places count too). A statement '..UptoSaid' is the law's where the arguments, and the package variables that the reading takes, are together of bulk at most 1048576: NARROWER than '..Said'. Prove '..Said' where nothing that the law and all that it calls make is longer than what came in: it says more and counts as full. Else prove '..UptoSaid'. A law counts once. -/
mutual
def uptoBulk {H : Type} : DataW H → Nat
  | .lit (.string bytes) => bytes.length + 1
  | .lit _ => 1
  | .nil => 1
  | .ptr d => uptoBulk d + 1
  | .slice elems spare => uptoBulkAll elems + uptoBulkAll spare + 1
  | .agg parts => uptoBulkAll parts + 1
  | .iface _ d => uptoBulk d + 1
  | .map entries => uptoBulkEntries entries + 1
  | .held _ => 1
def uptoBulkAll {H : Type} : List (DataW H) → Nat
  | [] => 0
  | d :: r => uptoBulk d + uptoBulkAll r
def uptoBulkEntries {H : Type} : List (Lit × DataW H) → Nat
  | [] => 0
  | x :: r => uptoBulkEntry x + uptoBulkEntries r
def uptoBulkEntry {H : Type} : Lit × DataW H → Nat
  | (.string bytes, d) => bytes.length + uptoBulk d + 1
  | (_, d) => uptoBulk d + 1
 end
def uptoSmall : (H : Type) → List (DataW H) → Bool := fun _ ds => decide (uptoBulkAll ds ≤ 1048576)
def OpenSpec.upto (s : _root_.Go.ChangeSpec) : _root_.Go.OpenSpec := { _root_.Go.OpenSpec.ofChange s with cond := some uptoSmall }

/-- 'haulagelaw20.BagOwn', WHERE WHAT IT READS IS OF BULK AT MOST 1048576: true; the input reads as it did. -/
def bagOwnUptoRow : OpenClaim := { program := "ytdlokohmdnkdoaa", sum := "044ef90a09fec705ce2fcdd4c9c8453fbab2da038d27ca360cc71dd49d0b3dcf", func := "haulage/haulagelaw20.BagOwn", spec := "bagOwn", unfollowed := true, recurses := true, apart := false, narrowed := true }
def BagOwnUptoSaid : Prop := bagOwnUptoRow.holds Try.pinned (OpenSpec.upto bagOwnSpec)

/-- 'haulagelaw20.BagScript', WHERE WHAT IT READS IS OF BULK AT MOST 1048576: true; the input reads as it did. -/
def bagScriptUptoRow : OpenClaim := { program := "ytdlokohmdnkdoaa", sum := "044ef90a09fec705ce2fcdd4c9c8453fbab2da038d27ca360cc71dd49d0b3dcf", func := "haulage/haulagelaw20.BagScript", spec := "bagScript", unfollowed := true, recurses := true, apart := false, narrowed := true }
def BagScriptUptoSaid : Prop := bagScriptUptoRow.holds Try.pinned (OpenSpec.upto bagScriptSpec)

/-- 'haulagelaw20.BagFull', WHERE WHAT IT READS IS OF BULK AT MOST 1048576: true; the input reads as it did. -/
def bagFullUptoRow : OpenClaim := { program := "ytdlokohmdnkdoaa", sum := "044ef90a09fec705ce2fcdd4c9c8453fbab2da038d27ca360cc71dd49d0b3dcf", func := "haulage/haulagelaw20.BagFull", spec := "bagFull", unfollowed := true, recurses := true, apart := false, narrowed := true }
def BagFullUptoSaid : Prop := bagFullUptoRow.holds Try.pinned (OpenSpec.upto bagFullSpec)

/-- 'haulagelaw20.BagKnown', WHERE WHAT IT READS IS OF BULK AT MOST 1048576: true; the input reads as it did. -/
def bagKnownUptoRow : OpenClaim := { program := "ytdlokohmdnkdoaa", sum := "044ef90a09fec705ce2fcdd4c9c8453fbab2da038d27ca360cc71dd49d0b3dcf", func := "haulage/haulagelaw20.BagKnown", spec := "bagKnown", unfollowed := true, recurses := true, apart := false, narrowed := true }
def BagKnownUptoSaid : Prop := bagKnownUptoRow.holds Try.pinned (OpenSpec.upto bagKnownSpec)

/-- 'haulagelaw20.BagNothingElse', WHERE WHAT IT READS IS OF BULK AT MOST 1048576: true; the input reads as it did. -/
def bagNothingElseUptoRow : OpenClaim := { program := "ytdlokohmdnkdoaa", sum := "044ef90a09fec705ce2fcdd4c9c8453fbab2da038d27ca360cc71dd49d0b3dcf", func := "haulage/haulagelaw20.BagNothingElse", spec := "bagNothingElse", unfollowed := true, recurses := true, apart := false, narrowed := true }
def BagNothingElseUptoSaid : Prop := bagNothingElseUptoRow.holds Try.pinned (OpenSpec.upto bagNothingElseSpec)

end Rows
end Go.Proofs.Ytdlokohmdnkdoaa
