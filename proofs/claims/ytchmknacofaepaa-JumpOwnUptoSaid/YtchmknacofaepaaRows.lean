/-
  No cell of these rows narrows 'for every input' (looked for: loops, veiled, ifaces, maps, wideKeys, modest, calm, conditions, laid).
  DERIVED. THE GIVEN ROWS OF THIS SEAT. 7 by the template 'for every input the law returns true; each argument reads behind the call as it read before'; 0 by the template 'total and deterministic' (their statements: YtchmknacofaepaaTotals.lean).
  GIVEN WITH THE SEED: the statements are not yours to turn. If you find one false, say at which input.
  Laid BY PROGRAM, IN A SANDBOX (cutbox-rows.mjs): the forced cells as the released guide's own fill.sh prints them over the translation 1f1c5b8cd019ef7a… (all of the seat's roots in one cut). By AI agents, Wed Nov 11 2026. No macro, syntax, notation, axiom, sorry.
-/
import Derived.Test.YtchmknacofaepaaChecked
import GoSem.Claim
import GoSem.ClaimJoined
import GoSem.ClaimMapViews
import Derived.JoinedTies
import Derived.KernelRfl
namespace Go.Proofs.Ytchmknacofaepaa
/- THE CELL 'sum', in the pinned program and in every row, IS THE sha256 OF THE DUMP (.gsa) THAT YtchmknacofaepaaProg.lean LOADS. Nothing in Lean hashes anything: it is a label: what it is worth is what the hold of that sum in a sandbox is worth. -/
noncomputable def Try.pinned : Pinned := { name := "ytchmknacofaepaa", sum := "1f1c5b8cd019ef7a5e9edba2e3fddc0230f30288151169accf5939f10982f403", checked := Try.checked }
namespace Rows
def none {H : Type} : Left H := { results := [], args := [] }

/-- 'haulagelaw03.JumpWays': WHATEVER THE INPUT: true; the input reads as it did. -/
def jumpWaysSpec : ChangeSpec := { name := "jumpWays", fn := fun _ => fun
  | [d1, d2] => { results := [.lit (.bool true)], args := [d1, d2] }
  | _ => none }
def jumpWaysRow : OpenClaim := { program := "ytchmknacofaepaa", sum := "1f1c5b8cd019ef7a5e9edba2e3fddc0230f30288151169accf5939f10982f403", func := "haulage/haulagelaw03.JumpWays", spec := "jumpWays", unfollowed := true, recurses := true, apart := false }
def JumpWaysSaid : Prop := jumpWaysRow.holds Try.pinned (OpenSpec.ofChange jumpWaysSpec)

/-- ITS FALSE NEIGHBOUR: 'it returns false'. Refute it at one input. -/
def jumpWaysWrong : ChangeSpec := { name := "jumpWays", fn := fun _ => fun
  | [d1, d2] => { results := [.lit (.bool false)], args := [d1, d2] }
  | _ => none }
def JumpWaysWrongFalsely : Prop := jumpWaysRow.holds Try.pinned (OpenSpec.ofChange jumpWaysWrong)

/-- 'haulagelaw03.JumpKeys': WHATEVER THE INPUT: true; the input reads as it did. -/
def jumpKeysSpec : ChangeSpec := { name := "jumpKeys", fn := fun _ => fun
  | [d1, d2, d3, d4] => { results := [.lit (.bool true)], args := [d1, d2, d3, d4] }
  | _ => none }
def jumpKeysRow : OpenClaim := { program := "ytchmknacofaepaa", sum := "1f1c5b8cd019ef7a5e9edba2e3fddc0230f30288151169accf5939f10982f403", func := "haulage/haulagelaw03.JumpKeys", spec := "jumpKeys", unfollowed := true, recurses := true, apart := false }
def JumpKeysSaid : Prop := jumpKeysRow.holds Try.pinned (OpenSpec.ofChange jumpKeysSpec)

/-- ITS FALSE NEIGHBOUR: 'it returns false'. Refute it at one input. -/
def jumpKeysWrong : ChangeSpec := { name := "jumpKeys", fn := fun _ => fun
  | [d1, d2, d3, d4] => { results := [.lit (.bool false)], args := [d1, d2, d3, d4] }
  | _ => none }
def JumpKeysWrongFalsely : Prop := jumpKeysRow.holds Try.pinned (OpenSpec.ofChange jumpKeysWrong)

/-- 'haulagelaw03.JumpRanks': WHATEVER THE INPUT: true; the input reads as it did. -/
def jumpRanksSpec : ChangeSpec := { name := "jumpRanks", fn := fun _ => fun
  | [d1, d2, d3, d4] => { results := [.lit (.bool true)], args := [d1, d2, d3, d4] }
  | _ => none }
def jumpRanksRow : OpenClaim := { program := "ytchmknacofaepaa", sum := "1f1c5b8cd019ef7a5e9edba2e3fddc0230f30288151169accf5939f10982f403", func := "haulage/haulagelaw03.JumpRanks", spec := "jumpRanks", unfollowed := true, recurses := true, apart := false }
def JumpRanksSaid : Prop := jumpRanksRow.holds Try.pinned (OpenSpec.ofChange jumpRanksSpec)

/-- ITS FALSE NEIGHBOUR: 'it returns false'. Refute it at one input. -/
def jumpRanksWrong : ChangeSpec := { name := "jumpRanks", fn := fun _ => fun
  | [d1, d2, d3, d4] => { results := [.lit (.bool false)], args := [d1, d2, d3, d4] }
  | _ => none }
def JumpRanksWrongFalsely : Prop := jumpRanksRow.holds Try.pinned (OpenSpec.ofChange jumpRanksWrong)

/-- 'haulagelaw03.JumpLittle': WHATEVER THE INPUT: true; the input reads as it did. -/
def jumpLittleSpec : ChangeSpec := { name := "jumpLittle", fn := fun _ => fun
  | [d1, d2, d3] => { results := [.lit (.bool true)], args := [d1, d2, d3] }
  | _ => none }
def jumpLittleRow : OpenClaim := { program := "ytchmknacofaepaa", sum := "1f1c5b8cd019ef7a5e9edba2e3fddc0230f30288151169accf5939f10982f403", func := "haulage/haulagelaw03.JumpLittle", spec := "jumpLittle", unfollowed := true, recurses := true, apart := false }
def JumpLittleSaid : Prop := jumpLittleRow.holds Try.pinned (OpenSpec.ofChange jumpLittleSpec)

/-- ITS FALSE NEIGHBOUR: 'it returns false'. Refute it at one input. -/
def jumpLittleWrong : ChangeSpec := { name := "jumpLittle", fn := fun _ => fun
  | [d1, d2, d3] => { results := [.lit (.bool false)], args := [d1, d2, d3] }
  | _ => none }
def JumpLittleWrongFalsely : Prop := jumpLittleRow.holds Try.pinned (OpenSpec.ofChange jumpLittleWrong)

/-- 'haulagelaw03.JumpGrows': WHATEVER THE INPUT: true; the input reads as it did. -/
def jumpGrowsSpec : ChangeSpec := { name := "jumpGrows", fn := fun _ => fun
  | [d1, d2, d3, d4] => { results := [.lit (.bool true)], args := [d1, d2, d3, d4] }
  | _ => none }
def jumpGrowsRow : OpenClaim := { program := "ytchmknacofaepaa", sum := "1f1c5b8cd019ef7a5e9edba2e3fddc0230f30288151169accf5939f10982f403", func := "haulage/haulagelaw03.JumpGrows", spec := "jumpGrows", unfollowed := true, recurses := true, apart := false }
def JumpGrowsSaid : Prop := jumpGrowsRow.holds Try.pinned (OpenSpec.ofChange jumpGrowsSpec)

/-- ITS FALSE NEIGHBOUR: 'it returns false'. Refute it at one input. -/
def jumpGrowsWrong : ChangeSpec := { name := "jumpGrows", fn := fun _ => fun
  | [d1, d2, d3, d4] => { results := [.lit (.bool false)], args := [d1, d2, d3, d4] }
  | _ => none }
def JumpGrowsWrongFalsely : Prop := jumpGrowsRow.holds Try.pinned (OpenSpec.ofChange jumpGrowsWrong)

/-- 'haulagelaw03.JumpOwn': WHATEVER THE INPUT: true; the input reads as it did. -/
def jumpOwnSpec : ChangeSpec := { name := "jumpOwn", fn := fun _ => fun
  | [d1, d2, d3, d4, d5] => { results := [.lit (.bool true)], args := [d1, d2, d3, d4, d5] }
  | _ => none }
def jumpOwnRow : OpenClaim := { program := "ytchmknacofaepaa", sum := "1f1c5b8cd019ef7a5e9edba2e3fddc0230f30288151169accf5939f10982f403", func := "haulage/haulagelaw03.JumpOwn", spec := "jumpOwn", unfollowed := true, recurses := true, apart := false }
def JumpOwnSaid : Prop := jumpOwnRow.holds Try.pinned (OpenSpec.ofChange jumpOwnSpec)

/-- ITS FALSE NEIGHBOUR: 'it returns false'. Refute it at one input. -/
def jumpOwnWrong : ChangeSpec := { name := "jumpOwn", fn := fun _ => fun
  | [d1, d2, d3, d4, d5] => { results := [.lit (.bool false)], args := [d1, d2, d3, d4, d5] }
  | _ => none }
def JumpOwnWrongFalsely : Prop := jumpOwnRow.holds Try.pinned (OpenSpec.ofChange jumpOwnWrong)

/-- 'haulagelaw03.JumpShares': WHATEVER THE INPUT: true; the input reads as it did. -/
def jumpSharesSpec : ChangeSpec := { name := "jumpShares", fn := fun _ => fun
  | [d1, d2, d3, d4] => { results := [.lit (.bool true)], args := [d1, d2, d3, d4] }
  | _ => none }
def jumpSharesRow : OpenClaim := { program := "ytchmknacofaepaa", sum := "1f1c5b8cd019ef7a5e9edba2e3fddc0230f30288151169accf5939f10982f403", func := "haulage/haulagelaw03.JumpShares", spec := "jumpShares", unfollowed := true, recurses := true, apart := false }
def JumpSharesSaid : Prop := jumpSharesRow.holds Try.pinned (OpenSpec.ofChange jumpSharesSpec)

/-- ITS FALSE NEIGHBOUR: 'it returns false'. Refute it at one input. -/
def jumpSharesWrong : ChangeSpec := { name := "jumpShares", fn := fun _ => fun
  | [d1, d2, d3, d4] => { results := [.lit (.bool false)], args := [d1, d2, d3, d4] }
  | _ => none }
def JumpSharesWrongFalsely : Prop := jumpSharesRow.holds Try.pinned (OpenSpec.ofChange jumpSharesWrong)

/- THE SECOND FORM. 'bulk': how many values and letters a reading holds, each counted each time it is reached (what is shared counts as often as it is met; a slice's spare places count too). A statement '..UptoSaid' is the law's where the arguments, and the package variables that the reading takes, are together of bulk at most 1048576: NARROWER than '..Said'. Prove '..Said' where nothing that the law and all that it calls make is longer than what came in: it says more and counts as full. Else prove '..UptoSaid'. A law counts once. -/
mutual
def uptoBulk {H : Type} : DataW H → Nat
  | .lit (.string bytes) => bytes.length + 1
  | .lit _ => 1
  | .nil => 1
  | .ptr d => uptoBulk d + 1
  | .slice elems spare => uptoBulkAll elems + uptoBulkAll spare + 1
  | .agg parts => uptoBulkAll parts + 1
  | .iface _ d => uptoBulk d + 1
  | .map entries => uptoBulkEntries entries + 1
  | .held _ => 1
def uptoBulkAll {H : Type} : List (DataW H) → Nat
  | [] => 0
  | d :: r => uptoBulk d + uptoBulkAll r
def uptoBulkEntries {H : Type} : List (Lit × DataW H) → Nat
  | [] => 0
  | x :: r => uptoBulkEntry x + uptoBulkEntries r
def uptoBulkEntry {H : Type} : Lit × DataW H → Nat
  | (.string bytes, d) => bytes.length + uptoBulk d + 1
  | (_, d) => uptoBulk d + 1
 end
def uptoSmall : (H : Type) → List (DataW H) → Bool := fun _ ds => decide (uptoBulkAll ds ≤ 1048576)
def OpenSpec.upto (s : _root_.Go.ChangeSpec) : _root_.Go.OpenSpec := { _root_.Go.OpenSpec.ofChange s with cond := some uptoSmall }

/-- 'haulagelaw03.JumpWays', WHERE WHAT IT READS IS OF BULK AT MOST 1048576: true; the input reads as it did. -/
def jumpWaysUptoRow : OpenClaim := { program := "ytchmknacofaepaa", sum := "1f1c5b8cd019ef7a5e9edba2e3fddc0230f30288151169accf5939f10982f403", func := "haulage/haulagelaw03.JumpWays", spec := "jumpWays", unfollowed := true, recurses := true, apart := false, narrowed := true }
def JumpWaysUptoSaid : Prop := jumpWaysUptoRow.holds Try.pinned (OpenSpec.upto jumpWaysSpec)

/-- 'haulagelaw03.JumpKeys', WHERE WHAT IT READS IS OF BULK AT MOST 1048576: true; the input reads as it did. -/
def jumpKeysUptoRow : OpenClaim := { program := "ytchmknacofaepaa", sum := "1f1c5b8cd019ef7a5e9edba2e3fddc0230f30288151169accf5939f10982f403", func := "haulage/haulagelaw03.JumpKeys", spec := "jumpKeys", unfollowed := true, recurses := true, apart := false, narrowed := true }
def JumpKeysUptoSaid : Prop := jumpKeysUptoRow.holds Try.pinned (OpenSpec.upto jumpKeysSpec)

/-- 'haulagelaw03.JumpRanks', WHERE WHAT IT READS IS OF BULK AT MOST 1048576: true; the input reads as it did. -/
def jumpRanksUptoRow : OpenClaim := { program := "ytchmknacofaepaa", sum := "1f1c5b8cd019ef7a5e9edba2e3fddc0230f30288151169accf5939f10982f403", func := "haulage/haulagelaw03.JumpRanks", spec := "jumpRanks", unfollowed := true, recurses := true, apart := false, narrowed := true }
def JumpRanksUptoSaid : Prop := jumpRanksUptoRow.holds Try.pinned (OpenSpec.upto jumpRanksSpec)

/-- 'haulagelaw03.JumpLittle', WHERE WHAT IT READS IS OF BULK AT MOST 1048576: true; the input reads as it did. -/
def jumpLittleUptoRow : OpenClaim := { program := "ytchmknacofaepaa", sum := "1f1c5b8cd019ef7a5e9edba2e3fddc0230f30288151169accf5939f10982f403", func := "haulage/haulagelaw03.JumpLittle", spec := "jumpLittle", unfollowed := true, recurses := true, apart := false, narrowed := true }
def JumpLittleUptoSaid : Prop := jumpLittleUptoRow.holds Try.pinned (OpenSpec.upto jumpLittleSpec)

/-- 'haulagelaw03.JumpGrows', WHERE WHAT IT READS IS OF BULK AT MOST 1048576: true; the input reads as it did. -/
def jumpGrowsUptoRow : OpenClaim := { program := "ytchmknacofaepaa", sum := "1f1c5b8cd019ef7a5e9edba2e3fddc0230f30288151169accf5939f10982f403", func := "haulage/haulagelaw03.JumpGrows", spec := "jumpGrows", unfollowed := true, recurses := true, apart := false, narrowed := true }
def JumpGrowsUptoSaid : Prop := jumpGrowsUptoRow.holds Try.pinned (OpenSpec.upto jumpGrowsSpec)

/-- 'haulagelaw03.JumpOwn', WHERE WHAT IT READS IS OF BULK AT MOST 1048576: true; the input reads as it did. -/
def jumpOwnUptoRow : OpenClaim := { program := "ytchmknacofaepaa", sum := "1f1c5b8cd019ef7a5e9edba2e3fddc0230f30288151169accf5939f10982f403", func := "haulage/haulagelaw03.JumpOwn", spec := "jumpOwn", unfollowed := true, recurses := true, apart := false, narrowed := true }
def JumpOwnUptoSaid : Prop := jumpOwnUptoRow.holds Try.pinned (OpenSpec.upto jumpOwnSpec)

/-- 'haulagelaw03.JumpShares', WHERE WHAT IT READS IS OF BULK AT MOST 1048576: true; the input reads as it did. -/
def jumpSharesUptoRow : OpenClaim := { program := "ytchmknacofaepaa", sum := "1f1c5b8cd019ef7a5e9edba2e3fddc0230f30288151169accf5939f10982f403", func := "haulage/haulagelaw03.JumpShares", spec := "jumpShares", unfollowed := true, recurses := true, apart := false, narrowed := true }
def JumpSharesUptoSaid : Prop := jumpSharesUptoRow.holds Try.pinned (OpenSpec.upto jumpSharesSpec)

end Rows
end Go.Proofs.Ytchmknacofaepaa
