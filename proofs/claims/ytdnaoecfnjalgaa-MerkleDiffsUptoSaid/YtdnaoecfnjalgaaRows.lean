/-
  No cell of these rows narrows 'for every input' (looked for: loops, veiled, ifaces, maps, wideKeys, modest, calm, conditions, laid).
  DERIVED. THE GIVEN ROWS OF THIS SEAT. 4 by the template 'for every input the law returns true; each argument reads behind the call as it read before'; 0 by the template 'total and deterministic' (their statements: YtdnaoecfnjalgaaTotals.lean).
  GIVEN WITH THE SEED: the statements are not yours to turn. If you find one false, say at which input.
  Laid BY PROGRAM, IN A SANDBOX (cutbox-rows.mjs): the forced cells as the released guide's own fill.sh prints them over the translation 0027c65112fc53e1… (all of the seat's roots in one cut). By AI agents, Wed Nov 11 2026. No macro, syntax, notation, axiom, sorry.
-/
import Derived.Test.YtdnaoecfnjalgaaChecked
import GoSem.Claim
import GoSem.ClaimJoined
import GoSem.ClaimMapViews
import Derived.JoinedTies
import Derived.KernelRfl
namespace Go.Proofs.Ytdnaoecfnjalgaa
/- THE CELL 'sum', in the pinned program and in every row, IS THE sha256 OF THE DUMP (.gsa) THAT YtdnaoecfnjalgaaProg.lean LOADS. Nothing in Lean hashes anything: it is a label: what it is worth is what the hold of that sum in a sandbox is worth. -/
noncomputable def Try.pinned : Pinned := { name := "ytdnaoecfnjalgaa", sum := "0027c65112fc53e146e83e30e09a8f0c65122f80960375b94f44fcac1d5cc48c", checked := Try.checked }
namespace Rows
def none {H : Type} : Left H := { results := [], args := [] }

/-- 'haulagelaw10.MerkleProves': WHATEVER THE INPUT: true; the input reads as it did. -/
def merkleProvesSpec : ChangeSpec := { name := "merkleProves", fn := fun _ => fun
  | [d1, d2, d3] => { results := [.lit (.bool true)], args := [d1, d2, d3] }
  | _ => none }
def merkleProvesRow : OpenClaim := { program := "ytdnaoecfnjalgaa", sum := "0027c65112fc53e146e83e30e09a8f0c65122f80960375b94f44fcac1d5cc48c", func := "haulage/haulagelaw10.MerkleProves", spec := "merkleProves", inPlace := ["internal/bytealg.Compare", "slices.overlaps[haulage/api.Row]"], unfollowed := true, recurses := true, apart := false }
def MerkleProvesSaid : Prop := merkleProvesRow.holds Try.pinned (OpenSpec.ofChange merkleProvesSpec)

/-- ITS FALSE NEIGHBOUR: 'it returns false'. Refute it at one input. -/
def merkleProvesWrong : ChangeSpec := { name := "merkleProves", fn := fun _ => fun
  | [d1, d2, d3] => { results := [.lit (.bool false)], args := [d1, d2, d3] }
  | _ => none }
def MerkleProvesWrongFalsely : Prop := merkleProvesRow.holds Try.pinned (OpenSpec.ofChange merkleProvesWrong)

/-- 'haulagelaw10.MerkleSound': WHATEVER THE INPUT: true; the input reads as it did. -/
def merkleSoundSpec : ChangeSpec := { name := "merkleSound", fn := fun _ => fun
  | [d1, d2, d3, d4] => { results := [.lit (.bool true)], args := [d1, d2, d3, d4] }
  | _ => none }
def merkleSoundRow : OpenClaim := { program := "ytdnaoecfnjalgaa", sum := "0027c65112fc53e146e83e30e09a8f0c65122f80960375b94f44fcac1d5cc48c", func := "haulage/haulagelaw10.MerkleSound", spec := "merkleSound", inPlace := ["internal/bytealg.Compare", "slices.overlaps[haulage/api.Row]"], unfollowed := true, recurses := true, apart := false }
def MerkleSoundSaid : Prop := merkleSoundRow.holds Try.pinned (OpenSpec.ofChange merkleSoundSpec)

/-- ITS FALSE NEIGHBOUR: 'it returns false'. Refute it at one input. -/
def merkleSoundWrong : ChangeSpec := { name := "merkleSound", fn := fun _ => fun
  | [d1, d2, d3, d4] => { results := [.lit (.bool false)], args := [d1, d2, d3, d4] }
  | _ => none }
def MerkleSoundWrongFalsely : Prop := merkleSoundRow.holds Try.pinned (OpenSpec.ofChange merkleSoundWrong)

/-- 'haulagelaw10.MerkleRows': WHATEVER THE INPUT: true; the input reads as it did. -/
def merkleRowsSpec : ChangeSpec := { name := "merkleRows", fn := fun _ => fun
  | [d1, d2] => { results := [.lit (.bool true)], args := [d1, d2] }
  | _ => none }
def merkleRowsRow : OpenClaim := { program := "ytdnaoecfnjalgaa", sum := "0027c65112fc53e146e83e30e09a8f0c65122f80960375b94f44fcac1d5cc48c", func := "haulage/haulagelaw10.MerkleRows", spec := "merkleRows", inPlace := ["internal/bytealg.Compare", "slices.overlaps[haulage/api.Row]"], unfollowed := true, recurses := true, apart := false }
def MerkleRowsSaid : Prop := merkleRowsRow.holds Try.pinned (OpenSpec.ofChange merkleRowsSpec)

/-- ITS FALSE NEIGHBOUR: 'it returns false'. Refute it at one input. -/
def merkleRowsWrong : ChangeSpec := { name := "merkleRows", fn := fun _ => fun
  | [d1, d2] => { results := [.lit (.bool false)], args := [d1, d2] }
  | _ => none }
def MerkleRowsWrongFalsely : Prop := merkleRowsRow.holds Try.pinned (OpenSpec.ofChange merkleRowsWrong)

/-- 'haulagelaw10.MerkleDiffs': WHATEVER THE INPUT: true; the input reads as it did. -/
def merkleDiffsSpec : ChangeSpec := { name := "merkleDiffs", fn := fun _ => fun
  | [d1, d2, d3] => { results := [.lit (.bool true)], args := [d1, d2, d3] }
  | _ => none }
def merkleDiffsRow : OpenClaim := { program := "ytdnaoecfnjalgaa", sum := "0027c65112fc53e146e83e30e09a8f0c65122f80960375b94f44fcac1d5cc48c", func := "haulage/haulagelaw10.MerkleDiffs", spec := "merkleDiffs", inPlace := ["internal/bytealg.Compare", "slices.overlaps[haulage/api.Row]"], unfollowed := true, recurses := true, apart := false }
def MerkleDiffsSaid : Prop := merkleDiffsRow.holds Try.pinned (OpenSpec.ofChange merkleDiffsSpec)

/-- ITS FALSE NEIGHBOUR: 'it returns false'. Refute it at one input. -/
def merkleDiffsWrong : ChangeSpec := { name := "merkleDiffs", fn := fun _ => fun
  | [d1, d2, d3] => { results := [.lit (.bool false)], args := [d1, d2, d3] }
  | _ => none }
def MerkleDiffsWrongFalsely : Prop := merkleDiffsRow.holds Try.pinned (OpenSpec.ofChange merkleDiffsWrong)

/- THE SECOND FORM. 'bulk': how many values and letters a reading holds, each counted each time it is reached (what is shared counts as often as it is met; a slice's spare places count too). A statement '..UptoSaid' is the law's where the arguments, and the package variables that the reading takes, are together of bulk at most 1048576: NARROWER than '..Said'. Prove '..Said' where nothing that the law and all that it calls make is longer than what came in: it says more and counts as full. Else prove '..UptoSaid'. A law counts once. -/
mutual
def uptoBulk {H : Type} : DataW H → Nat
  | .lit (.string bytes) => bytes.length + 1
  | .lit _ => 1
  | .nil => 1
  | .ptr d => uptoBulk d + 1
  | .slice elems spare => uptoBulkAll elems + uptoBulkAll spare + 1
  | .agg parts => uptoBulkAll parts + 1
  | .iface _ d => uptoBulk d + 1
  | .map entries => uptoBulkEntries entries + 1
  | .held _ => 1
def uptoBulkAll {H : Type} : List (DataW H) → Nat
  | [] => 0
  | d :: r => uptoBulk d + uptoBulkAll r
def uptoBulkEntries {H : Type} : List (Lit × DataW H) → Nat
  | [] => 0
  | x :: r => uptoBulkEntry x + uptoBulkEntries r
def uptoBulkEntry {H : Type} : Lit × DataW H → Nat
  | (.string bytes, d) => bytes.length + uptoBulk d + 1
  | (_, d) => uptoBulk d + 1
 end
def uptoSmall : (H : Type) → List (DataW H) → Bool := fun _ ds => decide (uptoBulkAll ds ≤ 1048576)
def OpenSpec.upto (s : _root_.Go.ChangeSpec) : _root_.Go.OpenSpec := { _root_.Go.OpenSpec.ofChange s with cond := some uptoSmall }

/-- 'haulagelaw10.MerkleProves', WHERE WHAT IT READS IS OF BULK AT MOST 1048576: true; the input reads as it did. -/
def merkleProvesUptoRow : OpenClaim := { program := "ytdnaoecfnjalgaa", sum := "0027c65112fc53e146e83e30e09a8f0c65122f80960375b94f44fcac1d5cc48c", func := "haulage/haulagelaw10.MerkleProves", spec := "merkleProves", inPlace := ["internal/bytealg.Compare", "slices.overlaps[haulage/api.Row]"], unfollowed := true, recurses := true, apart := false, narrowed := true }
def MerkleProvesUptoSaid : Prop := merkleProvesUptoRow.holds Try.pinned (OpenSpec.upto merkleProvesSpec)

/-- 'haulagelaw10.MerkleSound', WHERE WHAT IT READS IS OF BULK AT MOST 1048576: true; the input reads as it did. -/
def merkleSoundUptoRow : OpenClaim := { program := "ytdnaoecfnjalgaa", sum := "0027c65112fc53e146e83e30e09a8f0c65122f80960375b94f44fcac1d5cc48c", func := "haulage/haulagelaw10.MerkleSound", spec := "merkleSound", inPlace := ["internal/bytealg.Compare", "slices.overlaps[haulage/api.Row]"], unfollowed := true, recurses := true, apart := false, narrowed := true }
def MerkleSoundUptoSaid : Prop := merkleSoundUptoRow.holds Try.pinned (OpenSpec.upto merkleSoundSpec)

/-- 'haulagelaw10.MerkleRows', WHERE WHAT IT READS IS OF BULK AT MOST 1048576: true; the input reads as it did. -/
def merkleRowsUptoRow : OpenClaim := { program := "ytdnaoecfnjalgaa", sum := "0027c65112fc53e146e83e30e09a8f0c65122f80960375b94f44fcac1d5cc48c", func := "haulage/haulagelaw10.MerkleRows", spec := "merkleRows", inPlace := ["internal/bytealg.Compare", "slices.overlaps[haulage/api.Row]"], unfollowed := true, recurses := true, apart := false, narrowed := true }
def MerkleRowsUptoSaid : Prop := merkleRowsUptoRow.holds Try.pinned (OpenSpec.upto merkleRowsSpec)

/-- 'haulagelaw10.MerkleDiffs', WHERE WHAT IT READS IS OF BULK AT MOST 1048576: true; the input reads as it did. -/
def merkleDiffsUptoRow : OpenClaim := { program := "ytdnaoecfnjalgaa", sum := "0027c65112fc53e146e83e30e09a8f0c65122f80960375b94f44fcac1d5cc48c", func := "haulage/haulagelaw10.MerkleDiffs", spec := "merkleDiffs", inPlace := ["internal/bytealg.Compare", "slices.overlaps[haulage/api.Row]"], unfollowed := true, recurses := true, apart := false, narrowed := true }
def MerkleDiffsUptoSaid : Prop := merkleDiffsUptoRow.holds Try.pinned (OpenSpec.upto merkleDiffsSpec)

end Rows
end Go.Proofs.Ytdnaoecfnjalgaa
