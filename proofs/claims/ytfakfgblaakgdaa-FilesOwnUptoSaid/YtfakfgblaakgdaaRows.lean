/-
  No cell of these rows narrows 'for every input' (looked for: loops, veiled, ifaces, maps, wideKeys, modest, calm, conditions, laid).
  DERIVED. THE GIVEN ROWS OF THIS SEAT. 7 by the template 'for every input the law returns true; each argument reads behind the call as it read before'; 0 by the template 'total and deterministic' (their statements: YtfakfgblaakgdaaTotals.lean).
  GIVEN WITH THE SEED: the statements are not yours to turn. If you find one false, say at which input.
  Laid BY PROGRAM, IN A SANDBOX (cutbox-rows.mjs): the forced cells as the released guide's own fill.sh prints them over the translation 95dc873d0184ec35… (all of the seat's roots in one cut). By AI agents, Wed Nov 11 2026. No macro, syntax, notation, axiom, sorry.
-/
import Derived.Test.YtfakfgblaakgdaaChecked
import GoSem.Claim
import GoSem.ClaimJoined
import GoSem.ClaimMapViews
import Derived.JoinedTies
import Derived.KernelRfl
namespace Go.Proofs.Ytfakfgblaakgdaa
/- THE CELL 'sum', in the pinned program and in every row, IS THE sha256 OF THE DUMP (.gsa) THAT YtfakfgblaakgdaaProg.lean LOADS. Nothing in Lean hashes anything: it is a label: what it is worth is what the hold of that sum in a sandbox is worth. -/
noncomputable def Try.pinned : Pinned := { name := "ytfakfgblaakgdaa", sum := "95dc873d0184ec353ac3ab5b4d1b0c943f74eab93d314eff24196d31e62febd1", checked := Try.checked }
namespace Rows
def none {H : Type} : Left H := { results := [], args := [] }

/-- 'ticklerlaw14.ManifestNeeds': WHATEVER THE INPUT: true; the input reads as it did. -/
def manifestNeedsSpec : ChangeSpec := { name := "manifestNeeds", fn := fun _ => fun
  | [d1, d2, d3, d4] => { results := [.lit (.bool true)], args := [d1, d2, d3, d4] }
  | _ => none }
def manifestNeedsRow : OpenClaim := { program := "ytfakfgblaakgdaa", sum := "95dc873d0184ec353ac3ab5b4d1b0c943f74eab93d314eff24196d31e62febd1", func := "tickler/ticklerlaw14.ManifestNeeds", spec := "manifestNeeds", inPlace := ["internal/bytealg.IndexByteString"], unfollowed := true, recurses := true, apart := false }
def ManifestNeedsSaid : Prop := manifestNeedsRow.holds Try.pinned (OpenSpec.ofChange manifestNeedsSpec)

/-- ITS FALSE NEIGHBOUR: 'it returns false'. Refute it at one input. -/
def manifestNeedsWrong : ChangeSpec := { name := "manifestNeeds", fn := fun _ => fun
  | [d1, d2, d3, d4] => { results := [.lit (.bool false)], args := [d1, d2, d3, d4] }
  | _ => none }
def ManifestNeedsWrongFalsely : Prop := manifestNeedsRow.holds Try.pinned (OpenSpec.ofChange manifestNeedsWrong)

/-- 'ticklerlaw04.FilesRuns': WHATEVER THE INPUT: true; the input reads as it did. -/
def filesRunsSpec : ChangeSpec := { name := "filesRuns", fn := fun _ => fun
  | [d1, d2] => { results := [.lit (.bool true)], args := [d1, d2] }
  | _ => none }
def filesRunsRow : OpenClaim := { program := "ytfakfgblaakgdaa", sum := "95dc873d0184ec353ac3ab5b4d1b0c943f74eab93d314eff24196d31e62febd1", func := "tickler/ticklerlaw04.FilesRuns", spec := "filesRuns", inPlace := ["slices.overlaps[tickler/files.Name]"], unfollowed := true, recurses := true, apart := false }
def FilesRunsSaid : Prop := filesRunsRow.holds Try.pinned (OpenSpec.ofChange filesRunsSpec)

/-- ITS FALSE NEIGHBOUR: 'it returns false'. Refute it at one input. -/
def filesRunsWrong : ChangeSpec := { name := "filesRuns", fn := fun _ => fun
  | [d1, d2] => { results := [.lit (.bool false)], args := [d1, d2] }
  | _ => none }
def FilesRunsWrongFalsely : Prop := filesRunsRow.holds Try.pinned (OpenSpec.ofChange filesRunsWrong)

/-- 'ticklerlaw04.FilesReads': WHATEVER THE INPUT: true; the input reads as it did. -/
def filesReadsSpec : ChangeSpec := { name := "filesReads", fn := fun _ => fun
  | [d1, d2] => { results := [.lit (.bool true)], args := [d1, d2] }
  | _ => none }
def filesReadsRow : OpenClaim := { program := "ytfakfgblaakgdaa", sum := "95dc873d0184ec353ac3ab5b4d1b0c943f74eab93d314eff24196d31e62febd1", func := "tickler/ticklerlaw04.FilesReads", spec := "filesReads", inPlace := ["slices.overlaps[tickler/files.Name]"], unfollowed := true, recurses := true, apart := false }
def FilesReadsSaid : Prop := filesReadsRow.holds Try.pinned (OpenSpec.ofChange filesReadsSpec)

/-- ITS FALSE NEIGHBOUR: 'it returns false'. Refute it at one input. -/
def filesReadsWrong : ChangeSpec := { name := "filesReads", fn := fun _ => fun
  | [d1, d2] => { results := [.lit (.bool false)], args := [d1, d2] }
  | _ => none }
def FilesReadsWrongFalsely : Prop := filesReadsRow.holds Try.pinned (OpenSpec.ofChange filesReadsWrong)

/-- 'ticklerlaw04.FilesKeeps': WHATEVER THE INPUT: true; the input reads as it did. -/
def filesKeepsSpec : ChangeSpec := { name := "filesKeeps", fn := fun _ => fun
  | [d1, d2, d3] => { results := [.lit (.bool true)], args := [d1, d2, d3] }
  | _ => none }
def filesKeepsRow : OpenClaim := { program := "ytfakfgblaakgdaa", sum := "95dc873d0184ec353ac3ab5b4d1b0c943f74eab93d314eff24196d31e62febd1", func := "tickler/ticklerlaw04.FilesKeeps", spec := "filesKeeps", inPlace := ["slices.overlaps[tickler/files.Name]"], unfollowed := true, recurses := true, apart := false }
def FilesKeepsSaid : Prop := filesKeepsRow.holds Try.pinned (OpenSpec.ofChange filesKeepsSpec)

/-- ITS FALSE NEIGHBOUR: 'it returns false'. Refute it at one input. -/
def filesKeepsWrong : ChangeSpec := { name := "filesKeeps", fn := fun _ => fun
  | [d1, d2, d3] => { results := [.lit (.bool false)], args := [d1, d2, d3] }
  | _ => none }
def FilesKeepsWrongFalsely : Prop := filesKeepsRow.holds Try.pinned (OpenSpec.ofChange filesKeepsWrong)

/-- 'ticklerlaw04.FilesOwn': WHATEVER THE INPUT: true; the input reads as it did. -/
def filesOwnSpec : ChangeSpec := { name := "filesOwn", fn := fun _ => fun
  | [d1, d2] => { results := [.lit (.bool true)], args := [d1, d2] }
  | _ => none }
def filesOwnRow : OpenClaim := { program := "ytfakfgblaakgdaa", sum := "95dc873d0184ec353ac3ab5b4d1b0c943f74eab93d314eff24196d31e62febd1", func := "tickler/ticklerlaw04.FilesOwn", spec := "filesOwn", inPlace := ["slices.overlaps[tickler/files.Name]"], unfollowed := true, recurses := true, apart := false }
def FilesOwnSaid : Prop := filesOwnRow.holds Try.pinned (OpenSpec.ofChange filesOwnSpec)

/-- ITS FALSE NEIGHBOUR: 'it returns false'. Refute it at one input. -/
def filesOwnWrong : ChangeSpec := { name := "filesOwn", fn := fun _ => fun
  | [d1, d2] => { results := [.lit (.bool false)], args := [d1, d2] }
  | _ => none }
def FilesOwnWrongFalsely : Prop := filesOwnRow.holds Try.pinned (OpenSpec.ofChange filesOwnWrong)

/-- 'ticklerlaw04.FilesTells': WHATEVER THE INPUT: true; the input reads as it did. -/
def filesTellsSpec : ChangeSpec := { name := "filesTells", fn := fun _ => fun
  | [d1, d2, d3, d4] => { results := [.lit (.bool true)], args := [d1, d2, d3, d4] }
  | _ => none }
def filesTellsRow : OpenClaim := { program := "ytfakfgblaakgdaa", sum := "95dc873d0184ec353ac3ab5b4d1b0c943f74eab93d314eff24196d31e62febd1", func := "tickler/ticklerlaw04.FilesTells", spec := "filesTells", inPlace := ["slices.overlaps[tickler/files.Name]"], unfollowed := true, recurses := true, apart := false }
def FilesTellsSaid : Prop := filesTellsRow.holds Try.pinned (OpenSpec.ofChange filesTellsSpec)

/-- ITS FALSE NEIGHBOUR: 'it returns false'. Refute it at one input. -/
def filesTellsWrong : ChangeSpec := { name := "filesTells", fn := fun _ => fun
  | [d1, d2, d3, d4] => { results := [.lit (.bool false)], args := [d1, d2, d3, d4] }
  | _ => none }
def FilesTellsWrongFalsely : Prop := filesTellsRow.holds Try.pinned (OpenSpec.ofChange filesTellsWrong)

/-- 'ticklerlaw04.FilesLast': WHATEVER THE INPUT: true; the input reads as it did. -/
def filesLastSpec : ChangeSpec := { name := "filesLast", fn := fun _ => fun
  | [d1, d2] => { results := [.lit (.bool true)], args := [d1, d2] }
  | _ => none }
def filesLastRow : OpenClaim := { program := "ytfakfgblaakgdaa", sum := "95dc873d0184ec353ac3ab5b4d1b0c943f74eab93d314eff24196d31e62febd1", func := "tickler/ticklerlaw04.FilesLast", spec := "filesLast", inPlace := ["slices.overlaps[tickler/files.Name]"], unfollowed := true, recurses := true, apart := false }
def FilesLastSaid : Prop := filesLastRow.holds Try.pinned (OpenSpec.ofChange filesLastSpec)

/-- ITS FALSE NEIGHBOUR: 'it returns false'. Refute it at one input. -/
def filesLastWrong : ChangeSpec := { name := "filesLast", fn := fun _ => fun
  | [d1, d2] => { results := [.lit (.bool false)], args := [d1, d2] }
  | _ => none }
def FilesLastWrongFalsely : Prop := filesLastRow.holds Try.pinned (OpenSpec.ofChange filesLastWrong)

/- THE SECOND FORM. 'bulk': how many values and letters a reading holds, each counted each time it is reached (what is shared counts as often as it is met; a slice's spare places count too). A statement '..UptoSaid' is the law's where the arguments, and the package variables that the reading takes, are together of bulk at most 1048576: NARROWER than '..Said'. Prove '..Said' where nothing that the law and all that it calls make is longer than what came in: it says more and counts as full. Else prove '..UptoSaid'. A law counts once. -/
mutual
def uptoBulk {H : Type} : DataW H → Nat
  | .lit (.string bytes) => bytes.length + 1
  | .lit _ => 1
  | .nil => 1
  | .ptr d => uptoBulk d + 1
  | .slice elems spare => uptoBulkAll elems + uptoBulkAll spare + 1
  | .agg parts => uptoBulkAll parts + 1
  | .iface _ d => uptoBulk d + 1
  | .map entries => uptoBulkEntries entries + 1
  | .held _ => 1
def uptoBulkAll {H : Type} : List (DataW H) → Nat
  | [] => 0
  | d :: r => uptoBulk d + uptoBulkAll r
def uptoBulkEntries {H : Type} : List (Lit × DataW H) → Nat
  | [] => 0
  | x :: r => uptoBulkEntry x + uptoBulkEntries r
def uptoBulkEntry {H : Type} : Lit × DataW H → Nat
  | (.string bytes, d) => bytes.length + uptoBulk d + 1
  | (_, d) => uptoBulk d + 1
 end
def uptoSmall : (H : Type) → List (DataW H) → Bool := fun _ ds => decide (uptoBulkAll ds ≤ 1048576)
def OpenSpec.upto (s : _root_.Go.ChangeSpec) : _root_.Go.OpenSpec := { _root_.Go.OpenSpec.ofChange s with cond := some uptoSmall }

/-- 'ticklerlaw14.ManifestNeeds', WHERE WHAT IT READS IS OF BULK AT MOST 1048576: true; the input reads as it did. -/
def manifestNeedsUptoRow : OpenClaim := { program := "ytfakfgblaakgdaa", sum := "95dc873d0184ec353ac3ab5b4d1b0c943f74eab93d314eff24196d31e62febd1", func := "tickler/ticklerlaw14.ManifestNeeds", spec := "manifestNeeds", inPlace := ["internal/bytealg.IndexByteString"], unfollowed := true, recurses := true, apart := false, narrowed := true }
def ManifestNeedsUptoSaid : Prop := manifestNeedsUptoRow.holds Try.pinned (OpenSpec.upto manifestNeedsSpec)

/-- 'ticklerlaw04.FilesRuns', WHERE WHAT IT READS IS OF BULK AT MOST 1048576: true; the input reads as it did. -/
def filesRunsUptoRow : OpenClaim := { program := "ytfakfgblaakgdaa", sum := "95dc873d0184ec353ac3ab5b4d1b0c943f74eab93d314eff24196d31e62febd1", func := "tickler/ticklerlaw04.FilesRuns", spec := "filesRuns", inPlace := ["slices.overlaps[tickler/files.Name]"], unfollowed := true, recurses := true, apart := false, narrowed := true }
def FilesRunsUptoSaid : Prop := filesRunsUptoRow.holds Try.pinned (OpenSpec.upto filesRunsSpec)

/-- 'ticklerlaw04.FilesReads', WHERE WHAT IT READS IS OF BULK AT MOST 1048576: true; the input reads as it did. -/
def filesReadsUptoRow : OpenClaim := { program := "ytfakfgblaakgdaa", sum := "95dc873d0184ec353ac3ab5b4d1b0c943f74eab93d314eff24196d31e62febd1", func := "tickler/ticklerlaw04.FilesReads", spec := "filesReads", inPlace := ["slices.overlaps[tickler/files.Name]"], unfollowed := true, recurses := true, apart := false, narrowed := true }
def FilesReadsUptoSaid : Prop := filesReadsUptoRow.holds Try.pinned (OpenSpec.upto filesReadsSpec)

/-- 'ticklerlaw04.FilesKeeps', WHERE WHAT IT READS IS OF BULK AT MOST 1048576: true; the input reads as it did. -/
def filesKeepsUptoRow : OpenClaim := { program := "ytfakfgblaakgdaa", sum := "95dc873d0184ec353ac3ab5b4d1b0c943f74eab93d314eff24196d31e62febd1", func := "tickler/ticklerlaw04.FilesKeeps", spec := "filesKeeps", inPlace := ["slices.overlaps[tickler/files.Name]"], unfollowed := true, recurses := true, apart := false, narrowed := true }
def FilesKeepsUptoSaid : Prop := filesKeepsUptoRow.holds Try.pinned (OpenSpec.upto filesKeepsSpec)

/-- 'ticklerlaw04.FilesOwn', WHERE WHAT IT READS IS OF BULK AT MOST 1048576: true; the input reads as it did. -/
def filesOwnUptoRow : OpenClaim := { program := "ytfakfgblaakgdaa", sum := "95dc873d0184ec353ac3ab5b4d1b0c943f74eab93d314eff24196d31e62febd1", func := "tickler/ticklerlaw04.FilesOwn", spec := "filesOwn", inPlace := ["slices.overlaps[tickler/files.Name]"], unfollowed := true, recurses := true, apart := false, narrowed := true }
def FilesOwnUptoSaid : Prop := filesOwnUptoRow.holds Try.pinned (OpenSpec.upto filesOwnSpec)

/-- 'ticklerlaw04.FilesTells', WHERE WHAT IT READS IS OF BULK AT MOST 1048576: true; the input reads as it did. -/
def filesTellsUptoRow : OpenClaim := { program := "ytfakfgblaakgdaa", sum := "95dc873d0184ec353ac3ab5b4d1b0c943f74eab93d314eff24196d31e62febd1", func := "tickler/ticklerlaw04.FilesTells", spec := "filesTells", inPlace := ["slices.overlaps[tickler/files.Name]"], unfollowed := true, recurses := true, apart := false, narrowed := true }
def FilesTellsUptoSaid : Prop := filesTellsUptoRow.holds Try.pinned (OpenSpec.upto filesTellsSpec)

/-- 'ticklerlaw04.FilesLast', WHERE WHAT IT READS IS OF BULK AT MOST 1048576: true; the input reads as it did. -/
def filesLastUptoRow : OpenClaim := { program := "ytfakfgblaakgdaa", sum := "95dc873d0184ec353ac3ab5b4d1b0c943f74eab93d314eff24196d31e62febd1", func := "tickler/ticklerlaw04.FilesLast", spec := "filesLast", inPlace := ["slices.overlaps[tickler/files.Name]"], unfollowed := true, recurses := true, apart := false, narrowed := true }
def FilesLastUptoSaid : Prop := filesLastUptoRow.holds Try.pinned (OpenSpec.upto filesLastSpec)

end Rows
end Go.Proofs.Ytfakfgblaakgdaa
