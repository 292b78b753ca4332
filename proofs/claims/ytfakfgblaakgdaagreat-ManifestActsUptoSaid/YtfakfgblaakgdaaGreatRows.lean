/-
  No cell of these rows narrows 'for every input' (looked for: loops, veiled, ifaces, maps, wideKeys, modest, calm, conditions, laid).
  DERIVED. THE GIVEN ROWS OF THIS SEAT. 4 by the template 'for every input the law returns true; each argument reads behind the call as it read before'; 0 by the template 'total and deterministic' (their statements: YtfakfgblaakgdaaGreatTotals.lean).
  GIVEN WITH THE SEED: the statements are not yours to turn. If you find one false, say at which input.
  Laid BY PROGRAM, IN A SANDBOX (cutbox-rows.mjs): the forced cells as the released guide's own fill.sh prints them over the translation dc211e08ecc35b5c… (all of the seat's roots in one cut). By AI agents, Wed Nov 11 2026. No macro, syntax, notation, axiom, sorry.
-/
import Derived.Test.YtfakfgblaakgdaaGreatChecked
import GoSem.Claim
import GoSem.ClaimJoined
import GoSem.ClaimMapViews
import Derived.JoinedTies
import Derived.KernelRfl
namespace Go.Proofs.YtfakfgblaakgdaaGreat
/- THE CELL 'sum', in the pinned program and in every row, IS THE sha256 OF THE DUMP (.gsa) THAT YtfakfgblaakgdaaGreatProg.lean LOADS. Nothing in Lean hashes anything: it is a label: what it is worth is what the hold of that sum in a sandbox is worth. -/
noncomputable def Tryz.pinned : Pinned := { name := "ytfakfgblaakgdaagreat", sum := "dc211e08ecc35b5c07ce6394a4e08e24bedc60695bd95da6c5858326f46d84f7", checked := Tryz.checked }
namespace Rows
def none {H : Type} : Left H := { results := [], args := [] }

/-- 'ticklerlaw14.ManifestActs': WHATEVER THE INPUT: true; the input reads as it did. -/
def manifestActsSpec : ChangeSpec := { name := "manifestActs", fn := fun _ => fun
  | [d1, d2, d3, d4] => { results := [.lit (.bool true)], args := [d1, d2, d3, d4] }
  | _ => none }
def manifestActsRow : OpenClaim := { program := "ytfakfgblaakgdaagreat", sum := "dc211e08ecc35b5c07ce6394a4e08e24bedc60695bd95da6c5858326f46d84f7", func := "tickler/ticklerlaw14.ManifestActs", spec := "manifestActs", inPlace := ["internal/bytealg.IndexByteString", "slices.overlaps[tickler/api.Act]"], unfollowed := true, recurses := true, apart := false }
def ManifestActsSaid : Prop := manifestActsRow.holds Tryz.pinned (OpenSpec.ofChange manifestActsSpec)

/-- ITS FALSE NEIGHBOUR: 'it returns false'. Refute it at one input. -/
def manifestActsWrong : ChangeSpec := { name := "manifestActs", fn := fun _ => fun
  | [d1, d2, d3, d4] => { results := [.lit (.bool false)], args := [d1, d2, d3, d4] }
  | _ => none }
def ManifestActsWrongFalsely : Prop := manifestActsRow.holds Tryz.pinned (OpenSpec.ofChange manifestActsWrong)

/-- 'ticklerlaw14.ManifestLoads': WHATEVER THE INPUT: true; the input reads as it did. -/
def manifestLoadsSpec : ChangeSpec := { name := "manifestLoads", fn := fun _ => fun
  | [d1, d2, d3, d4] => { results := [.lit (.bool true)], args := [d1, d2, d3, d4] }
  | _ => none }
def manifestLoadsRow : OpenClaim := { program := "ytfakfgblaakgdaagreat", sum := "dc211e08ecc35b5c07ce6394a4e08e24bedc60695bd95da6c5858326f46d84f7", func := "tickler/ticklerlaw14.ManifestLoads", spec := "manifestLoads", inPlace := ["internal/bytealg.IndexByteString"], unfollowed := true, recurses := true, apart := false }
def ManifestLoadsSaid : Prop := manifestLoadsRow.holds Tryz.pinned (OpenSpec.ofChange manifestLoadsSpec)

/-- ITS FALSE NEIGHBOUR: 'it returns false'. Refute it at one input. -/
def manifestLoadsWrong : ChangeSpec := { name := "manifestLoads", fn := fun _ => fun
  | [d1, d2, d3, d4] => { results := [.lit (.bool false)], args := [d1, d2, d3, d4] }
  | _ => none }
def ManifestLoadsWrongFalsely : Prop := manifestLoadsRow.holds Tryz.pinned (OpenSpec.ofChange manifestLoadsWrong)

/-- 'ticklerlaw14.ManifestSwitches': WHATEVER THE INPUT: true; the input reads as it did. -/
def manifestSwitchesSpec : ChangeSpec := { name := "manifestSwitches", fn := fun _ => fun
  | [d1, d2, d3, d4] => { results := [.lit (.bool true)], args := [d1, d2, d3, d4] }
  | _ => none }
def manifestSwitchesRow : OpenClaim := { program := "ytfakfgblaakgdaagreat", sum := "dc211e08ecc35b5c07ce6394a4e08e24bedc60695bd95da6c5858326f46d84f7", func := "tickler/ticklerlaw14.ManifestSwitches", spec := "manifestSwitches", inPlace := ["internal/bytealg.IndexByteString", "slices.overlaps[tickler/api.Act]", "slices.overlaps[tickler/files.Name]"], unfollowed := true, recurses := true, apart := false }
def ManifestSwitchesSaid : Prop := manifestSwitchesRow.holds Tryz.pinned (OpenSpec.ofChange manifestSwitchesSpec)

/-- ITS FALSE NEIGHBOUR: 'it returns false'. Refute it at one input. -/
def manifestSwitchesWrong : ChangeSpec := { name := "manifestSwitches", fn := fun _ => fun
  | [d1, d2, d3, d4] => { results := [.lit (.bool false)], args := [d1, d2, d3, d4] }
  | _ => none }
def ManifestSwitchesWrongFalsely : Prop := manifestSwitchesRow.holds Tryz.pinned (OpenSpec.ofChange manifestSwitchesWrong)

/-- 'ticklerlaw14.ManifestNotes': WHATEVER THE INPUT: true; the input reads as it did. -/
def manifestNotesSpec : ChangeSpec := { name := "manifestNotes", fn := fun _ => fun
  | [d1, d2, d3, d4] => { results := [.lit (.bool true)], args := [d1, d2, d3, d4] }
  | _ => none }
def manifestNotesRow : OpenClaim := { program := "ytfakfgblaakgdaagreat", sum := "dc211e08ecc35b5c07ce6394a4e08e24bedc60695bd95da6c5858326f46d84f7", func := "tickler/ticklerlaw14.ManifestNotes", spec := "manifestNotes", inPlace := ["internal/bytealg.IndexByteString", "slices.overlaps[tickler/api.Act]", "slices.overlaps[tickler/files.Name]"], unfollowed := true, recurses := true, apart := false }
def ManifestNotesSaid : Prop := manifestNotesRow.holds Tryz.pinned (OpenSpec.ofChange manifestNotesSpec)

/-- ITS FALSE NEIGHBOUR: 'it returns false'. Refute it at one input. -/
def manifestNotesWrong : ChangeSpec := { name := "manifestNotes", fn := fun _ => fun
  | [d1, d2, d3, d4] => { results := [.lit (.bool false)], args := [d1, d2, d3, d4] }
  | _ => none }
def ManifestNotesWrongFalsely : Prop := manifestNotesRow.holds Tryz.pinned (OpenSpec.ofChange manifestNotesWrong)

/- THE SECOND FORM. 'bulk': how many values and letters a reading holds, each counted each time it is reached (what is shared counts as often as it is met; a slice's spare places count too). A statement '..UptoSaid' is the law's where the arguments, and the package variables that the reading takes, are together of bulk at most 1048576: NARROWER than '..Said'. Prove '..Said' where nothing that the law and all that it calls make is longer than what came in: it says more and counts as full. Else prove '..UptoSaid'. A law counts once. -/
mutual
def uptoBulk {H : Type} : DataW H → Nat
  | .lit (.string bytes) => bytes.length + 1
  | .lit _ => 1
  | .nil => 1
  | .ptr d => uptoBulk d + 1
  | .slice elems spare => uptoBulkAll elems + uptoBulkAll spare + 1
  | .agg parts => uptoBulkAll parts + 1
  | .iface _ d => uptoBulk d + 1
  | .map entries => uptoBulkEntries entries + 1
  | .held _ => 1
def uptoBulkAll {H : Type} : List (DataW H) → Nat
  | [] => 0
  | d :: r => uptoBulk d + uptoBulkAll r
def uptoBulkEntries {H : Type} : List (Lit × DataW H) → Nat
  | [] => 0
  | x :: r => uptoBulkEntry x + uptoBulkEntries r
def uptoBulkEntry {H : Type} : Lit × DataW H → Nat
  | (.string bytes, d) => bytes.length + uptoBulk d + 1
  | (_, d) => uptoBulk d + 1
 end
def uptoSmall : (H : Type) → List (DataW H) → Bool := fun _ ds => decide (uptoBulkAll ds ≤ 1048576)
def OpenSpec.upto (s : _root_.Go.ChangeSpec) : _root_.Go.OpenSpec := { _root_.Go.OpenSpec.ofChange s with cond := some uptoSmall }

/-- 'ticklerlaw14.ManifestActs', WHERE WHAT IT READS IS OF BULK AT MOST 1048576: true; the input reads as it did. -/
def manifestActsUptoRow : OpenClaim := { program := "ytfakfgblaakgdaagreat", sum := "dc211e08ecc35b5c07ce6394a4e08e24bedc60695bd95da6c5858326f46d84f7", func := "tickler/ticklerlaw14.ManifestActs", spec := "manifestActs", inPlace := ["internal/bytealg.IndexByteString", "slices.overlaps[tickler/api.Act]"], unfollowed := true, recurses := true, apart := false, narrowed := true }
def ManifestActsUptoSaid : Prop := manifestActsUptoRow.holds Tryz.pinned (OpenSpec.upto manifestActsSpec)

/-- 'ticklerlaw14.ManifestLoads', WHERE WHAT IT READS IS OF BULK AT MOST 1048576: true; the input reads as it did. -/
def manifestLoadsUptoRow : OpenClaim := { program := "ytfakfgblaakgdaagreat", sum := "dc211e08ecc35b5c07ce6394a4e08e24bedc60695bd95da6c5858326f46d84f7", func := "tickler/ticklerlaw14.ManifestLoads", spec := "manifestLoads", inPlace := ["internal/bytealg.IndexByteString"], unfollowed := true, recurses := true, apart := false, narrowed := true }
def ManifestLoadsUptoSaid : Prop := manifestLoadsUptoRow.holds Tryz.pinned (OpenSpec.upto manifestLoadsSpec)

/-- 'ticklerlaw14.ManifestSwitches', WHERE WHAT IT READS IS OF BULK AT MOST 1048576: true; the input reads as it did. -/
def manifestSwitchesUptoRow : OpenClaim := { program := "ytfakfgblaakgdaagreat", sum := "dc211e08ecc35b5c07ce6394a4e08e24bedc60695bd95da6c5858326f46d84f7", func := "tickler/ticklerlaw14.ManifestSwitches", spec := "manifestSwitches", inPlace := ["internal/bytealg.IndexByteString", "slices.overlaps[tickler/api.Act]", "slices.overlaps[tickler/files.Name]"], unfollowed := true, recurses := true, apart := false, narrowed := true }
def ManifestSwitchesUptoSaid : Prop := manifestSwitchesUptoRow.holds Tryz.pinned (OpenSpec.upto manifestSwitchesSpec)

/-- 'ticklerlaw14.ManifestNotes', WHERE WHAT IT READS IS OF BULK AT MOST 1048576: true; the input reads as it did. -/
def manifestNotesUptoRow : OpenClaim := { program := "ytfakfgblaakgdaagreat", sum := "dc211e08ecc35b5c07ce6394a4e08e24bedc60695bd95da6c5858326f46d84f7", func := "tickler/ticklerlaw14.ManifestNotes", spec := "manifestNotes", inPlace := ["internal/bytealg.IndexByteString", "slices.overlaps[tickler/api.Act]", "slices.overlaps[tickler/files.Name]"], unfollowed := true, recurses := true, apart := false, narrowed := true }
def ManifestNotesUptoSaid : Prop := manifestNotesUptoRow.holds Tryz.pinned (OpenSpec.upto manifestNotesSpec)

end Rows
end Go.Proofs.YtfakfgblaakgdaaGreat
