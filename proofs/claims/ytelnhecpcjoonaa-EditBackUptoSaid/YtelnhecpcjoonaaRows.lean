/-
  No cell of these rows narrows 'for every input' (looked for: loops, veiled, ifaces, maps, wideKeys, modest, calm, conditions, laid).
  DERIVED. THE GIVEN ROWS OF THIS SEAT. 7 by the template 'for every input the law returns true; each argument reads behind the call as it read before'; 0 by the template 'total and deterministic' (their statements: YtelnhecpcjoonaaTotals.lean).
  GIVEN WITH THE SEED: the statements are not yours to turn. If you find one false, say at which input.
  Laid BY PROGRAM, IN A SANDBOX (cutbox-rows.mjs): the forced cells as the released guide's own fill.sh prints them over the translation fe3e6d65e617574a… (all of the seat's roots in one cut). By AI agents, Wed Nov 11 2026. No macro, syntax, notation, axiom, sorry.
-/
import Derived.Test.YtelnhecpcjoonaaChecked
import GoSem.Claim
import GoSem.ClaimJoined
import GoSem.ClaimMapViews
import Derived.JoinedTies
import Derived.KernelRfl
namespace Go.Proofs.Ytelnhecpcjoonaa
/- THE CELL 'sum', in the pinned program and in every row, IS THE sha256 OF THE DUMP (.gsa) THAT YtelnhecpcjoonaaProg.lean LOADS. Nothing in Lean hashes anything: it is a label: what it is worth is what the hold of that sum in a sandbox is worth. -/
noncomputable def Try.pinned : Pinned := { name := "ytelnhecpcjoonaa", sum := "fe3e6d65e617574a36ec5f3cc647631091c1700f1f6a67d2a1401721ffd4caac", checked := Try.checked }
namespace Rows
def none {H : Type} : Left H := { results := [], args := [] }

/-- 'ticklerlaw14.ManifestNames': WHATEVER THE INPUT: true; the input reads as it did. -/
def manifestNamesSpec : ChangeSpec := { name := "manifestNames", fn := fun _ => fun
  | [d1, d2, d3] => { results := [.lit (.bool true)], args := [d1, d2, d3] }
  | _ => none }
def manifestNamesRow : OpenClaim := { program := "ytelnhecpcjoonaa", sum := "fe3e6d65e617574a36ec5f3cc647631091c1700f1f6a67d2a1401721ffd4caac", func := "tickler/ticklerlaw14.ManifestNames", spec := "manifestNames", inPlace := ["internal/bytealg.IndexByteString"], apart := false }
def ManifestNamesSaid : Prop := manifestNamesRow.holds Try.pinned (OpenSpec.ofChange manifestNamesSpec)

/-- ITS FALSE NEIGHBOUR: 'it returns false'. Refute it at one input. -/
def manifestNamesWrong : ChangeSpec := { name := "manifestNames", fn := fun _ => fun
  | [d1, d2, d3] => { results := [.lit (.bool false)], args := [d1, d2, d3] }
  | _ => none }
def ManifestNamesWrongFalsely : Prop := manifestNamesRow.holds Try.pinned (OpenSpec.ofChange manifestNamesWrong)

/-- 'ticklerlaw14.ManifestNeeds': WHATEVER THE INPUT: true; the input reads as it did. -/
def manifestNeedsSpec : ChangeSpec := { name := "manifestNeeds", fn := fun _ => fun
  | [d1, d2, d3, d4] => { results := [.lit (.bool true)], args := [d1, d2, d3, d4] }
  | _ => none }
def manifestNeedsRow : OpenClaim := { program := "ytelnhecpcjoonaa", sum := "fe3e6d65e617574a36ec5f3cc647631091c1700f1f6a67d2a1401721ffd4caac", func := "tickler/ticklerlaw14.ManifestNeeds", spec := "manifestNeeds", inPlace := ["internal/bytealg.IndexByteString"], unfollowed := true, recurses := true, apart := false }
def ManifestNeedsSaid : Prop := manifestNeedsRow.holds Try.pinned (OpenSpec.ofChange manifestNeedsSpec)

/-- ITS FALSE NEIGHBOUR: 'it returns false'. Refute it at one input. -/
def manifestNeedsWrong : ChangeSpec := { name := "manifestNeeds", fn := fun _ => fun
  | [d1, d2, d3, d4] => { results := [.lit (.bool false)], args := [d1, d2, d3, d4] }
  | _ => none }
def ManifestNeedsWrongFalsely : Prop := manifestNeedsRow.holds Try.pinned (OpenSpec.ofChange manifestNeedsWrong)

/-- 'ticklerlaw11.EditApart': WHATEVER THE INPUT: true; the input reads as it did. -/
def editApartSpec : ChangeSpec := { name := "editApart", fn := fun _ => fun
  | [d1, d2] => { results := [.lit (.bool true)], args := [d1, d2] }
  | _ => none }
def editApartRow : OpenClaim := { program := "ytelnhecpcjoonaa", sum := "fe3e6d65e617574a36ec5f3cc647631091c1700f1f6a67d2a1401721ffd4caac", func := "tickler/ticklerlaw11.EditApart", spec := "editApart", unfollowed := true, recurses := true, apart := false }
def EditApartSaid : Prop := editApartRow.holds Try.pinned (OpenSpec.ofChange editApartSpec)

/-- ITS FALSE NEIGHBOUR: 'it returns false'. Refute it at one input. -/
def editApartWrong : ChangeSpec := { name := "editApart", fn := fun _ => fun
  | [d1, d2] => { results := [.lit (.bool false)], args := [d1, d2] }
  | _ => none }
def EditApartWrongFalsely : Prop := editApartRow.holds Try.pinned (OpenSpec.ofChange editApartWrong)

/-- 'ticklerlaw11.EditOwn': WHATEVER THE INPUT: true; the input reads as it did. -/
def editOwnSpec : ChangeSpec := { name := "editOwn", fn := fun _ => fun
  | [d1, d2] => { results := [.lit (.bool true)], args := [d1, d2] }
  | _ => none }
def editOwnRow : OpenClaim := { program := "ytelnhecpcjoonaa", sum := "fe3e6d65e617574a36ec5f3cc647631091c1700f1f6a67d2a1401721ffd4caac", func := "tickler/ticklerlaw11.EditOwn", spec := "editOwn", unfollowed := true, recurses := true, apart := false }
def EditOwnSaid : Prop := editOwnRow.holds Try.pinned (OpenSpec.ofChange editOwnSpec)

/-- ITS FALSE NEIGHBOUR: 'it returns false'. Refute it at one input. -/
def editOwnWrong : ChangeSpec := { name := "editOwn", fn := fun _ => fun
  | [d1, d2] => { results := [.lit (.bool false)], args := [d1, d2] }
  | _ => none }
def EditOwnWrongFalsely : Prop := editOwnRow.holds Try.pinned (OpenSpec.ofChange editOwnWrong)

/-- 'ticklerlaw11.EditWhole': WHATEVER THE INPUT: true; the input reads as it did. -/
def editWholeSpec : ChangeSpec := { name := "editWhole", fn := fun _ => fun
  | [d] => { results := [.lit (.bool true)], args := [d] }
  | _ => none }
def editWholeRow : OpenClaim := { program := "ytelnhecpcjoonaa", sum := "fe3e6d65e617574a36ec5f3cc647631091c1700f1f6a67d2a1401721ffd4caac", func := "tickler/ticklerlaw11.EditWhole", spec := "editWhole", unfollowed := true, recurses := true, apart := false }
def EditWholeSaid : Prop := editWholeRow.holds Try.pinned (OpenSpec.ofChange editWholeSpec)

/-- ITS FALSE NEIGHBOUR: 'it returns false'. Refute it at one input. -/
def editWholeWrong : ChangeSpec := { name := "editWhole", fn := fun _ => fun
  | [d] => { results := [.lit (.bool false)], args := [d] }
  | _ => none }
def EditWholeWrongFalsely : Prop := editWholeRow.holds Try.pinned (OpenSpec.ofChange editWholeWrong)

/-- 'ticklerlaw11.EditApplies': WHATEVER THE INPUT: true; the input reads as it did. -/
def editAppliesSpec : ChangeSpec := { name := "editApplies", fn := fun _ => fun
  | [d1, d2, d3] => { results := [.lit (.bool true)], args := [d1, d2, d3] }
  | _ => none }
def editAppliesRow : OpenClaim := { program := "ytelnhecpcjoonaa", sum := "fe3e6d65e617574a36ec5f3cc647631091c1700f1f6a67d2a1401721ffd4caac", func := "tickler/ticklerlaw11.EditApplies", spec := "editApplies", unfollowed := true, recurses := true, apart := false }
def EditAppliesSaid : Prop := editAppliesRow.holds Try.pinned (OpenSpec.ofChange editAppliesSpec)

/-- ITS FALSE NEIGHBOUR: 'it returns false'. Refute it at one input. -/
def editAppliesWrong : ChangeSpec := { name := "editApplies", fn := fun _ => fun
  | [d1, d2, d3] => { results := [.lit (.bool false)], args := [d1, d2, d3] }
  | _ => none }
def EditAppliesWrongFalsely : Prop := editAppliesRow.holds Try.pinned (OpenSpec.ofChange editAppliesWrong)

/-- 'ticklerlaw11.EditBack': WHATEVER THE INPUT: true; the input reads as it did. -/
def editBackSpec : ChangeSpec := { name := "editBack", fn := fun _ => fun
  | [d1, d2] => { results := [.lit (.bool true)], args := [d1, d2] }
  | _ => none }
def editBackRow : OpenClaim := { program := "ytelnhecpcjoonaa", sum := "fe3e6d65e617574a36ec5f3cc647631091c1700f1f6a67d2a1401721ffd4caac", func := "tickler/ticklerlaw11.EditBack", spec := "editBack", unfollowed := true, recurses := true, apart := false }
def EditBackSaid : Prop := editBackRow.holds Try.pinned (OpenSpec.ofChange editBackSpec)

/-- ITS FALSE NEIGHBOUR: 'it returns false'. Refute it at one input. -/
def editBackWrong : ChangeSpec := { name := "editBack", fn := fun _ => fun
  | [d1, d2] => { results := [.lit (.bool false)], args := [d1, d2] }
  | _ => none }
def EditBackWrongFalsely : Prop := editBackRow.holds Try.pinned (OpenSpec.ofChange editBackWrong)

/- THE SECOND FORM. 'bulk': how many values and letters a reading holds, each counted each time it is reached (what is shared counts as often as it is met; a slice's spare places count too). A statement '..UptoSaid' is the law's where the arguments, and the package variables that the reading takes, are together of bulk at most 1048576: NARROWER than '..Said'. Prove '..Said' where nothing that the law and all that it calls make is longer than what came in: it says more and counts as full. Else prove '..UptoSaid'. A law counts once. -/
mutual
def uptoBulk {H : Type} : DataW H → Nat
  | .lit (.string bytes) => bytes.length + 1
  | .lit _ => 1
  | .nil => 1
  | .ptr d => uptoBulk d + 1
  | .slice elems spare => uptoBulkAll elems + uptoBulkAll spare + 1
  | .agg parts => uptoBulkAll parts + 1
  | .iface _ d => uptoBulk d + 1
  | .map entries => uptoBulkEntries entries + 1
  | .held _ => 1
def uptoBulkAll {H : Type} : List (DataW H) → Nat
  | [] => 0
  | d :: r => uptoBulk d + uptoBulkAll r
def uptoBulkEntries {H : Type} : List (Lit × DataW H) → Nat
  | [] => 0
  | x :: r => uptoBulkEntry x + uptoBulkEntries r
def uptoBulkEntry {H : Type} : Lit × DataW H → Nat
  | (.string bytes, d) => bytes.length + uptoBulk d + 1
  | (_, d) => uptoBulk d + 1
 end
def uptoSmall : (H : Type) → List (DataW H) → Bool := fun _ ds => decide (uptoBulkAll ds ≤ 1048576)
def OpenSpec.upto (s : _root_.Go.ChangeSpec) : _root_.Go.OpenSpec := { _root_.Go.OpenSpec.ofChange s with cond := some uptoSmall }

/-- 'ticklerlaw14.ManifestNames', WHERE WHAT IT READS IS OF BULK AT MOST 1048576: true; the input reads as it did. -/
def manifestNamesUptoRow : OpenClaim := { program := "ytelnhecpcjoonaa", sum := "fe3e6d65e617574a36ec5f3cc647631091c1700f1f6a67d2a1401721ffd4caac", func := "tickler/ticklerlaw14.ManifestNames", spec := "manifestNames", inPlace := ["internal/bytealg.IndexByteString"], apart := false, narrowed := true }
def ManifestNamesUptoSaid : Prop := manifestNamesUptoRow.holds Try.pinned (OpenSpec.upto manifestNamesSpec)

/-- 'ticklerlaw14.ManifestNeeds', WHERE WHAT IT READS IS OF BULK AT MOST 1048576: true; the input reads as it did. -/
def manifestNeedsUptoRow : OpenClaim := { program := "ytelnhecpcjoonaa", sum := "fe3e6d65e617574a36ec5f3cc647631091c1700f1f6a67d2a1401721ffd4caac", func := "tickler/ticklerlaw14.ManifestNeeds", spec := "manifestNeeds", inPlace := ["internal/bytealg.IndexByteString"], unfollowed := true, recurses := true, apart := false, narrowed := true }
def ManifestNeedsUptoSaid : Prop := manifestNeedsUptoRow.holds Try.pinned (OpenSpec.upto manifestNeedsSpec)

/-- 'ticklerlaw11.EditApart', WHERE WHAT IT READS IS OF BULK AT MOST 1048576: true; the input reads as it did. -/
def editApartUptoRow : OpenClaim := { program := "ytelnhecpcjoonaa", sum := "fe3e6d65e617574a36ec5f3cc647631091c1700f1f6a67d2a1401721ffd4caac", func := "tickler/ticklerlaw11.EditApart", spec := "editApart", unfollowed := true, recurses := true, apart := false, narrowed := true }
def EditApartUptoSaid : Prop := editApartUptoRow.holds Try.pinned (OpenSpec.upto editApartSpec)

/-- 'ticklerlaw11.EditOwn', WHERE WHAT IT READS IS OF BULK AT MOST 1048576: true; the input reads as it did. -/
def editOwnUptoRow : OpenClaim := { program := "ytelnhecpcjoonaa", sum := "fe3e6d65e617574a36ec5f3cc647631091c1700f1f6a67d2a1401721ffd4caac", func := "tickler/ticklerlaw11.EditOwn", spec := "editOwn", unfollowed := true, recurses := true, apart := false, narrowed := true }
def EditOwnUptoSaid : Prop := editOwnUptoRow.holds Try.pinned (OpenSpec.upto editOwnSpec)

/-- 'ticklerlaw11.EditWhole', WHERE WHAT IT READS IS OF BULK AT MOST 1048576: true; the input reads as it did. -/
def editWholeUptoRow : OpenClaim := { program := "ytelnhecpcjoonaa", sum := "fe3e6d65e617574a36ec5f3cc647631091c1700f1f6a67d2a1401721ffd4caac", func := "tickler/ticklerlaw11.EditWhole", spec := "editWhole", unfollowed := true, recurses := true, apart := false, narrowed := true }
def EditWholeUptoSaid : Prop := editWholeUptoRow.holds Try.pinned (OpenSpec.upto editWholeSpec)

/-- 'ticklerlaw11.EditApplies', WHERE WHAT IT READS IS OF BULK AT MOST 1048576: true; the input reads as it did. -/
def editAppliesUptoRow : OpenClaim := { program := "ytelnhecpcjoonaa", sum := "fe3e6d65e617574a36ec5f3cc647631091c1700f1f6a67d2a1401721ffd4caac", func := "tickler/ticklerlaw11.EditApplies", spec := "editApplies", unfollowed := true, recurses := true, apart := false, narrowed := true }
def EditAppliesUptoSaid : Prop := editAppliesUptoRow.holds Try.pinned (OpenSpec.upto editAppliesSpec)

/-- 'ticklerlaw11.EditBack', WHERE WHAT IT READS IS OF BULK AT MOST 1048576: true; the input reads as it did. -/
def editBackUptoRow : OpenClaim := { program := "ytelnhecpcjoonaa", sum := "fe3e6d65e617574a36ec5f3cc647631091c1700f1f6a67d2a1401721ffd4caac", func := "tickler/ticklerlaw11.EditBack", spec := "editBack", unfollowed := true, recurses := true, apart := false, narrowed := true }
def EditBackUptoSaid : Prop := editBackUptoRow.holds Try.pinned (OpenSpec.upto editBackSpec)

end Rows
end Go.Proofs.Ytelnhecpcjoonaa
