/-
  DERIVED. GIVEN WITH THE SEED: THE CARDS: each row of YteloamnakikbbaaDoorRows.lean that lists a variable, with what it lists TIED to the program's text (the seventh form; the later family's looks); each row that meets fmt, with fmt's text TOLD by the authors' own Lean function (tested against real Go, not proved from fmt's source: count such statements apart). THE CARD IS WHAT COUNTS. Prove the row's statement (the work); the ties are given (YteloamnakikbbaaDoorTie.lean); close each card by the builder's one call (the guide's Derived/Test/ToyasCard.lean, 'card_holds'). Laid BY PROGRAM, IN A SANDBOX (cutbox-door.mjs). By AI agents, Wed Nov 11 2026. No macro, syntax, notation, axiom, sorry.
-/
import Derived.Test.YteloamnakikbbaaDoorRows
import GoSem.ClaimSeven
namespace Go.Proofs.YteloamnakikbbaaDoor
namespace Rows

/-- THE TIED CARD OF 'ticklerlaw19.JobRecurs'. -/
def jobRecursCard : Claim7 := { stood := { row := jobRecursRow, standIns := [], harness := (true, "7591d703c88f011bbcde41371186b0a3fe60991a2a4ad7ccf5ede9e720f0bcfa"), looks := false }, kinds := [], alts := [], laidByText := true, laidKinds := [.data, .data, .pinned], laidTests := true, laidLooks := .later }
def JobRecursCardSaid : Prop := Claim7.holds Tryd.pinned (.plain (OpenSpec.ofChange jobRecursSpec)) jobRecursCard

/-- THE TIED CARD OF 'ticklerlaw19.JobDies'. -/
def jobDiesCard : Claim7 := { stood := { row := jobDiesRow, standIns := [], harness := (true, "7591d703c88f011bbcde41371186b0a3fe60991a2a4ad7ccf5ede9e720f0bcfa"), looks := false }, kinds := [], alts := [], laidByText := true, laidKinds := [.data, .data, .pinned], laidTests := true, laidLooks := .later }
def JobDiesCardSaid : Prop := Claim7.holds Tryd.pinned (.plain (OpenSpec.ofChange jobDiesSpec)) jobDiesCard

/-- THE TIED CARD OF 'ticklerlaw19.JobKeeps'. -/
def jobKeepsCard : Claim7 := { stood := { row := jobKeepsRow, standIns := [], harness := (true, "7591d703c88f011bbcde41371186b0a3fe60991a2a4ad7ccf5ede9e720f0bcfa"), looks := false }, kinds := [], alts := [], laidByText := true, laidKinds := [.data, .data, .pinned], laidTests := true, laidLooks := .later }
def JobKeepsCardSaid : Prop := Claim7.holds Tryd.pinned (.plain (OpenSpec.ofChange jobKeepsSpec)) jobKeepsCard

/-- THE TIED CARD OF 'ticklerlaw19.JobBack'. -/
def jobBackCard : Claim7 := { stood := { row := jobBackRow, standIns := [], harness := (true, "7591d703c88f011bbcde41371186b0a3fe60991a2a4ad7ccf5ede9e720f0bcfa"), looks := false }, kinds := [], alts := [], laidByText := true, laidKinds := [.data, .data, .pinned], laidTests := true, laidLooks := .later }
def JobBackCardSaid : Prop := Claim7.holds Tryd.pinned (.plain (OpenSpec.ofChange jobBackSpec)) jobBackCard

/-- THE SECOND FORM's CARD OF 'ticklerlaw19.JobRecurs'. -/
def jobRecursUptoCard : Claim7 := { stood := { row := jobRecursUptoRow, standIns := [], harness := (true, "7591d703c88f011bbcde41371186b0a3fe60991a2a4ad7ccf5ede9e720f0bcfa"), looks := false }, kinds := [], alts := [], laidByText := true, laidKinds := [.data, .data, .pinned], laidTests := true, laidLooks := .later }
def JobRecursUptoCardSaid : Prop := Claim7.holds Tryd.pinned (.plain (OpenSpec.upto jobRecursSpec)) jobRecursUptoCard

/-- THE SECOND FORM's CARD OF 'ticklerlaw19.JobDies'. -/
def jobDiesUptoCard : Claim7 := { stood := { row := jobDiesUptoRow, standIns := [], harness := (true, "7591d703c88f011bbcde41371186b0a3fe60991a2a4ad7ccf5ede9e720f0bcfa"), looks := false }, kinds := [], alts := [], laidByText := true, laidKinds := [.data, .data, .pinned], laidTests := true, laidLooks := .later }
def JobDiesUptoCardSaid : Prop := Claim7.holds Tryd.pinned (.plain (OpenSpec.upto jobDiesSpec)) jobDiesUptoCard

/-- THE SECOND FORM's CARD OF 'ticklerlaw19.JobKeeps'. -/
def jobKeepsUptoCard : Claim7 := { stood := { row := jobKeepsUptoRow, standIns := [], harness := (true, "7591d703c88f011bbcde41371186b0a3fe60991a2a4ad7ccf5ede9e720f0bcfa"), looks := false }, kinds := [], alts := [], laidByText := true, laidKinds := [.data, .data, .pinned], laidTests := true, laidLooks := .later }
def JobKeepsUptoCardSaid : Prop := Claim7.holds Tryd.pinned (.plain (OpenSpec.upto jobKeepsSpec)) jobKeepsUptoCard

/-- THE SECOND FORM's CARD OF 'ticklerlaw19.JobBack'. -/
def jobBackUptoCard : Claim7 := { stood := { row := jobBackUptoRow, standIns := [], harness := (true, "7591d703c88f011bbcde41371186b0a3fe60991a2a4ad7ccf5ede9e720f0bcfa"), looks := false }, kinds := [], alts := [], laidByText := true, laidKinds := [.data, .data, .pinned], laidTests := true, laidLooks := .later }
def JobBackUptoCardSaid : Prop := Claim7.holds Tryd.pinned (.plain (OpenSpec.upto jobBackSpec)) jobBackUptoCard
end Rows
end Go.Proofs.YteloamnakikbbaaDoor
