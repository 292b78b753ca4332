/- The document's Check of chapter 11, walked. -/
import Derived.Test.YtfakfgblaakgdaaEditC
namespace Go.Proofs.Ytfakfgblaakgdaa.Edit
set_option linter.unusedVariables false
set_option linter.unusedSimpArgs false
open Go.RowKit Go.Proofs.YtfakfgblaakgdaaW.PrintWords Go.Proofs.YtfakfgblaakgdaaW.PrintLast Go.Proofs.Ytfakfgblaakgdaa.Base Go.Proofs.Ytfakfgblaakgdaa.EditPure Go.Proofs.Ytfakfgblaakgdaa.Sets Go.Proofs.Ytfakfgblaakgdaa.Wide

/-- what the document's Check asks of a table, all but that its number is new -/
def refBad (next : Int) (pre : List Meta) (m : Meta) : Bool := !(mayM m && decide (m.id < next) && lastOk pre m)

theorem okTo_false {next : Int} (l : List Meta) {i : Nat} (h : okTo next l i = false) {n : Nat} (hn : i ≤ n) : okTo next l n = false := by
  induction n with
  | zero => obtain rfl : i = 0 := by omega
            exact h
  | succ n ih =>
    by_cases e : i = n + 1
    · subst e; exact h
    · rw [okTo, ih (by omega), Bool.false_and]

end Go.Proofs.Ytfakfgblaakgdaa.Edit
