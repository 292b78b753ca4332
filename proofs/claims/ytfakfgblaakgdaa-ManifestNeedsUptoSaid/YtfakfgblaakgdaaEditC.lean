/- The document's Check of chapter 11, walked. -/
import Derived.Test.YtfakfgblaakgdaaEditB
import Derived.Test.YtfakfgblaakgdaaWide
namespace Go.Proofs.Ytfakfgblaakgdaa.Edit
set_option linter.unusedVariables false
set_option linter.unusedSimpArgs false
open Go.RowKit Go.Proofs.YtfakfgblaakgdaaW.PrintWords Go.Proofs.YtfakfgblaakgdaaW.PrintLast Go.Proofs.Ytfakfgblaakgdaa.Base Go.Proofs.Ytfakfgblaakgdaa.EditPure Go.Proofs.Ytfakfgblaakgdaa.Sets Go.Proofs.Ytfakfgblaakgdaa.Wide

def befB (a b : Meta) : Bool := decide (ord a b < 0)
theorem befB_lev (a b : Meta) (h : a.level ≠ b.level) : befB a b = decide (a.level < b.level) := by
  unfold befB ord cmpI
  by_cases h1 : a.level < b.level
  · simp [h1]
  · have : b.level < a.level := by omega
    simp [h1, this]
theorem befB_zero (a b : Meta) (h : a.level = b.level) (h0 : a.level = 0) : befB a b = decide (b.id < a.id) := by
  have e : cmpI a.level b.level = 0 := by rw [h]; simp [cmpI]
  unfold befB ord
  rw [if_neg (by rw [e]; decide), if_pos (by rw [h0]; decide)]
  unfold cmpI
  by_cases h1 : b.id < a.id
  · simp [h1]
  · by_cases h2 : a.id < b.id <;> simp [h1, h2]
theorem befB_low (a b : Meta) (h : a.level = b.level) (h0 : a.level ≠ 0) : befB a b = sLt a.low b.low := by
  have e : cmpI a.level b.level = 0 := by rw [h]; simp [cmpI]
  unfold befB ord
  rw [if_neg (by rw [e]; decide), if_neg (by simpa using h0)]
  unfold cmpS
  cases h1 : sLt a.low b.low with
  | true => simp
  | false => by_cases h2 : sLt b.low a.low = true <;> simp [h2]

end Go.Proofs.Ytfakfgblaakgdaa.Edit
