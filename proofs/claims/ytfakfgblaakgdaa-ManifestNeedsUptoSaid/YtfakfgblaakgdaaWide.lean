/- A region that draws its order, whose operations only read and whose callees only read and lay new blocks: walked once, in the order of the text. -/
import Derived.Test.YtfakfgblaakgdaaBase
import Derived.Deep.QuietTactic
import Derived.BigQuiet
namespace Go.Proofs.Ytfakfgblaakgdaa.Wide
open Go.RowKit Go.Proofs.YtfakfgblaakgdaaW.PrintWords Go.Proofs.Ytfakfgblaakgdaa.Base
set_option linter.unusedVariables false

/-- a world in which all that was there stands as it was -/
def Later (W : World) : Type := { w' : World // Below W.heap.size W w' }
def wb (W : World) (x : Later W) : World := x.val
instance (W : World) : Nonempty (Later W) := ⟨⟨W, Below.refl _ _⟩⟩
theorem wb_below (W : World) (x : Later W) : Below W.heap.size W (wb W x) := x.property
theorem wb_cell {W : World} {a : Addr} {v : Value} (h : W.cell? a = some v) (x : Later W) : (wb W x).cell? a = some v :=
  ((wb_below W x).cell (World.block_lt_of_cell? W a h)).trans h

section
variable {P : Program}
theorem wp_region_wide {id : Nat} {Q : Exit → Act → World → Prop} {a : Act} {w : World} {l : List Oper} (hm : P.follows .mixedOrders = true) (hB : Region.lexB .any l.toArray = true)
    (h : wpQuiet P l.toArray (fun w' => ∃ x : Later w, w' = wb w x) (fun a' => ∀ w', (∃ x : Later w, w' = wb w x) → Q .normal a' w') l a) : (Code.region id l.toArray true).wp P Q a w :=
  wp_region_quiet (C := fun w' => ∃ x : Later w, w' = wb w x) hm hB ⟨⟨w.drew, below_drew (Below.refl _ _)⟩, rfl⟩ (by simpa using h)

/-- a callee's contract: it leaves all that was there as it was -/
theorem wide_of {f : FuncId} {args : Array Value} {w : World} {x : Later w} {v : Value}
    (h : Calls P f args (wb w x) fun e w' => e = .returned v ∧ Below (wb w x).heap.size (wb w x) w') : Calls P f args (wb w x) fun e w'' => e = .returned v ∧ ∃ y : Later w, w'' = wb w y :=
  h.mono fun _ w' ⟨he, hm⟩ => ⟨he, ⟨w', bthen (wb_below w x) hm⟩, rfl⟩
theorem wide_same {f : FuncId} {args : Array Value} {w : World} {x : Later w} {v : Value}
    (h : Calls P f args (wb w x) fun e w' => e = .returned v ∧ wb w x = w') : Calls P f args (wb w x) fun e w'' => e = .returned v ∧ ∃ y : Later w, w'' = wb w y :=
  h.mono fun _ w' ⟨he, hm⟩ => ⟨he, x, hm.symm⟩
end
end Go.Proofs.Ytfakfgblaakgdaa.Wide
