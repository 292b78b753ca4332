/- Rows of whole numbers of one's own; CopyInts. -/
import Derived.Test.YtfakfgblaakgdaaCells
import Derived.Test.YtfakfgblaakgdaaProg
import Derived.WalkKit
import Derived.WalkLawsBesides
import Derived.KernelRfl
import Derived.Deep.QuietTactic
import Derived.BigQuiet
import Derived.Deep.LoopGhost
namespace Go.Proofs.Ytfakfgblaakgdaa.Ints
set_option linter.unusedVariables false
set_option linter.unusedSimpArgs false
open Go.RowKit Go.Proofs.YtfakfgblaakgdaaW.PrintWords Go.Proofs.YtfakfgblaakgdaaW.PrintLast Go.Proofs.Ytfakfgblaakgdaa.Base Go.Proofs.Ytfakfgblaakgdaa.Cells

theorem infoI : (Try.prog.info? 3).map (fun i => (i.zero, i.size, i.bytes)) = some (some (.int .i64 0), 1, 8) := by kernel_rfl
/-- a row of whole numbers of one's own -/
abbrev RI (w : World) (base : Nat) (v : Value) (l : List Int) : Prop := w.ownsRow base 3 1 v l.length (nums .i64 l)
theorem RI_reads {w : World} {base : Nat} {v : Value} {l : List Int} (h : RI w base v l) : ∃ A c, v = .slice A l.length c ∧ ReadsInt w .i64 A l.length l := own_reads h
theorem RI_set {w : World} {base : Nat} {v : Value} {l : List Int} (h : RI w base v l) {p : Addr} (hp : p.block < base) (u : Value) : RI (w.setCell p u) base v l :=
  own_setCell h (fun e => by have := own_base h p.block e.symm; omega) u

end Go.Proofs.Ytfakfgblaakgdaa.Ints
