/- Rows of whole numbers of one's own; CopyInts. -/
import Derived.Test.YtelnhecpcjoonaaCells
import Derived.Test.YtelnhecpcjoonaaProg
import Derived.WalkKit
import Derived.WalkLawsBesides
import Derived.KernelRfl
import Derived.Deep.QuietTactic
import Derived.BigQuiet
import Derived.Deep.LoopGhost
namespace Go.Proofs.Ytelnhecpcjoonaa.Ints
set_option linter.unusedVariables false
set_option linter.unusedSimpArgs false
open Go.RowKit Go.Proofs.YtelnhecpcjoonaaW.PrintWords Go.Proofs.YtelnhecpcjoonaaW.PrintLast Go.Proofs.Ytelnhecpcjoonaa.Base Go.Proofs.Ytelnhecpcjoonaa.Cells

theorem infoI : (Try.prog.info? 3).map (fun i => (i.zero, i.size, i.bytes)) = some (some (.int .i64 0), 1, 8) := by kernel_rfl
/-- a row of whole numbers of one's own -/
abbrev RI (w : World) (base : Nat) (v : Value) (l : List Int) : Prop := w.ownsRow base 3 1 v l.length (nums .i64 l)
theorem RI_reads {w : World} {base : Nat} {v : Value} {l : List Int} (h : RI w base v l) : ∃ A c, v = .slice A l.length c ∧ ReadsInt w .i64 A l.length l := own_reads h
theorem RI_set {w : World} {base : Nat} {v : Value} {l : List Int} (h : RI w base v l) {p : Addr} (hp : p.block < base) (u : Value) : RI (w.setCell p u) base v l :=
  own_setCell h (fun e => by have := own_base h p.block e.symm; omega) u

set_option maxRecDepth 100000 in
set_option maxHeartbeats 1000000 in
theorem copyInts_any (A : Option Addr) (c : Nat) (l : List Int) (w : World) (hr : ReadsInt w .i64 A l.length l) (hb : l.length ≤ 1048576) :
    Calls Try.prog 53 #[.slice A l.length c] w fun e w' => ∃ v, e = .returned v ∧ RI w' w.heap.size v l ∧ Below w.heap.size w w' := by
  have HR := Aside0.mk hr
  clear hr
  go_enter Try.func53, Try.ntmps53
  go_wp2_with (at_builtin; refine print_append_row (w0 := w) w.heap.size (by rfl) (.tmp 4) (.tmp 5) 55 3 .i64 8 (by rfl) Try.underlying55 infoI (by decide) (.slice none 0 0) [] l A l.length c (by rfl) (by rfl) ?aO ?aR ?aB ?aS ?c1 ?_; (case aO => exact own_nil _ _ _ _); (case aR => exact HR.out); (case aB => exact Below.refl _ _); (case aS => exact Nat.le_refl _); (case c1 => simp only [List.length_nil]; omega); intro v1 w1 hown hB1 hg1 hat; have HO1 := Aside0.mk hown; have HB1 := Aside0.mk hB1; clear hown hB1 hg1 hat)
  go_ret
  exact ⟨_, rfl, by have := HO1.out; rwa [List.nil_append] at this, HB1.out⟩
end Go.Proofs.Ytelnhecpcjoonaa.Ints
