/- What stays of a world's blocks; rows of one's own that stay; tables of one's own in the region of a law's front. -/
import Derived.Test.YtelnhecpcjoonaaApplyOut
import Derived.Test.YtelnhecpcjoonaaInts
namespace Go.Proofs.Ytelnhecpcjoonaa.Edit
set_option linter.unusedVariables false
set_option linter.unusedSimpArgs false
open Go.RowKit Go.Proofs.YtelnhecpcjoonaaW.PrintWords Go.Proofs.YtelnhecpcjoonaaW.PrintLast Go.Proofs.Ytelnhecpcjoonaa.Base Go.Proofs.Ytelnhecpcjoonaa.EditPure Go.Proofs.Ytelnhecpcjoonaa.Sets Go.Proofs.Ytelnhecpcjoonaa.Wide Go.Proofs.Ytelnhecpcjoonaa.Cells Go.Proofs.Ytelnhecpcjoonaa.Ints

theorem blk_far3 {w : World} {k g : Nat} {t : TypeId} {cs : Array Value} {x y z : Value} (h : w.heap[k]? = some (.cells cs t (0, 0))) (hne : k ≠ g) : (((w.setCell ⟨g, 0, none⟩ x).setCell ⟨g, 1, none⟩ y).setCell ⟨g, 2, none⟩ z).heap[k]? = some (.cells cs t (0, 0)) :=
  blk_far (blk_far (blk_far h (p := ⟨g, 0, none⟩) hne x) (p := ⟨g, 1, none⟩) hne y) (p := ⟨g, 2, none⟩) hne z
theorem blk_far4 {w : World} {k g : Nat} {t : TypeId} {cs : Array Value} {x y z u : Value} (h : w.heap[k]? = some (.cells cs t (0, 0))) (hne : k ≠ g) : ((((w.setCell ⟨g, 0, none⟩ x).setCell ⟨g, 1, none⟩ y).setCell ⟨g, 2, none⟩ z).setCell ⟨g, 3, none⟩ u).heap[k]? = some (.cells cs t (0, 0)) :=
  blk_far (blk_far3 h hne) (p := ⟨g, 3, none⟩) hne u

theorem blk_new_at {w : World} {o : Obj} {g : Nat} (h : g = w.heap.size) : (w.alloc o).heap[g]? = some o := by rw [h]; exact blk_new w o
theorem alloc_cell {w : World} {a : Addr} {v : Value} {o : Obj} (h : w.cell? a = some v) : (w.alloc o).cell? a = some v := pw_cell_below (below_alloc (Below.refl _ _) o) h
theorem drew_cell {w : World} {a : Addr} {v : Value} (h : w.cell? a = some v) : w.drew.cell? a = some v := h

/-- the blocks from lo to hi are what they were -/
def Stay (lo hi : Nat) (w w1 : World) : Prop := ∀ k, lo ≤ k → k < hi → w1.heap[k]? = w.heap[k]?
section
variable {lo hi g : Nat} {w w1 w2 : World}
theorem stay_refl (lo hi : Nat) (w : World) : Stay lo hi w w := fun _ _ _ => rfl
theorem stay_drew (h : Stay lo hi w w1) : Stay lo hi w w1.drew := fun k h1 h2 => h k h1 h2
theorem stay_call (h : Stay lo hi w w1) (hb : Below w1.heap.size w1 w2) (hs : hi ≤ w1.heap.size) : Stay lo hi w w2 := fun k h1 h2 => (hb.block k (by omega)).trans (h k h1 h2)
theorem stay_alloc {o : Obj} (h : Stay lo hi w w1) (hs : hi ≤ w1.heap.size) : Stay lo hi w (w1.alloc o) := stay_call h (below_alloc (Below.refl _ _) o) hs
theorem stay_set {p : Addr} {v : Value} (h : Stay lo hi w w1) (hs : p.block < lo ∨ hi ≤ p.block) : Stay lo hi w (w1.setCell p v) := fun k h1 h2 => by
  rw [← h k h1 h2]
  exact Below.heap_setCell w1 p v k (by omega)
theorem stay_set3 {x y z : Value} (h : Stay lo hi w w1) (hs : g < lo ∨ hi ≤ g) : Stay lo hi w (((w1.setCell ⟨g, 0, none⟩ x).setCell ⟨g, 1, none⟩ y).setCell ⟨g, 2, none⟩ z) :=
  stay_set (p := ⟨g, 2, none⟩) (stay_set (p := ⟨g, 1, none⟩) (stay_set (p := ⟨g, 0, none⟩) h hs) hs) hs
theorem stay_set4 {x y z u : Value} (h : Stay lo hi w w1) (hs : g < lo ∨ hi ≤ g) : Stay lo hi w ((((w1.setCell ⟨g, 0, none⟩ x).setCell ⟨g, 1, none⟩ y).setCell ⟨g, 2, none⟩ z).setCell ⟨g, 3, none⟩ u) :=
  stay_set (p := ⟨g, 3, none⟩) (stay_set3 h hs) hs
end
theorem RM_range {e : TypeId} {w : World} {base : Nat} {v : Value} {l : List Meta} (h : RM e w base v l) (k : Nat) (hk : v.ownBlock = some k) : base ≤ k ∧ k < w.heap.size := by
  obtain ⟨inner, ho⟩ := Kd.R_own h
  exact ⟨own_base ho k hk, own_lt ho k hk⟩
theorem RM_stay {e : TypeId} {w w1 : World} {base base' : Nat} {v : Value} {l : List Meta} (h : RM e w base v l) (hs : Stay base w.heap.size w w1) (hb : base' ≤ base) : RM e w1 base' v l :=
  Kd.R_lower (Kd.R_mono (Kd.R_move (Kd.R_bound h) (fun k hk => hs k hk.2.1 hk.2.2.1)) (fun _ _ => trivial)) hb
theorem RI_stay {w w1 : World} {base base' : Nat} {v : Value} {l : List Int} (h : RI w base v l) (hs : Stay base w.heap.size w w1) (hb : base' ≤ base) : RI w1 base' v l :=
  own_weaken (own_move h (fun k hk => hs k (own_base h k hk) (own_lt h k hk))) hb
end Go.Proofs.Ytelnhecpcjoonaa.Edit
