/- edit.Encode: walked. -/
import Derived.Test.YtelnhecpcjoonaaEncodeA
import Derived.Test.YtelnhecpcjoonaaOfEditT
namespace Go.Proofs.Ytelnhecpcjoonaa.Var
set_option linter.unusedVariables false
set_option linter.unusedSimpArgs false
open Go.RowKit Go.Proofs.YtelnhecpcjoonaaW.PrintWords Go.Proofs.YtelnhecpcjoonaaW.PrintLast Go.Proofs.Ytelnhecpcjoonaa.Base Go.Proofs.Ytelnhecpcjoonaa.Cells Go.Proofs.Ytelnhecpcjoonaa.Ints Go.Proofs.Ytelnhecpcjoonaa.VarPure Go.Proofs.Ytelnhecpcjoonaa.Codec Go.Proofs.Ytelnhecpcjoonaa.EditPure Go.Proofs.Ytelnhecpcjoonaa.Edit Go.Proofs.Ytelnhecpcjoonaa.Sets

theorem all2 {w : World} {g : Nat} {t : TypeId} {a b : Value} (h : w.heap[g]? = some (.cells #[a, b] t (0, 0))) :
    w.cell? ⟨g, 0, none⟩ = some a ∧ w.cell? ⟨g, 1, none⟩ = some b ∧ w.frozen? ⟨g, 0, none⟩ = false ∧ w.frozen? ⟨g, 1, none⟩ = false :=
  ⟨blk_cell h 0, blk_cell h 1, blk_frozen h 0, blk_frozen h 1⟩

theorem blk_far3' {w : World} {k g : Nat} {t : TypeId} {cs : Array Value} {x y z : Value} (h : w.heap[k]? = some (.cells cs t (0, 0))) (hne : k ≠ g) : (((w.setCell ⟨g, 0, none⟩ x).setCell ⟨g, 1, none⟩ y).setCell ⟨g, 2, none⟩ z).heap[k]? = some (.cells cs t (0, 0)) :=
  blk_far (blk_far (blk_far h (p := ⟨g, 0, none⟩) hne x) (p := ⟨g, 1, none⟩) hne y) (p := ⟨g, 2, none⟩) hne z

set_option maxRecDepth 100000 in
set_option maxHeartbeats 2000000 in
theorem fields_any (m : Meta) (w : World) :
    Calls Try.prog 64 #[.agg #[.int .i64 m.id, .int .i64 m.level, .int .i64 m.count, .string m.low, .string m.high]] w fun e w' => e = .returned (.tuple #[.agg #[.int .i64 m.id, .int .i64 m.level, .int .i64 m.count], .agg #[.string m.low, .string m.high]]) ∧ Below w.heap.size w w' := by
  go_enter Try.func64, Try.ntmps64
  go_upto_region 1 with (fail)
  obtain ⟨W, hW⟩ : ∃ W, W = (((w.alloc (Obj.cells #[.int .i64 m.id, .int .i64 m.level, .int .i64 m.count, .string m.low, .string m.high] 63)).alloc (Obj.cells #[.int .i64 0, .int .i64 0, .int .i64 0] 118)).alloc (Obj.cells #[.string ⟨#[]⟩, .string ⟨#[]⟩] 119)) := ⟨_, rfl⟩
  have h1 : W.heap[w.heap.size]? = some (.cells #[.int .i64 m.id, .int .i64 m.level, .int .i64 m.count, .string m.low, .string m.high] 63 (0, 0)) := by rw [hW]; exact blk_alloc (blk_alloc (blk_new _ _) _) _
  have h2 : W.heap[w.heap.size + 1]? = some (.cells #[.int .i64 0, .int .i64 0, .int .i64 0] 118 (0, 0)) := by rw [hW]; exact blk_alloc (blk_new1 _ _ _ _) _
  have h3 : W.heap[w.heap.size + 1 + 1]? = some (.cells #[.string ⟨#[]⟩, .string ⟨#[]⟩] 119 (0, 0)) := by
    have := blk_new1 (w.alloc (Obj.cells #[.int .i64 m.id, .int .i64 m.level, .int .i64 m.count, .string m.low, .string m.high] 63)) (Obj.cells #[.int .i64 0, .int .i64 0, .int .i64 0] 118) #[.string ⟨#[]⟩, .string ⟨#[]⟩] 119
    rw [hW]; simpa using this
  have hB : Aside0 (Below w.heap.size w W) := ⟨by rw [hW]; exact below_alloc (below_alloc (below_alloc (Below.refl _ _) _) _) _⟩
  rw [← hW]
  clear hW
  obtain ⟨a0, a1, a2, a3, a4, _, _, _, _, _⟩ := all5 h1
  obtain ⟨b0, b1, b2, f0, f1, f2⟩ := all3 h2
  obtain ⟨c0, c1, g0, g1⟩ := all2 h3
  obtain ⟨a0', a1', a2', a3', a4', _, _, _, _, _⟩ := all5 (blk_drew h1)
  obtain ⟨b0', b1', b2', f0', f1', f2'⟩ := all3 (blk_drew h2)
  obtain ⟨c0', c1', g0', g1'⟩ := all2 (blk_drew h3)
  have H2 := Aside0.mk h2
  have H3 := Aside0.mk h3
  clear h1 h2 h3
  go_region
  go_wp2
  have k2 : (((((W.setCell ⟨w.heap.size + 1, 0, none⟩ (.int .i64 m.id)).setCell ⟨w.heap.size + 1, 1, none⟩ (.int .i64 m.level)).setCell ⟨w.heap.size + 1, 2, none⟩ (.int .i64 m.count)).setCell ⟨w.heap.size + 1 + 1, 0, none⟩ (.string m.low)).setCell ⟨w.heap.size + 1 + 1, 1, none⟩ (.string m.high)).drew.heap[w.heap.size + 1]? = some (.cells #[.int .i64 m.id, .int .i64 m.level, .int .i64 m.count] 118 (0, 0)) :=
    blk_drew (blk_far (blk_far (blk3 H2.out) (p := ⟨w.heap.size + 1 + 1, 0, none⟩) (by show w.heap.size + 1 ≠ w.heap.size + 1 + 1; omega) _) (p := ⟨w.heap.size + 1 + 1, 1, none⟩) (by show w.heap.size + 1 ≠ w.heap.size + 1 + 1; omega) _)
  have k3 : (((((W.setCell ⟨w.heap.size + 1, 0, none⟩ (.int .i64 m.id)).setCell ⟨w.heap.size + 1, 1, none⟩ (.int .i64 m.level)).setCell ⟨w.heap.size + 1, 2, none⟩ (.int .i64 m.count)).setCell ⟨w.heap.size + 1 + 1, 0, none⟩ (.string m.low)).setCell ⟨w.heap.size + 1 + 1, 1, none⟩ (.string m.high)).drew.heap[w.heap.size + 1 + 1]? = some (.cells #[.string m.low, .string m.high] 119 (0, 0)) :=
    blk_drew (blk_put (cs := #[.string m.low, .string ⟨#[]⟩]) (blk_put (blk_far3' H3.out (by omega)) 0 _ rfl) 1 _ rfl)
  refine bodyPost_ret (results_cc rfl _ _ (w.heap.size + 1) (w.heap.size + 1 + 1) 118 119 #[.int .i64 m.id, .int .i64 m.level, .int .i64 m.count] #[.string m.low, .string m.high] (0, 0) (0, 0) _ _ rfl k2 Try.underlying118 rfl (by kernel_rfl) rfl k3 Try.underlying119 rfl (by kernel_rfl)) rfl ?_
  exact ⟨rfl, below_drew (((below_set3 hB.out (Nat.le_succ _) _ _ _).setCell (p := ⟨w.heap.size + 1 + 1, 0, none⟩) (by show w.heap.size ≤ w.heap.size + 1 + 1; omega) _).setCell (p := ⟨w.heap.size + 1 + 1, 1, none⟩) (by show w.heap.size ≤ w.heap.size + 1 + 1; omega) _)⟩
end Go.Proofs.Ytelnhecpcjoonaa.Var
