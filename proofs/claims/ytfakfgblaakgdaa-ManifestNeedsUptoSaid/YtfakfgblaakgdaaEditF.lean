/- Versions made, compared. -/
import Derived.Test.YtfakfgblaakgdaaEditE
import Derived.Test.YtfakfgblaakgdaaCells
namespace Go.Proofs.Ytfakfgblaakgdaa.Edit
set_option linter.unusedVariables false
set_option linter.unusedSimpArgs false
open Go.RowKit Go.Proofs.YtfakfgblaakgdaaW.PrintWords Go.Proofs.YtfakfgblaakgdaaW.PrintLast Go.Proofs.Ytfakfgblaakgdaa.Base Go.Proofs.Ytfakfgblaakgdaa.EditPure Go.Proofs.Ytfakfgblaakgdaa.Sets Go.Proofs.Ytfakfgblaakgdaa.Wide Go.Proofs.Ytfakfgblaakgdaa.Cells

set_option maxRecDepth 100000 in
set_option maxHeartbeats 1000000 in
theorem of_any (A : Option Addr) (c : Nat) (l : List Meta) (seq next : Int) (w : World) (hr : Kd.C kMeta w A l.length l) (hb : l.length ≤ 1048576) :
    Calls Try.prog 13 #[.agg #[.slice A l.length c, .int .i64 seq, .int .i64 next]] w fun e w' => ∃ v, e = .returned (.agg #[v, .int .i64 seq, .int .i64 next]) ∧ RM 96 w' w.heap.size v l ∧ Below w.heap.size w w' := by
  have HR := Aside0.mk hr
  clear hr
  go_enter Try.func13, Try.ntmps13
  go_wp2
  obtain ⟨W, hW⟩ : ∃ W, W = ((w.alloc (Obj.cells #[Value.slice A l.length c, Value.int IntKind.i64 seq, Value.int IntKind.i64 next] 28)).alloc
      (Obj.cells #[Value.slice none 0 0, Value.int IntKind.i64 0, Value.int IntKind.i64 0] 41)) := ⟨_, rfl⟩
  have h0 : W.cell? ⟨w.heap.size, 0, none⟩ = some (.slice A l.length c) := by rw [hW]; simp [go_sem]
  have h1 : W.cell? ⟨w.heap.size, 1, none⟩ = some (.int .i64 seq) := by rw [hW]; simp [go_sem]
  have h2 : W.cell? ⟨w.heap.size, 2, none⟩ = some (.int .i64 next) := by rw [hW]; simp [go_sem]
  have hk : W.heap[w.heap.size + 1]? = some (.cells #[.slice none 0 0, .int .i64 0, .int .i64 0] 41 (0, 0)) := by rw [hW, show w.heap.size + 1 = (w.alloc (Obj.cells #[Value.slice A l.length c, Value.int IntKind.i64 seq, Value.int IntKind.i64 next] 28)).heap.size from by simp]; exact heap_alloc_new _ _
  have hB : Aside0 (Below w.heap.size w W) := ⟨by rw [hW]; exact below_alloc (below_alloc (Below.refl _ _) _) _⟩
  rw [← hW]
  clear hW
  have hk0 := blk_cell hk 0
  have hk1 := blk_cell hk 1
  have hk2 := blk_cell hk 2
  have hf0 := blk_frozen hk 0
  have hf1 := blk_frozen hk 1
  have hf2 := blk_frozen hk 2
  have hlt := blk_lt hk
  go_region_held3 (fun w' => w'.cell? ⟨w.heap.size, 0, none⟩ = some (.slice A l.length c) ∧ w'.cell? ⟨w.heap.size, 1, none⟩ = some (.int .i64 seq) ∧ w'.cell? ⟨w.heap.size, 2, none⟩ = some (.int .i64 next)) (first | exact ⟨h0, h1, h2⟩ | exact ⟨pw_cell_below hbe h0, pw_cell_below hbe h1, pw_cell_below hbe h2⟩ | go_keep) (first | (go_at_call 42; refine (ofMetas_any _ _ _ _ ?c1 hb).mono ?_; (case c1 => exact Kd.C_below HR.out (bthen hB.out (below_drew (Below.refl _ _)))); rintro e w' ⟨v, rfl, ho, hbe⟩; obtain ⟨A', c', rfl, hc', hC'⟩ := RM_reads ho; have q0 := pw_cell_below hbe hk0; have q1 := pw_cell_below hbe hk1; have q2 := pw_cell_below hbe hk2; have r0 := ((bcell hbe).2 _ _ hlt).trans hf0; have r1 := ((bcell hbe).2 _ _ hlt).trans hf1; have r2 := ((bcell hbe).2 _ _ hlt).trans hf2))
  have hsz : w.heap.size ≤ W.heap.size := by omega
  have hbk := blk3 (x := .slice A' l.length c') (y := .int .i64 seq) (z := .int .i64 next) (blk_keep (w := W.drew) hk hbe)
  have hres := Rset3 ho hlt (.slice A' l.length c') (.int .i64 seq) (.int .i64 next)
  have hbel := below_set3 (g := w.heap.size + 1) (bthen hB.out (bthen (below_drew (Below.refl W.heap.size W)) hbe)) (Nat.le_succ _) (.slice A' l.length c') (.int .i64 seq) (.int .i64 next)
  go_wp2
  refine bodyPost_ret (results_cell_row rfl _ _ (w.heap.size + 1) 41 #[.slice A' l.length c', .int .i64 seq, .int .i64 next] (0, 0) _ rfl hbk Try.underlying41 rfl (by kernel_rfl)) rfl ?_
  exact ⟨_, rfl, Kd.R_lower hres hsz, hbel⟩
end Go.Proofs.Ytfakfgblaakgdaa.Edit
