/- OfEdit: an edit for the program. -/
import Derived.Test.YtelnhecpcjoonaaEditF
import Derived.Test.YtelnhecpcjoonaaInts
namespace Go.Proofs.Ytelnhecpcjoonaa.Edit
set_option linter.unusedVariables false
set_option linter.unusedSimpArgs false
open Go.RowKit Go.Proofs.YtelnhecpcjoonaaW.PrintWords Go.Proofs.YtelnhecpcjoonaaW.PrintLast Go.Proofs.Ytelnhecpcjoonaa.Base Go.Proofs.Ytelnhecpcjoonaa.EditPure Go.Proofs.Ytelnhecpcjoonaa.Sets Go.Proofs.Ytelnhecpcjoonaa.Wide Go.Proofs.Ytelnhecpcjoonaa.Cells Go.Proofs.Ytelnhecpcjoonaa.Ints

theorem RIset4 {w : World} {g base : Nat} {v : Value} {l : List Int} (h : RI w base v l) (hp : g < base) (x y z u : Value) : RI ((((w.setCell ⟨g, 0, none⟩ x).setCell ⟨g, 1, none⟩ y).setCell ⟨g, 2, none⟩ z).setCell ⟨g, 3, none⟩ u) base v l :=
  RI_set (RI_set (RI_set (RI_set h (p := ⟨g, 0, none⟩) hp x) (p := ⟨g, 1, none⟩) hp y) (p := ⟨g, 2, none⟩) hp z) (p := ⟨g, 3, none⟩) hp u

set_option maxRecDepth 100000 in
set_option maxHeartbeats 4000000 in
theorem ofEdit_any (D B : Option Addr) (dc bc : Nat) (drop : List Int) (add : List Meta) (seq next : Int) (w : World) (hd : ReadsInt w .i64 D drop.length drop) (hr : Kd.C kMeta w B add.length add) (hdl : drop.length ≤ 1048576) (hb : add.length ≤ 1048576) :
    Calls Try.prog 22 #[.agg #[.slice D drop.length dc, .slice B add.length bc, .int .i64 seq, .int .i64 next]] w fun e w' => ∃ vd vm, e = .returned (.agg #[vd, vm, .int .i64 seq, .int .i64 next]) ∧ RI w' w.heap.size vd drop ∧ RM 63 w' w.heap.size vm add ∧ Below w.heap.size w w' := by
  have HD := Aside0.mk hd
  have HR := Aside0.mk hr
  clear hd hr
  go_enter Try.func22, Try.ntmps22
  go_upto_region 1 with (fail)
  obtain ⟨W, hW⟩ : ∃ W, W = ((w.alloc (Obj.cells #[.slice D drop.length dc, .slice B add.length bc, .int .i64 seq, .int .i64 next] 57)).alloc
      (Obj.cells #[.slice none 0 0, .slice none 0 0, .int .i64 0, .int .i64 0] 61)) := ⟨_, rfl⟩
  have hj : W.heap[w.heap.size]? = some (.cells #[.slice D drop.length dc, .slice B add.length bc, .int .i64 seq, .int .i64 next] 57 (0, 0)) := by rw [hW]; exact blk_alloc (blk_new _ _) _
  have hk : W.heap[w.heap.size + 1]? = some (.cells #[.slice none 0 0, .slice none 0 0, .int .i64 0, .int .i64 0] 61 (0, 0)) := by rw [hW]; exact blk_new1 _ _ _ _
  have hB : Aside0 (Below w.heap.size w W) := ⟨by rw [hW]; exact below_alloc (below_alloc (Below.refl _ _) _) _⟩
  rw [← hW]
  clear hW
  have hlt := blk_lt hk
  have FJ := Aside0.mk (fun (w' : World) (b : Below W.heap.size W w') => all4 (blk_keep hj b))
  have FK := Aside0.mk (fun (w' : World) (b : Below W.heap.size W w') => all4 (blk_keep hk b))
  have d0 : W.drew.cell? ⟨w.heap.size, 0, none⟩ = some (.slice D drop.length dc) := (all4 hj).1
  have d1 : W.drew.cell? ⟨w.heap.size, 1, none⟩ = some (.slice B add.length bc) := (all4 hj).2.1
  have d2 : W.drew.cell? ⟨w.heap.size, 2, none⟩ = some (.int .i64 seq) := (all4 hj).2.2.1
  have d3 : W.drew.cell? ⟨w.heap.size, 3, none⟩ = some (.int .i64 next) := (all4 hj).2.2.2.1
  have HJ := Aside0.mk hj
  have HK := Aside0.mk hk
  clear hj hk
  go_region_held3 (fun w' => w'.cell? ⟨w.heap.size, 0, none⟩ = some (.slice D drop.length dc) ∧ w'.cell? ⟨w.heap.size, 1, none⟩ = some (.slice B add.length bc) ∧ w'.cell? ⟨w.heap.size, 2, none⟩ = some (.int .i64 seq) ∧ w'.cell? ⟨w.heap.size, 3, none⟩ = some (.int .i64 next)) (first | with_reducible exact ⟨d0, d1, d2, d3⟩ | with_reducible exact ⟨i0, i1, i2, i3⟩ | with_reducible exact ⟨m0, m1, m2, m3⟩ | go_keep) (first | (go_at_call 53; refine (copyInts_any D dc drop _ ?c1 hdl).mono ?_; (case c1 => exact HD.out.below (bthen hB.out (by first | exact below_drew (Below.refl _ _) | exact hwm))); rintro e wi ⟨vi, rfl, hi, hbi⟩; obtain ⟨Di, ci, rfl, hri⟩ := RI_reads hi; (have hwi : Below W.heap.size W wi := bthen (by first | exact below_drew (Below.refl _ _) | exact hwm) hbi); obtain ⟨i0, i1, i2, i3, _, _, _, _⟩ := FJ.out _ hwi; obtain ⟨zi0, zi1, zi2, zi3, fi0, fi1, fi2, fi3⟩ := FK.out _ hwi) | (go_at_call 45; refine (ofMetas_any B bc add _ ?c1 hb).mono ?_; (case c1 => exact Kd.C_below HR.out (bthen hB.out (by first | exact below_drew (Below.refl _ _) | exact hwi))); rintro e wm ⟨vm, rfl, hm, hbm⟩; obtain ⟨Am, cm, rfl, hcm, hCm⟩ := RM_reads hm; (have hwm : Below W.heap.size W wm := bthen (by first | exact below_drew (Below.refl _ _) | exact hwi) hbm); obtain ⟨m0, m1, m2, m3, _, _, _, _⟩ := FJ.out _ hwm; obtain ⟨zm0, zm1, zm2, zm3, fm0, fm1, fm2, fm3⟩ := FK.out _ hwm))
  · have HI := Aside0.mk (pw_own_below hi hbm)
    have HM := Aside0.mk hm
    have HWm := Aside0.mk hwm
    have hle : W.heap.size ≤ wi.heap.size := hbi.size
    have hle2 : w.heap.size ≤ W.heap.size := hB.out.size
    go_wp2
    refine bodyPost_ret (results_cell_row rfl _ _ (w.heap.size + 1) 61 #[.slice Di drop.length ci, .slice Am add.length cm, .int .i64 seq, .int .i64 next] (0, 0) _ rfl (blk4 (blk_keep HK.out HWm.out)) Try.underlying61 rfl (by kernel_rfl)) rfl ?_
    exact ⟨_, _, rfl, own_weaken (RIset4 HI.out hlt _ _ _ _) hle2, Kd.R_lower (Rset4 HM.out (Nat.lt_of_lt_of_le hlt hle) _ _ _ _) (Nat.le_trans hle2 hle), below_set4 (bthen hB.out HWm.out) (Nat.le_succ _) _ _ _ _⟩
end Go.Proofs.Ytelnhecpcjoonaa.Edit
