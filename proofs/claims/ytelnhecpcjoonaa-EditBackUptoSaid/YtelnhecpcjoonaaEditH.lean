/- Alike, Whole, the document's Whole. -/
import Derived.Test.YtelnhecpcjoonaaEditG
namespace Go.Proofs.Ytelnhecpcjoonaa.Edit
set_option linter.unusedVariables false
set_option linter.unusedSimpArgs false
open Go.RowKit Go.Proofs.YtelnhecpcjoonaaW.PrintWords Go.Proofs.YtelnhecpcjoonaaW.PrintLast Go.Proofs.Ytelnhecpcjoonaa.Base Go.Proofs.Ytelnhecpcjoonaa.EditPure Go.Proofs.Ytelnhecpcjoonaa.Sets Go.Proofs.Ytelnhecpcjoonaa.Wide Go.Proofs.Ytelnhecpcjoonaa.Cells

set_option maxRecDepth 100000 in
set_option maxHeartbeats 1000000 in
theorem alike_any (A B : Option Addr) (c d : Nat) (l : List Meta) (seq next : Int) (w : World) (hA : Kd.C kMeta w A l.length l) (hB : Kd.C kMeta w B l.length l) (hb : l.length ≤ 1048576) :
    Calls Try.prog 26 #[.agg #[.slice A l.length c, .int .i64 seq, .int .i64 next], .agg #[.slice B l.length d, .int .i64 seq, .int .i64 next]] w fun e w' => e = .returned (.int .i64 0) ∧ Below w.heap.size w w' := by
  have HA := Aside0.mk hA
  have HB := Aside0.mk hB
  clear hA hB
  go_enter Try.func26, Try.ntmps26
  go_upto_region 1 with (fail)
  obtain ⟨W, hW⟩ : ∃ W, W = ((w.alloc (Obj.cells #[Value.slice A l.length c, Value.int IntKind.i64 seq, Value.int IntKind.i64 next] 49)).alloc
      (Obj.cells #[Value.slice B l.length d, Value.int IntKind.i64 seq, Value.int IntKind.i64 next] 38)) := ⟨_, rfl⟩
  have HW : Aside0 (Below w.heap.size w W) := ⟨by rw [hW]; exact below_alloc (below_alloc (Below.refl _ _) _) _⟩
  have hk1 : W.heap[w.heap.size]? = some (.cells #[.slice A l.length c, .int .i64 seq, .int .i64 next] 49 (0, 0)) := by rw [hW]; exact blk_alloc (blk_new _ _) _
  have hk2 : W.heap[w.heap.size + 1]? = some (.cells #[.slice B l.length d, .int .i64 seq, .int .i64 next] 38 (0, 0)) := by
    rw [hW]; exact blk_new1 _ _ _ _
  rw [← hW]
  clear hW
  have x0 : W.cell? ⟨w.heap.size, 0, none⟩ = some (.slice A l.length c) := blk_cell hk1 0
  have y0 : W.cell? ⟨w.heap.size + 1, 0, none⟩ = some (.slice B l.length d) := blk_cell hk2 0
  have K1 := Aside0.mk hk1
  have K2 := Aside0.mk hk2
  clear hk1 hk2
  go_wp2_with fail
  refine (sameMetas_any A B c d l _ (Kd.C_below HA.out HW.out) (Kd.C_below HB.out HW.out) hb).mono ?_
  rintro e w1 ⟨rfl, hb1⟩
  have x1 : w1.cell? ⟨w.heap.size, 1, none⟩ = some (.int .i64 seq) := blk_cell (blk_keep K1.out hb1) 1
  have x2 : w1.cell? ⟨w.heap.size, 2, none⟩ = some (.int .i64 next) := blk_cell (blk_keep K1.out hb1) 2
  have y1 : w1.cell? ⟨w.heap.size + 1, 1, none⟩ = some (.int .i64 seq) := blk_cell (blk_keep K2.out hb1) 1
  have y2 : w1.cell? ⟨w.heap.size + 1, 2, none⟩ = some (.int .i64 next) := blk_cell (blk_keep K2.out hb1) 2
  go_wp2
  go_ret
  exact ⟨rfl, bthen HW.out hb1⟩

set_option maxRecDepth 100000 in
set_option maxHeartbeats 1000000 in
theorem whole_no (A : Option Addr) (c : Nat) (l : List Meta) (seq next : Int) (w : World) (hr : Kd.C kMeta w A l.length l) (hc : l.length ≤ c) (hw : ∀ m ∈ l, inI64 m.id) (hv : verOk l seq next = false) :
    Calls Try.prog 27 #[.agg #[.slice A l.length c, .int .i64 seq, .int .i64 next]] w fun e w' => e = .returned (.tuple #[.agg #[.slice none 0 0, .slice none 0 0, .int .i64 0, .int .i64 0], .int .i64 9]) ∧ Below w.heap.size w w' := by
  have HR := Aside0.mk hr
  have he : verE l seq next = 9 := by rw [verE, if_neg (by simp [hv])]
  have HE := Aside0.mk he
  clear hr he hv
  go_enter Try.func27, Try.ntmps27
  go_wp2_with fail
  refine (check_any A c l seq next _ (Kd.C_below HR.out (below_alloc (below_alloc (Below.refl _ _) _) _)) hc hw).mono ?_
  rintro e w1 ⟨rfl, hb1⟩
  have hk := blk_keep (blk_new1 _ _ _ _) hb1
  rw [HE.out]
  obtain ⟨z0, z1, z2, z3, f0, f1, f2, f3⟩ := all4 hk
  have HK := Aside0.mk hk
  have HB1 := Aside0.mk hb1
  clear hk hb1
  go_wp2
  refine bodyPost_ret (results_ct rfl _ _ (w.heap.size + 1) 61 #[.slice none 0 0, .slice none 0 0, .int .i64 0, .int .i64 0] (0, 0) _ rfl (blk4 HK.out) Try.underlying61 rfl (by kernel_rfl)) rfl ?_
  exact ⟨rfl, below_set4 (bthen (below_alloc (below_alloc (Below.refl _ _) _) _) HB1.out) (Nat.le_succ _) _ _ _ _⟩

set_option maxRecDepth 100000 in
set_option maxHeartbeats 1000000 in
theorem whole_yes (A : Option Addr) (c : Nat) (l : List Meta) (seq next : Int) (w : World) (hr : Kd.C kMeta w A l.length l) (hc : l.length ≤ c) (hw : ∀ m ∈ l, inI64 m.id) (hb : l.length ≤ 1048576) (hv : verOk l seq next = true) :
    Calls Try.prog 27 #[.agg #[.slice A l.length c, .int .i64 seq, .int .i64 next]] w fun e w' => ∃ v, e = .returned (.tuple #[.agg #[.slice none 0 0, v, .int .i64 seq, .int .i64 next], .int .i64 0]) ∧ RM 63 w' w.heap.size v l ∧ Below w.heap.size w w' := by
  have HR := Aside0.mk hr
  have he : verE l seq next = 0 := by rw [verE, if_pos (by simp [hv])]
  have HE := Aside0.mk he
  clear hr he hv
  go_enter Try.func27, Try.ntmps27
  go_wp2_with fail
  refine (check_any A c l seq next _ (Kd.C_below HR.out (below_alloc (below_alloc (Below.refl _ _) _) _)) hc hw).mono ?_
  rintro e W ⟨rfl, hb1⟩
  have hk := blk_keep (blk_new1 _ _ _ _) hb1
  have hj := blk_keep (blk_alloc (blk_new w (Obj.cells #[Value.slice A l.length c, Value.int IntKind.i64 seq, Value.int IntKind.i64 next] 49)) _) hb1
  have hB : Aside0 (Below w.heap.size w W) := ⟨bthen (below_alloc (below_alloc (Below.refl _ _) _) _) hb1⟩
  rw [HE.out]
  obtain ⟨z0, z1, z2, z3, f0, f1, f2, f3⟩ := all4 hk
  obtain ⟨h0, h1, h2, _, _, _⟩ := all3 hj
  have hlt := blk_lt hk
  have HK := Aside0.mk hk
  clear hb1 hk hj
  go_upto_region 4 with (fail)
  have d0 : W.drew.cell? ⟨w.heap.size, 0, none⟩ = some (.slice A l.length c) := h0
  have d1 : W.drew.cell? ⟨w.heap.size, 1, none⟩ = some (.int .i64 seq) := h1
  have d2 : W.drew.cell? ⟨w.heap.size, 2, none⟩ = some (.int .i64 next) := h2
  clear h0 h1 h2
  go_region_held3 (fun w' => w'.cell? ⟨w.heap.size, 0, none⟩ = some (.slice A l.length c) ∧ w'.cell? ⟨w.heap.size, 1, none⟩ = some (.int .i64 seq) ∧ w'.cell? ⟨w.heap.size, 2, none⟩ = some (.int .i64 next)) (first | with_reducible exact ⟨d0, d1, d2⟩ | with_reducible exact ⟨k0, k1, k2⟩ | go_keep) (first | (go_at_call 47; refine (clone_any _ _ _ _ ?c1 hb).mono ?_; (case c1 => exact Kd.C_below HR.out (bthen hB.out (below_drew (Below.refl _ _)))); rintro e w' ⟨v, rfl, ho, hbe⟩; obtain ⟨A', c', rfl, hc', hC'⟩ := RM_reads ho; have k0 := pw_cell_below hbe d0; have k1 := pw_cell_below hbe d1; have k2 := pw_cell_below hbe d2; have q0 := pw_cell_below hbe z0; have q1 := pw_cell_below hbe z1; have q2 := pw_cell_below hbe z2; have q3 := pw_cell_below hbe z3; have r0 := ((bcell hbe).2 _ _ hlt).trans f0; have r1 := ((bcell hbe).2 _ _ hlt).trans f1; have r2 := ((bcell hbe).2 _ _ hlt).trans f2; have r3 := ((bcell hbe).2 _ _ hlt).trans f3))
  have hsz : w.heap.size ≤ W.heap.size := by omega
  have hbk := blk4 (x := .slice none 0 0) (y := .slice A' l.length c') (z := .int .i64 seq) (u := .int .i64 next) (blk_keep (w := W.drew) HK.out hbe)
  have hres := Rset4 ho hlt (.slice none 0 0) (.slice A' l.length c') (.int .i64 seq) (.int .i64 next)
  have hbel := below_set4 (g := w.heap.size + 1) (bthen hB.out (bthen (below_drew (Below.refl W.heap.size W)) hbe)) (Nat.le_succ _) (.slice none 0 0) (.slice A' l.length c') (.int .i64 seq) (.int .i64 next)
  go_wp2
  refine bodyPost_ret (results_ct rfl _ _ (w.heap.size + 1) 61 #[.slice none 0 0, .slice A' l.length c', .int .i64 seq, .int .i64 next] (0, 0) _ rfl hbk Try.underlying61 rfl (by kernel_rfl)) rfl ?_
  exact ⟨_, rfl, Kd.R_lower hres hsz, hbel⟩

set_option maxRecDepth 100000 in
set_option maxHeartbeats 1000000 in
theorem refWhole_no (A : Option Addr) (c : Nat) (l : List Meta) (seq next : Int) (w : World) (hr : Kd.C kMeta w A l.length l) (hc : l.length ≤ c) (hw : ∀ m ∈ l, inI64 m.id) (hv : verOk l seq next = false) :
    Calls Try.prog 30 #[.agg #[.slice A l.length c, .int .i64 seq, .int .i64 next]] w fun e w' => e = .returned (.tuple #[.agg #[.slice none 0 0, .slice none 0 0, .int .i64 0, .int .i64 0], .int .i64 9]) ∧ Below w.heap.size w w' := by
  have HR := Aside0.mk hr
  have he : verE l seq next = 9 := by rw [verE, if_neg (by simp [hv])]
  have HE := Aside0.mk he
  clear hr he hv
  go_enter Try.func30, Try.ntmps30
  go_wp2_with fail
  refine (refCheck_any A c l seq next _ (Kd.C_below HR.out (below_alloc (below_alloc (Below.refl _ _) _) _)) hc).mono ?_
  rintro e w1 ⟨rfl, hb1⟩
  have hk := blk_keep (blk_new1 _ _ _ _) hb1
  rw [HE.out]
  obtain ⟨z0, z1, z2, z3, f0, f1, f2, f3⟩ := all4 hk
  have HK := Aside0.mk hk
  have HB1 := Aside0.mk hb1
  clear hk hb1
  go_wp2
  refine bodyPost_ret (results_ct rfl _ _ (w.heap.size + 1) 57 #[.slice none 0 0, .slice none 0 0, .int .i64 0, .int .i64 0] (0, 0) _ rfl (blk4 HK.out) Try.underlying57 rfl (by kernel_rfl)) rfl ?_
  exact ⟨rfl, below_set4 (bthen (below_alloc (below_alloc (Below.refl _ _) _) _) HB1.out) (Nat.le_succ _) _ _ _ _⟩

set_option maxRecDepth 100000 in
set_option maxHeartbeats 1000000 in
theorem refWhole_yes (A : Option Addr) (c : Nat) (l : List Meta) (seq next : Int) (w : World) (hr : Kd.C kMeta w A l.length l) (hc : l.length ≤ c) (hw : ∀ m ∈ l, inI64 m.id) (hb : l.length ≤ 1048576) (hv : verOk l seq next = true) :
    Calls Try.prog 30 #[.agg #[.slice A l.length c, .int .i64 seq, .int .i64 next]] w fun e w' => ∃ v, e = .returned (.tuple #[.agg #[.slice none 0 0, v, .int .i64 seq, .int .i64 next], .int .i64 0]) ∧ RM 53 w' w.heap.size v l ∧ Below w.heap.size w w' := by
  have HR := Aside0.mk hr
  have he : verE l seq next = 0 := by rw [verE, if_pos (by simp [hv])]
  have HE := Aside0.mk he
  clear hr he hv
  go_enter Try.func30, Try.ntmps30
  go_wp2_with fail
  refine (refCheck_any A c l seq next _ (Kd.C_below HR.out (below_alloc (below_alloc (Below.refl _ _) _) _)) hc).mono ?_
  rintro e W ⟨rfl, hb1⟩
  have hk := blk_keep (blk_new1 _ _ _ _) hb1
  have hj := blk_keep (blk_alloc (blk_new w (Obj.cells #[Value.slice A l.length c, Value.int IntKind.i64 seq, Value.int IntKind.i64 next] 38)) _) hb1
  have hB : Aside0 (Below w.heap.size w W) := ⟨bthen (below_alloc (below_alloc (Below.refl _ _) _) _) hb1⟩
  rw [HE.out]
  obtain ⟨z0, z1, z2, z3, f0, f1, f2, f3⟩ := all4 hk
  obtain ⟨h0, h1, h2, _, _, _⟩ := all3 hj
  have hlt := blk_lt hk
  have HK := Aside0.mk hk
  clear hb1 hk hj
  go_upto_region 3 with (fail)
  have d0 : W.drew.cell? ⟨w.heap.size, 0, none⟩ = some (.slice A l.length c) := h0
  have d1 : W.drew.cell? ⟨w.heap.size, 1, none⟩ = some (.int .i64 seq) := h1
  have d2 : W.drew.cell? ⟨w.heap.size, 2, none⟩ = some (.int .i64 next) := h2
  clear h0 h1 h2
  go_region_held3 (fun w' => w'.cell? ⟨w.heap.size, 0, none⟩ = some (.slice A l.length c) ∧ w'.cell? ⟨w.heap.size, 1, none⟩ = some (.int .i64 seq) ∧ w'.cell? ⟨w.heap.size, 2, none⟩ = some (.int .i64 next)) (first | with_reducible exact ⟨d0, d1, d2⟩ | with_reducible exact ⟨k0, k1, k2⟩ | go_keep) (first | (go_at_call 56; refine (refMetas_any _ _ _ _ ?c1 hb).mono ?_; (case c1 => exact Kd.C_below HR.out (bthen hB.out (below_drew (Below.refl _ _)))); rintro e w' ⟨v, rfl, ho, hbe⟩; obtain ⟨A', c', rfl, hc', hC'⟩ := RM_reads ho; have k0 := pw_cell_below hbe d0; have k1 := pw_cell_below hbe d1; have k2 := pw_cell_below hbe d2; have q0 := pw_cell_below hbe z0; have q1 := pw_cell_below hbe z1; have q2 := pw_cell_below hbe z2; have q3 := pw_cell_below hbe z3; have r0 := ((bcell hbe).2 _ _ hlt).trans f0; have r1 := ((bcell hbe).2 _ _ hlt).trans f1; have r2 := ((bcell hbe).2 _ _ hlt).trans f2; have r3 := ((bcell hbe).2 _ _ hlt).trans f3))
  have hsz : w.heap.size ≤ W.heap.size := by omega
  have hbk := blk4 (x := .slice none 0 0) (y := .slice A' l.length c') (z := .int .i64 seq) (u := .int .i64 next) (blk_keep (w := W.drew) HK.out hbe)
  have hres := Rset4 ho hlt (.slice none 0 0) (.slice A' l.length c') (.int .i64 seq) (.int .i64 next)
  have hbel := below_set4 (g := w.heap.size + 1) (bthen hB.out (bthen (below_drew (Below.refl W.heap.size W)) hbe)) (Nat.le_succ _) (.slice none 0 0) (.slice A' l.length c') (.int .i64 seq) (.int .i64 next)
  go_wp2
  refine bodyPost_ret (results_ct rfl _ _ (w.heap.size + 1) 57 #[.slice none 0 0, .slice A' l.length c', .int .i64 seq, .int .i64 next] (0, 0) _ rfl hbk Try.underlying57 rfl (by kernel_rfl)) rfl ?_
  exact ⟨_, rfl, Kd.R_lower hres hsz, hbel⟩
end Go.Proofs.Ytelnhecpcjoonaa.Edit
