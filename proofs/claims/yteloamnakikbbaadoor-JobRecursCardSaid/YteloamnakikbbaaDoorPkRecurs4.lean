/- A part of the proof: A job that is handed in, read out of 'DataW.trod', with the size of its rule; the library's table of 64 places, out of what a row lists. -/
import Derived.Test.YteloamnakikbbaaDoorPkRecurs3
import Derived.Test.YteloamnakikbbaaDoorPkRecurs2
import Derived.Test.YteloamnakikbbaaDoorPkRecurs1
import Derived.Deep.RegionHeld3

/- A job that is handed in, read out of 'DataW.trod', with the size of its rule; the library's table of 64 places, out of what a row lists. -/
namespace Go.Proofs.YteloamnakikbbaaDoor.LiftJ
set_option linter.unusedVariables false
set_option linter.unusedSimpArgs false
open Go.ChangeShapes Go.WideShapes Go.ChangeAt Go.RowKit Go.Proofs.YteloamnakikbbaaDoorW.PrintWords Go.Proofs.YteloamnakikbbaaDoorW.PrintLast Go.Proofs.YteloamnakikbbaaDoor.Base
theorem trod_strz {P : Program} {H : Type} {enc : TypeId × Value → H} {W : World} {base : Nat} {spare : Nat → Bool} {held : Bool} {t : TypeId} (hu : P.underlying t = some .string) {fuel : Nat} {v : Value} {d : DataW H} {p : List MemPlace} (h : DataW.trod enc P W base spare held fuel t [v] = some (d, p)) : ∃ s, v = .string s ∧ s.size ≤ maxLen := by
  obtain ⟨s', h, hx, hs⟩ := DataW.trod_string hu h
  simp at h
  subst h
  exact ⟨s', rfl, hs⟩
set_option maxRecDepth 100000 in
set_option maxHeartbeats 4000000 in
theorem trod_jobz {H : Type} {enc : TypeId × Value → H} {W : World} {base : Nat} {spare : Nat → Bool} {held : Bool} {fuel : Nat} {v : Value} {d : DataW H} {p : List MemPlace} (hv : ∃ cs, v = .agg cs)
    (h : DataW.trod enc Tryd.prog W base spare held fuel 49 v.cells.toList = some (d, p)) : ∃ id name rule payload status due tries worker token til, v = .agg #[.int .i64 id, .string name, .string rule, .string payload, .int .i64 status, .int .i64 due, .int .i64 tries, .int .i64 worker, .int .i64 token, .int .i64 til] ∧ rule.size ≤ maxLen := by
  obtain ⟨cs, rfl⟩ := hv
  have hcs : (Value.agg cs).cells.toList = cs.toList := rfl
  rw [hcs] at h
  cases fuel with
  | zero => simp [DataW.trod] at h
  | succ fuel =>
    unfold DataW.trod at h
    rw [Tryd.underlying49] at h
    have hc : Tryd.prog.cellsOf 49 = 10 := by kernel_rfl
    have hi : Tryd.prog.cellsOf 3 = 1 := by kernel_rfl
    have hs : Tryd.prog.cellsOf 9 = 1 := by kernel_rfl
    simp only [hc] at h
    by_cases hl : cs.toList.length = 10
    · rw [if_pos hl] at h
      obtain ⟨v0, v1, v2, v3, v4, v5, v6, v7, v8, v9, hcl⟩ : ∃ v0 v1 v2 v3 v4 v5 v6 v7 v8 v9, cs.toList = [v0, v1, v2, v3, v4, v5, v6, v7, v8, v9] := by
        generalize cs.toList = L at hl
        rcases L with _ | ⟨v0, _ | ⟨v1, _ | ⟨v2, _ | ⟨v3, _ | ⟨v4, _ | ⟨v5, _ | ⟨v6, _ | ⟨v7, _ | ⟨v8, _ | ⟨v9, _ | ⟨v10, r⟩⟩⟩⟩⟩⟩⟩⟩⟩⟩⟩ <;> simp at hl
        exact ⟨v0, v1, v2, v3, v4, v5, v6, v7, v8, v9, rfl⟩
      rw [hcl] at h
      obtain ⟨xs, h1, h2⟩ := Option.map_eq_some_iff.1 h
      obtain ⟨e1, e2⟩ := mapM_each _ _ _ h1
      obtain ⟨⟨d0, p0⟩, f0, g0⟩ := e2 0 _ rfl
      obtain ⟨⟨d1, p1⟩, f1, g1⟩ := e2 1 _ rfl
      obtain ⟨⟨d2, p2⟩, f2, g2⟩ := e2 2 _ rfl
      obtain ⟨⟨d3, p3⟩, f3, g3⟩ := e2 3 _ rfl
      obtain ⟨⟨d4, p4⟩, f4, g4⟩ := e2 4 _ rfl
      obtain ⟨⟨d5, p5⟩, f5, g5⟩ := e2 5 _ rfl
      obtain ⟨⟨d6, p6⟩, f6, g6⟩ := e2 6 _ rfl
      obtain ⟨⟨d7, p7⟩, f7, g7⟩ := e2 7 _ rfl
      obtain ⟨⟨d8, p8⟩, f8, g8⟩ := e2 8 _ rfl
      obtain ⟨⟨d9, p9⟩, f9, g9⟩ := e2 9 _ rfl
      simp only [hi, hs, List.drop_zero, List.drop_succ_cons, List.take_succ_cons, List.take_zero] at f0 f1 f2 f3 f4 f5 f6 f7 f8 f9
      obtain ⟨id, rfl, e10', _⟩ := trod_int Tryd.underlying3 f0
      obtain ⟨name, rfl, e11'⟩ := trod_str Tryd.underlying9 f1
      obtain ⟨rule, rfl, hz⟩ := trod_strz Tryd.underlying9 f2
      obtain ⟨payload, rfl, e13'⟩ := trod_str Tryd.underlying9 f3
      obtain ⟨status, rfl, e14', _⟩ := trod_int Tryd.underlying3 f4
      obtain ⟨due, rfl, e15', _⟩ := trod_int Tryd.underlying3 f5
      obtain ⟨tries, rfl, e16', _⟩ := trod_int Tryd.underlying3 f6
      obtain ⟨worker, rfl, e17', _⟩ := trod_int Tryd.underlying3 f7
      obtain ⟨token, rfl, e18', _⟩ := trod_int Tryd.underlying3 f8
      obtain ⟨til, rfl, e19', _⟩ := trod_int Tryd.underlying3 f9
      obtain ⟨h3, h4⟩ := Prod.mk.inj h2
      exact ⟨id, name, rule, payload, status, due, tries, worker, token, til, congrArg Value.agg (Array.toList_inj.1 hcl), hz⟩
    · rw [if_neg hl] at h; cases h

set_option maxRecDepth 100000 in
theorem tab64 {W : World} {rest : List (String × DataW Unit)} (h : laidMet Tryd.prog (("math/bits.deBruijn64tab", Rows.laid_math_bits_deBruijn64tab) :: rest) W) : Cron.Tab64 W := by
  have h2 : Lib.TabIs Tryd.prog W "math/bits.deBruijn64tab" .u8 (Lib.deBruijn64tab.map fun n : Nat => (n : Int)) :=
    Lib.tabIs_of_head (g := 0) (t := 153) (e := 5) (n := 64) (rest := rest) (by kernel_rfl) (by kernel_rfl) Tryd.underlying153 Tryd.underlying5 (by kernel_rfl) (by kernel_rfl) h
  intro j hj
  have h3 := h2.cell (g := 0) (by kernel_rfl) j (by rw [List.length_map]; exact hj)
  rw [h3, List.getD_eq_getElem?_getD, List.getElem?_map, List.getD_eq_getElem?_getD]
  rw [List.getElem?_eq_getElem hj]
  rfl
end Go.Proofs.YteloamnakikbbaaDoor.LiftJ

/- job: again, walked. -/
namespace Go.Proofs.YteloamnakikbbaaDoor.Job
set_option linter.unusedVariables false
set_option linter.unusedSimpArgs false
open Go.RowKit Go.Proofs.YteloamnakikbbaaDoorW.PrintWords Go.Proofs.YteloamnakikbbaaDoorW.PrintLast Go.Proofs.YteloamnakikbbaaDoor.Base Go.Proofs.YteloamnakikbbaaDoor.Cells Go.Proofs.YteloamnakikbbaaDoor.JobPure

set_option maxRecDepth 100000 in
set_option maxHeartbeats 1000000 in
theorem again_any {T : World → Prop} (hT : Lasts T) (pe : Int) (nx : Int → Int × Bool) (j : Jb) (now : Int) (w : World) (hw : T w) (hp : CronSays T j.rule pe nx) (hpe : j.rule ≠ ⟨#[]⟩ → pe = 0) (n0 : 0 ≤ now) (n1 : now < 32503680000) :
    Calls Tryd.prog 32 #[.agg #[.int .i64 j.id, .string j.name, .string j.rule, .string j.payload, .int .i64 j.status, .int .i64 j.due, .int .i64 j.tries, .int .i64 j.worker, .int .i64 j.token, .int .i64 j.til], .int .i64 now] w fun e w' => e = .returned (.tuple #[.agg (jc (againJ (nx now) j).1), .bool (againJ (nx now) j).2]) ∧ Below w.heap.size w w' := by
  obtain ⟨id, name, rule, payload, status, due, tries, worker, token, til⟩ := j
  dsimp only at hp hpe ⊢
  have HTW := Aside0.mk (And.intro hT hw)
  clear hT hw
  by_cases r0 : rule = ⟨#[]⟩
  · subst r0
    have HE : Aside0 (againJ (nx now) ⟨id, name, ⟨#[]⟩, payload, status, due, tries, worker, token, til⟩ = (JobPure.j0, false)) := ⟨rfl⟩
    rw [HE.out]
    clear hp hpe
    go_enter Tryd.func32, Tryd.ntmps32
    go_wp2
    refine bodyPost_ret (results_ct rfl _ _ (w.heap.size + 1) 35 #[.int .i64 0, .string ⟨#[]⟩, .string ⟨#[]⟩, .string ⟨#[]⟩, .int .i64 0, .int .i64 0, .int .i64 0, .int .i64 0, .int .i64 0, .int .i64 0] (0, 0) _ rfl (blk_new1 _ _ _ _) Tryd.underlying35 rfl (by kernel_rfl)) rfl ?_
    exact ⟨rfl, below_alloc (below_alloc (Below.refl _ _) _) _⟩
  · obtain ⟨r1, r2⟩ := tl0 r0
    obtain rfl := hpe r0
    obtain ⟨a, b, c, d, f, x, y, h1, h2⟩ := hp r0
    have HPA := Aside0.mk h1
    have HNX := Aside0.mk (h2 rfl now)
    obtain ⟨t, ht⟩ := named (nx now).1
    obtain ⟨ok, hok⟩ := named (nx now).2
    have HE : Aside0 (againJ (nx now) ⟨id, name, rule, payload, status, due, tries, worker, token, til⟩ = (⟨id, name, rule, payload, 1, t, 0, 0, 0, 0⟩, ok)) := ⟨by
      rw [againJ, if_neg (fun h => r0 (size0.1 h)), ht.out, hok.out]; rfl⟩
    rw [HE.out]
    clear hp hpe h1 h2
    go_enter Tryd.func32, Tryd.ntmps32
    go_wp2_with (first
      | (go_at_call 25; refine (HPA.out _ (HTW.out.1 _ _ HTW.out.2 (below_alloc (below_alloc (Below.refl _ w) _) _))).mono ?_; rintro e w1 ⟨rfl, hb1⟩; (have HB1 := Aside0.mk (bthen (below_alloc (below_alloc (Below.refl _ w) _) _) hb1)); (have HBK1 := Aside0.mk (blk_keep (blk_new1 _ _ _ _) hb1)); (have HBJ1 := Aside0.mk (blk_keep (blk_alloc (blk_new _ _) _) hb1)); clear hb1)
      | (go_at_call 46; refine (HNX.out _ (HTW.out.1 _ _ HTW.out.2 (below_alloc HB1.out _)) n0 n1).mono ?_; rw [← ht.out, ← hok.out]; rintro e w2 ⟨ne, rfl, hb2⟩; (have HB2 := Aside0.mk (bthen (below_alloc HB1.out _) hb2)); (have HBK2 := Aside0.mk (blk_keep (blk_alloc HBK1.out _) hb2)); (have HBJ2 := Aside0.mk (blk_keep (blk_alloc HBJ1.out _) hb2)); (have lk := blk_lt HBK2.out); (have lj := blk_lt HBJ2.out); obtain ⟨j0, j1, j2, j3, j4, j5, j6, j7, j8, j9⟩ := all10 HBJ2.out; (have g6 := blk_frozen HBJ2.out 6); clear hb2)
      | (go_at_call 34; refine (hold_any ⟨id, name, rule, payload, status, due, 0, worker, token, til⟩ 1 t 0 0 0 _).mono ?_; rintro e w3 ⟨rfl, hb3⟩; (have HB3 := Aside0.mk (bthen (HB2.out.setCell (p := ⟨w.heap.size, 6, none⟩) (Nat.le_refl _) _) hb3)); (have HBK3 := Aside0.mk (blk_keep ((Below.heap_setCell _ ⟨w.heap.size, 6, none⟩ _ _ (by simp)).trans HBK2.out) hb3)); clear j0 j1 j2 j3 j4 j5 j6 j7 j8 j9; obtain ⟨k0, k1, k2, k3, k4, k5, k6, k7, k8, k9⟩ := all10 HBK3.out; obtain ⟨f0, f1, f2, f3, f4, f5, f6, f7, f8, f9⟩ := frz10 HBK3.out; clear hb3))
    refine bodyPost_ret (results_ct rfl _ _ (w.heap.size + 1) 35 #[.int .i64 id, .string name, .string rule, .string payload, .int .i64 1, .int .i64 t, .int .i64 0, .int .i64 0, .int .i64 0, .int .i64 0] (0, 0) _ rfl (blk10 HBK3.out) Tryd.underlying35 rfl (by kernel_rfl)) rfl ?_
    exact ⟨rfl, below_set10 HB3.out (Nat.le_succ _) _ _ _ _ _ _ _ _ _ _⟩
end Go.Proofs.YteloamnakikbbaaDoor.Job

/- job: Fail, walked. -/
namespace Go.Proofs.YteloamnakikbbaaDoor.Job
set_option linter.unusedVariables false
set_option linter.unusedSimpArgs false
open Go.RowKit Go.Proofs.YteloamnakikbbaaDoorW.PrintWords Go.Proofs.YteloamnakikbbaaDoorW.PrintLast Go.Proofs.YteloamnakikbbaaDoor.Base Go.Proofs.YteloamnakikbbaaDoor.Cells Go.Proofs.YteloamnakikbbaaDoor.JobPure


theorem due_int (b c t now k : Int) (w : World) (hl : limOk b c t = true) (k0 : 0 ≤ k) (hk : k ≤ 64) (n0 : 0 ≤ now) (n1 : now < 32503680000) :
    Calls Tryd.prog 33 #[.agg #[.int .i64 b, .int .i64 c, .int .i64 t], .int .i64 now, .int .i64 k] w fun e w' => e = .returned (.tuple #[.int .i64 (dueV b c now k.toNat), .int .i64 (dueE b c now k.toNat)]) ∧ Below w.heap.size w w' := by
  obtain ⟨n, rfl⟩ := Int.eq_ofNat_of_zero_le k0
  exact due_any b c t now n w hl (by omega) n0 n1

theorem idx3_0 (a b c : Int) (w : World) : (Instr.index 78 (.agg #[.int .i64 a, .int .i64 b, .int .i64 c]) (.int .i64 0)).run Tryd.prog w = .ok (.int .i64 a) w := by
  simp [Instr.index, run_underlying Tryd.underlying78, asIntOf, go_sem, Tryd.sizeOf32]
theorem idx3_1 (a b c : Int) (w : World) : (Instr.index 78 (.agg #[.int .i64 a, .int .i64 b, .int .i64 c]) (.int .i64 1)).run Tryd.prog w = .ok (.int .i64 b) w := by
  simp [Instr.index, run_underlying Tryd.underlying78, asIntOf, go_sem, Tryd.sizeOf32]
theorem idx3_2 (a b c : Int) (w : World) : (Instr.index 78 (.agg #[.int .i64 a, .int .i64 b, .int .i64 c]) (.int .i64 2)).run Tryd.prog w = .ok (.int .i64 c) w := by
  simp [Instr.index, run_underlying Tryd.underlying78, asIntOf, go_sem, Tryd.sizeOf32]
/-- what stands behind the three tests -/
def Head (w : World) (id status due tries worker token til b c t : Int) (name rule payload : ByteArray) (wc : World) : Prop :=
  wc.heap[w.heap.size]? = some (.cells #[.int .i64 id, .string name, .string rule, .string payload, .int .i64 status, .int .i64 due, .int .i64 tries, .int .i64 worker, .int .i64 token, .int .i64 til] 35 (0, 0)) ∧ wc.heap[w.heap.size + 1]? = some (.cells #[.int .i64 b, .int .i64 c, .int .i64 t] 42 (0, 0)) ∧ wc.heap[w.heap.size + 1 + 1]? = some (.cells #[.int .i64 0, .string ⟨#[]⟩, .string ⟨#[]⟩, .string ⟨#[]⟩, .int .i64 0, .int .i64 0, .int .i64 0, .int .i64 0, .int .i64 0, .int .i64 0] 35 (0, 0)) ∧ Below w.heap.size w wc
theorem Head.below {w wc w1 : World} {id status due tries worker token til b c t : Int} {name rule payload : ByteArray} (h : Head w id status due tries worker token til b c t name rule payload wc) (hb : Below wc.heap.size wc w1) : Head w id status due tries worker token til b c t name rule payload w1 :=
  ⟨blk_keep h.1 hb, blk_keep h.2.1 hb, blk_keep h.2.2.1 hb, bthen h.2.2.2 hb⟩

set_option maxRecDepth 100000 in
set_option maxHeartbeats 4000000 in
theorem fail_any {T : World → Prop} (hT : Lasts T) (pe : Int) (nx : Int → Int × Bool) (j : Jb) (b c t now : Int) (w : World) (hw : T w) (hp : CronSays T j.rule pe nx) :
    Calls Tryd.prog 14 #[.agg #[.int .i64 j.id, .string j.name, .string j.rule, .string j.payload, .int .i64 j.status, .int .i64 j.due, .int .i64 j.tries, .int .i64 j.worker, .int .i64 j.token, .int .i64 j.til], .agg #[.int .i64 b, .int .i64 c, .int .i64 t], .int .i64 now] w fun e w' => e = .returned (.tuple #[.agg (jc (failJ pe (nx now) j b c t now)), .int .i64 (failE pe j b c t now)]) ∧ Below w.heap.size w w' := by
  obtain ⟨id, name, rule, payload, status, due, tries, worker, token, til⟩ := j
  dsimp only at hp ⊢
  have HP := Aside0.mk hp
  have HTW : Aside0 (∀ w', Below w.heap.size w w' → T w') := ⟨fun w' h => hT _ _ hw h⟩
  have HLT := Aside0.mk hT
  clear hp hT hw
  obtain ⟨ce, hce⟩ := named (chkE pe ⟨id, name, rule, payload, status, due, tries, worker, token, til⟩)
  obtain ⟨le, hle⟩ := named (limE b c t)
  obtain ⟨se, hse⟩ := named (leasedE ⟨id, name, rule, payload, status, due, tries, worker, token, til⟩ now)
  obtain ⟨FJ, hFJ⟩ := named (jc (failJ pe (nx now) ⟨id, name, rule, payload, status, due, tries, worker, token, til⟩ b c t now))
  obtain ⟨FE, hFE⟩ := named (failE pe ⟨id, name, rule, payload, status, due, tries, worker, token, til⟩ b c t now)
  have HFE : Aside0 (FE = if ce ≠ 0 then ce else if le ≠ 0 then le else se) := ⟨by
    rw [hFE.out, hce.out, hle.out, hse.out, failE, chkE, limE]
    cases chk pe ⟨id, name, rule, payload, status, due, tries, worker, token, til⟩ <;> cases limOk b c t <;> simp⟩
  rw [← hFJ.out, ← hFE.out]
  go_enter Tryd.func14, Tryd.ntmps14
  go_upto_region 1 with (fail)
  obtain ⟨W, hW⟩ : ∃ W, W = ((w.alloc (.cells #[.int .i64 id, .string name, .string rule, .string payload, .int .i64 status, .int .i64 due, .int .i64 tries, .int .i64 worker, .int .i64 token, .int .i64 til] 35)).alloc (.cells #[.int .i64 b, .int .i64 c, .int .i64 t] 42)).alloc (.cells #[.int .i64 0, .string ⟨#[]⟩, .string ⟨#[]⟩, .string ⟨#[]⟩, .int .i64 0, .int .i64 0, .int .i64 0, .int .i64 0, .int .i64 0, .int .i64 0] 35) := ⟨_, rfl⟩
  have HH : Aside0 (Head w id status due tries worker token til b c t name rule payload W) := ⟨by
    rw [hW]
    exact ⟨blk_alloc (blk_alloc (blk_new _ _) _) _, blk_alloc (blk_new1 _ _ _ _) _, blk_new2 _ _ _ _ _, below_alloc (below_alloc (below_alloc (Below.refl _ _) _) _) _⟩⟩
  rw [← hW]
  clear hW
  go_cut [21, 22] (fun v21 v22 wc => v21 = .agg #[.int .i64 ce, .int .i64 le, .int .i64 se] ∧ v22 = .int .i64 0 ∧ Aside0 (Head w id status due tries worker token til b c t name rule payload wc))
  case first =>
    have FK : Aside0 (∀ w', Below W.heap.size W w' → w'.cell? ⟨w.heap.size, 0, none⟩ = some (.int .i64 id) ∧ w'.cell? ⟨w.heap.size, 1, none⟩ = some (.string name) ∧ w'.cell? ⟨w.heap.size, 2, none⟩ = some (.string rule) ∧ w'.cell? ⟨w.heap.size, 3, none⟩ = some (.string payload) ∧ w'.cell? ⟨w.heap.size, 4, none⟩ = some (.int .i64 status) ∧ w'.cell? ⟨w.heap.size, 5, none⟩ = some (.int .i64 due) ∧ w'.cell? ⟨w.heap.size, 6, none⟩ = some (.int .i64 tries) ∧ w'.cell? ⟨w.heap.size, 7, none⟩ = some (.int .i64 worker) ∧ w'.cell? ⟨w.heap.size, 8, none⟩ = some (.int .i64 token) ∧ w'.cell? ⟨w.heap.size, 9, none⟩ = some (.int .i64 til) ∧ w'.cell? ⟨w.heap.size + 1, 0, none⟩ = some (.int .i64 b) ∧ w'.cell? ⟨w.heap.size + 1, 1, none⟩ = some (.int .i64 c) ∧ w'.cell? ⟨w.heap.size + 1, 2, none⟩ = some (.int .i64 t)) := ⟨fun w' h => by
      obtain ⟨j0, j1, j2, j3, j4, j5, j6, j7, j8, j9⟩ := all10 (blk_keep HH.out.1 h)
      obtain ⟨l0, l1, l2, _, _, _⟩ := all3 (blk_keep HH.out.2.1 h)
      exact ⟨j0, j1, j2, j3, j4, j5, j6, j7, j8, j9, l0, l1, l2⟩⟩
    have CC : Aside0 (∀ W', Below W.heap.size W W' → Calls Tryd.prog 11 #[.agg #[.int .i64 id, .string name, .string rule, .string payload, .int .i64 status, .int .i64 due, .int .i64 tries, .int .i64 worker, .int .i64 token, .int .i64 til]] W' fun e w' => e = .returned (.int .i64 ce) ∧ Below W'.heap.size W' w') := ⟨fun W' hW => by
      rw [hce.out]; exact check_any HLT.out pe ⟨id, name, rule, payload, status, due, tries, worker, token, til⟩ W' (HTW.out _ (bthen HH.out.2.2.2 hW)) HP.out.parse⟩
    have CL : Aside0 (∀ W', Calls Tryd.prog 15 #[.agg #[.int .i64 b, .int .i64 c, .int .i64 t]] W' fun e w' => e = .returned (.int .i64 le) ∧ Below W'.heap.size W' w') := ⟨fun W' => by
      rw [hle.out]; exact lim_any b c t W'⟩
    have CS : Aside0 (∀ W', Calls Tryd.prog 31 #[.agg #[.int .i64 id, .string name, .string rule, .string payload, .int .i64 status, .int .i64 due, .int .i64 tries, .int .i64 worker, .int .i64 token, .int .i64 til], .int .i64 now] W' fun e w' => e = .returned (.int .i64 se) ∧ Below W'.heap.size W' w') := ⟨fun W' => by
      rw [hse.out]; exact leased_any ⟨id, name, rule, payload, status, due, tries, worker, token, til⟩ now W'⟩
    obtain ⟨j0, j1, j2, j3, j4, j5, j6, j7, j8, j9, l0, l1, l2⟩ := FK.out _ (below_drew (Below.refl _ W))
    go_region_held3 (fun w' => w'.cell? ⟨w.heap.size, 0, none⟩ = some (.int .i64 id) ∧ w'.cell? ⟨w.heap.size, 1, none⟩ = some (.string name) ∧ w'.cell? ⟨w.heap.size, 2, none⟩ = some (.string rule) ∧ w'.cell? ⟨w.heap.size, 3, none⟩ = some (.string payload) ∧ w'.cell? ⟨w.heap.size, 4, none⟩ = some (.int .i64 status) ∧ w'.cell? ⟨w.heap.size, 5, none⟩ = some (.int .i64 due) ∧ w'.cell? ⟨w.heap.size, 6, none⟩ = some (.int .i64 tries) ∧ w'.cell? ⟨w.heap.size, 7, none⟩ = some (.int .i64 worker) ∧ w'.cell? ⟨w.heap.size, 8, none⟩ = some (.int .i64 token) ∧ w'.cell? ⟨w.heap.size, 9, none⟩ = some (.int .i64 til) ∧ w'.cell? ⟨w.heap.size + 1, 0, none⟩ = some (.int .i64 b) ∧ w'.cell? ⟨w.heap.size + 1, 1, none⟩ = some (.int .i64 c) ∧ w'.cell? ⟨w.heap.size + 1, 2, none⟩ = some (.int .i64 t)) (first | with_reducible exact ⟨j0, j1, j2, j3, j4, j5, j6, j7, j8, j9, l0, l1, l2⟩ | (refine FK.out _ ?_; (repeat (first | with_reducible exact Below.refl _ _ | with_reducible exact BX1.out | with_reducible exact BX2.out | with_reducible exact BX3.out | with_reducible apply below_drew | with_reducible apply below_alloc)); done) | go_keep) (first
      | (go_at_call 11; refine (CC.out _ (by (repeat (first | with_reducible exact Below.refl _ _ | with_reducible exact BX1.out | with_reducible exact BX2.out | with_reducible exact BX3.out | with_reducible apply below_drew | with_reducible apply below_alloc)))).mono ?_; rintro e w1 ⟨rfl, hb1⟩; (have BX1 : Aside0 (Below W.heap.size W w1) := ⟨bthen (by (repeat (first | with_reducible exact Below.refl _ _ | with_reducible exact BX1.out | with_reducible exact BX2.out | with_reducible exact BX3.out | with_reducible apply below_drew | with_reducible apply below_alloc))) hb1⟩); clear hb1)
      | (go_at_call 15; refine (CL.out _).mono ?_; rintro e w2 ⟨rfl, hb2⟩; (have BX2 : Aside0 (Below W.heap.size W w2) := ⟨bthen (by (repeat (first | with_reducible exact Below.refl _ _ | with_reducible exact BX1.out | with_reducible exact BX2.out | with_reducible exact BX3.out | with_reducible apply below_drew | with_reducible apply below_alloc))) hb2⟩); clear hb2)
      | (go_at_call 31; refine (CS.out _).mono ?_; rintro e w3 ⟨rfl, hb3⟩; (have BX3 : Aside0 (Below W.heap.size W w3) := ⟨bthen (by (repeat (first | with_reducible exact Below.refl _ _ | with_reducible exact BX1.out | with_reducible exact BX2.out | with_reducible exact BX3.out | with_reducible apply below_drew | with_reducible apply below_alloc))) hb3⟩); clear hb3))
    all_goals go_wp2_with fail
    all_goals go_meet
    all_goals refine ⟨rfl, rfl, ⟨HH.out.below ?_⟩⟩
    all_goals (repeat (first | with_reducible exact Below.refl _ _ | with_reducible exact BX1.out | with_reducible exact BX2.out | with_reducible exact BX3.out | with_reducible apply below_drew | with_reducible apply below_alloc))
  case rest =>
    obtain ⟨rfl, rfl, HC⟩ := hcut
    clear HH W
    have HFN : Aside0 (FE ≠ 0 → FJ = jc JobPure.j0) := ⟨fun h => by rw [hFJ.out, failJ, ← hFE.out, if_neg h]⟩
    have HCJ := Aside0.mk HC.out.1
    have HCL := Aside0.mk HC.out.2.1
    have HCK := Aside0.mk HC.out.2.2.1
    have HCB := Aside0.mk HC.out.2.2.2
    go_wp2_with fail
    go_loopg [9, 22] 3 (fun g v9 v22 wr => ∃ i : Nat, v22 = .int .i64 i ∧ g + i = 3 ∧ (0 < i → ce = 0) ∧ (1 < i → le = 0) ∧ (2 < i → se = 0) ∧ wr = wc)
    case atStart => exact ⟨0, rfl, by omega, fun h => by omega, fun h => by omega, fun h => by omega, rfl⟩
    case round =>
      obtain ⟨i, rfl, hg, g0, g1, g2, rfl⟩ := hrel
      obtain ⟨k0, k1, k2, k3, k4, k5, k6, k7, k8, k9⟩ := all10 HCK.out; obtain ⟨f0, f1, f2, f3, f4, f5, f6, f7, f8, f9⟩ := frz10 HCK.out
      have ix0 := idx3_0 ce le se wr
      have ix1 := idx3_1 ce le se wr
      have ix2 := idx3_2 ce le se wr
      rcases (show i = 0 ∨ i = 1 ∨ i = 2 ∨ i = 3 by omega) with rfl | rfl | rfl | rfl
      · by_cases h0 : ce = 0
        · have hn : (ce != 0) = false := by simpa using h0
          have H0 := Aside0.mk h0
          have G0 := Aside0.mk (And.intro g0 (And.intro g1 g2))
          clear g0 g1 g2 h0
          go_wp2
          go_roundg 2
          case measure => omega
          case rel => exact ⟨1, rfl, by omega, fun _ => H0.out, fun h => by omega, fun h => by omega, rfl⟩
        · have hn : (ce != 0) = true := by simpa using h0
          have HX : Aside0 (FE = ce ∧ FJ = jc JobPure.j0) := ⟨by
            have h1 : FE = ce := by
              rw [HFE.out]
              rw [if_pos h0]
            exact ⟨h1, HFN.out (by rw [h1]; exact h0)⟩⟩
          obtain ⟨rfl, rfl⟩ := HX.out
          clear g0 g1 g2 h0
          go_wp2
          refine bodyPost_ret (results_ct rfl _ _ (w.heap.size + 1 + 1) 35 #[.int .i64 0, .string ⟨#[]⟩, .string ⟨#[]⟩, .string ⟨#[]⟩, .int .i64 0, .int .i64 0, .int .i64 0, .int .i64 0, .int .i64 0, .int .i64 0] (0, 0) _ rfl (blk10 HCK.out) Tryd.underlying35 rfl (by kernel_rfl)) rfl ?_
          exact ⟨rfl, below_set10 HCB.out (by omega) _ _ _ _ _ _ _ _ _ _⟩
      · by_cases h0 : le = 0
        · have hn : (le != 0) = false := by simpa using h0
          have H0 := Aside0.mk h0
          have G0 := Aside0.mk (And.intro g0 (And.intro g1 g2))
          clear g0 g1 g2 h0
          go_wp2
          go_roundg 1
          case measure => omega
          case rel => exact ⟨2, rfl, by omega, fun _ => G0.out.1 (by omega), fun _ => H0.out, fun h => by omega, rfl⟩
        · have hn : (le != 0) = true := by simpa using h0
          have HX : Aside0 (FE = le ∧ FJ = jc JobPure.j0) := ⟨by
            have h1 : FE = le := by
              rw [HFE.out]
              rw [if_neg (by rw [g0 (by omega)]; decide), if_pos h0]
            exact ⟨h1, HFN.out (by rw [h1]; exact h0)⟩⟩
          obtain ⟨rfl, rfl⟩ := HX.out
          clear g0 g1 g2 h0
          go_wp2
          refine bodyPost_ret (results_ct rfl _ _ (w.heap.size + 1 + 1) 35 #[.int .i64 0, .string ⟨#[]⟩, .string ⟨#[]⟩, .string ⟨#[]⟩, .int .i64 0, .int .i64 0, .int .i64 0, .int .i64 0, .int .i64 0, .int .i64 0] (0, 0) _ rfl (blk10 HCK.out) Tryd.underlying35 rfl (by kernel_rfl)) rfl ?_
          exact ⟨rfl, below_set10 HCB.out (by omega) _ _ _ _ _ _ _ _ _ _⟩
      · by_cases h0 : se = 0
        · have hn : (se != 0) = false := by simpa using h0
          have H0 := Aside0.mk h0
          have G0 := Aside0.mk (And.intro g0 (And.intro g1 g2))
          clear g0 g1 g2 h0
          go_wp2
          go_roundg 0
          case measure => omega
          case rel => exact ⟨3, rfl, by omega, fun _ => G0.out.1 (by omega), fun _ => G0.out.2.1 (by omega), fun _ => H0.out, rfl⟩
        · have hn : (se != 0) = true := by simpa using h0
          have HX : Aside0 (FE = se ∧ FJ = jc JobPure.j0) := ⟨by
            have h1 : FE = se := by
              rw [HFE.out]
              rw [if_neg (by rw [g0 (by omega)]; decide), if_neg (by rw [g1 (by omega)]; decide)]
            exact ⟨h1, HFN.out (by rw [h1]; exact h0)⟩⟩
          obtain ⟨rfl, rfl⟩ := HX.out
          clear g0 g1 g2 h0
          go_wp2
          refine bodyPost_ret (results_ct rfl _ _ (w.heap.size + 1 + 1) 35 #[.int .i64 0, .string ⟨#[]⟩, .string ⟨#[]⟩, .string ⟨#[]⟩, .int .i64 0, .int .i64 0, .int .i64 0, .int .i64 0, .int .i64 0, .int .i64 0] (0, 0) _ rfl (blk10 HCK.out) Tryd.underlying35 rfl (by kernel_rfl)) rfl ?_
          exact ⟨rfl, below_set10 HCB.out (by omega) _ _ _ _ _ _ _ _ _ _⟩
      · have HZ : Aside0 (ce = 0 ∧ le = 0 ∧ se = 0) := ⟨g0 (by omega), g1 (by omega), g2 (by omega)⟩
        clear g0 g1 g2 k0 k1 k2 k3 k4 k5 k6 k7 k8 k9 f0 f1 f2 f3 f4 f5 f6 f7 f8 f9
        have HE0 : Aside0 (FE = 0) := ⟨by rw [HFE.out, HZ.out.1, HZ.out.2.1, HZ.out.2.2]; rfl⟩
        have HG : Aside0 (FJ = jc (failG (nx now) ⟨id, name, rule, payload, status, due, tries, worker, token, til⟩ b c t now)) := ⟨by rw [hFJ.out, failJ, ← hFE.out, HE0.out]; rfl⟩
        have HK : Aside0 (chk pe ⟨id, name, rule, payload, status, due, tries, worker, token, til⟩ = true ∧ limOk b c t = true ∧ 0 ≤ now ∧ now ≤ 32503679999) := ⟨by
          obtain ⟨z0, z1, z2⟩ := HZ.out
          refine ⟨?_, ?_, ?_⟩
          · rw [hce.out, chkE] at z0
            split at z0
            · assumption
            · cases z0
          · rw [hle.out, limE] at z1
            split at z1
            · assumption
            · cases z1
          · rw [hse.out, leasedE] at z2
            split at z2
            · split at z2
              · assumption
              · cases z2
            · cases z2⟩
        obtain ⟨n0, n1⟩ := HK.out.2.2
        have HTR : 0 ≤ tries ∧ tries ≤ 16 := by
          have h := HK.out.1
          rw [chk, Bool.and_eq_true, Bool.and_eq_true] at h
          have h1 := h.1.1
          simp only [chkA, decide_eq_true_eq] at h1
          omega
        obtain ⟨t0, t16⟩ := HTR
        have HPE : Aside0 (rule ≠ ⟨#[]⟩ → pe = 0) := ⟨fun hr => by
          have h := HK.out.1
          rw [chk, Bool.and_eq_true, chkC] at h
          have h2 := h.2
          have : decide (rule.size = 0) = false := decide_eq_false (fun h => hr (size0.1 h))
          simp only [this, Bool.false_or, Bool.and_eq_true, beq_iff_eq] at h2
          exact h2.1⟩
        have HLM := Aside0.mk HK.out.2.1
        obtain rfl := HE0.out
        obtain ⟨j0, j1, j2, j3, j4, j5, j6, j7, j8, j9⟩ := all10 HCJ.out
        have g6 := blk_frozen HCJ.out 6
        go_upto_region 8 with (fail)
        obtain ⟨T, hT⟩ : ∃ T, min (tries + 1) 16 = T := ⟨_, rfl⟩
        have HT := Aside0.mk hT
        have T1 : 1 ≤ T ∧ T ≤ 16 := by omega
        obtain ⟨T1, T2⟩ := T1
        rw [hT]
        clear hT t0 t16 j0 j1 j2 j3 j4 j5 j6 j7 j8 j9 g6 ix0 ix1 ix2
        obtain ⟨W2, hW2⟩ : ∃ W2, W2 = wr.setCell ⟨w.heap.size, 6, none⟩ (.int .i64 T) := ⟨_, rfl⟩
        have HJ2 : Aside0 (W2.heap[w.heap.size]? = some (.cells #[.int .i64 id, .string name, .string rule, .string payload, .int .i64 status, .int .i64 due, .int .i64 T, .int .i64 worker, .int .i64 token, .int .i64 til] 35 (0, 0))) := ⟨by rw [hW2]; exact blk_put HCJ.out 6 _ rfl⟩
        have HL2 : Aside0 (W2.heap[w.heap.size + 1]? = some (.cells #[.int .i64 b, .int .i64 c, .int .i64 t] 42 (0, 0))) := ⟨by rw [hW2]; exact (Below.heap_setCell _ ⟨w.heap.size, 6, none⟩ _ _ (by show _ ≠ w.heap.size; omega)).trans HCL.out⟩
        have HK2 : Aside0 (W2.heap[w.heap.size + 1 + 1]? = some (.cells #[.int .i64 0, .string ⟨#[]⟩, .string ⟨#[]⟩, .string ⟨#[]⟩, .int .i64 0, .int .i64 0, .int .i64 0, .int .i64 0, .int .i64 0, .int .i64 0] 35 (0, 0))) := ⟨by rw [hW2]; exact (Below.heap_setCell _ ⟨w.heap.size, 6, none⟩ _ _ (by show _ ≠ w.heap.size; omega)).trans HCK.out⟩
        have HB2 : Aside0 (Below w.heap.size w W2) := ⟨by rw [hW2]; exact HCB.out.setCell (p := ⟨w.heap.size, 6, none⟩) (Nat.le_refl _) _⟩
        rw [← hW2]
        clear hW2 HC HCJ HCL HCK HCB
        obtain ⟨V, hV⟩ := named (dueV b c now (T - 1).toNat)
        obtain ⟨D, hD⟩ := named (dueE b c now (T - 1).toNat)
        have HFT : Aside0 (failT ⟨id, name, rule, payload, status, due, tries, worker, token, til⟩ = T) := ⟨HT.out⟩
        obtain ⟨j0, j1, j2, j3, j4, j5, j6, j7, j8, j9⟩ := all10 HJ2.out
        obtain ⟨l0, l1, l2, _, _, _⟩ := all3 HL2.out
        by_cases hP : now + delayP b c (T - 1).toNat < 32503680000 ∧ T < t
        · have HX : Aside0 (D = 0 ∧ FJ = jc (holdJ ⟨id, name, rule, payload, status, due, T, worker, token, til⟩ 1 V 0 0 0)) := ⟨by
            refine ⟨by rw [hD.out, dueE, if_pos hP.1], ?_⟩
            rw [HG.out, failG, HFT.out, if_pos hP, hV.out, dueV, if_pos hP.1]⟩
          obtain ⟨_, hTt⟩ := hP
          obtain ⟨rfl, rfl⟩ := HX.out
          have hlt : decide (T < t) = true := decide_eq_true hTt
          clear hTt
          go_wp2_with (first
            | (go_at_call 33; refine (due_int b c t now (T - 1) _ HLM.out (by omega) (by omega) n0 (by omega)).mono ?_; rw [← hV.out, ← hD.out]; rintro e w3 ⟨rfl, hb3⟩; (have HB3 := Aside0.mk (bthen HB2.out hb3)); (have HJ3 := Aside0.mk (blk_keep HJ2.out hb3)); (have HL3 := Aside0.mk (blk_keep HL2.out hb3)); (have HK3 := Aside0.mk (blk_keep HK2.out hb3)); clear j0 j1 j2 j3 j4 j5 j6 j7 j8 j9 l0 l1 l2; obtain ⟨q0, q1, q2, q3, q4, q5, q6, q7, q8, q9⟩ := all10 HJ3.out; obtain ⟨p0, p1, p2, _, _, _⟩ := all3 HL3.out; clear hb3)
            | (go_at_call 34; refine (hold_any ⟨id, name, rule, payload, status, due, T, worker, token, til⟩ 1 V 0 0 0 _).mono ?_; rintro e w4 ⟨rfl, hb4⟩; (have HB4 := Aside0.mk (bthen HB3.out hb4)); (have HK4 := Aside0.mk (blk_keep HK3.out hb4)); clear q0 q1 q2 q3 q4 q5 q6 q7 q8 q9 p0 p1 p2; obtain ⟨k0, k1, k2, k3, k4, k5, k6, k7, k8, k9⟩ := all10 HK4.out; obtain ⟨f0, f1, f2, f3, f4, f5, f6, f7, f8, f9⟩ := frz10 HK4.out; clear hb4))
          refine bodyPost_ret (results_ct rfl _ _ (w.heap.size + 1 + 1) 35 #[.int .i64 id, .string name, .string rule, .string payload, .int .i64 1, .int .i64 V, .int .i64 T, .int .i64 0, .int .i64 0, .int .i64 0] (0, 0) _ rfl (blk10 HK4.out) Tryd.underlying35 rfl (by kernel_rfl)) rfl ?_
          exact ⟨rfl, below_set10 HB4.out (by omega) _ _ _ _ _ _ _ _ _ _⟩
        · obtain ⟨X, hX⟩ := named (againJ (nx now) ⟨id, name, rule, payload, status, due, T, worker, token, til⟩).1
          obtain ⟨ok, hok⟩ := named (againJ (nx now) ⟨id, name, rule, payload, status, due, T, worker, token, til⟩).2
          have HX : Aside0 (FJ = if ok then jc X else jc (holdJ ⟨id, name, ⟨#[]⟩, payload, status, due, T, worker, token, til⟩ 3 now 0 0 0)) := ⟨by
            rw [HG.out, failG, HFT.out, if_neg hP, hX.out, hok.out]
            split <;> rfl⟩
          have HDT : Aside0 ((D == 0 && decide (T < t)) = false) := ⟨by
            rw [hD.out, dueE]
            by_cases h1 : now + delayP b c (T - 1).toNat < 32503680000
            · rw [if_pos h1]
              have : ¬ T < t := fun h => hP ⟨h1, h⟩
              simp [this]
            · rw [if_neg h1]; rfl⟩
          clear hP
          obtain ⟨x1, x2, x3, x4, x5, x6, x7, x8, x9, x10⟩ := X
          have CA : Aside0 (∀ W', Below w.heap.size w W' → Calls Tryd.prog 32 #[.agg #[.int .i64 id, .string name, .string rule, .string payload, .int .i64 status, .int .i64 due, .int .i64 T, .int .i64 worker, .int .i64 token, .int .i64 til], .int .i64 now] W' fun e w' => e = .returned (.tuple #[.agg #[.int .i64 x1, .string x2, .string x3, .string x4, .int .i64 x5, .int .i64 x6, .int .i64 x7, .int .i64 x8, .int .i64 x9, .int .i64 x10], .bool ok]) ∧ Below W'.heap.size W' w') := ⟨fun W' hW => by
            have h := again_any HLT.out pe nx ⟨id, name, rule, payload, status, due, T, worker, token, til⟩ now W' (HTW.out _ hW) HP.out HPE.out n0 (by omega)
            rw [← hX.out, ← hok.out] at h
            exact h⟩
          cases ok with
          | true =>
            have HY : Aside0 (FJ = #[.int .i64 x1, .string x2, .string x3, .string x4, .int .i64 x5, .int .i64 x6, .int .i64 x7, .int .i64 x8, .int .i64 x9, .int .i64 x10]) := ⟨by rw [HX.out]; rfl⟩
            obtain rfl := HY.out
            by_cases h1 : D = 0
            · have hlt : decide (T < t) = false := by have := HDT.out; rw [h1] at this; simpa using this
              obtain rfl := h1
              go_wp2_with (first
                | (go_at_call 33; refine (due_int b c t now (T - 1) _ HLM.out (by omega) (by omega) n0 (by omega)).mono ?_; rw [← hV.out, ← hD.out]; rintro e w3 ⟨rfl, hb3⟩; (have HB3 := Aside0.mk (bthen HB2.out hb3)); (have HJ3 := Aside0.mk (blk_keep HJ2.out hb3)); (have HL3 := Aside0.mk (blk_keep HL2.out hb3)); (have HK3 := Aside0.mk (blk_keep HK2.out hb3)); clear j0 j1 j2 j3 j4 j5 j6 j7 j8 j9 l0 l1 l2; obtain ⟨q0, q1, q2, q3, q4, q5, q6, q7, q8, q9⟩ := all10 HJ3.out; obtain ⟨p0, p1, p2, _, _, _⟩ := all3 HL3.out; clear hb3)
                | (go_at_call 32; refine (CA.out _ HB3.out).mono ?_; rintro e w4 ⟨rfl, hb4⟩; (have HB4 := Aside0.mk (bthen HB3.out hb4)); (have HJ4 := Aside0.mk (blk_keep HJ3.out hb4)); (have HK4 := Aside0.mk (blk_keep HK3.out hb4)); (have hlj := blk_lt HJ4.out); (have hlk := blk_lt HK4.out); clear q0 q1 q2 q3 q4 q5 q6 q7 q8 q9 p0 p1 p2; obtain ⟨q0, q1, q2, q3, q4, q5, q6, q7, q8, q9⟩ := all10 HJ4.out; (have g2 := blk_frozen HJ4.out 2); obtain ⟨k0, k1, k2, k3, k4, k5, k6, k7, k8, k9⟩ := all10 HK4.out; obtain ⟨f0, f1, f2, f3, f4, f5, f6, f7, f8, f9⟩ := frz10 HK4.out; clear hb4))
              refine bodyPost_ret (results_ct rfl _ _ (w.heap.size + 1 + 1) 35 #[.int .i64 x1, .string x2, .string x3, .string x4, .int .i64 x5, .int .i64 x6, .int .i64 x7, .int .i64 x8, .int .i64 x9, .int .i64 x10] (0, 0) _ rfl (blk_alloc (blk10 HK4.out) _) Tryd.underlying35 rfl (by kernel_rfl)) rfl ?_
              exact ⟨rfl, below_alloc (below_set10 HB4.out (by omega) _ _ _ _ _ _ _ _ _ _) _⟩
            · have hd : (D == 0) = false := by simpa using h1
              clear h1
              go_wp2_with (first
                | (go_at_call 33; refine (due_int b c t now (T - 1) _ HLM.out (by omega) (by omega) n0 (by omega)).mono ?_; rw [← hV.out, ← hD.out]; rintro e w3 ⟨rfl, hb3⟩; (have HB3 := Aside0.mk (bthen HB2.out hb3)); (have HJ3 := Aside0.mk (blk_keep HJ2.out hb3)); (have HL3 := Aside0.mk (blk_keep HL2.out hb3)); (have HK3 := Aside0.mk (blk_keep HK2.out hb3)); clear j0 j1 j2 j3 j4 j5 j6 j7 j8 j9 l0 l1 l2; obtain ⟨q0, q1, q2, q3, q4, q5, q6, q7, q8, q9⟩ := all10 HJ3.out; obtain ⟨p0, p1, p2, _, _, _⟩ := all3 HL3.out; clear hb3)
                | (go_at_call 32; refine (CA.out _ HB3.out).mono ?_; rintro e w4 ⟨rfl, hb4⟩; (have HB4 := Aside0.mk (bthen HB3.out hb4)); (have HJ4 := Aside0.mk (blk_keep HJ3.out hb4)); (have HK4 := Aside0.mk (blk_keep HK3.out hb4)); (have hlj := blk_lt HJ4.out); (have hlk := blk_lt HK4.out); clear q0 q1 q2 q3 q4 q5 q6 q7 q8 q9 p0 p1 p2; obtain ⟨q0, q1, q2, q3, q4, q5, q6, q7, q8, q9⟩ := all10 HJ4.out; (have g2 := blk_frozen HJ4.out 2); obtain ⟨k0, k1, k2, k3, k4, k5, k6, k7, k8, k9⟩ := all10 HK4.out; obtain ⟨f0, f1, f2, f3, f4, f5, f6, f7, f8, f9⟩ := frz10 HK4.out; clear hb4))
              refine bodyPost_ret (results_ct rfl _ _ (w.heap.size + 1 + 1) 35 #[.int .i64 x1, .string x2, .string x3, .string x4, .int .i64 x5, .int .i64 x6, .int .i64 x7, .int .i64 x8, .int .i64 x9, .int .i64 x10] (0, 0) _ rfl (blk_alloc (blk10 HK4.out) _) Tryd.underlying35 rfl (by kernel_rfl)) rfl ?_
              exact ⟨rfl, below_alloc (below_set10 HB4.out (by omega) _ _ _ _ _ _ _ _ _ _) _⟩
          | false =>
            have HY : Aside0 (FJ = #[.int .i64 id, .string name, .string ⟨#[]⟩, .string payload, .int .i64 3, .int .i64 now, .int .i64 T, .int .i64 0, .int .i64 0, .int .i64 0]) := ⟨by rw [HX.out]; rfl⟩
            obtain rfl := HY.out
            by_cases h1 : D = 0
            · have hlt : decide (T < t) = false := by have := HDT.out; rw [h1] at this; simpa using this
              obtain rfl := h1
              go_wp2_with (first
                | (go_at_call 33; refine (due_int b c t now (T - 1) _ HLM.out (by omega) (by omega) n0 (by omega)).mono ?_; rw [← hV.out, ← hD.out]; rintro e w3 ⟨rfl, hb3⟩; (have HB3 := Aside0.mk (bthen HB2.out hb3)); (have HJ3 := Aside0.mk (blk_keep HJ2.out hb3)); (have HL3 := Aside0.mk (blk_keep HL2.out hb3)); (have HK3 := Aside0.mk (blk_keep HK2.out hb3)); clear j0 j1 j2 j3 j4 j5 j6 j7 j8 j9 l0 l1 l2; obtain ⟨q0, q1, q2, q3, q4, q5, q6, q7, q8, q9⟩ := all10 HJ3.out; obtain ⟨p0, p1, p2, _, _, _⟩ := all3 HL3.out; clear hb3)
                | (go_at_call 32; refine (CA.out _ HB3.out).mono ?_; rintro e w4 ⟨rfl, hb4⟩; (have HB4 := Aside0.mk (bthen HB3.out hb4)); (have HJ4 := Aside0.mk (blk_keep HJ3.out hb4)); (have HK4 := Aside0.mk (blk_keep HK3.out hb4)); (have hlj := blk_lt HJ4.out); (have hlk := blk_lt HK4.out); clear q0 q1 q2 q3 q4 q5 q6 q7 q8 q9 p0 p1 p2; obtain ⟨q0, q1, q2, q3, q4, q5, q6, q7, q8, q9⟩ := all10 HJ4.out; (have g2 := blk_frozen HJ4.out 2); obtain ⟨k0, k1, k2, k3, k4, k5, k6, k7, k8, k9⟩ := all10 HK4.out; obtain ⟨f0, f1, f2, f3, f4, f5, f6, f7, f8, f9⟩ := frz10 HK4.out; clear hb4)
                | (go_at_call 34; refine (hold_any ⟨id, name, ⟨#[]⟩, payload, status, due, T, worker, token, til⟩ 3 now 0 0 0 _).mono ?_; rintro e w5 ⟨rfl, hb5⟩; (have HB5 := Aside0.mk (bthen (below_alloc (HB4.out.setCell (p := ⟨w.heap.size, 2, none⟩) (Nat.le_refl _) _) _) hb5)); (have HK5 := Aside0.mk (blk_keep (blk_alloc ((Below.heap_setCell _ ⟨w.heap.size, 2, none⟩ _ _ (by show _ ≠ w.heap.size; omega)).trans HK4.out) _) hb5)); clear q0 q1 q2 q3 q4 q5 q6 q7 q8 q9 k0 k1 k2 k3 k4 k5 k6 k7 k8 k9 f0 f1 f2 f3 f4 f5 f6 f7 f8 f9; obtain ⟨k0, k1, k2, k3, k4, k5, k6, k7, k8, k9⟩ := all10 HK5.out; obtain ⟨f0, f1, f2, f3, f4, f5, f6, f7, f8, f9⟩ := frz10 HK5.out; clear hb5))
              refine bodyPost_ret (results_ct rfl _ _ (w.heap.size + 1 + 1) 35 #[.int .i64 id, .string name, .string ⟨#[]⟩, .string payload, .int .i64 3, .int .i64 now, .int .i64 T, .int .i64 0, .int .i64 0, .int .i64 0] (0, 0) _ rfl (blk10 HK5.out) Tryd.underlying35 rfl (by kernel_rfl)) rfl ?_
              exact ⟨rfl, below_set10 HB5.out (by omega) _ _ _ _ _ _ _ _ _ _⟩
            · have hd : (D == 0) = false := by simpa using h1
              clear h1
              go_wp2_with (first
                | (go_at_call 33; refine (due_int b c t now (T - 1) _ HLM.out (by omega) (by omega) n0 (by omega)).mono ?_; rw [← hV.out, ← hD.out]; rintro e w3 ⟨rfl, hb3⟩; (have HB3 := Aside0.mk (bthen HB2.out hb3)); (have HJ3 := Aside0.mk (blk_keep HJ2.out hb3)); (have HL3 := Aside0.mk (blk_keep HL2.out hb3)); (have HK3 := Aside0.mk (blk_keep HK2.out hb3)); clear j0 j1 j2 j3 j4 j5 j6 j7 j8 j9 l0 l1 l2; obtain ⟨q0, q1, q2, q3, q4, q5, q6, q7, q8, q9⟩ := all10 HJ3.out; obtain ⟨p0, p1, p2, _, _, _⟩ := all3 HL3.out; clear hb3)
                | (go_at_call 32; refine (CA.out _ HB3.out).mono ?_; rintro e w4 ⟨rfl, hb4⟩; (have HB4 := Aside0.mk (bthen HB3.out hb4)); (have HJ4 := Aside0.mk (blk_keep HJ3.out hb4)); (have HK4 := Aside0.mk (blk_keep HK3.out hb4)); (have hlj := blk_lt HJ4.out); (have hlk := blk_lt HK4.out); clear q0 q1 q2 q3 q4 q5 q6 q7 q8 q9 p0 p1 p2; obtain ⟨q0, q1, q2, q3, q4, q5, q6, q7, q8, q9⟩ := all10 HJ4.out; (have g2 := blk_frozen HJ4.out 2); obtain ⟨k0, k1, k2, k3, k4, k5, k6, k7, k8, k9⟩ := all10 HK4.out; obtain ⟨f0, f1, f2, f3, f4, f5, f6, f7, f8, f9⟩ := frz10 HK4.out; clear hb4)
                | (go_at_call 34; refine (hold_any ⟨id, name, ⟨#[]⟩, payload, status, due, T, worker, token, til⟩ 3 now 0 0 0 _).mono ?_; rintro e w5 ⟨rfl, hb5⟩; (have HB5 := Aside0.mk (bthen (below_alloc (HB4.out.setCell (p := ⟨w.heap.size, 2, none⟩) (Nat.le_refl _) _) _) hb5)); (have HK5 := Aside0.mk (blk_keep (blk_alloc ((Below.heap_setCell _ ⟨w.heap.size, 2, none⟩ _ _ (by show _ ≠ w.heap.size; omega)).trans HK4.out) _) hb5)); clear q0 q1 q2 q3 q4 q5 q6 q7 q8 q9 k0 k1 k2 k3 k4 k5 k6 k7 k8 k9 f0 f1 f2 f3 f4 f5 f6 f7 f8 f9; obtain ⟨k0, k1, k2, k3, k4, k5, k6, k7, k8, k9⟩ := all10 HK5.out; obtain ⟨f0, f1, f2, f3, f4, f5, f6, f7, f8, f9⟩ := frz10 HK5.out; clear hb5))
              refine bodyPost_ret (results_ct rfl _ _ (w.heap.size + 1 + 1) 35 #[.int .i64 id, .string name, .string ⟨#[]⟩, .string payload, .int .i64 3, .int .i64 now, .int .i64 T, .int .i64 0, .int .i64 0, .int .i64 0] (0, 0) _ rfl (blk10 HK5.out) Tryd.underlying35 rfl (by kernel_rfl)) rfl ?_
              exact ⟨rfl, below_set10 HB5.out (by omega) _ _ _ _ _ _ _ _ _ _⟩
end Go.Proofs.YteloamnakikbbaaDoor.Job

/- job: Finish, walked. -/
namespace Go.Proofs.YteloamnakikbbaaDoor.Job
set_option linter.unusedVariables false
set_option linter.unusedSimpArgs false
open Go.RowKit Go.Proofs.YteloamnakikbbaaDoorW.PrintWords Go.Proofs.YteloamnakikbbaaDoorW.PrintLast Go.Proofs.YteloamnakikbbaaDoor.Base Go.Proofs.YteloamnakikbbaaDoor.Cells Go.Proofs.YteloamnakikbbaaDoor.JobPure

theorem idx2_0 (a b : Int) (w : World) : (Instr.index 75 (.agg #[.int .i64 a, .int .i64 b]) (.int .i64 0)).run Tryd.prog w = .ok (.int .i64 a) w := by
  simp [Instr.index, run_underlying Tryd.underlying75, asIntOf, go_sem, Tryd.sizeOf32]
theorem idx2_1 (a b : Int) (w : World) : (Instr.index 75 (.agg #[.int .i64 a, .int .i64 b]) (.int .i64 1)).run Tryd.prog w = .ok (.int .i64 b) w := by
  simp [Instr.index, run_underlying Tryd.underlying75, asIntOf, go_sem, Tryd.sizeOf32]
/-- Finish: what follows, and whether there is one -/
def finB (pe : Int) (nx : Int × Bool) (j : Jb) (now : Int) : Bool := decide (finE pe j now = 0) && (againJ nx j).2
def finJ (pe : Int) (nx : Int × Bool) (j : Jb) (now : Int) : Jb := if finB pe nx j now then (againJ nx j).1 else j0
/-- what stands behind the two tests -/
def HeadF (w : World) (id status due tries worker token til : Int) (name rule payload : ByteArray) (wc : World) : Prop :=
  wc.heap[w.heap.size]? = some (.cells #[.int .i64 id, .string name, .string rule, .string payload, .int .i64 status, .int .i64 due, .int .i64 tries, .int .i64 worker, .int .i64 token, .int .i64 til] 35 (0, 0)) ∧ wc.heap[w.heap.size + 1]? = some (.cells #[.int .i64 0, .string ⟨#[]⟩, .string ⟨#[]⟩, .string ⟨#[]⟩, .int .i64 0, .int .i64 0, .int .i64 0, .int .i64 0, .int .i64 0, .int .i64 0] 35 (0, 0)) ∧ Below w.heap.size w wc
theorem HeadF.below {w wc w1 : World} {id status due tries worker token til : Int} {name rule payload : ByteArray} (h : HeadF w id status due tries worker token til name rule payload wc) (hb : Below wc.heap.size wc w1) : HeadF w id status due tries worker token til name rule payload w1 :=
  ⟨blk_keep h.1 hb, blk_keep h.2.1 hb, bthen h.2.2 hb⟩

set_option maxRecDepth 100000 in
set_option maxHeartbeats 4000000 in
theorem finish_any {T : World → Prop} (hT : Lasts T) (pe : Int) (nx : Int → Int × Bool) (j : Jb) (now : Int) (w : World) (hw : T w) (hp : CronSays T j.rule pe nx) :
    Calls Tryd.prog 13 #[.agg #[.int .i64 j.id, .string j.name, .string j.rule, .string j.payload, .int .i64 j.status, .int .i64 j.due, .int .i64 j.tries, .int .i64 j.worker, .int .i64 j.token, .int .i64 j.til], .int .i64 now] w fun e w' => e = .returned (.tuple #[.agg (jc (finJ pe (nx now) j now)), .bool (finB pe (nx now) j now), .int .i64 (finE pe j now)]) ∧ Below w.heap.size w w' := by
  obtain ⟨id, name, rule, payload, status, due, tries, worker, token, til⟩ := j
  dsimp only at hp ⊢
  have HP := Aside0.mk hp
  have HTW : Aside0 (∀ w', Below w.heap.size w w' → T w') := ⟨fun w' h => hT _ _ hw h⟩
  have HLT := Aside0.mk hT
  clear hp hT hw
  obtain ⟨ce, hce⟩ := named (chkE pe ⟨id, name, rule, payload, status, due, tries, worker, token, til⟩)
  obtain ⟨se, hse⟩ := named (leasedE ⟨id, name, rule, payload, status, due, tries, worker, token, til⟩ now)
  obtain ⟨FJ, hFJ⟩ := named (jc (finJ pe (nx now) ⟨id, name, rule, payload, status, due, tries, worker, token, til⟩ now))
  obtain ⟨FB, hFB⟩ := named (finB pe (nx now) ⟨id, name, rule, payload, status, due, tries, worker, token, til⟩ now)
  obtain ⟨FE, hFE⟩ := named (finE pe ⟨id, name, rule, payload, status, due, tries, worker, token, til⟩ now)
  have HFE : Aside0 (FE = if ce ≠ 0 then ce else se) := ⟨by
    rw [hFE.out, hce.out, hse.out, finE, chkE]
    cases chk pe ⟨id, name, rule, payload, status, due, tries, worker, token, til⟩ <;> simp⟩
  rw [← hFJ.out, ← hFB.out, ← hFE.out]
  go_enter Tryd.func13, Tryd.ntmps13
  go_upto_region 1 with (fail)
  obtain ⟨W, hW⟩ : ∃ W, W = (w.alloc (.cells #[.int .i64 id, .string name, .string rule, .string payload, .int .i64 status, .int .i64 due, .int .i64 tries, .int .i64 worker, .int .i64 token, .int .i64 til] 35)).alloc (.cells #[.int .i64 0, .string ⟨#[]⟩, .string ⟨#[]⟩, .string ⟨#[]⟩, .int .i64 0, .int .i64 0, .int .i64 0, .int .i64 0, .int .i64 0, .int .i64 0] 35) := ⟨_, rfl⟩
  have HH : Aside0 (HeadF w id status due tries worker token til name rule payload W) := ⟨by
    rw [hW]
    exact ⟨blk_alloc (blk_new _ _) _, blk_new1 _ _ _ _, below_alloc (below_alloc (Below.refl _ _) _) _⟩⟩
  rw [← hW]
  clear hW
  go_cut [16, 17] (fun v16 v17 wc => v16 = .agg #[.int .i64 ce, .int .i64 se] ∧ v17 = .int .i64 0 ∧ Aside0 (HeadF w id status due tries worker token til name rule payload wc))
  case first =>
    have FK : Aside0 (∀ w', Below W.heap.size W w' → w'.cell? ⟨w.heap.size, 0, none⟩ = some (.int .i64 id) ∧ w'.cell? ⟨w.heap.size, 1, none⟩ = some (.string name) ∧ w'.cell? ⟨w.heap.size, 2, none⟩ = some (.string rule) ∧ w'.cell? ⟨w.heap.size, 3, none⟩ = some (.string payload) ∧ w'.cell? ⟨w.heap.size, 4, none⟩ = some (.int .i64 status) ∧ w'.cell? ⟨w.heap.size, 5, none⟩ = some (.int .i64 due) ∧ w'.cell? ⟨w.heap.size, 6, none⟩ = some (.int .i64 tries) ∧ w'.cell? ⟨w.heap.size, 7, none⟩ = some (.int .i64 worker) ∧ w'.cell? ⟨w.heap.size, 8, none⟩ = some (.int .i64 token) ∧ w'.cell? ⟨w.heap.size, 9, none⟩ = some (.int .i64 til)) := ⟨fun w' h => all10 (blk_keep HH.out.1 h)⟩
    have CC : Aside0 (∀ W', Below W.heap.size W W' → Calls Tryd.prog 11 #[.agg #[.int .i64 id, .string name, .string rule, .string payload, .int .i64 status, .int .i64 due, .int .i64 tries, .int .i64 worker, .int .i64 token, .int .i64 til]] W' fun e w' => e = .returned (.int .i64 ce) ∧ Below W'.heap.size W' w') := ⟨fun W' hW => by
      rw [hce.out]; exact check_any HLT.out pe ⟨id, name, rule, payload, status, due, tries, worker, token, til⟩ W' (HTW.out _ (bthen HH.out.2.2 hW)) HP.out.parse⟩
    have CS : Aside0 (∀ W', Calls Tryd.prog 31 #[.agg #[.int .i64 id, .string name, .string rule, .string payload, .int .i64 status, .int .i64 due, .int .i64 tries, .int .i64 worker, .int .i64 token, .int .i64 til], .int .i64 now] W' fun e w' => e = .returned (.int .i64 se) ∧ Below W'.heap.size W' w') := ⟨fun W' => by
      rw [hse.out]; exact leased_any ⟨id, name, rule, payload, status, due, tries, worker, token, til⟩ now W'⟩
    obtain ⟨j0, j1, j2, j3, j4, j5, j6, j7, j8, j9⟩ := FK.out _ (below_drew (Below.refl _ W))
    go_region_held3 (fun w' => w'.cell? ⟨w.heap.size, 0, none⟩ = some (.int .i64 id) ∧ w'.cell? ⟨w.heap.size, 1, none⟩ = some (.string name) ∧ w'.cell? ⟨w.heap.size, 2, none⟩ = some (.string rule) ∧ w'.cell? ⟨w.heap.size, 3, none⟩ = some (.string payload) ∧ w'.cell? ⟨w.heap.size, 4, none⟩ = some (.int .i64 status) ∧ w'.cell? ⟨w.heap.size, 5, none⟩ = some (.int .i64 due) ∧ w'.cell? ⟨w.heap.size, 6, none⟩ = some (.int .i64 tries) ∧ w'.cell? ⟨w.heap.size, 7, none⟩ = some (.int .i64 worker) ∧ w'.cell? ⟨w.heap.size, 8, none⟩ = some (.int .i64 token) ∧ w'.cell? ⟨w.heap.size, 9, none⟩ = some (.int .i64 til)) (first | with_reducible exact ⟨j0, j1, j2, j3, j4, j5, j6, j7, j8, j9⟩ | (refine FK.out _ ?_; (repeat (first | with_reducible exact Below.refl _ _ | with_reducible exact BX1.out | with_reducible exact BX3.out | with_reducible apply below_drew | with_reducible apply below_alloc)); done) | go_keep) (first
      | (go_at_call 11; refine (CC.out _ (by (repeat (first | with_reducible exact Below.refl _ _ | with_reducible exact BX1.out | with_reducible exact BX3.out | with_reducible apply below_drew | with_reducible apply below_alloc)))).mono ?_; rintro e w1 ⟨rfl, hb1⟩; (have BX1 : Aside0 (Below W.heap.size W w1) := ⟨bthen (by (repeat (first | with_reducible exact Below.refl _ _ | with_reducible exact BX1.out | with_reducible exact BX3.out | with_reducible apply below_drew | with_reducible apply below_alloc))) hb1⟩); clear hb1)
      | (go_at_call 31; refine (CS.out _).mono ?_; rintro e w3 ⟨rfl, hb3⟩; (have BX3 : Aside0 (Below W.heap.size W w3) := ⟨bthen (by (repeat (first | with_reducible exact Below.refl _ _ | with_reducible exact BX1.out | with_reducible exact BX3.out | with_reducible apply below_drew | with_reducible apply below_alloc))) hb3⟩); clear hb3))
    all_goals go_wp2_with fail
    all_goals go_meet
    all_goals refine ⟨rfl, rfl, ⟨HH.out.below ?_⟩⟩
    all_goals (repeat (first | with_reducible exact Below.refl _ _ | with_reducible exact BX1.out | with_reducible exact BX3.out | with_reducible apply below_drew | with_reducible apply below_alloc))
  case rest =>
    obtain ⟨rfl, rfl, HC⟩ := hcut
    clear HH W
    have HFB : Aside0 (FE ≠ 0 → FJ = jc JobPure.j0 ∧ FB = false) := ⟨fun h => by
      have hb : FB = false := by rw [hFB.out, finB, ← hFE.out]; simp [h]
      exact ⟨by rw [hFJ.out, finJ, ← hFB.out, hb]; rfl, hb⟩⟩
    have HCJ := Aside0.mk HC.out.1
    have HCK := Aside0.mk HC.out.2.1
    have HCB := Aside0.mk HC.out.2.2
    go_wp2_with fail
    go_loopg [8, 17] 2 (fun g v8 v17 wr => ∃ i : Nat, v17 = .int .i64 i ∧ g + i = 2 ∧ (0 < i → ce = 0) ∧ (1 < i → se = 0) ∧ wr = wc)
    case atStart => exact ⟨0, rfl, by omega, fun h => by omega, fun h => by omega, rfl⟩
    case round =>
      obtain ⟨i, rfl, hg, g0, g1, rfl⟩ := hrel
      obtain ⟨k0, k1, k2, k3, k4, k5, k6, k7, k8, k9⟩ := all10 HCK.out; obtain ⟨f0, f1, f2, f3, f4, f5, f6, f7, f8, f9⟩ := frz10 HCK.out
      have ix0 := idx2_0 ce se wr
      have ix1 := idx2_1 ce se wr
      rcases (show i = 0 ∨ i = 1 ∨ i = 2 by omega) with rfl | rfl | rfl
      · by_cases h0 : ce = 0
        · have hn : (ce != 0) = false := by simpa using h0
          have H0 := Aside0.mk h0
          have G0 := Aside0.mk (And.intro g0 g1)
          clear g0 g1 h0
          go_wp2
          go_roundg 1
          case measure => omega
          case rel => exact ⟨1, rfl, by omega, fun _ => H0.out, fun h => by omega, rfl⟩
        · have hn : (ce != 0) = true := by simpa using h0
          have HX : Aside0 (FE = ce ∧ FJ = jc JobPure.j0 ∧ FB = false) := ⟨by
            have h1 : FE = ce := by
              rw [HFE.out]
              rw [if_pos h0]
            exact ⟨h1, HFB.out (by rw [h1]; exact h0)⟩⟩
          obtain ⟨rfl, rfl, rfl⟩ := HX.out
          clear g0 g1 h0
          go_wp2
          refine bodyPost_ret (Cron.results_ctt' rfl _ _ (w.heap.size + 1) 35 #[.int .i64 0, .string ⟨#[]⟩, .string ⟨#[]⟩, .string ⟨#[]⟩, .int .i64 0, .int .i64 0, .int .i64 0, .int .i64 0, .int .i64 0, .int .i64 0] (0, 0) _ rfl (blk10 HCK.out) Tryd.underlying35 rfl (by kernel_rfl)) rfl ?_
          exact ⟨rfl, below_set10 HCB.out (by omega) _ _ _ _ _ _ _ _ _ _⟩
      · by_cases h0 : se = 0
        · have hn : (se != 0) = false := by simpa using h0
          have H0 := Aside0.mk h0
          have G0 := Aside0.mk (And.intro g0 g1)
          clear g0 g1 h0
          go_wp2
          go_roundg 0
          case measure => omega
          case rel => exact ⟨2, rfl, by omega, fun _ => G0.out.1 (by omega), fun _ => H0.out, rfl⟩
        · have hn : (se != 0) = true := by simpa using h0
          have HX : Aside0 (FE = se ∧ FJ = jc JobPure.j0 ∧ FB = false) := ⟨by
            have h1 : FE = se := by
              rw [HFE.out]
              rw [if_neg (by rw [g0 (by omega)]; decide)]
            exact ⟨h1, HFB.out (by rw [h1]; exact h0)⟩⟩
          obtain ⟨rfl, rfl, rfl⟩ := HX.out
          clear g0 g1 h0
          go_wp2
          refine bodyPost_ret (Cron.results_ctt' rfl _ _ (w.heap.size + 1) 35 #[.int .i64 0, .string ⟨#[]⟩, .string ⟨#[]⟩, .string ⟨#[]⟩, .int .i64 0, .int .i64 0, .int .i64 0, .int .i64 0, .int .i64 0, .int .i64 0] (0, 0) _ rfl (blk10 HCK.out) Tryd.underlying35 rfl (by kernel_rfl)) rfl ?_
          exact ⟨rfl, below_set10 HCB.out (by omega) _ _ _ _ _ _ _ _ _ _⟩
      · have HZ : Aside0 (ce = 0 ∧ se = 0) := ⟨g0 (by omega), g1 (by omega)⟩
        clear g0 g1 k0 k1 k2 k3 k4 k5 k6 k7 k8 k9 f0 f1 f2 f3 f4 f5 f6 f7 f8 f9
        have HE0 : Aside0 (FE = 0) := ⟨by rw [HFE.out, HZ.out.1, HZ.out.2]; rfl⟩
        have HK : Aside0 (chk pe ⟨id, name, rule, payload, status, due, tries, worker, token, til⟩ = true ∧ 0 ≤ now ∧ now ≤ 32503679999) := ⟨by
          obtain ⟨z0, z2⟩ := HZ.out
          refine ⟨?_, ?_⟩
          · rw [hce.out, chkE] at z0
            split at z0
            · assumption
            · cases z0
          · rw [hse.out, leasedE] at z2
            split at z2
            · split at z2
              · assumption
              · cases z2
            · cases z2⟩
        obtain ⟨n0, n1⟩ := HK.out.2
        have HPE : Aside0 (rule ≠ ⟨#[]⟩ → pe = 0) := ⟨fun hr => by
          have h := HK.out.1
          rw [chk, Bool.and_eq_true, chkC] at h
          have h2 := h.2
          have : decide (rule.size = 0) = false := decide_eq_false (fun h => hr (size0.1 h))
          simp only [this, Bool.false_or, Bool.and_eq_true, beq_iff_eq] at h2
          exact h2.1⟩
        obtain ⟨X, hX⟩ := named (againJ (nx now) ⟨id, name, rule, payload, status, due, tries, worker, token, til⟩).1
        obtain ⟨ok, hok⟩ := named (againJ (nx now) ⟨id, name, rule, payload, status, due, tries, worker, token, til⟩).2
        have HFB2 : Aside0 (FB = ok) := ⟨by rw [hFB.out, finB, ← hFE.out, HE0.out, hok.out]; simp⟩
        have HFJ2 : Aside0 (FJ = if ok then jc X else jc JobPure.j0) := ⟨by rw [hFJ.out, finJ, ← hFB.out, HFB2.out, hX.out]; split <;> rfl⟩
        obtain ⟨x1, x2, x3, x4, x5, x6, x7, x8, x9, x10⟩ := X
        have CA : Aside0 (∀ W', Below w.heap.size w W' → Calls Tryd.prog 32 #[.agg #[.int .i64 id, .string name, .string rule, .string payload, .int .i64 status, .int .i64 due, .int .i64 tries, .int .i64 worker, .int .i64 token, .int .i64 til], .int .i64 now] W' fun e w' => e = .returned (.tuple #[.agg #[.int .i64 x1, .string x2, .string x3, .string x4, .int .i64 x5, .int .i64 x6, .int .i64 x7, .int .i64 x8, .int .i64 x9, .int .i64 x10], .bool ok]) ∧ Below W'.heap.size W' w') := ⟨fun W' hW => by
          have h := again_any HLT.out pe nx ⟨id, name, rule, payload, status, due, tries, worker, token, til⟩ now W' (HTW.out _ hW) HP.out HPE.out n0 (by omega)
          rw [← hX.out, ← hok.out] at h
          exact h⟩
        obtain ⟨j0, j1, j2, j3, j4, j5, j6, j7, j8, j9⟩ := all10 HCJ.out
        obtain rfl := HE0.out
        obtain rfl := HFB2.out
        cases FB with
        | true =>
          obtain rfl : FJ = #[.int .i64 x1, .string x2, .string x3, .string x4, .int .i64 x5, .int .i64 x6, .int .i64 x7, .int .i64 x8, .int .i64 x9, .int .i64 x10] := HFJ2.out
          go_wp2_with (go_at_call 32; with_reducible refine (CA.out _ HCB.out).mono ?_; rintro e w4 ⟨rfl, hb4⟩; (have HB4 := Aside0.mk (bthen HCB.out hb4)); (have HK4 := Aside0.mk (blk_keep HCK.out hb4)); (have hlk := blk_lt HK4.out); clear j0 j1 j2 j3 j4 j5 j6 j7 j8 j9; obtain ⟨k0, k1, k2, k3, k4, k5, k6, k7, k8, k9⟩ := all10 HK4.out; obtain ⟨f0, f1, f2, f3, f4, f5, f6, f7, f8, f9⟩ := frz10 HK4.out; clear hb4)
          refine bodyPost_ret (Cron.results_ctt' rfl _ _ (w.heap.size + 1) 35 #[.int .i64 x1, .string x2, .string x3, .string x4, .int .i64 x5, .int .i64 x6, .int .i64 x7, .int .i64 x8, .int .i64 x9, .int .i64 x10] (0, 0) _ rfl (blk_alloc (blk10 HK4.out) _) Tryd.underlying35 rfl (by kernel_rfl)) rfl ?_
          exact ⟨rfl, below_alloc (below_set10 HB4.out (by omega) _ _ _ _ _ _ _ _ _ _) _⟩
        | false =>
          obtain rfl : FJ = #[.int .i64 0, .string ⟨#[]⟩, .string ⟨#[]⟩, .string ⟨#[]⟩, .int .i64 0, .int .i64 0, .int .i64 0, .int .i64 0, .int .i64 0, .int .i64 0] := HFJ2.out
          go_wp2_with (go_at_call 32; with_reducible refine (CA.out _ HCB.out).mono ?_; rintro e w4 ⟨rfl, hb4⟩; (have HB4 := Aside0.mk (bthen HCB.out hb4)); (have HK4 := Aside0.mk (blk_keep HCK.out hb4)); (have hlk := blk_lt HK4.out); clear j0 j1 j2 j3 j4 j5 j6 j7 j8 j9; obtain ⟨k0, k1, k2, k3, k4, k5, k6, k7, k8, k9⟩ := all10 HK4.out; obtain ⟨f0, f1, f2, f3, f4, f5, f6, f7, f8, f9⟩ := frz10 HK4.out; clear hb4)
          refine bodyPost_ret (Cron.results_ctt' rfl _ _ (w.heap.size + 1) 35 #[.int .i64 0, .string ⟨#[]⟩, .string ⟨#[]⟩, .string ⟨#[]⟩, .int .i64 0, .int .i64 0, .int .i64 0, .int .i64 0, .int .i64 0, .int .i64 0] (0, 0) _ rfl (blk_alloc (blk10 HK4.out) _) Tryd.underlying35 rfl (by kernel_rfl)) rfl ?_
          exact ⟨rfl, below_alloc (below_set10 HB4.out (by omega) _ _ _ _ _ _ _ _ _ _) _⟩
end Go.Proofs.YteloamnakikbbaaDoor.Job

/- What Lease, Fail and Finish make of a job may be, and is the same job: plain. -/
namespace Go.Proofs.YteloamnakikbbaaDoor.JKeeps
set_option linter.unusedVariables false
set_option linter.unusedSimpArgs false
open Go.RowKit Go.Proofs.YteloamnakikbbaaDoor.Base Go.Proofs.YteloamnakikbbaaDoor.JobPure Go.Proofs.YteloamnakikbbaaDoor.Job

theorem chk_iff {pe : Int} {j : Jb} : chk pe j = true ↔ (1 ≤ j.id ∧ j.id ≤ 1099511627776 ∧ j.name.size ≤ 32 ∧ j.payload.size ≤ 200 ∧ 0 ≤ j.due ∧ j.due ≤ 32503680000 ∧ 0 ≤ j.tries ∧ j.tries ≤ 16) ∧ chkB j = true ∧ chkC pe j = true := by
  rw [chk, Bool.and_eq_true, Bool.and_eq_true, chkA, decide_eq_true_eq, and_assoc]
theorem chkC_rule {pe : Int} {j k : Jb} (h : k.rule = j.rule) : chkC pe k = chkC pe j := by unfold chkC; rw [h]
theorem wait_B {j : Jb} (d t : Int) : chkB (holdJ { j with tries := t } 1 d 0 0 0) = true := rfl
theorem lease_may {pe : Int} {j : Jb} {a b c : Int} (h : leaseE pe j a b c = 0) : chk pe j = true ∧ leaseJ pe j a b c = holdJ j 2 0 a b c ∧ chk pe (holdJ j 2 0 a b c) = true := by
  have hj : leaseJ pe j a b c = holdJ j 2 0 a b c := by rw [leaseJ, if_pos h]
  unfold leaseE at h
  split at h
  · rename_i h1
    split at h
    · split at h
      · rename_i h3
        refine ⟨h1, hj, ?_⟩
        obtain ⟨⟨q0, q1, q2, q3, q4, q5, q6, q7⟩, _, q9⟩ := chk_iff.1 h1
        refine chk_iff.2 ⟨⟨q0, q1, q2, q3, by show (0 : Int) ≤ 0; omega, by show (0 : Int) ≤ _; omega, q6, q7⟩, ?_, q9⟩
        show (hmay a b c && decide ((0 : Int) = 0)) = true
        rw [h3]; rfl
      · cases h
    · cases h
  · cases h
theorem leased_may {j : Jb} {now : Int} (h : leasedE j now = 0) : 0 ≤ now ∧ now ≤ 32503679999 := by
  unfold leasedE at h
  split at h
  · split at h
    · assumption
    · cases h
  · cases h
/-- a job that waits until its rule comes again may be -/
theorem again_may {pe : Int} {j : Jb} {t d : Int} (h : chk pe j = true) (t0 : 0 ≤ t) (t1 : t ≤ 16) (d0 : 0 ≤ d) (d1 : d ≤ 32503680000) : chk pe (holdJ { j with tries := t } 1 d 0 0 0) = true := by
  obtain ⟨⟨q0, q1, q2, q3, q4, q5, q6, q7⟩, _, q9⟩ := chk_iff.1 h
  exact chk_iff.2 ⟨⟨q0, q1, q2, q3, d0, d1, t0, t1⟩, rfl, q9⟩
theorem dead_may {pe pe' : Int} {j : Jb} {t d : Int} (h : chk pe j = true) (t0 : 0 ≤ t) (t1 : t ≤ 16) (d0 : 0 ≤ d) (d1 : d ≤ 32503680000) : chk pe' (holdJ { j with tries := t, rule := ⟨#[]⟩ } 3 d 0 0 0) = true := by
  obtain ⟨⟨q0, q1, q2, q3, q4, q5, q6, q7⟩, _, q9⟩ := chk_iff.1 h
  exact chk_iff.2 ⟨⟨q0, q1, q2, q3, d0, d1, t0, t1⟩, rfl, rfl⟩
/-- the same job: its number, its name, its payload; its rule is the same, or none -/
def Same (j k : Jb) : Prop := k.id = j.id ∧ k.name = j.name ∧ k.payload = j.payload ∧ (k.rule = j.rule ∨ k.rule = ⟨#[]⟩)
theorem again_two {nx : Int × Bool} {j : Jb} (h : (againJ nx j).2 = true) : nx.2 = true ∧ (againJ nx j).1 = holdJ { j with tries := 0 } 1 nx.1 0 0 0 := by
  unfold againJ at h ⊢
  by_cases q : j.rule.size = 0
  · rw [if_pos q] at h; cases h
  · rw [if_neg q] at h ⊢; exact ⟨h, rfl⟩
theorem fail_may {pe : Int} {nx : Int → Int × Bool} {j : Jb} {b c t now : Int} (hn : ∀ now, 0 ≤ now → now < 32503680000 → (nx now).2 = true → 0 ≤ (nx now).1 ∧ (nx now).1 ≤ 32503680000) (h : failE pe j b c t now = 0) :
    (chk pe (failJ pe (nx now) j b c t now) = true ∨ (failJ pe (nx now) j b c t now).rule = ⟨#[]⟩ ∧ ∀ pe', chk pe' (failJ pe (nx now) j b c t now) = true) ∧ Same j (failJ pe (nx now) j b c t now) ∧ (failJ pe (nx now) j b c t now).status ≠ 2 := by
  have hj : failJ pe (nx now) j b c t now = failG (nx now) j b c t now := by rw [failJ, if_pos h]
  rw [hj]
  clear hj
  unfold failE at h
  split at h
  · rename_i h1
    split at h
    · rename_i h2
      obtain ⟨n0, n1⟩ := leased_may h
      obtain ⟨⟨q0, q1, q2, q3, q4, q5, q6, q7⟩, _, q9⟩ := chk_iff.1 h1
      obtain ⟨b1, b2, bc, c2, t1, t2⟩ := limOk_iff.1 h2
      have T0 : 0 ≤ failT j ∧ failT j ≤ 16 := by unfold failT; omega
      obtain ⟨d1, d2⟩ := delay_bd (b := b) (c := c) (failT j - 1).toNat b1 (by omega)
      unfold failG
      split
      · rename_i h3
        exact ⟨.inl (again_may h1 T0.1 T0.2 (by omega) (by omega)), ⟨rfl, rfl, rfl, .inl rfl⟩, by show (1 : Int) ≠ 2; omega⟩
      · split
        · rename_i h4
          obtain ⟨h5, h6⟩ := again_two h4
          obtain ⟨n2, n3⟩ := hn now n0 (by omega) h5
          rw [h6]
          exact ⟨.inl (again_may (j := j) h1 (by omega) (by omega) n2 n3), ⟨rfl, rfl, rfl, .inl rfl⟩, by show (1 : Int) ≠ 2; omega⟩
        · exact ⟨.inr ⟨rfl, fun pe' => dead_may h1 T0.1 T0.2 (by omega) (by omega)⟩, ⟨rfl, rfl, rfl, .inr rfl⟩, by show (3 : Int) ≠ 2; omega⟩
    · cases h
  · cases h
theorem finish_may {pe : Int} {nx : Int → Int × Bool} {j : Jb} {now : Int} (hn : ∀ now, 0 ≤ now → now < 32503680000 → (nx now).2 = true → 0 ≤ (nx now).1 ∧ (nx now).1 ≤ 32503680000) (h : finE pe j now = 0) :
    1 ≤ j.id ∧ (finB pe (nx now) j now = true → chk pe (finJ pe (nx now) j now) = true ∧ Same j (finJ pe (nx now) j now) ∧ (finJ pe (nx now) j now).rule = j.rule ∧ (finJ pe (nx now) j now).status = 1 ∧ (finJ pe (nx now) j now).tries = 0) ∧ (finB pe (nx now) j now = false → finJ pe (nx now) j now = j0) := by
  have h0 := h
  unfold finE at h
  split at h
  · rename_i h1
    obtain ⟨n0, n1⟩ := leased_may h
    refine ⟨(chk_iff.1 h1).1.1, fun hb => ?_, fun hb => by rw [finJ, hb]; rfl⟩
    have hj : finJ pe (nx now) j now = (againJ (nx now) j).1 := by rw [finJ, if_pos hb]
    rw [finB, h0] at hb
    obtain ⟨h5, h6⟩ := again_two (by simpa using hb)
    obtain ⟨n2, n3⟩ := hn now n0 (by omega) h5
    rw [hj, h6]
    exact ⟨again_may h1 (by omega) (by omega) n2 n3, ⟨rfl, rfl, rfl, .inl rfl⟩, rfl, rfl, rfl⟩
  · cases h
end Go.Proofs.YteloamnakikbbaaDoor.JKeeps

/- The document's Delay; the law's alive: walked. -/
namespace Go.Proofs.YteloamnakikbbaaDoor.Job
set_option linter.unusedVariables false
set_option linter.unusedSimpArgs false
open Go.RowKit Go.Proofs.YteloamnakikbbaaDoorW.PrintWords Go.Proofs.YteloamnakikbbaaDoorW.PrintLast Go.Proofs.YteloamnakikbbaaDoor.Base Go.Proofs.YteloamnakikbbaaDoor.Cells Go.Proofs.YteloamnakikbbaaDoor.JobPure

theorem pow_succ_int (b : Int) (i : Nat) : b * ((2 ^ (i + 1) : Nat) : Int) = 2 * (b * ((2 ^ i : Nat) : Int)) := by
  rw [Nat.pow_succ]
  push_cast
  rw [← Int.mul_assoc, Int.mul_comm (b * 2 ^ i) 2]
theorem delay_past {b c : Int} {i k : Nat} (h : i ≤ k) (hb : 1 ≤ b) (hc : c ≤ b * ((2 ^ i : Nat) : Int)) : delayP b c k = c := by
  unfold delayP
  have h1 := Nat.pow_le_pow_right (n := 2) (by omega) h
  generalize 2 ^ i = p at h1 hc
  generalize 2 ^ k = q at h1 ⊢
  have h2 : b * (p : Int) ≤ b * (q : Int) := Int.mul_le_mul_of_nonneg_left (by omega) (by omega)
  omega
set_option maxRecDepth 100000 in
theorem rdelay_any (b c t : Int) (k : Nat) (w : World) (hl : limOk b c t = true) (hk : k ≤ 64) :
    Calls Tryd.prog 17 #[.agg #[.int .i64 b, .int .i64 c, .int .i64 t], .int .i64 k] w fun e w' => e = .returned (.tuple #[.int .i64 (delayP b c k), .int .i64 0]) ∧ Below w.heap.size w w' := by
  obtain ⟨b1, b2, bc, c2, t1, t2⟩ := limOk_iff.1 hl
  have hlE : Aside0 (limE b c t = 0) := ⟨by rw [limE, hl]; rfl⟩
  clear hl
  obtain ⟨D, hD⟩ := named (delayP b c k)
  rw [← hD.out]
  have k0 : (0 : Int) ≤ (k : Int) := by omega
  go_enter Tryd.func17, Tryd.ntmps17
  go_wp2_with (go_at_call 9; refine (rlim_any _ _ _ _).mono ?_; rw [hlE.out]; rintro e w1 ⟨rfl, hb1⟩; (have HB1 := Aside0.mk (bthen (below_alloc (Below.refl _ w) _) hb1)); (have HL1 := Aside0.mk (blk_keep (blk_new _ _) hb1)); obtain ⟨l0, l1, l2, _, _, _⟩ := all3 HL1.out; clear hb1)
  go_loopg [6, 7] k (fun g v6 v7 wr => ∃ (i : Nat) (d : Int), v7 = .int .i64 i ∧ g + i = k ∧ v6 = .int .i64 d ∧ Aside0 (d = b * ((2 ^ i : Nat) : Int)) ∧ 1 ≤ d ∧ d ≤ 4294967296 ∧ wr = w1)
  case atStart => exact ⟨0, b, rfl, by omega, rfl, ⟨by simp⟩, b1, by omega, rfl⟩
  case round =>
    obtain ⟨i, d, rfl, hg, rfl, HD, d1, d2, rfl⟩ := hrel
    by_cases hi : i < k
    · by_cases hd : d < c
      · go_wp2
        go_roundg (k - i - 1)
        case measure => omega
        case rel => exact ⟨i + 1, 2 * d, by go_num, by omega, rfl, ⟨by rw [HD.out, pow_succ_int]⟩, by omega, by omega, rfl⟩
      · have HX : Aside0 (min d c = D) := ⟨by rw [hD.out, delay_past (Nat.le_of_lt hi) b1 (by rw [← HD.out]; omega)]; omega⟩
        go_wp2
        go_ret2
        exact ⟨by rw [← HX.out]; rfl, HB1.out⟩
    · obtain rfl : i = k := by omega
      have HX : Aside0 (min d c = D) := ⟨by rw [hD.out, delayP, HD.out]; omega⟩
      go_wp2
      go_ret2
      exact ⟨by rw [← HX.out]; rfl, HB1.out⟩

theorem num_any (n : Int) (w : World) : Calls Tryd.prog 10 #[.int .i64 n] w fun e w' => e = .returned (.int .i64 n) ∧ w = w' := by
  go_enter Tryd.func10, Tryd.ntmps10
  go_wp2
  go_ret
  exact ⟨rfl, rfl⟩
set_option maxRecDepth 100000 in
theorem alive_any (w : World) : Calls Tryd.prog 7 #[] w fun e w' => e = .returned (.bool true) ∧ Below w.heap.size w w' := by
  have CF : Aside0 (∀ W', Calls Tryd.prog 14 #[.agg #[.int .i64 1, .string ⟨#[]⟩, .string ⟨#[]⟩, .string ⟨#[]⟩, .int .i64 2, .int .i64 0, .int .i64 0, .int .i64 1, .int .i64 1, .int .i64 20], .agg #[.int .i64 3, .int .i64 9, .int .i64 4], .int .i64 10] W' fun e w' => e = .returned (.tuple #[.agg #[.int .i64 1, .string ⟨#[]⟩, .string ⟨#[]⟩, .string ⟨#[]⟩, .int .i64 1, .int .i64 13, .int .i64 1, .int .i64 0, .int .i64 0, .int .i64 0], .int .i64 0]) ∧ Below W'.heap.size W' w') := ⟨fun W' => by
    have h := fail_any Lasts.all 0 (fun _ => (0, false)) ⟨1, ⟨#[]⟩, ⟨#[]⟩, ⟨#[]⟩, 2, 0, 0, 1, 1, 20⟩ 3 9 4 10 W' trivial (CronSays.none _ _ _)
    have e1 : failE 0 ⟨1, ⟨#[]⟩, ⟨#[]⟩, ⟨#[]⟩, 2, 0, 0, 1, 1, 20⟩ 3 9 4 10 = 0 := by decide
    have e2 : failJ 0 (0, false) ⟨1, ⟨#[]⟩, ⟨#[]⟩, ⟨#[]⟩, 2, 0, 0, 1, 1, 20⟩ 3 9 4 10 = ⟨1, ⟨#[]⟩, ⟨#[]⟩, ⟨#[]⟩, 1, 13, 1, 0, 0, 0⟩ := by
      rw [failJ, e1, if_pos rfl, failG, if_pos (by decide)]
      rfl
    rw [e1, e2] at h
    exact h⟩
  go_enter Tryd.func7, Tryd.ntmps7
  go_wp2_with (first
    | (go_at_call 14; refine (CF.out _).mono ?_; rintro e w1 ⟨rfl, hb1⟩; (have HB1 := Aside0.mk (bthen (below_alloc (Below.refl _ w) _) hb1)); clear hb1)
    | (go_at_call 10; refine (num_any _ _).mono ?_; rintro e w2 ⟨rfl, rfl⟩))
  go_ret
  exact ⟨rfl, below_alloc HB1.out _⟩
end Go.Proofs.YteloamnakikbbaaDoor.Job

/- The document's cut and number, walked. -/
namespace Go.Proofs.YteloamnakikbbaaDoor.Cron
set_option linter.unusedVariables false
set_option linter.unusedSimpArgs false
open Go.RowKit Go.Proofs.YteloamnakikbbaaDoorW.PrintWords Go.Proofs.YteloamnakikbbaaDoorW.PrintLast Go.Proofs.YteloamnakikbbaaDoor.Base Go.Proofs.YteloamnakikbbaaDoor.CronPure Go.Proofs.YteloamnakikbbaaDoor.NamesPure

theorem occ_one (l : List UInt8) (c : UInt8) (i : Nat) : Lib.occAt l [c] i = true ↔ l[i]? = some c := by
  unfold Lib.occAt
  by_cases h : i < l.length
  · rw [List.drop_eq_getElem_cons h, List.getElem?_eq_getElem h]
    simp [List.isPrefixOf]
    exact eq_comm
  · rw [List.drop_of_length_le (by omega), List.getElem?_eq_none (by omega)]
    simp [List.isPrefixOf]
theorem index_hit {l : List UInt8} {c : UInt8} {i : Nat} (h : ∀ j, j < i → l[j]? ≠ some c) (hi : l[i]? = some c) : Lib.index l [c] = i := by
  have hlt : i < l.length := by
    by_cases g : i < l.length
    · exact g
    · rw [List.getElem?_eq_none (by omega)] at hi; cases hi
  rcases Lib.index_spec l [c] with ⟨_, h2⟩ | ⟨k, h1, h2, h3, h4⟩
  · have := h2 i (by omega)
    rw [(occ_one l c i).2 hi] at this
    cases this
  · rw [h1]
    have k1 : ¬ k < i := fun g => h k g ((occ_one l c k).1 h3)
    have k2 : ¬ i < k := fun g => by
      have := h4 i g
      rw [(occ_one l c i).2 hi] at this
      cases this
    have : k = i := by omega
    rw [this]
theorem index_miss {l : List UInt8} {c : UInt8} (h : ∀ j, j < l.length → l[j]? ≠ some c) : Lib.index l [c] = -1 := by
  rcases Lib.index_spec l [c] with ⟨h1, _⟩ | ⟨k, h1, h2, h3, h4⟩
  · exact h1
  · have h5 := (occ_one l c k).1 h3
    by_cases g : k < l.length
    · exact absurd h5 (h k g)
    · rw [List.getElem?_eq_none (by omega)] at h5; cases h5
theorem at_byte (s : ByteArray) (j : Nat) (h : j < s.size) : s.data.toList[j]? = some s[j] := by
  have h' : j < s.data.toList.length := by simpa using h
  rw [List.getElem?_eq_getElem h']
  rfl
set_option maxRecDepth 100000 in
set_option maxHeartbeats 1000000 in
theorem rcut_any (s : ByteArray) (c : UInt8) (w : World) (hs : s.size ≤ 1000) : Calls Tryd.prog 38 #[.string s, .int .u8 (c.toNat : Int)] w fun e w' => e = .returned (.int .i64 (Lib.index s.data.toList [c])) ∧ w' = w := by
  have hsz : s.data.toList.length = s.size := by simp
  obtain ⟨R, hR⟩ := named (Lib.index s.data.toList [c])
  obtain ⟨C, hC⟩ : ∃ C : Int, C = (c.toNat : Int) := ⟨_, rfl⟩
  rw [← hR.out, ← hC]
  have HC := Aside0.mk hC
  have HSZ := Aside0.mk hsz
  clear hC hsz
  go_enter Tryd.func38, Tryd.ntmps38
  go_wp2
  go_loopg [5] s.size (fun g v5 wr => ∃ j : Nat, v5 = .int .i64 j ∧ g + j = s.size ∧ Aside0 (∀ k, k < j → s.data.toList[k]? ≠ some c) ∧ Aside0 (wr = w))
  case atStart => exact ⟨0, rfl, by omega, ⟨fun k hk => absurd hk (Nat.not_lt_zero k)⟩, ⟨rfl⟩⟩
  case round =>
    obtain ⟨j, rfl, hg, HN, HW⟩ := hrel
    have hw := HW.out
    subst hw
    by_cases hlt : j < s.size
    · have hlt' : (j : Int) < (s.size : Int) := by omega
      have HB := Aside0.mk (at_byte s j hlt)
      by_cases hb : s[j] = c
      · have HI : Aside0 (R = (j : Int)) := ⟨by rw [hR.out]; exact index_hit HN.out (by rw [HB.out, hb])⟩
        have hq : ((s[j].toNat : Int) == C) = true := by rw [HC.out, hb]; simp
        clear hR hb
        obtain rfl := HI.out
        go_wp2
        go_ret
        exact ⟨rfl, rfl⟩
      · have hq : ((s[j].toNat : Int) == C) = false := by
          rw [HC.out, beq_eq_false_iff_ne]
          exact fun h => hb (UInt8.toNat_inj.1 (by omega))
        have HN2 : Aside0 (∀ k, k < j + 1 → s.data.toList[k]? ≠ some c) := ⟨fun k hk => by
          by_cases g : k < j
          · exact HN.out k g
          · have : k = j := by omega
            subst this
            rw [HB.out]
            exact fun h => hb (Option.some.inj h)⟩
        clear hb
        go_wp2
        go_roundg (s.size - (j + 1))
        case measure => omega
        case rel => exact ⟨j + 1, by go_num, by omega, HN2, ⟨rfl⟩⟩
    · have HI : Aside0 (R = -1) := ⟨by rw [hR.out]; exact index_miss fun k hk => HN.out k (by rw [HSZ.out] at hk; omega)⟩
      clear hR
      obtain rfl := HI.out
      go_wp2
      go_ret
      exact ⟨rfl, rfl⟩
/-- a number, or -1 -/
def numR (l : List UInt8) : Int := if numOk l then numV l else -1
set_option maxRecDepth 100000 in
set_option maxHeartbeats 1000000 in
theorem rnumber_any (s : ByteArray) (w : World) (hs : s.size ≤ 1000) : Calls Tryd.prog 51 #[.string s] w fun e w' => e = .returned (.int .i64 (numR s.data.toList)) ∧ w' = w := by
  have hsz : s.data.toList.length = s.size := by simp
  by_cases h1 : s.size < 1
  · have h := numOk_no (l := s.data.toList) (.inl (by omega))
    rw [numR, h.1, if_neg (by simp)]
    clear h hsz
    go_enter Tryd.func51, Tryd.ntmps51
    go_wp2
    go_ret
    exact ⟨rfl, rfl⟩
  by_cases h2 : 2 < s.size
  · have h := numOk_no (l := s.data.toList) (.inr (by omega))
    rw [numR, h.1, if_neg (by simp)]
    clear h hsz
    go_enter Tryd.func51, Tryd.ntmps51
    go_wp2
    go_ret
    exact ⟨rfl, rfl⟩
  obtain ⟨l, hl⟩ := named s.data.toList
  have HL : Aside0 (l.length = s.size) := ⟨by rw [hl.out]; exact hsz⟩
  rw [← hl.out]
  clear hsz
  go_enter Tryd.func51, Tryd.ntmps51
  go_wp2
  go_loopg [3, 4] s.size (fun g v3 v4 wr => ∃ j : Nat, v4 = .int .i64 j ∧ g + j = s.size ∧ v3 = .int .i64 (valB (l.take j)) ∧ Aside0 ((l.take j).all digB = true) ∧ Aside0 (wr = w))
  case atStart => exact ⟨0, rfl, by omega, rfl, ⟨rfl⟩, ⟨rfl⟩⟩
  case round =>
    obtain ⟨j, rfl, hg, rfl, hD, HW⟩ := hrel
    have hw := HW.out
    subst hw
    by_cases hlt : j < s.size
    · have hlt' : (j : Int) < (s.size : Int) := by omega
      have HB : Aside0 (l[j]? = some s[j]) := ⟨by rw [hl.out]; exact at_byte s j hlt⟩
      have hc255 : (s[j].toNat : Int) ≤ 255 := by have := s[j].toNat_lt; omega
      have hvb : 0 ≤ valB (l.take j) ∧ valB (l.take j) < 100 := by
        have h3 := valB_bd _ hD.out
        have h4 : (10 : Int) ^ (l.take j).length ≤ 10 ^ 2 := by
          have : (l.take j).length ≤ 2 := by rw [List.length_take]; omega
          exact_mod_cast Nat.pow_le_pow_right (by decide : 0 < 10) this
        omega
      obtain ⟨hv0, hv1⟩ := hvb
      have hsn : Aside0 (l.take (j + 1) = l.take j ++ [s[j]]) := ⟨by rw [List.take_add_one, HB.out]; rfl⟩
      by_cases hd : digB s[j] = true
      · have hd1 : 48 ≤ (s[j].toNat : Int) := (digB_iff.1 hd).1
        have hd2 : (s[j].toNat : Int) ≤ 57 := (digB_iff.1 hd).2
        have HDc := Aside0.mk hd
        clear hd
        go_wp2
        go_roundg (s.size - (j + 1))
        case measure => omega
        case rel => exact ⟨j + 1, by go_num, by omega, by rw [hsn.out, valB_snoc], ⟨by rw [hsn.out, List.all_append, hD.out]; simp [HDc.out]⟩, ⟨rfl⟩⟩
      · have hbad : Aside0 (numR l = -1) := ⟨by
          have : l.all digB = false := by
            rw [List.all_eq_false]
            exact ⟨s[j], List.mem_of_getElem? HB.out, hd⟩
          rw [numR, numOk, this, Bool.and_false, if_neg (by simp)]⟩
        have hd' : (s[j].toNat : Int) < 48 ∨ 57 < (s[j].toNat : Int) := by
          have : ¬ (48 ≤ (s[j].toNat : Int) ∧ (s[j].toNat : Int) ≤ 57) := fun h => hd (digB_iff.2 h)
          omega
        clear hd
        rcases hd' with hd1 | hd1
        · go_wp2
          go_ret
          exact ⟨by rw [hbad.out]; rfl, rfl⟩
        · have hd2 : 48 ≤ (s[j].toNat : Int) := by omega
          go_wp2
          go_ret
          exact ⟨by rw [hbad.out]; rfl, rfl⟩
    · obtain rfl : j = s.size := by omega
      have hok : Aside0 (numR l = valB (l.take s.size)) := ⟨by
        have ht : l.take s.size = l := List.take_of_length_le (by rw [HL.out]; exact Nat.le_refl _)
        have h3 := hD.out
        rw [ht] at h3
        have : numOk l = true := by
          rw [numOk, h3, HL.out]
          simp; omega
        rw [numR, if_pos this, ht, numV, this]; rfl⟩
      go_wp2
      go_ret
      exact ⟨by rw [hok.out]; rfl, rfl⟩
end Go.Proofs.YteloamnakikbbaaDoor.Cron

/- The document's item: plain. -/
namespace Go.Proofs.YteloamnakikbbaaDoor.Cron
set_option linter.unusedVariables false
set_option linter.unusedSimpArgs false
open Go.RowKit Go.Proofs.YteloamnakikbbaaDoorW.PrintWords Go.Proofs.YteloamnakikbbaaDoorW.PrintLast Go.Proofs.YteloamnakikbbaaDoor.Base Go.Proofs.YteloamnakikbbaaDoor.CronPure Go.Proofs.YteloamnakikbbaaDoor.NamesPure

/-- from where to where, of what stands ahead of a step -/
def spanD (lo hi : Int) (a : List UInt8) (stepped : Bool) : Option (Int × Int) :=
  if a = [42] then some (lo, hi)
  else if Lib.index a [45] < 0 then (if stepped then none else some (numR a, numR a))
  else some (numR (a.take (Lib.index a [45]).toNat), numR (a.drop ((Lib.index a [45]).toNat + 1)))
/-- the set of a span -/
def setD (lo hi : Int) (st : Int) : Option (Int × Int) → Nat
  | none => 0
  | some (f, t) => if f < lo ∨ hi < t ∨ t < f then 0 else setOf f.toNat t.toNat st.toNat
/-- the document's item: 0 where it is none -/
def itemD (lo hi : Int) (l : List UInt8) : Nat :=
  if Lib.index l [47] < 0 then setD lo hi 1 (spanD lo hi l false)
  else if numR (l.drop ((Lib.index l [47]).toNat + 1)) < 1 then 0
  else setD lo hi (numR (l.drop ((Lib.index l [47]).toNat + 1))) (spanD lo hi (l.take (Lib.index l [47]).toNat) true)
theorem numR_eq (l : List UInt8) : (numOk l = true ∧ numR l = numV l) ∨ (numOk l = false ∧ numR l = -1 ∧ numV l = 0) := by
  unfold numR numV
  cases h : numOk l with
  | true => exact .inl ⟨rfl, rfl⟩
  | false => exact .inr ⟨rfl, rfl, rfl⟩
theorem setD_eq {lo hi : Int} (h0 : 0 ≤ lo) (h1 : lo ≤ hi) (a : List UInt8) (stepped : Bool) (st : Int) :
    (if !(spreadP lo hi a).2.2.2 || (stepped && !(spreadP lo hi a).2.2.1) then none else some (setOf (spreadP lo hi a).1.toNat (spreadP lo hi a).2.1.toNat st.toNat)).getD 0 = setD lo hi st (spanD lo hi a stepped) := by
  unfold spreadP spanD
  by_cases ha : a = [42]
  · have hn : ¬ (lo < lo ∨ hi < hi ∨ hi < lo) := by omega
    rw [if_pos ha, if_pos ha]
    simp only [setD]
    rw [if_neg hn]
    simp
  rw [if_neg ha, if_neg ha]
  by_cases hi0 : Lib.index a [45] < 0
  · rw [if_pos hi0]
    have hc : Lib.cut a [45] = (a, [], false) := by
      have : ¬ 0 ≤ Lib.index a [45] := by omega
      unfold Lib.cut; rw [if_neg this]
    simp only [hc]
    cases stepped with
    | true => simp [setD]
    | false =>
      simp only [Bool.false_eq_true, if_false, setD]
      rcases numR_eq a with ⟨q1, q2⟩ | ⟨q1, q2, q3⟩
      · rw [q1, q2]
        by_cases hb : numV a < lo ∨ hi < numV a ∨ numV a < numV a
        · rw [if_pos hb]
          by_cases g1 : lo ≤ numV a <;> by_cases g2 : numV a ≤ hi <;> first | (exfalso; omega) | simp [g1, g2]
        · rw [if_neg hb]
          have g1 : lo ≤ numV a := by omega
          have g2 : numV a ≤ hi := by omega
          simp [g1, g2]
      · rw [q1, q2, if_pos (Or.inl (by omega))]
        simp
  · rw [if_neg hi0]
    obtain ⟨x, hx⟩ : ∃ x, x = a.take (Lib.index a [45]).toNat := ⟨_, rfl⟩
    obtain ⟨y, hy⟩ : ∃ y, y = a.drop ((Lib.index a [45]).toNat + 1) := ⟨_, rfl⟩
    have hc : Lib.cut a [45] = (x, y, true) := by
      have : 0 ≤ Lib.index a [45] := by omega
      unfold Lib.cut; rw [if_pos this, hx, hy]; rfl
    simp only [hc]
    rw [← hx, ← hy]
    have bx := numV_bd x
    have bY := numV_bd y
    simp only [setD, if_true]
    rcases numR_eq x with ⟨q1, q2⟩ | ⟨q1, q2, q3⟩
    · rcases numR_eq y with ⟨r1, r2⟩ | ⟨r1, r2, r3⟩
      · rw [q1, q2, r1, r2]
        by_cases hb : numV x < lo ∨ hi < numV y ∨ numV y < numV x
        · rw [if_pos hb]
          by_cases g1 : lo ≤ numV x <;> by_cases g2 : numV y ≤ hi <;> by_cases g3 : numV x ≤ numV y <;> first | (exfalso; omega) | simp [g1, g2, g3]
        · rw [if_neg hb]
          have g1 : lo ≤ numV x := by omega
          have g2 : numV y ≤ hi := by omega
          have g3 : numV x ≤ numV y := by omega
          simp [g1, g2, g3]
      · have hb : numV x < lo ∨ hi < -1 ∨ -1 < numV x := by omega
        rw [q1, q2, r1, r2, if_pos hb]
        simp
    · rw [q1, q2, if_pos (Or.inl (by omega))]
      simp
theorem item_eq {lo hi : Int} (h0 : 0 ≤ lo) (h1 : lo ≤ hi) (l : List UInt8) : (itemP lo hi l).getD 0 = itemD lo hi l := by
  unfold itemP itemD
  by_cases hi0 : Lib.index l [47] < 0
  · rw [if_pos hi0]
    have hc : Lib.cut l [47] = (l, [], false) := by
      have : ¬ 0 ≤ Lib.index l [47] := by omega
      unfold Lib.cut; rw [if_neg this]
    simp only [hc]
    have h := setD_eq h0 h1 l false 1
    simpa using h
  · rw [if_neg hi0]
    obtain ⟨x, hx⟩ : ∃ x, x = l.take (Lib.index l [47]).toNat := ⟨_, rfl⟩
    obtain ⟨y, hy⟩ : ∃ y, y = l.drop ((Lib.index l [47]).toNat + 1) := ⟨_, rfl⟩
    have hc : Lib.cut l [47] = (x, y, true) := by
      have : 0 ≤ Lib.index l [47] := by omega
      unfold Lib.cut; rw [if_pos this, hx, hy]; rfl
    simp only [hc]
    rw [← hx, ← hy]
    have bY := numV_bd y
    rcases numR_eq y with ⟨r1, r2⟩ | ⟨r1, r2, r3⟩
    · by_cases hz : numV y = 0
      · rw [if_pos (by simp [hz]), r2, if_pos (by omega)]
        rfl
      · have hlt : ¬ numV y < 1 := by omega
        have e1 : ¬ ((true && (!numOk y || decide (numV y = 0))) = true) := by simp [r1, hz]
        rw [r2, if_neg hlt, if_neg e1]
        have h := setD_eq h0 h1 x true (numV y)
        simpa using h
    · rw [if_pos (by simp [r1]), r2, if_pos (by omega)]
      rfl
end Go.Proofs.YteloamnakikbbaaDoor.Cron
