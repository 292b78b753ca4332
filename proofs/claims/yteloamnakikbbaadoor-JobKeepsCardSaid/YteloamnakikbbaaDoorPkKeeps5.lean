/- A part of the proof: A job that is handed in, read out of 'DataW.trod', with the size of its rule; the library's table of 64 places, out of what a row lists. -/
import Derived.Test.YteloamnakikbbaaDoorPkKeeps4
import Derived.Test.YteloamnakikbbaaDoorPkKeeps2
import Derived.Test.YteloamnakikbbaaDoorPkKeeps1
import Derived.Deep.RegionHeld3
import Derived.Test.YteloamnakikbbaaDoorProg
import Derived.WalkKit
import Derived.WalkLawsBesides
import Derived.KernelRfl
import Derived.Deep.QuietTactic
import Derived.BigQuiet
import Derived.Deep.LoopGhost

/- A job that is handed in, read out of 'DataW.trod', with the size of its rule; the library's table of 64 places, out of what a row lists. -/
namespace Go.Proofs.YteloamnakikbbaaDoor.LiftJ
set_option linter.unusedVariables false
set_option linter.unusedSimpArgs false
open Go.ChangeShapes Go.WideShapes Go.ChangeAt Go.RowKit Go.Proofs.YteloamnakikbbaaDoorW.PrintWords Go.Proofs.YteloamnakikbbaaDoorW.PrintLast Go.Proofs.YteloamnakikbbaaDoor.Base
theorem trod_strz {P : Program} {H : Type} {enc : TypeId × Value → H} {W : World} {base : Nat} {spare : Nat → Bool} {held : Bool} {t : TypeId} (hu : P.underlying t = some .string) {fuel : Nat} {v : Value} {d : DataW H} {p : List MemPlace} (h : DataW.trod enc P W base spare held fuel t [v] = some (d, p)) : ∃ s, v = .string s ∧ s.size ≤ maxLen := by
  obtain ⟨s', h, hx, hs⟩ := DataW.trod_string hu h
  simp at h
  subst h
  exact ⟨s', rfl, hs⟩
set_option maxRecDepth 100000 in
set_option maxHeartbeats 4000000 in
theorem trod_jobz {H : Type} {enc : TypeId × Value → H} {W : World} {base : Nat} {spare : Nat → Bool} {held : Bool} {fuel : Nat} {v : Value} {d : DataW H} {p : List MemPlace} (hv : ∃ cs, v = .agg cs)
    (h : DataW.trod enc Tryd.prog W base spare held fuel 49 v.cells.toList = some (d, p)) : ∃ id name rule payload status due tries worker token til, v = .agg #[.int .i64 id, .string name, .string rule, .string payload, .int .i64 status, .int .i64 due, .int .i64 tries, .int .i64 worker, .int .i64 token, .int .i64 til] ∧ rule.size ≤ maxLen := by
  obtain ⟨cs, rfl⟩ := hv
  have hcs : (Value.agg cs).cells.toList = cs.toList := rfl
  rw [hcs] at h
  cases fuel with
  | zero => simp [DataW.trod] at h
  | succ fuel =>
    unfold DataW.trod at h
    rw [Tryd.underlying49] at h
    have hc : Tryd.prog.cellsOf 49 = 10 := by kernel_rfl
    have hi : Tryd.prog.cellsOf 3 = 1 := by kernel_rfl
    have hs : Tryd.prog.cellsOf 9 = 1 := by kernel_rfl
    simp only [hc] at h
    by_cases hl : cs.toList.length = 10
    · rw [if_pos hl] at h
      obtain ⟨v0, v1, v2, v3, v4, v5, v6, v7, v8, v9, hcl⟩ : ∃ v0 v1 v2 v3 v4 v5 v6 v7 v8 v9, cs.toList = [v0, v1, v2, v3, v4, v5, v6, v7, v8, v9] := by
        generalize cs.toList = L at hl
        rcases L with _ | ⟨v0, _ | ⟨v1, _ | ⟨v2, _ | ⟨v3, _ | ⟨v4, _ | ⟨v5, _ | ⟨v6, _ | ⟨v7, _ | ⟨v8, _ | ⟨v9, _ | ⟨v10, r⟩⟩⟩⟩⟩⟩⟩⟩⟩⟩⟩ <;> simp at hl
        exact ⟨v0, v1, v2, v3, v4, v5, v6, v7, v8, v9, rfl⟩
      rw [hcl] at h
      obtain ⟨xs, h1, h2⟩ := Option.map_eq_some_iff.1 h
      obtain ⟨e1, e2⟩ := mapM_each _ _ _ h1
      obtain ⟨⟨d0, p0⟩, f0, g0⟩ := e2 0 _ rfl
      obtain ⟨⟨d1, p1⟩, f1, g1⟩ := e2 1 _ rfl
      obtain ⟨⟨d2, p2⟩, f2, g2⟩ := e2 2 _ rfl
      obtain ⟨⟨d3, p3⟩, f3, g3⟩ := e2 3 _ rfl
      obtain ⟨⟨d4, p4⟩, f4, g4⟩ := e2 4 _ rfl
      obtain ⟨⟨d5, p5⟩, f5, g5⟩ := e2 5 _ rfl
      obtain ⟨⟨d6, p6⟩, f6, g6⟩ := e2 6 _ rfl
      obtain ⟨⟨d7, p7⟩, f7, g7⟩ := e2 7 _ rfl
      obtain ⟨⟨d8, p8⟩, f8, g8⟩ := e2 8 _ rfl
      obtain ⟨⟨d9, p9⟩, f9, g9⟩ := e2 9 _ rfl
      simp only [hi, hs, List.drop_zero, List.drop_succ_cons, List.take_succ_cons, List.take_zero] at f0 f1 f2 f3 f4 f5 f6 f7 f8 f9
      obtain ⟨id, rfl, e10', _⟩ := trod_int Tryd.underlying3 f0
      obtain ⟨name, rfl, e11'⟩ := trod_str Tryd.underlying9 f1
      obtain ⟨rule, rfl, hz⟩ := trod_strz Tryd.underlying9 f2
      obtain ⟨payload, rfl, e13'⟩ := trod_str Tryd.underlying9 f3
      obtain ⟨status, rfl, e14', _⟩ := trod_int Tryd.underlying3 f4
      obtain ⟨due, rfl, e15', _⟩ := trod_int Tryd.underlying3 f5
      obtain ⟨tries, rfl, e16', _⟩ := trod_int Tryd.underlying3 f6
      obtain ⟨worker, rfl, e17', _⟩ := trod_int Tryd.underlying3 f7
      obtain ⟨token, rfl, e18', _⟩ := trod_int Tryd.underlying3 f8
      obtain ⟨til, rfl, e19', _⟩ := trod_int Tryd.underlying3 f9
      obtain ⟨h3, h4⟩ := Prod.mk.inj h2
      exact ⟨id, name, rule, payload, status, due, tries, worker, token, til, congrArg Value.agg (Array.toList_inj.1 hcl), hz⟩
    · rw [if_neg hl] at h; cases h

set_option maxRecDepth 100000 in
theorem tab64 {W : World} {rest : List (String × DataW Unit)} (h : laidMet Tryd.prog (("math/bits.deBruijn64tab", Rows.laid_math_bits_deBruijn64tab) :: rest) W) : Cron.Tab64 W := by
  have h2 : Lib.TabIs Tryd.prog W "math/bits.deBruijn64tab" .u8 (Lib.deBruijn64tab.map fun n : Nat => (n : Int)) :=
    Lib.tabIs_of_head (g := 0) (t := 153) (e := 5) (n := 64) (rest := rest) (by kernel_rfl) (by kernel_rfl) Tryd.underlying153 Tryd.underlying5 (by kernel_rfl) (by kernel_rfl) h
  intro j hj
  have h3 := h2.cell (g := 0) (by kernel_rfl) j (by rw [List.length_map]; exact hj)
  rw [h3, List.getD_eq_getElem?_getD, List.getElem?_map, List.getD_eq_getElem?_getD]
  rw [List.getElem?_eq_getElem hj]
  rfl
end Go.Proofs.YteloamnakikbbaaDoor.LiftJ

/- job: again, walked. -/
namespace Go.Proofs.YteloamnakikbbaaDoor.Job
set_option linter.unusedVariables false
set_option linter.unusedSimpArgs false
open Go.RowKit Go.Proofs.YteloamnakikbbaaDoorW.PrintWords Go.Proofs.YteloamnakikbbaaDoorW.PrintLast Go.Proofs.YteloamnakikbbaaDoor.Base Go.Proofs.YteloamnakikbbaaDoor.Cells Go.Proofs.YteloamnakikbbaaDoor.JobPure

set_option maxRecDepth 100000 in
set_option maxHeartbeats 1000000 in
theorem again_any {T : World → Prop} (hT : Lasts T) (pe : Int) (nx : Int → Int × Bool) (j : Jb) (now : Int) (w : World) (hw : T w) (hp : CronSays T j.rule pe nx) (hpe : j.rule ≠ ⟨#[]⟩ → pe = 0) (n0 : 0 ≤ now) (n1 : now < 32503680000) :
    Calls Tryd.prog 32 #[.agg #[.int .i64 j.id, .string j.name, .string j.rule, .string j.payload, .int .i64 j.status, .int .i64 j.due, .int .i64 j.tries, .int .i64 j.worker, .int .i64 j.token, .int .i64 j.til], .int .i64 now] w fun e w' => e = .returned (.tuple #[.agg (jc (againJ (nx now) j).1), .bool (againJ (nx now) j).2]) ∧ Below w.heap.size w w' := by
  obtain ⟨id, name, rule, payload, status, due, tries, worker, token, til⟩ := j
  dsimp only at hp hpe ⊢
  have HTW := Aside0.mk (And.intro hT hw)
  clear hT hw
  by_cases r0 : rule = ⟨#[]⟩
  · subst r0
    have HE : Aside0 (againJ (nx now) ⟨id, name, ⟨#[]⟩, payload, status, due, tries, worker, token, til⟩ = (JobPure.j0, false)) := ⟨rfl⟩
    rw [HE.out]
    clear hp hpe
    go_enter Tryd.func32, Tryd.ntmps32
    go_wp2
    refine bodyPost_ret (results_ct rfl _ _ (w.heap.size + 1) 35 #[.int .i64 0, .string ⟨#[]⟩, .string ⟨#[]⟩, .string ⟨#[]⟩, .int .i64 0, .int .i64 0, .int .i64 0, .int .i64 0, .int .i64 0, .int .i64 0] (0, 0) _ rfl (blk_new1 _ _ _ _) Tryd.underlying35 rfl (by kernel_rfl)) rfl ?_
    exact ⟨rfl, below_alloc (below_alloc (Below.refl _ _) _) _⟩
  · obtain ⟨r1, r2⟩ := tl0 r0
    obtain rfl := hpe r0
    obtain ⟨a, b, c, d, f, x, y, h1, h2⟩ := hp r0
    have HPA := Aside0.mk h1
    have HNX := Aside0.mk (h2 rfl now)
    obtain ⟨t, ht⟩ := named (nx now).1
    obtain ⟨ok, hok⟩ := named (nx now).2
    have HE : Aside0 (againJ (nx now) ⟨id, name, rule, payload, status, due, tries, worker, token, til⟩ = (⟨id, name, rule, payload, 1, t, 0, 0, 0, 0⟩, ok)) := ⟨by
      rw [againJ, if_neg (fun h => r0 (size0.1 h)), ht.out, hok.out]; rfl⟩
    rw [HE.out]
    clear hp hpe h1 h2
    go_enter Tryd.func32, Tryd.ntmps32
    go_wp2_with (first
      | (go_at_call 25; refine (HPA.out _ (HTW.out.1 _ _ HTW.out.2 (below_alloc (below_alloc (Below.refl _ w) _) _))).mono ?_; rintro e w1 ⟨rfl, hb1⟩; (have HB1 := Aside0.mk (bthen (below_alloc (below_alloc (Below.refl _ w) _) _) hb1)); (have HBK1 := Aside0.mk (blk_keep (blk_new1 _ _ _ _) hb1)); (have HBJ1 := Aside0.mk (blk_keep (blk_alloc (blk_new _ _) _) hb1)); clear hb1)
      | (go_at_call 46; refine (HNX.out _ (HTW.out.1 _ _ HTW.out.2 (below_alloc HB1.out _)) n0 n1).mono ?_; rw [← ht.out, ← hok.out]; rintro e w2 ⟨ne, rfl, hb2⟩; (have HB2 := Aside0.mk (bthen (below_alloc HB1.out _) hb2)); (have HBK2 := Aside0.mk (blk_keep (blk_alloc HBK1.out _) hb2)); (have HBJ2 := Aside0.mk (blk_keep (blk_alloc HBJ1.out _) hb2)); (have lk := blk_lt HBK2.out); (have lj := blk_lt HBJ2.out); obtain ⟨j0, j1, j2, j3, j4, j5, j6, j7, j8, j9⟩ := all10 HBJ2.out; (have g6 := blk_frozen HBJ2.out 6); clear hb2)
      | (go_at_call 34; refine (hold_any ⟨id, name, rule, payload, status, due, 0, worker, token, til⟩ 1 t 0 0 0 _).mono ?_; rintro e w3 ⟨rfl, hb3⟩; (have HB3 := Aside0.mk (bthen (HB2.out.setCell (p := ⟨w.heap.size, 6, none⟩) (Nat.le_refl _) _) hb3)); (have HBK3 := Aside0.mk (blk_keep ((Below.heap_setCell _ ⟨w.heap.size, 6, none⟩ _ _ (by simp)).trans HBK2.out) hb3)); clear j0 j1 j2 j3 j4 j5 j6 j7 j8 j9; obtain ⟨k0, k1, k2, k3, k4, k5, k6, k7, k8, k9⟩ := all10 HBK3.out; obtain ⟨f0, f1, f2, f3, f4, f5, f6, f7, f8, f9⟩ := frz10 HBK3.out; clear hb3))
    refine bodyPost_ret (results_ct rfl _ _ (w.heap.size + 1) 35 #[.int .i64 id, .string name, .string rule, .string payload, .int .i64 1, .int .i64 t, .int .i64 0, .int .i64 0, .int .i64 0, .int .i64 0] (0, 0) _ rfl (blk10 HBK3.out) Tryd.underlying35 rfl (by kernel_rfl)) rfl ?_
    exact ⟨rfl, below_set10 HB3.out (Nat.le_succ _) _ _ _ _ _ _ _ _ _ _⟩
end Go.Proofs.YteloamnakikbbaaDoor.Job

/- job: Fail, walked. -/
namespace Go.Proofs.YteloamnakikbbaaDoor.Job
set_option linter.unusedVariables false
set_option linter.unusedSimpArgs false
open Go.RowKit Go.Proofs.YteloamnakikbbaaDoorW.PrintWords Go.Proofs.YteloamnakikbbaaDoorW.PrintLast Go.Proofs.YteloamnakikbbaaDoor.Base Go.Proofs.YteloamnakikbbaaDoor.Cells Go.Proofs.YteloamnakikbbaaDoor.JobPure


theorem due_int (b c t now k : Int) (w : World) (hl : limOk b c t = true) (k0 : 0 ≤ k) (hk : k ≤ 64) (n0 : 0 ≤ now) (n1 : now < 32503680000) :
    Calls Tryd.prog 33 #[.agg #[.int .i64 b, .int .i64 c, .int .i64 t], .int .i64 now, .int .i64 k] w fun e w' => e = .returned (.tuple #[.int .i64 (dueV b c now k.toNat), .int .i64 (dueE b c now k.toNat)]) ∧ Below w.heap.size w w' := by
  obtain ⟨n, rfl⟩ := Int.eq_ofNat_of_zero_le k0
  exact due_any b c t now n w hl (by omega) n0 n1

theorem idx3_0 (a b c : Int) (w : World) : (Instr.index 78 (.agg #[.int .i64 a, .int .i64 b, .int .i64 c]) (.int .i64 0)).run Tryd.prog w = .ok (.int .i64 a) w := by
  simp [Instr.index, run_underlying Tryd.underlying78, asIntOf, go_sem, Tryd.sizeOf32]
theorem idx3_1 (a b c : Int) (w : World) : (Instr.index 78 (.agg #[.int .i64 a, .int .i64 b, .int .i64 c]) (.int .i64 1)).run Tryd.prog w = .ok (.int .i64 b) w := by
  simp [Instr.index, run_underlying Tryd.underlying78, asIntOf, go_sem, Tryd.sizeOf32]
theorem idx3_2 (a b c : Int) (w : World) : (Instr.index 78 (.agg #[.int .i64 a, .int .i64 b, .int .i64 c]) (.int .i64 2)).run Tryd.prog w = .ok (.int .i64 c) w := by
  simp [Instr.index, run_underlying Tryd.underlying78, asIntOf, go_sem, Tryd.sizeOf32]
/-- what stands behind the three tests -/
def Head (w : World) (id status due tries worker token til b c t : Int) (name rule payload : ByteArray) (wc : World) : Prop :=
  wc.heap[w.heap.size]? = some (.cells #[.int .i64 id, .string name, .string rule, .string payload, .int .i64 status, .int .i64 due, .int .i64 tries, .int .i64 worker, .int .i64 token, .int .i64 til] 35 (0, 0)) ∧ wc.heap[w.heap.size + 1]? = some (.cells #[.int .i64 b, .int .i64 c, .int .i64 t] 42 (0, 0)) ∧ wc.heap[w.heap.size + 1 + 1]? = some (.cells #[.int .i64 0, .string ⟨#[]⟩, .string ⟨#[]⟩, .string ⟨#[]⟩, .int .i64 0, .int .i64 0, .int .i64 0, .int .i64 0, .int .i64 0, .int .i64 0] 35 (0, 0)) ∧ Below w.heap.size w wc
theorem Head.below {w wc w1 : World} {id status due tries worker token til b c t : Int} {name rule payload : ByteArray} (h : Head w id status due tries worker token til b c t name rule payload wc) (hb : Below wc.heap.size wc w1) : Head w id status due tries worker token til b c t name rule payload w1 :=
  ⟨blk_keep h.1 hb, blk_keep h.2.1 hb, blk_keep h.2.2.1 hb, bthen h.2.2.2 hb⟩

set_option maxRecDepth 100000 in
set_option maxHeartbeats 4000000 in
theorem fail_any {T : World → Prop} (hT : Lasts T) (pe : Int) (nx : Int → Int × Bool) (j : Jb) (b c t now : Int) (w : World) (hw : T w) (hp : CronSays T j.rule pe nx) :
    Calls Tryd.prog 14 #[.agg #[.int .i64 j.id, .string j.name, .string j.rule, .string j.payload, .int .i64 j.status, .int .i64 j.due, .int .i64 j.tries, .int .i64 j.worker, .int .i64 j.token, .int .i64 j.til], .agg #[.int .i64 b, .int .i64 c, .int .i64 t], .int .i64 now] w fun e w' => e = .returned (.tuple #[.agg (jc (failJ pe (nx now) j b c t now)), .int .i64 (failE pe j b c t now)]) ∧ Below w.heap.size w w' := by
  obtain ⟨id, name, rule, payload, status, due, tries, worker, token, til⟩ := j
  dsimp only at hp ⊢
  have HP := Aside0.mk hp
  have HTW : Aside0 (∀ w', Below w.heap.size w w' → T w') := ⟨fun w' h => hT _ _ hw h⟩
  have HLT := Aside0.mk hT
  clear hp hT hw
  obtain ⟨ce, hce⟩ := named (chkE pe ⟨id, name, rule, payload, status, due, tries, worker, token, til⟩)
  obtain ⟨le, hle⟩ := named (limE b c t)
  obtain ⟨se, hse⟩ := named (leasedE ⟨id, name, rule, payload, status, due, tries, worker, token, til⟩ now)
  obtain ⟨FJ, hFJ⟩ := named (jc (failJ pe (nx now) ⟨id, name, rule, payload, status, due, tries, worker, token, til⟩ b c t now))
  obtain ⟨FE, hFE⟩ := named (failE pe ⟨id, name, rule, payload, status, due, tries, worker, token, til⟩ b c t now)
  have HFE : Aside0 (FE = if ce ≠ 0 then ce else if le ≠ 0 then le else se) := ⟨by
    rw [hFE.out, hce.out, hle.out, hse.out, failE, chkE, limE]
    cases chk pe ⟨id, name, rule, payload, status, due, tries, worker, token, til⟩ <;> cases limOk b c t <;> simp⟩
  rw [← hFJ.out, ← hFE.out]
  go_enter Tryd.func14, Tryd.ntmps14
  go_upto_region 1 with (fail)
  obtain ⟨W, hW⟩ : ∃ W, W = ((w.alloc (.cells #[.int .i64 id, .string name, .string rule, .string payload, .int .i64 status, .int .i64 due, .int .i64 tries, .int .i64 worker, .int .i64 token, .int .i64 til] 35)).alloc (.cells #[.int .i64 b, .int .i64 c, .int .i64 t] 42)).alloc (.cells #[.int .i64 0, .string ⟨#[]⟩, .string ⟨#[]⟩, .string ⟨#[]⟩, .int .i64 0, .int .i64 0, .int .i64 0, .int .i64 0, .int .i64 0, .int .i64 0] 35) := ⟨_, rfl⟩
  have HH : Aside0 (Head w id status due tries worker token til b c t name rule payload W) := ⟨by
    rw [hW]
    exact ⟨blk_alloc (blk_alloc (blk_new _ _) _) _, blk_alloc (blk_new1 _ _ _ _) _, blk_new2 _ _ _ _ _, below_alloc (below_alloc (below_alloc (Below.refl _ _) _) _) _⟩⟩
  rw [← hW]
  clear hW
  go_cut [21, 22] (fun v21 v22 wc => v21 = .agg #[.int .i64 ce, .int .i64 le, .int .i64 se] ∧ v22 = .int .i64 0 ∧ Aside0 (Head w id status due tries worker token til b c t name rule payload wc))
  case first =>
    have FK : Aside0 (∀ w', Below W.heap.size W w' → w'.cell? ⟨w.heap.size, 0, none⟩ = some (.int .i64 id) ∧ w'.cell? ⟨w.heap.size, 1, none⟩ = some (.string name) ∧ w'.cell? ⟨w.heap.size, 2, none⟩ = some (.string rule) ∧ w'.cell? ⟨w.heap.size, 3, none⟩ = some (.string payload) ∧ w'.cell? ⟨w.heap.size, 4, none⟩ = some (.int .i64 status) ∧ w'.cell? ⟨w.heap.size, 5, none⟩ = some (.int .i64 due) ∧ w'.cell? ⟨w.heap.size, 6, none⟩ = some (.int .i64 tries) ∧ w'.cell? ⟨w.heap.size, 7, none⟩ = some (.int .i64 worker) ∧ w'.cell? ⟨w.heap.size, 8, none⟩ = some (.int .i64 token) ∧ w'.cell? ⟨w.heap.size, 9, none⟩ = some (.int .i64 til) ∧ w'.cell? ⟨w.heap.size + 1, 0, none⟩ = some (.int .i64 b) ∧ w'.cell? ⟨w.heap.size + 1, 1, none⟩ = some (.int .i64 c) ∧ w'.cell? ⟨w.heap.size + 1, 2, none⟩ = some (.int .i64 t)) := ⟨fun w' h => by
      obtain ⟨j0, j1, j2, j3, j4, j5, j6, j7, j8, j9⟩ := all10 (blk_keep HH.out.1 h)
      obtain ⟨l0, l1, l2, _, _, _⟩ := all3 (blk_keep HH.out.2.1 h)
      exact ⟨j0, j1, j2, j3, j4, j5, j6, j7, j8, j9, l0, l1, l2⟩⟩
    have CC : Aside0 (∀ W', Below W.heap.size W W' → Calls Tryd.prog 11 #[.agg #[.int .i64 id, .string name, .string rule, .string payload, .int .i64 status, .int .i64 due, .int .i64 tries, .int .i64 worker, .int .i64 token, .int .i64 til]] W' fun e w' => e = .returned (.int .i64 ce) ∧ Below W'.heap.size W' w') := ⟨fun W' hW => by
      rw [hce.out]; exact check_any HLT.out pe ⟨id, name, rule, payload, status, due, tries, worker, token, til⟩ W' (HTW.out _ (bthen HH.out.2.2.2 hW)) HP.out.parse⟩
    have CL : Aside0 (∀ W', Calls Tryd.prog 15 #[.agg #[.int .i64 b, .int .i64 c, .int .i64 t]] W' fun e w' => e = .returned (.int .i64 le) ∧ Below W'.heap.size W' w') := ⟨fun W' => by
      rw [hle.out]; exact lim_any b c t W'⟩
    have CS : Aside0 (∀ W', Calls Tryd.prog 31 #[.agg #[.int .i64 id, .string name, .string rule, .string payload, .int .i64 status, .int .i64 due, .int .i64 tries, .int .i64 worker, .int .i64 token, .int .i64 til], .int .i64 now] W' fun e w' => e = .returned (.int .i64 se) ∧ Below W'.heap.size W' w') := ⟨fun W' => by
      rw [hse.out]; exact leased_any ⟨id, name, rule, payload, status, due, tries, worker, token, til⟩ now W'⟩
    obtain ⟨j0, j1, j2, j3, j4, j5, j6, j7, j8, j9, l0, l1, l2⟩ := FK.out _ (below_drew (Below.refl _ W))
    go_region_held3 (fun w' => w'.cell? ⟨w.heap.size, 0, none⟩ = some (.int .i64 id) ∧ w'.cell? ⟨w.heap.size, 1, none⟩ = some (.string name) ∧ w'.cell? ⟨w.heap.size, 2, none⟩ = some (.string rule) ∧ w'.cell? ⟨w.heap.size, 3, none⟩ = some (.string payload) ∧ w'.cell? ⟨w.heap.size, 4, none⟩ = some (.int .i64 status) ∧ w'.cell? ⟨w.heap.size, 5, none⟩ = some (.int .i64 due) ∧ w'.cell? ⟨w.heap.size, 6, none⟩ = some (.int .i64 tries) ∧ w'.cell? ⟨w.heap.size, 7, none⟩ = some (.int .i64 worker) ∧ w'.cell? ⟨w.heap.size, 8, none⟩ = some (.int .i64 token) ∧ w'.cell? ⟨w.heap.size, 9, none⟩ = some (.int .i64 til) ∧ w'.cell? ⟨w.heap.size + 1, 0, none⟩ = some (.int .i64 b) ∧ w'.cell? ⟨w.heap.size + 1, 1, none⟩ = some (.int .i64 c) ∧ w'.cell? ⟨w.heap.size + 1, 2, none⟩ = some (.int .i64 t)) (first | with_reducible exact ⟨j0, j1, j2, j3, j4, j5, j6, j7, j8, j9, l0, l1, l2⟩ | (refine FK.out _ ?_; (repeat (first | with_reducible exact Below.refl _ _ | with_reducible exact BX1.out | with_reducible exact BX2.out | with_reducible exact BX3.out | with_reducible apply below_drew | with_reducible apply below_alloc)); done) | go_keep) (first
      | (go_at_call 11; refine (CC.out _ (by (repeat (first | with_reducible exact Below.refl _ _ | with_reducible exact BX1.out | with_reducible exact BX2.out | with_reducible exact BX3.out | with_reducible apply below_drew | with_reducible apply below_alloc)))).mono ?_; rintro e w1 ⟨rfl, hb1⟩; (have BX1 : Aside0 (Below W.heap.size W w1) := ⟨bthen (by (repeat (first | with_reducible exact Below.refl _ _ | with_reducible exact BX1.out | with_reducible exact BX2.out | with_reducible exact BX3.out | with_reducible apply below_drew | with_reducible apply below_alloc))) hb1⟩); clear hb1)
      | (go_at_call 15; refine (CL.out _).mono ?_; rintro e w2 ⟨rfl, hb2⟩; (have BX2 : Aside0 (Below W.heap.size W w2) := ⟨bthen (by (repeat (first | with_reducible exact Below.refl _ _ | with_reducible exact BX1.out | with_reducible exact BX2.out | with_reducible exact BX3.out | with_reducible apply below_drew | with_reducible apply below_alloc))) hb2⟩); clear hb2)
      | (go_at_call 31; refine (CS.out _).mono ?_; rintro e w3 ⟨rfl, hb3⟩; (have BX3 : Aside0 (Below W.heap.size W w3) := ⟨bthen (by (repeat (first | with_reducible exact Below.refl _ _ | with_reducible exact BX1.out | with_reducible exact BX2.out | with_reducible exact BX3.out | with_reducible apply below_drew | with_reducible apply below_alloc))) hb3⟩); clear hb3))
    all_goals go_wp2_with fail
    all_goals go_meet
    all_goals refine ⟨rfl, rfl, ⟨HH.out.below ?_⟩⟩
    all_goals (repeat (first | with_reducible exact Below.refl _ _ | with_reducible exact BX1.out | with_reducible exact BX2.out | with_reducible exact BX3.out | with_reducible apply below_drew | with_reducible apply below_alloc))
  case rest =>
    obtain ⟨rfl, rfl, HC⟩ := hcut
    clear HH W
    have HFN : Aside0 (FE ≠ 0 → FJ = jc JobPure.j0) := ⟨fun h => by rw [hFJ.out, failJ, ← hFE.out, if_neg h]⟩
    have HCJ := Aside0.mk HC.out.1
    have HCL := Aside0.mk HC.out.2.1
    have HCK := Aside0.mk HC.out.2.2.1
    have HCB := Aside0.mk HC.out.2.2.2
    go_wp2_with fail
    go_loopg [9, 22] 3 (fun g v9 v22 wr => ∃ i : Nat, v22 = .int .i64 i ∧ g + i = 3 ∧ (0 < i → ce = 0) ∧ (1 < i → le = 0) ∧ (2 < i → se = 0) ∧ wr = wc)
    case atStart => exact ⟨0, rfl, by omega, fun h => by omega, fun h => by omega, fun h => by omega, rfl⟩
    case round =>
      obtain ⟨i, rfl, hg, g0, g1, g2, rfl⟩ := hrel
      obtain ⟨k0, k1, k2, k3, k4, k5, k6, k7, k8, k9⟩ := all10 HCK.out; obtain ⟨f0, f1, f2, f3, f4, f5, f6, f7, f8, f9⟩ := frz10 HCK.out
      have ix0 := idx3_0 ce le se wr
      have ix1 := idx3_1 ce le se wr
      have ix2 := idx3_2 ce le se wr
      rcases (show i = 0 ∨ i = 1 ∨ i = 2 ∨ i = 3 by omega) with rfl | rfl | rfl | rfl
      · by_cases h0 : ce = 0
        · have hn : (ce != 0) = false := by simpa using h0
          have H0 := Aside0.mk h0
          have G0 := Aside0.mk (And.intro g0 (And.intro g1 g2))
          clear g0 g1 g2 h0
          go_wp2
          go_roundg 2
          case measure => omega
          case rel => exact ⟨1, rfl, by omega, fun _ => H0.out, fun h => by omega, fun h => by omega, rfl⟩
        · have hn : (ce != 0) = true := by simpa using h0
          have HX : Aside0 (FE = ce ∧ FJ = jc JobPure.j0) := ⟨by
            have h1 : FE = ce := by
              rw [HFE.out]
              rw [if_pos h0]
            exact ⟨h1, HFN.out (by rw [h1]; exact h0)⟩⟩
          obtain ⟨rfl, rfl⟩ := HX.out
          clear g0 g1 g2 h0
          go_wp2
          refine bodyPost_ret (results_ct rfl _ _ (w.heap.size + 1 + 1) 35 #[.int .i64 0, .string ⟨#[]⟩, .string ⟨#[]⟩, .string ⟨#[]⟩, .int .i64 0, .int .i64 0, .int .i64 0, .int .i64 0, .int .i64 0, .int .i64 0] (0, 0) _ rfl (blk10 HCK.out) Tryd.underlying35 rfl (by kernel_rfl)) rfl ?_
          exact ⟨rfl, below_set10 HCB.out (by omega) _ _ _ _ _ _ _ _ _ _⟩
      · by_cases h0 : le = 0
        · have hn : (le != 0) = false := by simpa using h0
          have H0 := Aside0.mk h0
          have G0 := Aside0.mk (And.intro g0 (And.intro g1 g2))
          clear g0 g1 g2 h0
          go_wp2
          go_roundg 1
          case measure => omega
          case rel => exact ⟨2, rfl, by omega, fun _ => G0.out.1 (by omega), fun _ => H0.out, fun h => by omega, rfl⟩
        · have hn : (le != 0) = true := by simpa using h0
          have HX : Aside0 (FE = le ∧ FJ = jc JobPure.j0) := ⟨by
            have h1 : FE = le := by
              rw [HFE.out]
              rw [if_neg (by rw [g0 (by omega)]; decide), if_pos h0]
            exact ⟨h1, HFN.out (by rw [h1]; exact h0)⟩⟩
          obtain ⟨rfl, rfl⟩ := HX.out
          clear g0 g1 g2 h0
          go_wp2
          refine bodyPost_ret (results_ct rfl _ _ (w.heap.size + 1 + 1) 35 #[.int .i64 0, .string ⟨#[]⟩, .string ⟨#[]⟩, .string ⟨#[]⟩, .int .i64 0, .int .i64 0, .int .i64 0, .int .i64 0, .int .i64 0, .int .i64 0] (0, 0) _ rfl (blk10 HCK.out) Tryd.underlying35 rfl (by kernel_rfl)) rfl ?_
          exact ⟨rfl, below_set10 HCB.out (by omega) _ _ _ _ _ _ _ _ _ _⟩
      · by_cases h0 : se = 0
        · have hn : (se != 0) = false := by simpa using h0
          have H0 := Aside0.mk h0
          have G0 := Aside0.mk (And.intro g0 (And.intro g1 g2))
          clear g0 g1 g2 h0
          go_wp2
          go_roundg 0
          case measure => omega
          case rel => exact ⟨3, rfl, by omega, fun _ => G0.out.1 (by omega), fun _ => G0.out.2.1 (by omega), fun _ => H0.out, rfl⟩
        · have hn : (se != 0) = true := by simpa using h0
          have HX : Aside0 (FE = se ∧ FJ = jc JobPure.j0) := ⟨by
            have h1 : FE = se := by
              rw [HFE.out]
              rw [if_neg (by rw [g0 (by omega)]; decide), if_neg (by rw [g1 (by omega)]; decide)]
            exact ⟨h1, HFN.out (by rw [h1]; exact h0)⟩⟩
          obtain ⟨rfl, rfl⟩ := HX.out
          clear g0 g1 g2 h0
          go_wp2
          refine bodyPost_ret (results_ct rfl _ _ (w.heap.size + 1 + 1) 35 #[.int .i64 0, .string ⟨#[]⟩, .string ⟨#[]⟩, .string ⟨#[]⟩, .int .i64 0, .int .i64 0, .int .i64 0, .int .i64 0, .int .i64 0, .int .i64 0] (0, 0) _ rfl (blk10 HCK.out) Tryd.underlying35 rfl (by kernel_rfl)) rfl ?_
          exact ⟨rfl, below_set10 HCB.out (by omega) _ _ _ _ _ _ _ _ _ _⟩
      · have HZ : Aside0 (ce = 0 ∧ le = 0 ∧ se = 0) := ⟨g0 (by omega), g1 (by omega), g2 (by omega)⟩
        clear g0 g1 g2 k0 k1 k2 k3 k4 k5 k6 k7 k8 k9 f0 f1 f2 f3 f4 f5 f6 f7 f8 f9
        have HE0 : Aside0 (FE = 0) := ⟨by rw [HFE.out, HZ.out.1, HZ.out.2.1, HZ.out.2.2]; rfl⟩
        have HG : Aside0 (FJ = jc (failG (nx now) ⟨id, name, rule, payload, status, due, tries, worker, token, til⟩ b c t now)) := ⟨by rw [hFJ.out, failJ, ← hFE.out, HE0.out]; rfl⟩
        have HK : Aside0 (chk pe ⟨id, name, rule, payload, status, due, tries, worker, token, til⟩ = true ∧ limOk b c t = true ∧ 0 ≤ now ∧ now ≤ 32503679999) := ⟨by
          obtain ⟨z0, z1, z2⟩ := HZ.out
          refine ⟨?_, ?_, ?_⟩
          · rw [hce.out, chkE] at z0
            split at z0
            · assumption
            · cases z0
          · rw [hle.out, limE] at z1
            split at z1
            · assumption
            · cases z1
          · rw [hse.out, leasedE] at z2
            split at z2
            · split at z2
              · assumption
              · cases z2
            · cases z2⟩
        obtain ⟨n0, n1⟩ := HK.out.2.2
        have HTR : 0 ≤ tries ∧ tries ≤ 16 := by
          have h := HK.out.1
          rw [chk, Bool.and_eq_true, Bool.and_eq_true] at h
          have h1 := h.1.1
          simp only [chkA, decide_eq_true_eq] at h1
          omega
        obtain ⟨t0, t16⟩ := HTR
        have HPE : Aside0 (rule ≠ ⟨#[]⟩ → pe = 0) := ⟨fun hr => by
          have h := HK.out.1
          rw [chk, Bool.and_eq_true, chkC] at h
          have h2 := h.2
          have : decide (rule.size = 0) = false := decide_eq_false (fun h => hr (size0.1 h))
          simp only [this, Bool.false_or, Bool.and_eq_true, beq_iff_eq] at h2
          exact h2.1⟩
        have HLM := Aside0.mk HK.out.2.1
        obtain rfl := HE0.out
        obtain ⟨j0, j1, j2, j3, j4, j5, j6, j7, j8, j9⟩ := all10 HCJ.out
        have g6 := blk_frozen HCJ.out 6
        go_upto_region 8 with (fail)
        obtain ⟨T, hT⟩ : ∃ T, min (tries + 1) 16 = T := ⟨_, rfl⟩
        have HT := Aside0.mk hT
        have T1 : 1 ≤ T ∧ T ≤ 16 := by omega
        obtain ⟨T1, T2⟩ := T1
        rw [hT]
        clear hT t0 t16 j0 j1 j2 j3 j4 j5 j6 j7 j8 j9 g6 ix0 ix1 ix2
        obtain ⟨W2, hW2⟩ : ∃ W2, W2 = wr.setCell ⟨w.heap.size, 6, none⟩ (.int .i64 T) := ⟨_, rfl⟩
        have HJ2 : Aside0 (W2.heap[w.heap.size]? = some (.cells #[.int .i64 id, .string name, .string rule, .string payload, .int .i64 status, .int .i64 due, .int .i64 T, .int .i64 worker, .int .i64 token, .int .i64 til] 35 (0, 0))) := ⟨by rw [hW2]; exact blk_put HCJ.out 6 _ rfl⟩
        have HL2 : Aside0 (W2.heap[w.heap.size + 1]? = some (.cells #[.int .i64 b, .int .i64 c, .int .i64 t] 42 (0, 0))) := ⟨by rw [hW2]; exact (Below.heap_setCell _ ⟨w.heap.size, 6, none⟩ _ _ (by show _ ≠ w.heap.size; omega)).trans HCL.out⟩
        have HK2 : Aside0 (W2.heap[w.heap.size + 1 + 1]? = some (.cells #[.int .i64 0, .string ⟨#[]⟩, .string ⟨#[]⟩, .string ⟨#[]⟩, .int .i64 0, .int .i64 0, .int .i64 0, .int .i64 0, .int .i64 0, .int .i64 0] 35 (0, 0))) := ⟨by rw [hW2]; exact (Below.heap_setCell _ ⟨w.heap.size, 6, none⟩ _ _ (by show _ ≠ w.heap.size; omega)).trans HCK.out⟩
        have HB2 : Aside0 (Below w.heap.size w W2) := ⟨by rw [hW2]; exact HCB.out.setCell (p := ⟨w.heap.size, 6, none⟩) (Nat.le_refl _) _⟩
        rw [← hW2]
        clear hW2 HC HCJ HCL HCK HCB
        obtain ⟨V, hV⟩ := named (dueV b c now (T - 1).toNat)
        obtain ⟨D, hD⟩ := named (dueE b c now (T - 1).toNat)
        have HFT : Aside0 (failT ⟨id, name, rule, payload, status, due, tries, worker, token, til⟩ = T) := ⟨HT.out⟩
        obtain ⟨j0, j1, j2, j3, j4, j5, j6, j7, j8, j9⟩ := all10 HJ2.out
        obtain ⟨l0, l1, l2, _, _, _⟩ := all3 HL2.out
        by_cases hP : now + delayP b c (T - 1).toNat < 32503680000 ∧ T < t
        · have HX : Aside0 (D = 0 ∧ FJ = jc (holdJ ⟨id, name, rule, payload, status, due, T, worker, token, til⟩ 1 V 0 0 0)) := ⟨by
            refine ⟨by rw [hD.out, dueE, if_pos hP.1], ?_⟩
            rw [HG.out, failG, HFT.out, if_pos hP, hV.out, dueV, if_pos hP.1]⟩
          obtain ⟨_, hTt⟩ := hP
          obtain ⟨rfl, rfl⟩ := HX.out
          have hlt : decide (T < t) = true := decide_eq_true hTt
          clear hTt
          go_wp2_with (first
            | (go_at_call 33; refine (due_int b c t now (T - 1) _ HLM.out (by omega) (by omega) n0 (by omega)).mono ?_; rw [← hV.out, ← hD.out]; rintro e w3 ⟨rfl, hb3⟩; (have HB3 := Aside0.mk (bthen HB2.out hb3)); (have HJ3 := Aside0.mk (blk_keep HJ2.out hb3)); (have HL3 := Aside0.mk (blk_keep HL2.out hb3)); (have HK3 := Aside0.mk (blk_keep HK2.out hb3)); clear j0 j1 j2 j3 j4 j5 j6 j7 j8 j9 l0 l1 l2; obtain ⟨q0, q1, q2, q3, q4, q5, q6, q7, q8, q9⟩ := all10 HJ3.out; obtain ⟨p0, p1, p2, _, _, _⟩ := all3 HL3.out; clear hb3)
            | (go_at_call 34; refine (hold_any ⟨id, name, rule, payload, status, due, T, worker, token, til⟩ 1 V 0 0 0 _).mono ?_; rintro e w4 ⟨rfl, hb4⟩; (have HB4 := Aside0.mk (bthen HB3.out hb4)); (have HK4 := Aside0.mk (blk_keep HK3.out hb4)); clear q0 q1 q2 q3 q4 q5 q6 q7 q8 q9 p0 p1 p2; obtain ⟨k0, k1, k2, k3, k4, k5, k6, k7, k8, k9⟩ := all10 HK4.out; obtain ⟨f0, f1, f2, f3, f4, f5, f6, f7, f8, f9⟩ := frz10 HK4.out; clear hb4))
          refine bodyPost_ret (results_ct rfl _ _ (w.heap.size + 1 + 1) 35 #[.int .i64 id, .string name, .string rule, .string payload, .int .i64 1, .int .i64 V, .int .i64 T, .int .i64 0, .int .i64 0, .int .i64 0] (0, 0) _ rfl (blk10 HK4.out) Tryd.underlying35 rfl (by kernel_rfl)) rfl ?_
          exact ⟨rfl, below_set10 HB4.out (by omega) _ _ _ _ _ _ _ _ _ _⟩
        · obtain ⟨X, hX⟩ := named (againJ (nx now) ⟨id, name, rule, payload, status, due, T, worker, token, til⟩).1
          obtain ⟨ok, hok⟩ := named (againJ (nx now) ⟨id, name, rule, payload, status, due, T, worker, token, til⟩).2
          have HX : Aside0 (FJ = if ok then jc X else jc (holdJ ⟨id, name, ⟨#[]⟩, payload, status, due, T, worker, token, til⟩ 3 now 0 0 0)) := ⟨by
            rw [HG.out, failG, HFT.out, if_neg hP, hX.out, hok.out]
            split <;> rfl⟩
          have HDT : Aside0 ((D == 0 && decide (T < t)) = false) := ⟨by
            rw [hD.out, dueE]
            by_cases h1 : now + delayP b c (T - 1).toNat < 32503680000
            · rw [if_pos h1]
              have : ¬ T < t := fun h => hP ⟨h1, h⟩
              simp [this]
            · rw [if_neg h1]; rfl⟩
          clear hP
          obtain ⟨x1, x2, x3, x4, x5, x6, x7, x8, x9, x10⟩ := X
          have CA : Aside0 (∀ W', Below w.heap.size w W' → Calls Tryd.prog 32 #[.agg #[.int .i64 id, .string name, .string rule, .string payload, .int .i64 status, .int .i64 due, .int .i64 T, .int .i64 worker, .int .i64 token, .int .i64 til], .int .i64 now] W' fun e w' => e = .returned (.tuple #[.agg #[.int .i64 x1, .string x2, .string x3, .string x4, .int .i64 x5, .int .i64 x6, .int .i64 x7, .int .i64 x8, .int .i64 x9, .int .i64 x10], .bool ok]) ∧ Below W'.heap.size W' w') := ⟨fun W' hW => by
            have h := again_any HLT.out pe nx ⟨id, name, rule, payload, status, due, T, worker, token, til⟩ now W' (HTW.out _ hW) HP.out HPE.out n0 (by omega)
            rw [← hX.out, ← hok.out] at h
            exact h⟩
          cases ok with
          | true =>
            have HY : Aside0 (FJ = #[.int .i64 x1, .string x2, .string x3, .string x4, .int .i64 x5, .int .i64 x6, .int .i64 x7, .int .i64 x8, .int .i64 x9, .int .i64 x10]) := ⟨by rw [HX.out]; rfl⟩
            obtain rfl := HY.out
            by_cases h1 : D = 0
            · have hlt : decide (T < t) = false := by have := HDT.out; rw [h1] at this; simpa using this
              obtain rfl := h1
              go_wp2_with (first
                | (go_at_call 33; refine (due_int b c t now (T - 1) _ HLM.out (by omega) (by omega) n0 (by omega)).mono ?_; rw [← hV.out, ← hD.out]; rintro e w3 ⟨rfl, hb3⟩; (have HB3 := Aside0.mk (bthen HB2.out hb3)); (have HJ3 := Aside0.mk (blk_keep HJ2.out hb3)); (have HL3 := Aside0.mk (blk_keep HL2.out hb3)); (have HK3 := Aside0.mk (blk_keep HK2.out hb3)); clear j0 j1 j2 j3 j4 j5 j6 j7 j8 j9 l0 l1 l2; obtain ⟨q0, q1, q2, q3, q4, q5, q6, q7, q8, q9⟩ := all10 HJ3.out; obtain ⟨p0, p1, p2, _, _, _⟩ := all3 HL3.out; clear hb3)
                | (go_at_call 32; refine (CA.out _ HB3.out).mono ?_; rintro e w4 ⟨rfl, hb4⟩; (have HB4 := Aside0.mk (bthen HB3.out hb4)); (have HJ4 := Aside0.mk (blk_keep HJ3.out hb4)); (have HK4 := Aside0.mk (blk_keep HK3.out hb4)); (have hlj := blk_lt HJ4.out); (have hlk := blk_lt HK4.out); clear q0 q1 q2 q3 q4 q5 q6 q7 q8 q9 p0 p1 p2; obtain ⟨q0, q1, q2, q3, q4, q5, q6, q7, q8, q9⟩ := all10 HJ4.out; (have g2 := blk_frozen HJ4.out 2); obtain ⟨k0, k1, k2, k3, k4, k5, k6, k7, k8, k9⟩ := all10 HK4.out; obtain ⟨f0, f1, f2, f3, f4, f5, f6, f7, f8, f9⟩ := frz10 HK4.out; clear hb4))
              refine bodyPost_ret (results_ct rfl _ _ (w.heap.size + 1 + 1) 35 #[.int .i64 x1, .string x2, .string x3, .string x4, .int .i64 x5, .int .i64 x6, .int .i64 x7, .int .i64 x8, .int .i64 x9, .int .i64 x10] (0, 0) _ rfl (blk_alloc (blk10 HK4.out) _) Tryd.underlying35 rfl (by kernel_rfl)) rfl ?_
              exact ⟨rfl, below_alloc (below_set10 HB4.out (by omega) _ _ _ _ _ _ _ _ _ _) _⟩
            · have hd : (D == 0) = false := by simpa using h1
              clear h1
              go_wp2_with (first
                | (go_at_call 33; refine (due_int b c t now (T - 1) _ HLM.out (by omega) (by omega) n0 (by omega)).mono ?_; rw [← hV.out, ← hD.out]; rintro e w3 ⟨rfl, hb3⟩; (have HB3 := Aside0.mk (bthen HB2.out hb3)); (have HJ3 := Aside0.mk (blk_keep HJ2.out hb3)); (have HL3 := Aside0.mk (blk_keep HL2.out hb3)); (have HK3 := Aside0.mk (blk_keep HK2.out hb3)); clear j0 j1 j2 j3 j4 j5 j6 j7 j8 j9 l0 l1 l2; obtain ⟨q0, q1, q2, q3, q4, q5, q6, q7, q8, q9⟩ := all10 HJ3.out; obtain ⟨p0, p1, p2, _, _, _⟩ := all3 HL3.out; clear hb3)
                | (go_at_call 32; refine (CA.out _ HB3.out).mono ?_; rintro e w4 ⟨rfl, hb4⟩; (have HB4 := Aside0.mk (bthen HB3.out hb4)); (have HJ4 := Aside0.mk (blk_keep HJ3.out hb4)); (have HK4 := Aside0.mk (blk_keep HK3.out hb4)); (have hlj := blk_lt HJ4.out); (have hlk := blk_lt HK4.out); clear q0 q1 q2 q3 q4 q5 q6 q7 q8 q9 p0 p1 p2; obtain ⟨q0, q1, q2, q3, q4, q5, q6, q7, q8, q9⟩ := all10 HJ4.out; (have g2 := blk_frozen HJ4.out 2); obtain ⟨k0, k1, k2, k3, k4, k5, k6, k7, k8, k9⟩ := all10 HK4.out; obtain ⟨f0, f1, f2, f3, f4, f5, f6, f7, f8, f9⟩ := frz10 HK4.out; clear hb4))
              refine bodyPost_ret (results_ct rfl _ _ (w.heap.size + 1 + 1) 35 #[.int .i64 x1, .string x2, .string x3, .string x4, .int .i64 x5, .int .i64 x6, .int .i64 x7, .int .i64 x8, .int .i64 x9, .int .i64 x10] (0, 0) _ rfl (blk_alloc (blk10 HK4.out) _) Tryd.underlying35 rfl (by kernel_rfl)) rfl ?_
              exact ⟨rfl, below_alloc (below_set10 HB4.out (by omega) _ _ _ _ _ _ _ _ _ _) _⟩
          | false =>
            have HY : Aside0 (FJ = #[.int .i64 id, .string name, .string ⟨#[]⟩, .string payload, .int .i64 3, .int .i64 now, .int .i64 T, .int .i64 0, .int .i64 0, .int .i64 0]) := ⟨by rw [HX.out]; rfl⟩
            obtain rfl := HY.out
            by_cases h1 : D = 0
            · have hlt : decide (T < t) = false := by have := HDT.out; rw [h1] at this; simpa using this
              obtain rfl := h1
              go_wp2_with (first
                | (go_at_call 33; refine (due_int b c t now (T - 1) _ HLM.out (by omega) (by omega) n0 (by omega)).mono ?_; rw [← hV.out, ← hD.out]; rintro e w3 ⟨rfl, hb3⟩; (have HB3 := Aside0.mk (bthen HB2.out hb3)); (have HJ3 := Aside0.mk (blk_keep HJ2.out hb3)); (have HL3 := Aside0.mk (blk_keep HL2.out hb3)); (have HK3 := Aside0.mk (blk_keep HK2.out hb3)); clear j0 j1 j2 j3 j4 j5 j6 j7 j8 j9 l0 l1 l2; obtain ⟨q0, q1, q2, q3, q4, q5, q6, q7, q8, q9⟩ := all10 HJ3.out; obtain ⟨p0, p1, p2, _, _, _⟩ := all3 HL3.out; clear hb3)
                | (go_at_call 32; refine (CA.out _ HB3.out).mono ?_; rintro e w4 ⟨rfl, hb4⟩; (have HB4 := Aside0.mk (bthen HB3.out hb4)); (have HJ4 := Aside0.mk (blk_keep HJ3.out hb4)); (have HK4 := Aside0.mk (blk_keep HK3.out hb4)); (have hlj := blk_lt HJ4.out); (have hlk := blk_lt HK4.out); clear q0 q1 q2 q3 q4 q5 q6 q7 q8 q9 p0 p1 p2; obtain ⟨q0, q1, q2, q3, q4, q5, q6, q7, q8, q9⟩ := all10 HJ4.out; (have g2 := blk_frozen HJ4.out 2); obtain ⟨k0, k1, k2, k3, k4, k5, k6, k7, k8, k9⟩ := all10 HK4.out; obtain ⟨f0, f1, f2, f3, f4, f5, f6, f7, f8, f9⟩ := frz10 HK4.out; clear hb4)
                | (go_at_call 34; refine (hold_any ⟨id, name, ⟨#[]⟩, payload, status, due, T, worker, token, til⟩ 3 now 0 0 0 _).mono ?_; rintro e w5 ⟨rfl, hb5⟩; (have HB5 := Aside0.mk (bthen (below_alloc (HB4.out.setCell (p := ⟨w.heap.size, 2, none⟩) (Nat.le_refl _) _) _) hb5)); (have HK5 := Aside0.mk (blk_keep (blk_alloc ((Below.heap_setCell _ ⟨w.heap.size, 2, none⟩ _ _ (by show _ ≠ w.heap.size; omega)).trans HK4.out) _) hb5)); clear q0 q1 q2 q3 q4 q5 q6 q7 q8 q9 k0 k1 k2 k3 k4 k5 k6 k7 k8 k9 f0 f1 f2 f3 f4 f5 f6 f7 f8 f9; obtain ⟨k0, k1, k2, k3, k4, k5, k6, k7, k8, k9⟩ := all10 HK5.out; obtain ⟨f0, f1, f2, f3, f4, f5, f6, f7, f8, f9⟩ := frz10 HK5.out; clear hb5))
              refine bodyPost_ret (results_ct rfl _ _ (w.heap.size + 1 + 1) 35 #[.int .i64 id, .string name, .string ⟨#[]⟩, .string payload, .int .i64 3, .int .i64 now, .int .i64 T, .int .i64 0, .int .i64 0, .int .i64 0] (0, 0) _ rfl (blk10 HK5.out) Tryd.underlying35 rfl (by kernel_rfl)) rfl ?_
              exact ⟨rfl, below_set10 HB5.out (by omega) _ _ _ _ _ _ _ _ _ _⟩
            · have hd : (D == 0) = false := by simpa using h1
              clear h1
              go_wp2_with (first
                | (go_at_call 33; refine (due_int b c t now (T - 1) _ HLM.out (by omega) (by omega) n0 (by omega)).mono ?_; rw [← hV.out, ← hD.out]; rintro e w3 ⟨rfl, hb3⟩; (have HB3 := Aside0.mk (bthen HB2.out hb3)); (have HJ3 := Aside0.mk (blk_keep HJ2.out hb3)); (have HL3 := Aside0.mk (blk_keep HL2.out hb3)); (have HK3 := Aside0.mk (blk_keep HK2.out hb3)); clear j0 j1 j2 j3 j4 j5 j6 j7 j8 j9 l0 l1 l2; obtain ⟨q0, q1, q2, q3, q4, q5, q6, q7, q8, q9⟩ := all10 HJ3.out; obtain ⟨p0, p1, p2, _, _, _⟩ := all3 HL3.out; clear hb3)
                | (go_at_call 32; refine (CA.out _ HB3.out).mono ?_; rintro e w4 ⟨rfl, hb4⟩; (have HB4 := Aside0.mk (bthen HB3.out hb4)); (have HJ4 := Aside0.mk (blk_keep HJ3.out hb4)); (have HK4 := Aside0.mk (blk_keep HK3.out hb4)); (have hlj := blk_lt HJ4.out); (have hlk := blk_lt HK4.out); clear q0 q1 q2 q3 q4 q5 q6 q7 q8 q9 p0 p1 p2; obtain ⟨q0, q1, q2, q3, q4, q5, q6, q7, q8, q9⟩ := all10 HJ4.out; (have g2 := blk_frozen HJ4.out 2); obtain ⟨k0, k1, k2, k3, k4, k5, k6, k7, k8, k9⟩ := all10 HK4.out; obtain ⟨f0, f1, f2, f3, f4, f5, f6, f7, f8, f9⟩ := frz10 HK4.out; clear hb4)
                | (go_at_call 34; refine (hold_any ⟨id, name, ⟨#[]⟩, payload, status, due, T, worker, token, til⟩ 3 now 0 0 0 _).mono ?_; rintro e w5 ⟨rfl, hb5⟩; (have HB5 := Aside0.mk (bthen (below_alloc (HB4.out.setCell (p := ⟨w.heap.size, 2, none⟩) (Nat.le_refl _) _) _) hb5)); (have HK5 := Aside0.mk (blk_keep (blk_alloc ((Below.heap_setCell _ ⟨w.heap.size, 2, none⟩ _ _ (by show _ ≠ w.heap.size; omega)).trans HK4.out) _) hb5)); clear q0 q1 q2 q3 q4 q5 q6 q7 q8 q9 k0 k1 k2 k3 k4 k5 k6 k7 k8 k9 f0 f1 f2 f3 f4 f5 f6 f7 f8 f9; obtain ⟨k0, k1, k2, k3, k4, k5, k6, k7, k8, k9⟩ := all10 HK5.out; obtain ⟨f0, f1, f2, f3, f4, f5, f6, f7, f8, f9⟩ := frz10 HK5.out; clear hb5))
              refine bodyPost_ret (results_ct rfl _ _ (w.heap.size + 1 + 1) 35 #[.int .i64 id, .string name, .string ⟨#[]⟩, .string payload, .int .i64 3, .int .i64 now, .int .i64 T, .int .i64 0, .int .i64 0, .int .i64 0] (0, 0) _ rfl (blk10 HK5.out) Tryd.underlying35 rfl (by kernel_rfl)) rfl ?_
              exact ⟨rfl, below_set10 HB5.out (by omega) _ _ _ _ _ _ _ _ _ _⟩
end Go.Proofs.YteloamnakikbbaaDoor.Job

/- job: Finish, walked. -/
namespace Go.Proofs.YteloamnakikbbaaDoor.Job
set_option linter.unusedVariables false
set_option linter.unusedSimpArgs false
open Go.RowKit Go.Proofs.YteloamnakikbbaaDoorW.PrintWords Go.Proofs.YteloamnakikbbaaDoorW.PrintLast Go.Proofs.YteloamnakikbbaaDoor.Base Go.Proofs.YteloamnakikbbaaDoor.Cells Go.Proofs.YteloamnakikbbaaDoor.JobPure

theorem idx2_0 (a b : Int) (w : World) : (Instr.index 75 (.agg #[.int .i64 a, .int .i64 b]) (.int .i64 0)).run Tryd.prog w = .ok (.int .i64 a) w := by
  simp [Instr.index, run_underlying Tryd.underlying75, asIntOf, go_sem, Tryd.sizeOf32]
theorem idx2_1 (a b : Int) (w : World) : (Instr.index 75 (.agg #[.int .i64 a, .int .i64 b]) (.int .i64 1)).run Tryd.prog w = .ok (.int .i64 b) w := by
  simp [Instr.index, run_underlying Tryd.underlying75, asIntOf, go_sem, Tryd.sizeOf32]
/-- Finish: what follows, and whether there is one -/
def finB (pe : Int) (nx : Int × Bool) (j : Jb) (now : Int) : Bool := decide (finE pe j now = 0) && (againJ nx j).2
def finJ (pe : Int) (nx : Int × Bool) (j : Jb) (now : Int) : Jb := if finB pe nx j now then (againJ nx j).1 else j0
/-- what stands behind the two tests -/
def HeadF (w : World) (id status due tries worker token til : Int) (name rule payload : ByteArray) (wc : World) : Prop :=
  wc.heap[w.heap.size]? = some (.cells #[.int .i64 id, .string name, .string rule, .string payload, .int .i64 status, .int .i64 due, .int .i64 tries, .int .i64 worker, .int .i64 token, .int .i64 til] 35 (0, 0)) ∧ wc.heap[w.heap.size + 1]? = some (.cells #[.int .i64 0, .string ⟨#[]⟩, .string ⟨#[]⟩, .string ⟨#[]⟩, .int .i64 0, .int .i64 0, .int .i64 0, .int .i64 0, .int .i64 0, .int .i64 0] 35 (0, 0)) ∧ Below w.heap.size w wc
theorem HeadF.below {w wc w1 : World} {id status due tries worker token til : Int} {name rule payload : ByteArray} (h : HeadF w id status due tries worker token til name rule payload wc) (hb : Below wc.heap.size wc w1) : HeadF w id status due tries worker token til name rule payload w1 :=
  ⟨blk_keep h.1 hb, blk_keep h.2.1 hb, bthen h.2.2 hb⟩

set_option maxRecDepth 100000 in
set_option maxHeartbeats 4000000 in
theorem finish_any {T : World → Prop} (hT : Lasts T) (pe : Int) (nx : Int → Int × Bool) (j : Jb) (now : Int) (w : World) (hw : T w) (hp : CronSays T j.rule pe nx) :
    Calls Tryd.prog 13 #[.agg #[.int .i64 j.id, .string j.name, .string j.rule, .string j.payload, .int .i64 j.status, .int .i64 j.due, .int .i64 j.tries, .int .i64 j.worker, .int .i64 j.token, .int .i64 j.til], .int .i64 now] w fun e w' => e = .returned (.tuple #[.agg (jc (finJ pe (nx now) j now)), .bool (finB pe (nx now) j now), .int .i64 (finE pe j now)]) ∧ Below w.heap.size w w' := by
  obtain ⟨id, name, rule, payload, status, due, tries, worker, token, til⟩ := j
  dsimp only at hp ⊢
  have HP := Aside0.mk hp
  have HTW : Aside0 (∀ w', Below w.heap.size w w' → T w') := ⟨fun w' h => hT _ _ hw h⟩
  have HLT := Aside0.mk hT
  clear hp hT hw
  obtain ⟨ce, hce⟩ := named (chkE pe ⟨id, name, rule, payload, status, due, tries, worker, token, til⟩)
  obtain ⟨se, hse⟩ := named (leasedE ⟨id, name, rule, payload, status, due, tries, worker, token, til⟩ now)
  obtain ⟨FJ, hFJ⟩ := named (jc (finJ pe (nx now) ⟨id, name, rule, payload, status, due, tries, worker, token, til⟩ now))
  obtain ⟨FB, hFB⟩ := named (finB pe (nx now) ⟨id, name, rule, payload, status, due, tries, worker, token, til⟩ now)
  obtain ⟨FE, hFE⟩ := named (finE pe ⟨id, name, rule, payload, status, due, tries, worker, token, til⟩ now)
  have HFE : Aside0 (FE = if ce ≠ 0 then ce else se) := ⟨by
    rw [hFE.out, hce.out, hse.out, finE, chkE]
    cases chk pe ⟨id, name, rule, payload, status, due, tries, worker, token, til⟩ <;> simp⟩
  rw [← hFJ.out, ← hFB.out, ← hFE.out]
  go_enter Tryd.func13, Tryd.ntmps13
  go_upto_region 1 with (fail)
  obtain ⟨W, hW⟩ : ∃ W, W = (w.alloc (.cells #[.int .i64 id, .string name, .string rule, .string payload, .int .i64 status, .int .i64 due, .int .i64 tries, .int .i64 worker, .int .i64 token, .int .i64 til] 35)).alloc (.cells #[.int .i64 0, .string ⟨#[]⟩, .string ⟨#[]⟩, .string ⟨#[]⟩, .int .i64 0, .int .i64 0, .int .i64 0, .int .i64 0, .int .i64 0, .int .i64 0] 35) := ⟨_, rfl⟩
  have HH : Aside0 (HeadF w id status due tries worker token til name rule payload W) := ⟨by
    rw [hW]
    exact ⟨blk_alloc (blk_new _ _) _, blk_new1 _ _ _ _, below_alloc (below_alloc (Below.refl _ _) _) _⟩⟩
  rw [← hW]
  clear hW
  go_cut [16, 17] (fun v16 v17 wc => v16 = .agg #[.int .i64 ce, .int .i64 se] ∧ v17 = .int .i64 0 ∧ Aside0 (HeadF w id status due tries worker token til name rule payload wc))
  case first =>
    have FK : Aside0 (∀ w', Below W.heap.size W w' → w'.cell? ⟨w.heap.size, 0, none⟩ = some (.int .i64 id) ∧ w'.cell? ⟨w.heap.size, 1, none⟩ = some (.string name) ∧ w'.cell? ⟨w.heap.size, 2, none⟩ = some (.string rule) ∧ w'.cell? ⟨w.heap.size, 3, none⟩ = some (.string payload) ∧ w'.cell? ⟨w.heap.size, 4, none⟩ = some (.int .i64 status) ∧ w'.cell? ⟨w.heap.size, 5, none⟩ = some (.int .i64 due) ∧ w'.cell? ⟨w.heap.size, 6, none⟩ = some (.int .i64 tries) ∧ w'.cell? ⟨w.heap.size, 7, none⟩ = some (.int .i64 worker) ∧ w'.cell? ⟨w.heap.size, 8, none⟩ = some (.int .i64 token) ∧ w'.cell? ⟨w.heap.size, 9, none⟩ = some (.int .i64 til)) := ⟨fun w' h => all10 (blk_keep HH.out.1 h)⟩
    have CC : Aside0 (∀ W', Below W.heap.size W W' → Calls Tryd.prog 11 #[.agg #[.int .i64 id, .string name, .string rule, .string payload, .int .i64 status, .int .i64 due, .int .i64 tries, .int .i64 worker, .int .i64 token, .int .i64 til]] W' fun e w' => e = .returned (.int .i64 ce) ∧ Below W'.heap.size W' w') := ⟨fun W' hW => by
      rw [hce.out]; exact check_any HLT.out pe ⟨id, name, rule, payload, status, due, tries, worker, token, til⟩ W' (HTW.out _ (bthen HH.out.2.2 hW)) HP.out.parse⟩
    have CS : Aside0 (∀ W', Calls Tryd.prog 31 #[.agg #[.int .i64 id, .string name, .string rule, .string payload, .int .i64 status, .int .i64 due, .int .i64 tries, .int .i64 worker, .int .i64 token, .int .i64 til], .int .i64 now] W' fun e w' => e = .returned (.int .i64 se) ∧ Below W'.heap.size W' w') := ⟨fun W' => by
      rw [hse.out]; exact leased_any ⟨id, name, rule, payload, status, due, tries, worker, token, til⟩ now W'⟩
    obtain ⟨j0, j1, j2, j3, j4, j5, j6, j7, j8, j9⟩ := FK.out _ (below_drew (Below.refl _ W))
    go_region_held3 (fun w' => w'.cell? ⟨w.heap.size, 0, none⟩ = some (.int .i64 id) ∧ w'.cell? ⟨w.heap.size, 1, none⟩ = some (.string name) ∧ w'.cell? ⟨w.heap.size, 2, none⟩ = some (.string rule) ∧ w'.cell? ⟨w.heap.size, 3, none⟩ = some (.string payload) ∧ w'.cell? ⟨w.heap.size, 4, none⟩ = some (.int .i64 status) ∧ w'.cell? ⟨w.heap.size, 5, none⟩ = some (.int .i64 due) ∧ w'.cell? ⟨w.heap.size, 6, none⟩ = some (.int .i64 tries) ∧ w'.cell? ⟨w.heap.size, 7, none⟩ = some (.int .i64 worker) ∧ w'.cell? ⟨w.heap.size, 8, none⟩ = some (.int .i64 token) ∧ w'.cell? ⟨w.heap.size, 9, none⟩ = some (.int .i64 til)) (first | with_reducible exact ⟨j0, j1, j2, j3, j4, j5, j6, j7, j8, j9⟩ | (refine FK.out _ ?_; (repeat (first | with_reducible exact Below.refl _ _ | with_reducible exact BX1.out | with_reducible exact BX3.out | with_reducible apply below_drew | with_reducible apply below_alloc)); done) | go_keep) (first
      | (go_at_call 11; refine (CC.out _ (by (repeat (first | with_reducible exact Below.refl _ _ | with_reducible exact BX1.out | with_reducible exact BX3.out | with_reducible apply below_drew | with_reducible apply below_alloc)))).mono ?_; rintro e w1 ⟨rfl, hb1⟩; (have BX1 : Aside0 (Below W.heap.size W w1) := ⟨bthen (by (repeat (first | with_reducible exact Below.refl _ _ | with_reducible exact BX1.out | with_reducible exact BX3.out | with_reducible apply below_drew | with_reducible apply below_alloc))) hb1⟩); clear hb1)
      | (go_at_call 31; refine (CS.out _).mono ?_; rintro e w3 ⟨rfl, hb3⟩; (have BX3 : Aside0 (Below W.heap.size W w3) := ⟨bthen (by (repeat (first | with_reducible exact Below.refl _ _ | with_reducible exact BX1.out | with_reducible exact BX3.out | with_reducible apply below_drew | with_reducible apply below_alloc))) hb3⟩); clear hb3))
    all_goals go_wp2_with fail
    all_goals go_meet
    all_goals refine ⟨rfl, rfl, ⟨HH.out.below ?_⟩⟩
    all_goals (repeat (first | with_reducible exact Below.refl _ _ | with_reducible exact BX1.out | with_reducible exact BX3.out | with_reducible apply below_drew | with_reducible apply below_alloc))
  case rest =>
    obtain ⟨rfl, rfl, HC⟩ := hcut
    clear HH W
    have HFB : Aside0 (FE ≠ 0 → FJ = jc JobPure.j0 ∧ FB = false) := ⟨fun h => by
      have hb : FB = false := by rw [hFB.out, finB, ← hFE.out]; simp [h]
      exact ⟨by rw [hFJ.out, finJ, ← hFB.out, hb]; rfl, hb⟩⟩
    have HCJ := Aside0.mk HC.out.1
    have HCK := Aside0.mk HC.out.2.1
    have HCB := Aside0.mk HC.out.2.2
    go_wp2_with fail
    go_loopg [8, 17] 2 (fun g v8 v17 wr => ∃ i : Nat, v17 = .int .i64 i ∧ g + i = 2 ∧ (0 < i → ce = 0) ∧ (1 < i → se = 0) ∧ wr = wc)
    case atStart => exact ⟨0, rfl, by omega, fun h => by omega, fun h => by omega, rfl⟩
    case round =>
      obtain ⟨i, rfl, hg, g0, g1, rfl⟩ := hrel
      obtain ⟨k0, k1, k2, k3, k4, k5, k6, k7, k8, k9⟩ := all10 HCK.out; obtain ⟨f0, f1, f2, f3, f4, f5, f6, f7, f8, f9⟩ := frz10 HCK.out
      have ix0 := idx2_0 ce se wr
      have ix1 := idx2_1 ce se wr
      rcases (show i = 0 ∨ i = 1 ∨ i = 2 by omega) with rfl | rfl | rfl
      · by_cases h0 : ce = 0
        · have hn : (ce != 0) = false := by simpa using h0
          have H0 := Aside0.mk h0
          have G0 := Aside0.mk (And.intro g0 g1)
          clear g0 g1 h0
          go_wp2
          go_roundg 1
          case measure => omega
          case rel => exact ⟨1, rfl, by omega, fun _ => H0.out, fun h => by omega, rfl⟩
        · have hn : (ce != 0) = true := by simpa using h0
          have HX : Aside0 (FE = ce ∧ FJ = jc JobPure.j0 ∧ FB = false) := ⟨by
            have h1 : FE = ce := by
              rw [HFE.out]
              rw [if_pos h0]
            exact ⟨h1, HFB.out (by rw [h1]; exact h0)⟩⟩
          obtain ⟨rfl, rfl, rfl⟩ := HX.out
          clear g0 g1 h0
          go_wp2
          refine bodyPost_ret (Cron.results_ctt' rfl _ _ (w.heap.size + 1) 35 #[.int .i64 0, .string ⟨#[]⟩, .string ⟨#[]⟩, .string ⟨#[]⟩, .int .i64 0, .int .i64 0, .int .i64 0, .int .i64 0, .int .i64 0, .int .i64 0] (0, 0) _ rfl (blk10 HCK.out) Tryd.underlying35 rfl (by kernel_rfl)) rfl ?_
          exact ⟨rfl, below_set10 HCB.out (by omega) _ _ _ _ _ _ _ _ _ _⟩
      · by_cases h0 : se = 0
        · have hn : (se != 0) = false := by simpa using h0
          have H0 := Aside0.mk h0
          have G0 := Aside0.mk (And.intro g0 g1)
          clear g0 g1 h0
          go_wp2
          go_roundg 0
          case measure => omega
          case rel => exact ⟨2, rfl, by omega, fun _ => G0.out.1 (by omega), fun _ => H0.out, rfl⟩
        · have hn : (se != 0) = true := by simpa using h0
          have HX : Aside0 (FE = se ∧ FJ = jc JobPure.j0 ∧ FB = false) := ⟨by
            have h1 : FE = se := by
              rw [HFE.out]
              rw [if_neg (by rw [g0 (by omega)]; decide)]
            exact ⟨h1, HFB.out (by rw [h1]; exact h0)⟩⟩
          obtain ⟨rfl, rfl, rfl⟩ := HX.out
          clear g0 g1 h0
          go_wp2
          refine bodyPost_ret (Cron.results_ctt' rfl _ _ (w.heap.size + 1) 35 #[.int .i64 0, .string ⟨#[]⟩, .string ⟨#[]⟩, .string ⟨#[]⟩, .int .i64 0, .int .i64 0, .int .i64 0, .int .i64 0, .int .i64 0, .int .i64 0] (0, 0) _ rfl (blk10 HCK.out) Tryd.underlying35 rfl (by kernel_rfl)) rfl ?_
          exact ⟨rfl, below_set10 HCB.out (by omega) _ _ _ _ _ _ _ _ _ _⟩
      · have HZ : Aside0 (ce = 0 ∧ se = 0) := ⟨g0 (by omega), g1 (by omega)⟩
        clear g0 g1 k0 k1 k2 k3 k4 k5 k6 k7 k8 k9 f0 f1 f2 f3 f4 f5 f6 f7 f8 f9
        have HE0 : Aside0 (FE = 0) := ⟨by rw [HFE.out, HZ.out.1, HZ.out.2]; rfl⟩
        have HK : Aside0 (chk pe ⟨id, name, rule, payload, status, due, tries, worker, token, til⟩ = true ∧ 0 ≤ now ∧ now ≤ 32503679999) := ⟨by
          obtain ⟨z0, z2⟩ := HZ.out
          refine ⟨?_, ?_⟩
          · rw [hce.out, chkE] at z0
            split at z0
            · assumption
            · cases z0
          · rw [hse.out, leasedE] at z2
            split at z2
            · split at z2
              · assumption
              · cases z2
            · cases z2⟩
        obtain ⟨n0, n1⟩ := HK.out.2
        have HPE : Aside0 (rule ≠ ⟨#[]⟩ → pe = 0) := ⟨fun hr => by
          have h := HK.out.1
          rw [chk, Bool.and_eq_true, chkC] at h
          have h2 := h.2
          have : decide (rule.size = 0) = false := decide_eq_false (fun h => hr (size0.1 h))
          simp only [this, Bool.false_or, Bool.and_eq_true, beq_iff_eq] at h2
          exact h2.1⟩
        obtain ⟨X, hX⟩ := named (againJ (nx now) ⟨id, name, rule, payload, status, due, tries, worker, token, til⟩).1
        obtain ⟨ok, hok⟩ := named (againJ (nx now) ⟨id, name, rule, payload, status, due, tries, worker, token, til⟩).2
        have HFB2 : Aside0 (FB = ok) := ⟨by rw [hFB.out, finB, ← hFE.out, HE0.out, hok.out]; simp⟩
        have HFJ2 : Aside0 (FJ = if ok then jc X else jc JobPure.j0) := ⟨by rw [hFJ.out, finJ, ← hFB.out, HFB2.out, hX.out]; split <;> rfl⟩
        obtain ⟨x1, x2, x3, x4, x5, x6, x7, x8, x9, x10⟩ := X
        have CA : Aside0 (∀ W', Below w.heap.size w W' → Calls Tryd.prog 32 #[.agg #[.int .i64 id, .string name, .string rule, .string payload, .int .i64 status, .int .i64 due, .int .i64 tries, .int .i64 worker, .int .i64 token, .int .i64 til], .int .i64 now] W' fun e w' => e = .returned (.tuple #[.agg #[.int .i64 x1, .string x2, .string x3, .string x4, .int .i64 x5, .int .i64 x6, .int .i64 x7, .int .i64 x8, .int .i64 x9, .int .i64 x10], .bool ok]) ∧ Below W'.heap.size W' w') := ⟨fun W' hW => by
          have h := again_any HLT.out pe nx ⟨id, name, rule, payload, status, due, tries, worker, token, til⟩ now W' (HTW.out _ hW) HP.out HPE.out n0 (by omega)
          rw [← hX.out, ← hok.out] at h
          exact h⟩
        obtain ⟨j0, j1, j2, j3, j4, j5, j6, j7, j8, j9⟩ := all10 HCJ.out
        obtain rfl := HE0.out
        obtain rfl := HFB2.out
        cases FB with
        | true =>
          obtain rfl : FJ = #[.int .i64 x1, .string x2, .string x3, .string x4, .int .i64 x5, .int .i64 x6, .int .i64 x7, .int .i64 x8, .int .i64 x9, .int .i64 x10] := HFJ2.out
          go_wp2_with (go_at_call 32; with_reducible refine (CA.out _ HCB.out).mono ?_; rintro e w4 ⟨rfl, hb4⟩; (have HB4 := Aside0.mk (bthen HCB.out hb4)); (have HK4 := Aside0.mk (blk_keep HCK.out hb4)); (have hlk := blk_lt HK4.out); clear j0 j1 j2 j3 j4 j5 j6 j7 j8 j9; obtain ⟨k0, k1, k2, k3, k4, k5, k6, k7, k8, k9⟩ := all10 HK4.out; obtain ⟨f0, f1, f2, f3, f4, f5, f6, f7, f8, f9⟩ := frz10 HK4.out; clear hb4)
          refine bodyPost_ret (Cron.results_ctt' rfl _ _ (w.heap.size + 1) 35 #[.int .i64 x1, .string x2, .string x3, .string x4, .int .i64 x5, .int .i64 x6, .int .i64 x7, .int .i64 x8, .int .i64 x9, .int .i64 x10] (0, 0) _ rfl (blk_alloc (blk10 HK4.out) _) Tryd.underlying35 rfl (by kernel_rfl)) rfl ?_
          exact ⟨rfl, below_alloc (below_set10 HB4.out (by omega) _ _ _ _ _ _ _ _ _ _) _⟩
        | false =>
          obtain rfl : FJ = #[.int .i64 0, .string ⟨#[]⟩, .string ⟨#[]⟩, .string ⟨#[]⟩, .int .i64 0, .int .i64 0, .int .i64 0, .int .i64 0, .int .i64 0, .int .i64 0] := HFJ2.out
          go_wp2_with (go_at_call 32; with_reducible refine (CA.out _ HCB.out).mono ?_; rintro e w4 ⟨rfl, hb4⟩; (have HB4 := Aside0.mk (bthen HCB.out hb4)); (have HK4 := Aside0.mk (blk_keep HCK.out hb4)); (have hlk := blk_lt HK4.out); clear j0 j1 j2 j3 j4 j5 j6 j7 j8 j9; obtain ⟨k0, k1, k2, k3, k4, k5, k6, k7, k8, k9⟩ := all10 HK4.out; obtain ⟨f0, f1, f2, f3, f4, f5, f6, f7, f8, f9⟩ := frz10 HK4.out; clear hb4)
          refine bodyPost_ret (Cron.results_ctt' rfl _ _ (w.heap.size + 1) 35 #[.int .i64 0, .string ⟨#[]⟩, .string ⟨#[]⟩, .string ⟨#[]⟩, .int .i64 0, .int .i64 0, .int .i64 0, .int .i64 0, .int .i64 0, .int .i64 0] (0, 0) _ rfl (blk_alloc (blk10 HK4.out) _) Tryd.underlying35 rfl (by kernel_rfl)) rfl ?_
          exact ⟨rfl, below_alloc (below_set10 HB4.out (by omega) _ _ _ _ _ _ _ _ _ _) _⟩
end Go.Proofs.YteloamnakikbbaaDoor.Job

/- What Lease, Fail and Finish make of a job may be, and is the same job: plain. -/
namespace Go.Proofs.YteloamnakikbbaaDoor.JKeeps
set_option linter.unusedVariables false
set_option linter.unusedSimpArgs false
open Go.RowKit Go.Proofs.YteloamnakikbbaaDoor.Base Go.Proofs.YteloamnakikbbaaDoor.JobPure Go.Proofs.YteloamnakikbbaaDoor.Job

theorem chk_iff {pe : Int} {j : Jb} : chk pe j = true ↔ (1 ≤ j.id ∧ j.id ≤ 1099511627776 ∧ j.name.size ≤ 32 ∧ j.payload.size ≤ 200 ∧ 0 ≤ j.due ∧ j.due ≤ 32503680000 ∧ 0 ≤ j.tries ∧ j.tries ≤ 16) ∧ chkB j = true ∧ chkC pe j = true := by
  rw [chk, Bool.and_eq_true, Bool.and_eq_true, chkA, decide_eq_true_eq, and_assoc]
theorem chkC_rule {pe : Int} {j k : Jb} (h : k.rule = j.rule) : chkC pe k = chkC pe j := by unfold chkC; rw [h]
theorem wait_B {j : Jb} (d t : Int) : chkB (holdJ { j with tries := t } 1 d 0 0 0) = true := rfl
theorem lease_may {pe : Int} {j : Jb} {a b c : Int} (h : leaseE pe j a b c = 0) : chk pe j = true ∧ leaseJ pe j a b c = holdJ j 2 0 a b c ∧ chk pe (holdJ j 2 0 a b c) = true := by
  have hj : leaseJ pe j a b c = holdJ j 2 0 a b c := by rw [leaseJ, if_pos h]
  unfold leaseE at h
  split at h
  · rename_i h1
    split at h
    · split at h
      · rename_i h3
        refine ⟨h1, hj, ?_⟩
        obtain ⟨⟨q0, q1, q2, q3, q4, q5, q6, q7⟩, _, q9⟩ := chk_iff.1 h1
        refine chk_iff.2 ⟨⟨q0, q1, q2, q3, by show (0 : Int) ≤ 0; omega, by show (0 : Int) ≤ _; omega, q6, q7⟩, ?_, q9⟩
        show (hmay a b c && decide ((0 : Int) = 0)) = true
        rw [h3]; rfl
      · cases h
    · cases h
  · cases h
theorem leased_may {j : Jb} {now : Int} (h : leasedE j now = 0) : 0 ≤ now ∧ now ≤ 32503679999 := by
  unfold leasedE at h
  split at h
  · split at h
    · assumption
    · cases h
  · cases h
/-- a job that waits until its rule comes again may be -/
theorem again_may {pe : Int} {j : Jb} {t d : Int} (h : chk pe j = true) (t0 : 0 ≤ t) (t1 : t ≤ 16) (d0 : 0 ≤ d) (d1 : d ≤ 32503680000) : chk pe (holdJ { j with tries := t } 1 d 0 0 0) = true := by
  obtain ⟨⟨q0, q1, q2, q3, q4, q5, q6, q7⟩, _, q9⟩ := chk_iff.1 h
  exact chk_iff.2 ⟨⟨q0, q1, q2, q3, d0, d1, t0, t1⟩, rfl, q9⟩
theorem dead_may {pe pe' : Int} {j : Jb} {t d : Int} (h : chk pe j = true) (t0 : 0 ≤ t) (t1 : t ≤ 16) (d0 : 0 ≤ d) (d1 : d ≤ 32503680000) : chk pe' (holdJ { j with tries := t, rule := ⟨#[]⟩ } 3 d 0 0 0) = true := by
  obtain ⟨⟨q0, q1, q2, q3, q4, q5, q6, q7⟩, _, q9⟩ := chk_iff.1 h
  exact chk_iff.2 ⟨⟨q0, q1, q2, q3, d0, d1, t0, t1⟩, rfl, rfl⟩
/-- the same job: its number, its name, its payload; its rule is the same, or none -/
def Same (j k : Jb) : Prop := k.id = j.id ∧ k.name = j.name ∧ k.payload = j.payload ∧ (k.rule = j.rule ∨ k.rule = ⟨#[]⟩)
theorem again_two {nx : Int × Bool} {j : Jb} (h : (againJ nx j).2 = true) : nx.2 = true ∧ (againJ nx j).1 = holdJ { j with tries := 0 } 1 nx.1 0 0 0 := by
  unfold againJ at h ⊢
  by_cases q : j.rule.size = 0
  · rw [if_pos q] at h; cases h
  · rw [if_neg q] at h ⊢; exact ⟨h, rfl⟩
theorem fail_may {pe : Int} {nx : Int → Int × Bool} {j : Jb} {b c t now : Int} (hn : ∀ now, 0 ≤ now → now < 32503680000 → (nx now).2 = true → 0 ≤ (nx now).1 ∧ (nx now).1 ≤ 32503680000) (h : failE pe j b c t now = 0) :
    (chk pe (failJ pe (nx now) j b c t now) = true ∨ (failJ pe (nx now) j b c t now).rule = ⟨#[]⟩ ∧ ∀ pe', chk pe' (failJ pe (nx now) j b c t now) = true) ∧ Same j (failJ pe (nx now) j b c t now) ∧ (failJ pe (nx now) j b c t now).status ≠ 2 := by
  have hj : failJ pe (nx now) j b c t now = failG (nx now) j b c t now := by rw [failJ, if_pos h]
  rw [hj]
  clear hj
  unfold failE at h
  split at h
  · rename_i h1
    split at h
    · rename_i h2
      obtain ⟨n0, n1⟩ := leased_may h
      obtain ⟨⟨q0, q1, q2, q3, q4, q5, q6, q7⟩, _, q9⟩ := chk_iff.1 h1
      obtain ⟨b1, b2, bc, c2, t1, t2⟩ := limOk_iff.1 h2
      have T0 : 0 ≤ failT j ∧ failT j ≤ 16 := by unfold failT; omega
      obtain ⟨d1, d2⟩ := delay_bd (b := b) (c := c) (failT j - 1).toNat b1 (by omega)
      unfold failG
      split
      · rename_i h3
        exact ⟨.inl (again_may h1 T0.1 T0.2 (by omega) (by omega)), ⟨rfl, rfl, rfl, .inl rfl⟩, by show (1 : Int) ≠ 2; omega⟩
      · split
        · rename_i h4
          obtain ⟨h5, h6⟩ := again_two h4
          obtain ⟨n2, n3⟩ := hn now n0 (by omega) h5
          rw [h6]
          exact ⟨.inl (again_may (j := j) h1 (by omega) (by omega) n2 n3), ⟨rfl, rfl, rfl, .inl rfl⟩, by show (1 : Int) ≠ 2; omega⟩
        · exact ⟨.inr ⟨rfl, fun pe' => dead_may h1 T0.1 T0.2 (by omega) (by omega)⟩, ⟨rfl, rfl, rfl, .inr rfl⟩, by show (3 : Int) ≠ 2; omega⟩
    · cases h
  · cases h
theorem finish_may {pe : Int} {nx : Int → Int × Bool} {j : Jb} {now : Int} (hn : ∀ now, 0 ≤ now → now < 32503680000 → (nx now).2 = true → 0 ≤ (nx now).1 ∧ (nx now).1 ≤ 32503680000) (h : finE pe j now = 0) :
    1 ≤ j.id ∧ (finB pe (nx now) j now = true → chk pe (finJ pe (nx now) j now) = true ∧ Same j (finJ pe (nx now) j now) ∧ (finJ pe (nx now) j now).rule = j.rule ∧ (finJ pe (nx now) j now).status = 1 ∧ (finJ pe (nx now) j now).tries = 0) ∧ (finB pe (nx now) j now = false → finJ pe (nx now) j now = j0) := by
  have h0 := h
  unfold finE at h
  split at h
  · rename_i h1
    obtain ⟨n0, n1⟩ := leased_may h
    refine ⟨(chk_iff.1 h1).1.1, fun hb => ?_, fun hb => by rw [finJ, hb]; rfl⟩
    have hj : finJ pe (nx now) j now = (againJ (nx now) j).1 := by rw [finJ, if_pos hb]
    rw [finB, h0] at hb
    obtain ⟨h5, h6⟩ := again_two (by simpa using hb)
    obtain ⟨n2, n3⟩ := hn now n0 (by omega) h5
    rw [hj, h6]
    exact ⟨again_may h1 (by omega) (by omega) n2 n3, ⟨rfl, rfl, rfl, .inl rfl⟩, rfl, rfl, rfl⟩
  · cases h
end Go.Proofs.YteloamnakikbbaaDoor.JKeeps

/- The document's Delay; the law's alive: walked. -/
namespace Go.Proofs.YteloamnakikbbaaDoor.Job
set_option linter.unusedVariables false
set_option linter.unusedSimpArgs false
open Go.RowKit Go.Proofs.YteloamnakikbbaaDoorW.PrintWords Go.Proofs.YteloamnakikbbaaDoorW.PrintLast Go.Proofs.YteloamnakikbbaaDoor.Base Go.Proofs.YteloamnakikbbaaDoor.Cells Go.Proofs.YteloamnakikbbaaDoor.JobPure

theorem pow_succ_int (b : Int) (i : Nat) : b * ((2 ^ (i + 1) : Nat) : Int) = 2 * (b * ((2 ^ i : Nat) : Int)) := by
  rw [Nat.pow_succ]
  push_cast
  rw [← Int.mul_assoc, Int.mul_comm (b * 2 ^ i) 2]
theorem delay_past {b c : Int} {i k : Nat} (h : i ≤ k) (hb : 1 ≤ b) (hc : c ≤ b * ((2 ^ i : Nat) : Int)) : delayP b c k = c := by
  unfold delayP
  have h1 := Nat.pow_le_pow_right (n := 2) (by omega) h
  generalize 2 ^ i = p at h1 hc
  generalize 2 ^ k = q at h1 ⊢
  have h2 : b * (p : Int) ≤ b * (q : Int) := Int.mul_le_mul_of_nonneg_left (by omega) (by omega)
  omega
set_option maxRecDepth 100000 in
theorem rdelay_any (b c t : Int) (k : Nat) (w : World) (hl : limOk b c t = true) (hk : k ≤ 64) :
    Calls Tryd.prog 17 #[.agg #[.int .i64 b, .int .i64 c, .int .i64 t], .int .i64 k] w fun e w' => e = .returned (.tuple #[.int .i64 (delayP b c k), .int .i64 0]) ∧ Below w.heap.size w w' := by
  obtain ⟨b1, b2, bc, c2, t1, t2⟩ := limOk_iff.1 hl
  have hlE : Aside0 (limE b c t = 0) := ⟨by rw [limE, hl]; rfl⟩
  clear hl
  obtain ⟨D, hD⟩ := named (delayP b c k)
  rw [← hD.out]
  have k0 : (0 : Int) ≤ (k : Int) := by omega
  go_enter Tryd.func17, Tryd.ntmps17
  go_wp2_with (go_at_call 9; refine (rlim_any _ _ _ _).mono ?_; rw [hlE.out]; rintro e w1 ⟨rfl, hb1⟩; (have HB1 := Aside0.mk (bthen (below_alloc (Below.refl _ w) _) hb1)); (have HL1 := Aside0.mk (blk_keep (blk_new _ _) hb1)); obtain ⟨l0, l1, l2, _, _, _⟩ := all3 HL1.out; clear hb1)
  go_loopg [6, 7] k (fun g v6 v7 wr => ∃ (i : Nat) (d : Int), v7 = .int .i64 i ∧ g + i = k ∧ v6 = .int .i64 d ∧ Aside0 (d = b * ((2 ^ i : Nat) : Int)) ∧ 1 ≤ d ∧ d ≤ 4294967296 ∧ wr = w1)
  case atStart => exact ⟨0, b, rfl, by omega, rfl, ⟨by simp⟩, b1, by omega, rfl⟩
  case round =>
    obtain ⟨i, d, rfl, hg, rfl, HD, d1, d2, rfl⟩ := hrel
    by_cases hi : i < k
    · by_cases hd : d < c
      · go_wp2
        go_roundg (k - i - 1)
        case measure => omega
        case rel => exact ⟨i + 1, 2 * d, by go_num, by omega, rfl, ⟨by rw [HD.out, pow_succ_int]⟩, by omega, by omega, rfl⟩
      · have HX : Aside0 (min d c = D) := ⟨by rw [hD.out, delay_past (Nat.le_of_lt hi) b1 (by rw [← HD.out]; omega)]; omega⟩
        go_wp2
        go_ret2
        exact ⟨by rw [← HX.out]; rfl, HB1.out⟩
    · obtain rfl : i = k := by omega
      have HX : Aside0 (min d c = D) := ⟨by rw [hD.out, delayP, HD.out]; omega⟩
      go_wp2
      go_ret2
      exact ⟨by rw [← HX.out]; rfl, HB1.out⟩

theorem num_any (n : Int) (w : World) : Calls Tryd.prog 10 #[.int .i64 n] w fun e w' => e = .returned (.int .i64 n) ∧ w = w' := by
  go_enter Tryd.func10, Tryd.ntmps10
  go_wp2
  go_ret
  exact ⟨rfl, rfl⟩
set_option maxRecDepth 100000 in
theorem alive_any (w : World) : Calls Tryd.prog 7 #[] w fun e w' => e = .returned (.bool true) ∧ Below w.heap.size w w' := by
  have CF : Aside0 (∀ W', Calls Tryd.prog 14 #[.agg #[.int .i64 1, .string ⟨#[]⟩, .string ⟨#[]⟩, .string ⟨#[]⟩, .int .i64 2, .int .i64 0, .int .i64 0, .int .i64 1, .int .i64 1, .int .i64 20], .agg #[.int .i64 3, .int .i64 9, .int .i64 4], .int .i64 10] W' fun e w' => e = .returned (.tuple #[.agg #[.int .i64 1, .string ⟨#[]⟩, .string ⟨#[]⟩, .string ⟨#[]⟩, .int .i64 1, .int .i64 13, .int .i64 1, .int .i64 0, .int .i64 0, .int .i64 0], .int .i64 0]) ∧ Below W'.heap.size W' w') := ⟨fun W' => by
    have h := fail_any Lasts.all 0 (fun _ => (0, false)) ⟨1, ⟨#[]⟩, ⟨#[]⟩, ⟨#[]⟩, 2, 0, 0, 1, 1, 20⟩ 3 9 4 10 W' trivial (CronSays.none _ _ _)
    have e1 : failE 0 ⟨1, ⟨#[]⟩, ⟨#[]⟩, ⟨#[]⟩, 2, 0, 0, 1, 1, 20⟩ 3 9 4 10 = 0 := by decide
    have e2 : failJ 0 (0, false) ⟨1, ⟨#[]⟩, ⟨#[]⟩, ⟨#[]⟩, 2, 0, 0, 1, 1, 20⟩ 3 9 4 10 = ⟨1, ⟨#[]⟩, ⟨#[]⟩, ⟨#[]⟩, 1, 13, 1, 0, 0, 0⟩ := by
      rw [failJ, e1, if_pos rfl, failG, if_pos (by decide)]
      rfl
    rw [e1, e2] at h
    exact h⟩
  go_enter Tryd.func7, Tryd.ntmps7
  go_wp2_with (first
    | (go_at_call 14; refine (CF.out _).mono ?_; rintro e w1 ⟨rfl, hb1⟩; (have HB1 := Aside0.mk (bthen (below_alloc (Below.refl _ w) _) hb1)); clear hb1)
    | (go_at_call 10; refine (num_any _ _).mono ?_; rintro e w2 ⟨rfl, rfl⟩))
  go_ret
  exact ⟨rfl, below_alloc HB1.out _⟩
end Go.Proofs.YteloamnakikbbaaDoor.Job

/- Rows of whole numbers of one's own; CopyInts. -/
namespace Go.Proofs.YteloamnakikbbaaDoor.Ints
set_option linter.unusedVariables false
set_option linter.unusedSimpArgs false
open Go.RowKit Go.Proofs.YteloamnakikbbaaDoorW.PrintWords Go.Proofs.YteloamnakikbbaaDoorW.PrintLast Go.Proofs.YteloamnakikbbaaDoor.Base Go.Proofs.YteloamnakikbbaaDoor.Cells

theorem infoI : (Tryd.prog.info? 3).map (fun i => (i.zero, i.size, i.bytes)) = some (some (.int .i64 0), 1, 8) := by kernel_rfl
/-- a row of whole numbers of one's own -/
abbrev RI (w : World) (base : Nat) (v : Value) (l : List Int) : Prop := w.ownsRow base 3 1 v l.length (nums .i64 l)
theorem RI_reads {w : World} {base : Nat} {v : Value} {l : List Int} (h : RI w base v l) : ∃ A c, v = .slice A l.length c ∧ ReadsInt w .i64 A l.length l := own_reads h
theorem RI_set {w : World} {base : Nat} {v : Value} {l : List Int} (h : RI w base v l) {p : Addr} (hp : p.block < base) (u : Value) : RI (w.setCell p u) base v l :=
  own_setCell h (fun e => by have := own_base h p.block e.symm; omega) u

end Go.Proofs.YteloamnakikbbaaDoor.Ints

/- varint.Size, bytes.Clone, varint.Put, varint.Get: walked. -/
namespace Go.Proofs.YteloamnakikbbaaDoor.Var
set_option linter.unusedVariables false
set_option linter.unusedSimpArgs false
open Go.RowKit Go.Proofs.YteloamnakikbbaaDoorW.PrintWords Go.Proofs.YteloamnakikbbaaDoorW.PrintLast Go.Proofs.YteloamnakikbbaaDoor.Base Go.Proofs.YteloamnakikbbaaDoor.Cells Go.Proofs.YteloamnakikbbaaDoor.Ints Go.Proofs.YteloamnakikbbaaDoor.VarPure

/-- octets as numbers of Go -/
def nb (l : List Nat) : List Int := l.map (Nat.cast : Nat → Int)
theorem nb_len (l : List Nat) : (nb l).length = l.length := by simp [nb]
/-- a row of octets of one's own -/
abbrev RB (w : World) (base : Nat) (v : Value) (l : List Int) : Prop := w.ownsRow base 5 1 v l.length (nums .u8 l)
theorem RB_reads {w : World} {base : Nat} {v : Value} {l : List Int} (h : RB w base v l) : ∃ A c, v = .slice A l.length c ∧ ReadsInt w .u8 A l.length l := own_reads h
theorem infoB : (Tryd.prog.info? 5).map (fun i => (i.zero, i.size, i.bytes)) = some (some (.int .u8 0), 1, 1) := by kernel_rfl

set_option maxRecDepth 100000 in
theorem size_any (n : Int) (h0 : 0 ≤ n) (h1 : n ≤ 18446744073709551615) (w : World) :
    Calls Tryd.prog 48 #[.int .u64 n] w fun e w' => e = .returned (.int .i64 (sizeN n.toNat)) ∧ w' = w := by
  have hb := Lib.bitLen_le n.toNat 64 (by omega) (by omega)
  obtain ⟨b, hbb⟩ : ∃ b, Lib.bitLen n.toNat = b := ⟨_, rfl⟩
  rw [hbb] at hb
  have hs : Aside0 ((sizeN n.toNat : Int) = min 9 (max 1 (((b : Int) + 6) / 7))) := ⟨by unfold sizeN; rw [hbb]; omega⟩
  go_enter Tryd.func48, Tryd.ntmps48
  go_wp2_with (go_at_call 63; refine (Tryd.bits_Len64 n _ h0 h1).mono ?_; rw [hbb]; rintro e w' ⟨rfl, rfl⟩)
  go_ret
  refine ⟨?_, rfl⟩
  rw [hs.out]
  rfl

set_option maxRecDepth 100000 in
set_option maxHeartbeats 1000000 in
theorem cloneB_any (ad : Addr) (c : Nat) (l : List Int) (w : World) (hr : ReadsInt w .u8 (some ad) l.length l) (hb : l.length ≤ 1048576) :
    Calls Tryd.prog 49 #[.slice (some ad) l.length c] w fun e w' => ∃ v, e = .returned v ∧ RB w' w.heap.size v l ∧ Below w.heap.size w w' := by
  have HR := Aside0.mk hr
  clear hr
  have hnil : ∀ W, (binOp .eql 82 (.slice (some ad) l.length c) (.slice none 0 0)).run Tryd.prog W = .ok (.bool false) W := fun W => Lib.run_eql_slice_nil (P := Tryd.prog) W 82 5 (some ad) l.length c 0 0 Tryd.underlying82
  have HO : Aside0 (RB (w.alloc (.cells #[] 5)) w.heap.size (.slice (some ⟨w.heap.size, 0, none⟩) 0 0) []) := ⟨by
    have h2 := World.ownsRow_lit (base := w.heap.size) (e := 5) (size := 1) w #[] 0 (Nat.le_refl _) (by simp [maxLen]) (by simp)
    exact h2⟩
  have HB : Aside0 (Below w.heap.size w (w.alloc (.cells #[] 5))) := ⟨below_alloc (Below.refl _ _) _⟩
  have HC := Aside0.mk (HR.out.below HB.out)
  go_enter Tryd.func49, Tryd.ntmps49
  go_wp2_with (at_builtin; refine print_append_row (w0 := w) w.heap.size (by rfl) (.tmp 5) (.tmp 6) 82 5 .u8 1 (by rfl) Tryd.underlying82 infoB (by decide) (.slice (some ⟨w.heap.size, 0, none⟩) 0 0) [] l (some ad) l.length c (by rfl) (by rfl) ?aO ?aR ?aB ?aS ?c1 ?_; (case aO => exact HO.out); (case aR => exact HC.out); (case aB => exact HB.out); (case aS => exact HB.out.size); (case c1 => simp only [List.length_nil]; omega); intro v1 w1 hown hB1 hg1 hat; have HO1 := Aside0.mk hown; have HB1 := Aside0.mk hB1; clear hown hB1 hg1 hat)
  go_ret
  exact ⟨_, rfl, by have := HO1.out; rwa [List.nil_append] at this, HB1.out⟩

/-- the nine octets behind i rounds -/
def pc (n i : Nat) : List Value := (List.range 9).map fun j => .int .u8 (if 9 ≤ j + i then ((n / 256 ^ (8 - j) % 256 : Nat) : Int) else 0)
theorem pc_set (m i : Nat) (hi : i < 9) : (pc m i).toArray.setIfInBounds (8 - i) (.int .u8 ((m / 256 ^ i % 256 : Nat) : Int)) = (pc m (i + 1)).toArray := by
  apply Array.toList_inj.1
  rw [Array.toList_setIfInBounds]
  refine List.ext_getElem (by simp [pc]) (fun j h1 h2 => ?_)
  have hj : j < 9 := by simpa [pc] using h2
  rw [List.getElem_set]
  simp only [pc, List.getElem_map, List.getElem_range]
  by_cases he : 8 - i = j
  · rw [if_pos he, if_pos (by omega), show 8 - j = i by omega]
  · rw [if_neg he]
    congr 1
    by_cases h9 : 9 ≤ j + i
    · rw [if_pos h9, if_pos (by omega)]
    · rw [if_neg h9, if_neg (by omega)]
theorem be_range : ∀ (k n : Nat), be k n = (List.range k).map fun t => n / 256 ^ (k - 1 - t) % 256
  | 0, _ => rfl
  | k + 1, n => by
    rw [be, be_range k, List.range_succ, List.map_append, List.map_singleton]
    congr 1
    · refine List.map_congr_left (fun t ht => ?_)
      have ht := List.mem_range.1 ht
      rw [Nat.div_div_eq_div_mul, show k + 1 - 1 - t = (k - 1 - t) + 1 by omega, Nat.pow_succ, Nat.mul_comm]
    · simp

theorem put_reads {w : World} {g : Nat} (m k : Nat) (hk : k ≤ 9) (h : w.heap[g]? = some (.cells (pc m 9).toArray 111 (0, 0))) : ReadsInt w .u8 (some ⟨g, 9 - k, none⟩) k (nb (be k m)) := by
  refine ⟨by rw [nb_len, be_len], by omega, fun _ => ⟨_, rfl, fun j hj => ?_⟩⟩
  have ha : ((⟨g, 9 - k, none⟩ : Addr).add j) = ⟨g, 9 - k + j, none⟩ := by rw [Addr.add_lit]
  rw [ha, blk_cell h]
  have h1 : (nb (be k m)).getD j 0 = ((m / 256 ^ (k - 1 - j) % 256 : Nat) : Int) := by
    rw [List.getD_eq_getElem?_getD, nb, be_range]
    simp [List.getElem?_map, List.getElem?_range hj]
  rw [h1, List.getElem?_toArray, pc, List.getElem?_map, List.getElem?_range (by omega)]
  simp only [Option.map_some]
  rw [if_pos (by omega), show 8 - (9 - k + j) = k - 1 - j by omega]
theorem cloneK_any (ad : Addr) (c k : Nat) (l : List Int) (w : World) (hk : k = l.length) (hr : ReadsInt w .u8 (some ad) k l) (hb : k ≤ 1048576) :
    Calls Tryd.prog 49 #[.slice (some ad) k c] w fun e w' => ∃ v, e = .returned v ∧ RB w' w.heap.size v l ∧ Below w.heap.size w w' := by
  subst hk
  exact cloneB_any ad c l w hr hb

theorem be_head {n k : Nat} (hk : sizeN n = k) (hk1 : 1 ≤ k) (hk8 : k ≤ 8) (hn : n < 2 ^ 64) : ∃ b t, be k n = b :: t ∧ b < 2 ^ (8 - k) := by
  have hlt := sizeN_of hn hk hk8
  obtain ⟨j, rfl⟩ : ∃ j, k = j + 1 := ⟨k - 1, by omega⟩
  have hbl := be_len (j + 1) n
  have h256 : n < 256 ^ (j + 1) := by
    refine Nat.lt_of_lt_of_le hlt ?_
    rw [show (256 : Nat) = 2 ^ 8 by rfl, ← Nat.pow_mul]
    exact Nat.pow_le_pow_right (by omega) (by omega)
  have hv := val_be (j + 1) n h256
  rcases hbe : be (j + 1) n with _ | ⟨b, t⟩
  · rw [hbe] at hbl; simp at hbl
  · rw [hbe] at hbl hv
    have htl : t.length = j := by simpa using hbl
    rw [val_cons, htl] at hv
    refine ⟨b, t, rfl, ?_⟩
    have h1 : b * 256 ^ j < 2 ^ (7 * (j + 1)) := by omega
    have h2 : 2 ^ (7 * (j + 1)) = 2 ^ (8 - (j + 1)) * 256 ^ j := by
      rw [show (256 : Nat) = 2 ^ 8 by rfl, ← Nat.pow_mul, ← Nat.pow_add]; congr 1; omega
    rw [h2] at h1
    exact Nat.lt_of_mul_lt_mul_right h1
theorem or_mask1 : ∀ b : Fin 128, bits .or .u8 (b.val : Int) (bits .xor .u8 IntKind.u8.max 255) = ((b.val + mask 1 : Nat) : Int) := by decide +kernel
theorem or_mask2 : ∀ b : Fin 64, bits .or .u8 (b.val : Int) (bits .xor .u8 IntKind.u8.max 127) = ((b.val + mask 2 : Nat) : Int) := by decide +kernel
theorem or_mask3 : ∀ b : Fin 32, bits .or .u8 (b.val : Int) (bits .xor .u8 IntKind.u8.max 63) = ((b.val + mask 3 : Nat) : Int) := by decide +kernel
theorem or_mask4 : ∀ b : Fin 16, bits .or .u8 (b.val : Int) (bits .xor .u8 IntKind.u8.max 31) = ((b.val + mask 4 : Nat) : Int) := by decide +kernel
theorem or_mask5 : ∀ b : Fin 8, bits .or .u8 (b.val : Int) (bits .xor .u8 IntKind.u8.max 15) = ((b.val + mask 5 : Nat) : Int) := by decide +kernel
theorem or_mask6 : ∀ b : Fin 4, bits .or .u8 (b.val : Int) (bits .xor .u8 IntKind.u8.max 7) = ((b.val + mask 6 : Nat) : Int) := by decide +kernel
theorem or_mask7 : ∀ b : Fin 2, bits .or .u8 (b.val : Int) (bits .xor .u8 IntKind.u8.max 3) = ((b.val + mask 7 : Nat) : Int) := by decide +kernel
theorem or_mask8 : ∀ b : Fin 1, bits .or .u8 (b.val : Int) (bits .xor .u8 IntKind.u8.max 1) = ((b.val + mask 8 : Nat) : Int) := by decide +kernel
theorem or_mask {k b : Nat} (hk1 : 1 ≤ k) (hk8 : k ≤ 8) (hb : b < 2 ^ (8 - k)) : bits .or .u8 (b : Int) (bits .xor .u8 IntKind.u8.max (255 / 2 ^ (k - 1))) = ((b + mask k : Nat) : Int) := by
  rcases (show k = 1 ∨ k = 2 ∨ k = 3 ∨ k = 4 ∨ k = 5 ∨ k = 6 ∨ k = 7 ∨ k = 8 by omega) with rfl | rfl | rfl | rfl | rfl | rfl | rfl | rfl
  · exact or_mask1 ⟨b, hb⟩
  · exact or_mask2 ⟨b, hb⟩
  · exact or_mask3 ⟨b, hb⟩
  · exact or_mask4 ⟨b, hb⟩
  · exact or_mask5 ⟨b, hb⟩
  · exact or_mask6 ⟨b, hb⟩
  · exact or_mask7 ⟨b, hb⟩
  · exact or_mask8 ⟨b, hb⟩
theorem put_done {w w1 w2 : World} {g2 cap k m : Nat} {q s : Int} (hk1 : 1 ≤ k) (hk9 : k ≤ 9) (hkk : sizeN m = k) (hm : m < 2 ^ 64)
    (hO : w2.ownsRow w1.heap.size 5 1 (.slice (some ⟨g2, 0, none⟩) k cap) k (nums .u8 (nb (be k m)))) (hq : rd (nb (be k m)) 0 = q) (hs : s = 255 / 2 ^ (k - 1)) (hg : w1.heap.size ≤ g2) (hb : Below w.heap.size w w1) (hb2 : Below w1.heap.size w1 w2) :
    ∃ L, RB (w2.setCell ⟨g2, 0, none⟩ (.int .u8 (bits .or .u8 q (bits .xor .u8 IntKind.u8.max s)))).drew w.heap.size (.slice (some ⟨g2, 0, none⟩) k cap) L ∧ 1 ≤ L.length ∧ L.length ≤ 9 ∧ ((m : Int) < 72057594037927936 → L = nb (putN m)) ∧ Below w.heap.size w (w2.setCell ⟨g2, 0, none⟩ (.int .u8 (bits .or .u8 q (bits .xor .u8 IntKind.u8.max s)))).drew := by
  have hst := (own_store hO 0 (bits .or .u8 q (bits .xor .u8 IntKind.u8.max s))).1
  have hl : ((nb (be k m)).set (0 : Int).toNat (bits .or .u8 q (bits .xor .u8 IntKind.u8.max s))).length = k := by rw [List.length_set, nb_len, be_len]
  refine ⟨_, ?_, by rw [hl]; exact hk1, by rw [hl]; exact hk9, fun h => ?_, below_drew (((bthen hb hb2)).setCell (p := ⟨g2, 0, none⟩) (Nat.le_trans hb.size hg) _)⟩
  · rw [RB, hl]
    exact World.ownsRow.drew (own_weaken hst hb.size)
  · have h56 : m < 2 ^ 56 := by have : (2 : Nat) ^ 56 = 72057594037927936 := rfl; omega
    have hk8 : k ≤ 8 := by have := sizeN_lt (n := m) (k := 8) (by omega) (by omega) (by simpa using h56); omega
    obtain ⟨b, t, hbe, hlt⟩ := be_head hkk hk1 hk8 hm
    have hqb : q = (b : Int) := by rw [← hq, hbe]; rfl
    rw [hqb, hs, or_mask hk1 hk8 hlt, putN, hkk, hbe]
    rfl

set_option maxRecDepth 100000 in
set_option maxHeartbeats 4000000 in
theorem put_any (n : Int) (h0 : 0 ≤ n) (h1 : n ≤ 18446744073709551615) (w : World) :
    Calls Tryd.prog 35 #[.int .u64 n] w fun e w' => ∃ v L, e = .returned v ∧ RB w' w.heap.size v L ∧ 1 ≤ L.length ∧ L.length ≤ 9 ∧ (n < 72057594037927936 → L = nb (putN n.toNat)) ∧ Below w.heap.size w w' := by
  obtain ⟨m, rfl⟩ : ∃ m : Nat, n = m := ⟨n.toNat, by omega⟩
  go_enter Tryd.func35, Tryd.ntmps35
  go_wp2
  go_loopg [7] 9 (fun g v7 wr => ∃ i : Nat, v7 = .int .i64 i ∧ g + i = 9 ∧ Aside0 (wr.heap[w.heap.size]? = some (.cells (pc m i).toArray 111 (0, 0))) ∧ Aside0 (Below w.heap.size w wr))
  case atStart => exact ⟨0, rfl, rfl, ⟨blk_new _ _⟩, ⟨below_alloc (Below.refl _ _) _⟩⟩
  case round =>
    obtain ⟨i, rfl, hg, HK, HB⟩ := hrel
    by_cases hi : i < 9
    · have hc := fun j => blk_cell HK.out j
      have hf := fun j => blk_frozen HK.out j
      rcases (show i = 0 ∨ i = 1 ∨ i = 2 ∨ i = 3 ∨ i = 4 ∨ i = 5 ∨ i = 6 ∨ i = 7 ∨ i = 8 by omega) with rfl | rfl | rfl | rfl | rfl | rfl | rfl | rfl | rfl
      · have hc8 := hc 8
        have hf8 := hf 8
        clear hc hf
        go_wp2
        go_roundg 8
        case measure => omega
        case rel => exact ⟨1, rfl, rfl, ⟨blk_put HK.out 8 _ ((congrArg (fun z => (pc m 0).toArray.setIfInBounds 8 (.int .u8 z)) (show _ = ((m / 256 ^ 0 % 256 : Nat) : Int) by simp <;> omega)).trans (pc_set m 0 (by omega)))⟩, ⟨HB.out.setCell (p := ⟨w.heap.size, 8, none⟩) (Nat.le_refl _) _⟩⟩
      · have hc8 := hc 7
        have hf8 := hf 7
        clear hc hf
        go_wp2
        go_roundg 7
        case measure => omega
        case rel => exact ⟨2, rfl, rfl, ⟨blk_put HK.out 7 _ ((congrArg (fun z => (pc m 1).toArray.setIfInBounds 7 (.int .u8 z)) (show _ = ((m / 256 ^ 1 % 256 : Nat) : Int) by simp <;> omega)).trans (pc_set m 1 (by omega)))⟩, ⟨HB.out.setCell (p := ⟨w.heap.size, 7, none⟩) (Nat.le_refl _) _⟩⟩
      · have hc8 := hc 6
        have hf8 := hf 6
        clear hc hf
        go_wp2
        go_roundg 6
        case measure => omega
        case rel => exact ⟨3, rfl, rfl, ⟨blk_put HK.out 6 _ ((congrArg (fun z => (pc m 2).toArray.setIfInBounds 6 (.int .u8 z)) (show _ = ((m / 256 ^ 2 % 256 : Nat) : Int) by simp <;> omega)).trans (pc_set m 2 (by omega)))⟩, ⟨HB.out.setCell (p := ⟨w.heap.size, 6, none⟩) (Nat.le_refl _) _⟩⟩
      · have hc8 := hc 5
        have hf8 := hf 5
        clear hc hf
        go_wp2
        go_roundg 5
        case measure => omega
        case rel => exact ⟨4, rfl, rfl, ⟨blk_put HK.out 5 _ ((congrArg (fun z => (pc m 3).toArray.setIfInBounds 5 (.int .u8 z)) (show _ = ((m / 256 ^ 3 % 256 : Nat) : Int) by simp <;> omega)).trans (pc_set m 3 (by omega)))⟩, ⟨HB.out.setCell (p := ⟨w.heap.size, 5, none⟩) (Nat.le_refl _) _⟩⟩
      · have hc8 := hc 4
        have hf8 := hf 4
        clear hc hf
        go_wp2
        go_roundg 4
        case measure => omega
        case rel => exact ⟨5, rfl, rfl, ⟨blk_put HK.out 4 _ ((congrArg (fun z => (pc m 4).toArray.setIfInBounds 4 (.int .u8 z)) (show _ = ((m / 256 ^ 4 % 256 : Nat) : Int) by simp <;> omega)).trans (pc_set m 4 (by omega)))⟩, ⟨HB.out.setCell (p := ⟨w.heap.size, 4, none⟩) (Nat.le_refl _) _⟩⟩
      · have hc8 := hc 3
        have hf8 := hf 3
        clear hc hf
        go_wp2
        go_roundg 3
        case measure => omega
        case rel => exact ⟨6, rfl, rfl, ⟨blk_put HK.out 3 _ ((congrArg (fun z => (pc m 5).toArray.setIfInBounds 3 (.int .u8 z)) (show _ = ((m / 256 ^ 5 % 256 : Nat) : Int) by simp <;> omega)).trans (pc_set m 5 (by omega)))⟩, ⟨HB.out.setCell (p := ⟨w.heap.size, 3, none⟩) (Nat.le_refl _) _⟩⟩
      · have hc8 := hc 2
        have hf8 := hf 2
        clear hc hf
        go_wp2
        go_roundg 2
        case measure => omega
        case rel => exact ⟨7, rfl, rfl, ⟨blk_put HK.out 2 _ ((congrArg (fun z => (pc m 6).toArray.setIfInBounds 2 (.int .u8 z)) (show _ = ((m / 256 ^ 6 % 256 : Nat) : Int) by simp <;> omega)).trans (pc_set m 6 (by omega)))⟩, ⟨HB.out.setCell (p := ⟨w.heap.size, 2, none⟩) (Nat.le_refl _) _⟩⟩
      · have hc8 := hc 1
        have hf8 := hf 1
        clear hc hf
        go_wp2
        go_roundg 1
        case measure => omega
        case rel => exact ⟨8, rfl, rfl, ⟨blk_put HK.out 1 _ ((congrArg (fun z => (pc m 7).toArray.setIfInBounds 1 (.int .u8 z)) (show _ = ((m / 256 ^ 7 % 256 : Nat) : Int) by simp <;> omega)).trans (pc_set m 7 (by omega)))⟩, ⟨HB.out.setCell (p := ⟨w.heap.size, 1, none⟩) (Nat.le_refl _) _⟩⟩
      · have hc8 := hc 0
        have hf8 := hf 0
        clear hc hf
        go_wp2
        go_roundg 0
        case measure => omega
        case rel => exact ⟨9, rfl, rfl, ⟨blk_put HK.out 0 _ ((congrArg (fun z => (pc m 8).toArray.setIfInBounds 0 (.int .u8 z)) (show _ = ((m / 256 ^ 8 % 256 : Nat) : Int) by simp <;> omega)).trans (pc_set m 8 (by omega)))⟩, ⟨HB.out.setCell (p := ⟨w.heap.size, 0, none⟩) (Nat.le_refl _) _⟩⟩
    · obtain rfl : i = 9 := by omega
      obtain ⟨k, hk⟩ : ∃ k, sizeN m = k := ⟨_, rfl⟩
      have hk9 := sizeN_pos m
      rw [hk] at hk9
      have hkk := Aside0.mk hk
      clear hk
      go_wp2_with fail
      refine (size_any (m : Int) h0 h1 _).mono ?_
      rw [Int.toNat_natCast, hkk.out]
      rintro e w1 ⟨rfl, rfl⟩
      rcases (show k = 1 ∨ k = 2 ∨ k = 3 ∨ k = 4 ∨ k = 5 ∨ k = 6 ∨ k = 7 ∨ k = 8 ∨ k = 9 by omega) with rfl | rfl | rfl | rfl | rfl | rfl | rfl | rfl | rfl
      · go_wp2_with fail
        refine (cloneK_any ⟨w.heap.size, 8, none⟩ _ 1 (nb (be 1 m)) _ (by rw [nb_len, be_len]) (put_reads m 1 (by omega) HK.out) (by omega)).mono ?_
        rintro e w2 ⟨v, rfl, ho, hb2⟩
        have hl : (nb (be 1 m)).length = 1 := by rw [nb_len, be_len]
        rw [RB, hl] at ho
        obtain ⟨g2, cap, rfl, hgb, hgl⟩ := ho.form (by omega)
        obtain ⟨hc0, hf0⟩ := own_at ho 0 (by omega) (by omega)
        obtain ⟨q, hq⟩ : ∃ q, rd (nb (be 1 m)) 0 = q := ⟨_, rfl⟩
        rw [hq] at hc0
        simp only [Int.toNat_zero] at hc0 hf0
        have HO := Aside0.mk ho
        have HQ := Aside0.mk hq
        have hcd : w2.drew.cell? ⟨g2, 0, none⟩ = some (.int .u8 q) := hc0
        have hfd : w2.drew.frozen? ⟨g2, 0, none⟩ = false := hf0
        clear ho hq
        go_wp2_with fail
        go_region
        go_wp2
        go_ret
        exact ⟨_, rfl, put_done (by omega) (by omega) hkk.out (by have : (2 : Nat) ^ 64 = 18446744073709551616 := rfl; omega) HO.out HQ.out (by decide) hgb HB.out hb2⟩
      · go_wp2_with fail
        refine (cloneK_any ⟨w.heap.size, 7, none⟩ _ 2 (nb (be 2 m)) _ (by rw [nb_len, be_len]) (put_reads m 2 (by omega) HK.out) (by omega)).mono ?_
        rintro e w2 ⟨v, rfl, ho, hb2⟩
        have hl : (nb (be 2 m)).length = 2 := by rw [nb_len, be_len]
        rw [RB, hl] at ho
        obtain ⟨g2, cap, rfl, hgb, hgl⟩ := ho.form (by omega)
        obtain ⟨hc0, hf0⟩ := own_at ho 0 (by omega) (by omega)
        obtain ⟨q, hq⟩ : ∃ q, rd (nb (be 2 m)) 0 = q := ⟨_, rfl⟩
        rw [hq] at hc0
        simp only [Int.toNat_zero] at hc0 hf0
        have HO := Aside0.mk ho
        have HQ := Aside0.mk hq
        have hcd : w2.drew.cell? ⟨g2, 0, none⟩ = some (.int .u8 q) := hc0
        have hfd : w2.drew.frozen? ⟨g2, 0, none⟩ = false := hf0
        clear ho hq
        go_wp2_with fail
        go_region
        go_wp2
        go_ret
        exact ⟨_, rfl, put_done (by omega) (by omega) hkk.out (by have : (2 : Nat) ^ 64 = 18446744073709551616 := rfl; omega) HO.out HQ.out (by decide) hgb HB.out hb2⟩
      · go_wp2_with fail
        refine (cloneK_any ⟨w.heap.size, 6, none⟩ _ 3 (nb (be 3 m)) _ (by rw [nb_len, be_len]) (put_reads m 3 (by omega) HK.out) (by omega)).mono ?_
        rintro e w2 ⟨v, rfl, ho, hb2⟩
        have hl : (nb (be 3 m)).length = 3 := by rw [nb_len, be_len]
        rw [RB, hl] at ho
        obtain ⟨g2, cap, rfl, hgb, hgl⟩ := ho.form (by omega)
        obtain ⟨hc0, hf0⟩ := own_at ho 0 (by omega) (by omega)
        obtain ⟨q, hq⟩ : ∃ q, rd (nb (be 3 m)) 0 = q := ⟨_, rfl⟩
        rw [hq] at hc0
        simp only [Int.toNat_zero] at hc0 hf0
        have HO := Aside0.mk ho
        have HQ := Aside0.mk hq
        have hcd : w2.drew.cell? ⟨g2, 0, none⟩ = some (.int .u8 q) := hc0
        have hfd : w2.drew.frozen? ⟨g2, 0, none⟩ = false := hf0
        clear ho hq
        go_wp2_with fail
        go_region
        go_wp2
        go_ret
        exact ⟨_, rfl, put_done (by omega) (by omega) hkk.out (by have : (2 : Nat) ^ 64 = 18446744073709551616 := rfl; omega) HO.out HQ.out (by decide) hgb HB.out hb2⟩
      · go_wp2_with fail
        refine (cloneK_any ⟨w.heap.size, 5, none⟩ _ 4 (nb (be 4 m)) _ (by rw [nb_len, be_len]) (put_reads m 4 (by omega) HK.out) (by omega)).mono ?_
        rintro e w2 ⟨v, rfl, ho, hb2⟩
        have hl : (nb (be 4 m)).length = 4 := by rw [nb_len, be_len]
        rw [RB, hl] at ho
        obtain ⟨g2, cap, rfl, hgb, hgl⟩ := ho.form (by omega)
        obtain ⟨hc0, hf0⟩ := own_at ho 0 (by omega) (by omega)
        obtain ⟨q, hq⟩ : ∃ q, rd (nb (be 4 m)) 0 = q := ⟨_, rfl⟩
        rw [hq] at hc0
        simp only [Int.toNat_zero] at hc0 hf0
        have HO := Aside0.mk ho
        have HQ := Aside0.mk hq
        have hcd : w2.drew.cell? ⟨g2, 0, none⟩ = some (.int .u8 q) := hc0
        have hfd : w2.drew.frozen? ⟨g2, 0, none⟩ = false := hf0
        clear ho hq
        go_wp2_with fail
        go_region
        go_wp2
        go_ret
        exact ⟨_, rfl, put_done (by omega) (by omega) hkk.out (by have : (2 : Nat) ^ 64 = 18446744073709551616 := rfl; omega) HO.out HQ.out (by decide) hgb HB.out hb2⟩
      · go_wp2_with fail
        refine (cloneK_any ⟨w.heap.size, 4, none⟩ _ 5 (nb (be 5 m)) _ (by rw [nb_len, be_len]) (put_reads m 5 (by omega) HK.out) (by omega)).mono ?_
        rintro e w2 ⟨v, rfl, ho, hb2⟩
        have hl : (nb (be 5 m)).length = 5 := by rw [nb_len, be_len]
        rw [RB, hl] at ho
        obtain ⟨g2, cap, rfl, hgb, hgl⟩ := ho.form (by omega)
        obtain ⟨hc0, hf0⟩ := own_at ho 0 (by omega) (by omega)
        obtain ⟨q, hq⟩ : ∃ q, rd (nb (be 5 m)) 0 = q := ⟨_, rfl⟩
        rw [hq] at hc0
        simp only [Int.toNat_zero] at hc0 hf0
        have HO := Aside0.mk ho
        have HQ := Aside0.mk hq
        have hcd : w2.drew.cell? ⟨g2, 0, none⟩ = some (.int .u8 q) := hc0
        have hfd : w2.drew.frozen? ⟨g2, 0, none⟩ = false := hf0
        clear ho hq
        go_wp2_with fail
        go_region
        go_wp2
        go_ret
        exact ⟨_, rfl, put_done (by omega) (by omega) hkk.out (by have : (2 : Nat) ^ 64 = 18446744073709551616 := rfl; omega) HO.out HQ.out (by decide) hgb HB.out hb2⟩
      · go_wp2_with fail
        refine (cloneK_any ⟨w.heap.size, 3, none⟩ _ 6 (nb (be 6 m)) _ (by rw [nb_len, be_len]) (put_reads m 6 (by omega) HK.out) (by omega)).mono ?_
        rintro e w2 ⟨v, rfl, ho, hb2⟩
        have hl : (nb (be 6 m)).length = 6 := by rw [nb_len, be_len]
        rw [RB, hl] at ho
        obtain ⟨g2, cap, rfl, hgb, hgl⟩ := ho.form (by omega)
        obtain ⟨hc0, hf0⟩ := own_at ho 0 (by omega) (by omega)
        obtain ⟨q, hq⟩ : ∃ q, rd (nb (be 6 m)) 0 = q := ⟨_, rfl⟩
        rw [hq] at hc0
        simp only [Int.toNat_zero] at hc0 hf0
        have HO := Aside0.mk ho
        have HQ := Aside0.mk hq
        have hcd : w2.drew.cell? ⟨g2, 0, none⟩ = some (.int .u8 q) := hc0
        have hfd : w2.drew.frozen? ⟨g2, 0, none⟩ = false := hf0
        clear ho hq
        go_wp2_with fail
        go_region
        go_wp2
        go_ret
        exact ⟨_, rfl, put_done (by omega) (by omega) hkk.out (by have : (2 : Nat) ^ 64 = 18446744073709551616 := rfl; omega) HO.out HQ.out (by decide) hgb HB.out hb2⟩
      · go_wp2_with fail
        refine (cloneK_any ⟨w.heap.size, 2, none⟩ _ 7 (nb (be 7 m)) _ (by rw [nb_len, be_len]) (put_reads m 7 (by omega) HK.out) (by omega)).mono ?_
        rintro e w2 ⟨v, rfl, ho, hb2⟩
        have hl : (nb (be 7 m)).length = 7 := by rw [nb_len, be_len]
        rw [RB, hl] at ho
        obtain ⟨g2, cap, rfl, hgb, hgl⟩ := ho.form (by omega)
        obtain ⟨hc0, hf0⟩ := own_at ho 0 (by omega) (by omega)
        obtain ⟨q, hq⟩ : ∃ q, rd (nb (be 7 m)) 0 = q := ⟨_, rfl⟩
        rw [hq] at hc0
        simp only [Int.toNat_zero] at hc0 hf0
        have HO := Aside0.mk ho
        have HQ := Aside0.mk hq
        have hcd : w2.drew.cell? ⟨g2, 0, none⟩ = some (.int .u8 q) := hc0
        have hfd : w2.drew.frozen? ⟨g2, 0, none⟩ = false := hf0
        clear ho hq
        go_wp2_with fail
        go_region
        go_wp2
        go_ret
        exact ⟨_, rfl, put_done (by omega) (by omega) hkk.out (by have : (2 : Nat) ^ 64 = 18446744073709551616 := rfl; omega) HO.out HQ.out (by decide) hgb HB.out hb2⟩
      · go_wp2_with fail
        refine (cloneK_any ⟨w.heap.size, 1, none⟩ _ 8 (nb (be 8 m)) _ (by rw [nb_len, be_len]) (put_reads m 8 (by omega) HK.out) (by omega)).mono ?_
        rintro e w2 ⟨v, rfl, ho, hb2⟩
        have hl : (nb (be 8 m)).length = 8 := by rw [nb_len, be_len]
        rw [RB, hl] at ho
        obtain ⟨g2, cap, rfl, hgb, hgl⟩ := ho.form (by omega)
        obtain ⟨hc0, hf0⟩ := own_at ho 0 (by omega) (by omega)
        obtain ⟨q, hq⟩ : ∃ q, rd (nb (be 8 m)) 0 = q := ⟨_, rfl⟩
        rw [hq] at hc0
        simp only [Int.toNat_zero] at hc0 hf0
        have HO := Aside0.mk ho
        have HQ := Aside0.mk hq
        have hcd : w2.drew.cell? ⟨g2, 0, none⟩ = some (.int .u8 q) := hc0
        have hfd : w2.drew.frozen? ⟨g2, 0, none⟩ = false := hf0
        clear ho hq
        go_wp2_with fail
        go_region
        go_wp2
        go_ret
        exact ⟨_, rfl, put_done (by omega) (by omega) hkk.out (by have : (2 : Nat) ^ 64 = 18446744073709551616 := rfl; omega) HO.out HQ.out (by decide) hgb HB.out hb2⟩
      · go_wp2_with fail
        refine (cloneK_any ⟨w.heap.size, 0, none⟩ _ 9 (nb (be 9 m)) _ (by rw [nb_len, be_len]) (put_reads m 9 (by omega) HK.out) (by omega)).mono ?_
        rintro e w2 ⟨v, rfl, ho, hb2⟩
        have hl : (nb (be 9 m)).length = 9 := by rw [nb_len, be_len]
        rw [RB, hl] at ho
        obtain ⟨g2, cap, rfl, hgb, hgl⟩ := ho.form (by omega)
        obtain ⟨hc0, hf0⟩ := own_at ho 0 (by omega) (by omega)
        obtain ⟨q, hq⟩ : ∃ q, rd (nb (be 9 m)) 0 = q := ⟨_, rfl⟩
        rw [hq] at hc0
        simp only [Int.toNat_zero] at hc0 hf0
        have HO := Aside0.mk ho
        have HQ := Aside0.mk hq
        have hcd : w2.drew.cell? ⟨g2, 0, none⟩ = some (.int .u8 q) := hc0
        have hfd : w2.drew.frozen? ⟨g2, 0, none⟩ = false := hf0
        clear ho hq
        go_wp2_with fail
        go_region
        go_wp2
        go_ret
        exact ⟨_, rfl, put_done (by omega) (by omega) hkk.out (by have : (2 : Nat) ^ 64 = 18446744073709551616 := rfl; omega) HO.out HQ.out (by decide) hgb HB.out hb2⟩
end Go.Proofs.YteloamnakikbbaaDoor.Var
