/- The law EditApplies, walked. -/
import Derived.Test.YtelnhecpcjoonaaRefApplyB
import Derived.Test.YtelnhecpcjoonaaOwnKeep
import Derived.Test.YtelnhecpcjoonaaAlikeOut
import Derived.Test.YtelnhecpcjoonaaAtB
import Derived.Test.YtelnhecpcjoonaaOfEditT
namespace Go.Proofs.Ytelnhecpcjoonaa.Edit
set_option linter.unusedVariables false
set_option linter.unusedSimpArgs false
open Go.RowKit Go.Proofs.YtelnhecpcjoonaaW.PrintWords Go.Proofs.YtelnhecpcjoonaaW.PrintLast Go.Proofs.Ytelnhecpcjoonaa.Base Go.Proofs.Ytelnhecpcjoonaa.EditPure Go.Proofs.Ytelnhecpcjoonaa.Sets Go.Proofs.Ytelnhecpcjoonaa.Wide Go.Proofs.Ytelnhecpcjoonaa.Cells Go.Proofs.Ytelnhecpcjoonaa.Ints

/-- a version and an edit of one's own, each in a variable -/
structure Mine (W wc : World) (l add : List Meta) (drop : List Int) (seq next seq' next' : Int) (gx gy : Nat) (Ax Dx Bx : Option Addr) (cx dx bx : Nat) : Prop where
  vx : wc.heap[gx]? = some (.cells #[.slice Ax l.length cx, .int .i64 seq, .int .i64 next] 49 (0, 0))
  vy : wc.heap[gy]? = some (.cells #[.slice Dx drop.length dx, .slice Bx add.length bx, .int .i64 seq', .int .i64 next'] 61 (0, 0))
  rx : RM 63 wc W.heap.size (.slice Ax l.length cx) l
  rd : RI wc W.heap.size (.slice Dx drop.length dx) drop
  ra : RM 63 wc W.heap.size (.slice Bx add.length bx) add
  apart : ∀ k, (Value.slice Ax l.length cx).ownBlock = some k → (Value.slice Bx add.length bx).ownBlock ≠ some k
  below : Below W.heap.size W wc

set_option maxRecDepth 100000 in
set_option maxHeartbeats 16000000 in
theorem editApplies_walk (A B D : Option Addr) (c bc dc : Nat) (l add : List Meta) (drop : List Int) (seq next seq' next' lev : Int) (w : World)
    (hr : Kd.C kMeta w A l.length l) (hc : l.length ≤ c) (hw : ∀ m ∈ l, inI64 m.id) (hra : Kd.C kMeta w B add.length add) (hwa : ∀ m ∈ add, inI64 m.id) (hd : ReadsInt w .i64 D drop.length drop) (hb : l.length + add.length ≤ 1048576) (hdl : drop.length ≤ 1048576) :
    Calls Try.prog 8 #[.agg #[.slice A l.length c, .int .i64 seq, .int .i64 next], .agg #[.slice D drop.length dc, .slice B add.length bc, .int .i64 seq', .int .i64 next'], .int .i64 lev] w fun e w' => e = .returned (.bool true) ∧ Below w.heap.size w w' := by
  have HR := Aside0.mk hr
  have HRA := Aside0.mk hra
  have HD := Aside0.mk hd
  have hbl : l.length ≤ 1048576 := by omega
  have hba : add.length ≤ 1048576 := by omega
  obtain ⟨E, hE⟩ := named (applyE l seq next drop add seq' next')
  obtain ⟨L, hL⟩ := named (applyL l drop add)
  obtain ⟨V, hV⟩ := named (verE l seq next)
  clear hr hra hd
  go_enter Try.func8, Try.ntmps8
  go_upto_region 1 with (fail)
  obtain ⟨W, hW⟩ : ∃ W, W = ((w.alloc (Obj.cells #[Value.slice A l.length c, Value.int IntKind.i64 seq, Value.int IntKind.i64 next] 38)).alloc (Obj.cells #[Value.slice D drop.length dc, Value.slice B add.length bc, Value.int IntKind.i64 seq', Value.int IntKind.i64 next'] 57)) := ⟨_, rfl⟩
  have hk2 : W.heap[w.heap.size]? = some (.cells #[.slice A l.length c, .int .i64 seq, .int .i64 next] 38 (0, 0)) := by rw [hW]; exact blk_alloc (blk_new _ _) _
  have hk3 : W.heap[w.heap.size + 1]? = some (.cells #[.slice D drop.length dc, .slice B add.length bc, .int .i64 seq', .int .i64 next'] 57 (0, 0)) := by rw [hW]; exact blk_new1 _ _ _ _
  have HB1 : Aside0 (Below w.heap.size w W) := ⟨by rw [hW]; exact below_alloc (below_alloc (Below.refl _ _) _) _⟩
  rw [← hW]
  clear hW
  have FJ := Aside0.mk (fun (w' : World) (b : Below W.heap.size W w') => all3 (blk_keep hk2 b))
  have FK := Aside0.mk (fun (w' : World) (b : Below W.heap.size W w') => all4 (blk_keep hk3 b))
  have HK2 := Aside0.mk hk2
  have HK3 := Aside0.mk hk3
  go_cut [7, 8] (fun vx vy wc => ∃ gx gy Ax Dx Bx cx dx bx, vx = .pointer (some ⟨gx, 0, none⟩) ∧ vy = .pointer (some ⟨gy, 0, none⟩) ∧ Aside0 (Mine W wc l add drop seq next seq' next' gx gy Ax Dx Bx cx dx bx))
  case first =>
    obtain ⟨p0, p1, p2, _, _, _⟩ := all3 hk2
    obtain ⟨q0, q1, q2, q3, _, _, _, _⟩ := all4 hk3
    have d0 : W.drew.cell? ⟨w.heap.size, 0, none⟩ = some (.slice A l.length c) := p0
    have d1 : W.drew.cell? ⟨w.heap.size, 1, none⟩ = some (.int .i64 seq) := p1
    have d2 : W.drew.cell? ⟨w.heap.size, 2, none⟩ = some (.int .i64 next) := p2
    have e0 : W.drew.cell? ⟨w.heap.size + 1, 0, none⟩ = some (.slice D drop.length dc) := q0
    have e1 : W.drew.cell? ⟨w.heap.size + 1, 1, none⟩ = some (.slice B add.length bc) := q1
    have e2 : W.drew.cell? ⟨w.heap.size + 1, 2, none⟩ = some (.int .i64 seq') := q2
    have e3 : W.drew.cell? ⟨w.heap.size + 1, 3, none⟩ = some (.int .i64 next') := q3
    have hl2 : w.heap.size < W.heap.size := blk_lt hk2
    have hl3 : w.heap.size + 1 < W.heap.size := blk_lt hk3
    clear hk2 hk3
    go_region_held3 (fun w' => w'.cell? ⟨w.heap.size, 0, none⟩ = some (.slice A l.length c) ∧ w'.cell? ⟨w.heap.size, 1, none⟩ = some (.int .i64 seq) ∧ w'.cell? ⟨w.heap.size, 2, none⟩ = some (.int .i64 next) ∧ w'.cell? ⟨w.heap.size + 1, 0, none⟩ = some (.slice D drop.length dc) ∧ w'.cell? ⟨w.heap.size + 1, 1, none⟩ = some (.slice B add.length bc) ∧ w'.cell? ⟨w.heap.size + 1, 2, none⟩ = some (.int .i64 seq') ∧ w'.cell? ⟨w.heap.size + 1, 3, none⟩ = some (.int .i64 next')) (refine ⟨?_, ?_, ?_, ?_, ?_, ?_, ?_⟩ <;> (repeat (first | with_reducible exact d0 | with_reducible exact d1 | with_reducible exact d2 | with_reducible exact e0 | with_reducible exact e1 | with_reducible exact e2 | with_reducible exact e3 | with_reducible exact a0 | with_reducible exact a1 | with_reducible exact a2 | with_reducible exact b0 | with_reducible exact b1 | with_reducible exact b2 | with_reducible exact b3 | with_reducible exact p0 | with_reducible exact p1 | with_reducible exact p2 | with_reducible exact q0 | with_reducible exact q1 | with_reducible exact q2 | with_reducible exact q3 | with_reducible apply drew_cell | with_reducible apply alloc_cell | with_reducible apply set3_cell | with_reducible apply set4_cell | (dsimp only; omega) | omega))) (first | (go_at_call 18; refine (of_any A c l seq next _ ?ca hbl).mono ?_; (case ca => exact Kd.C_below HR.out (bthen HB1.out (by (repeat (first | with_reducible exact Below.refl _ _ | with_reducible exact hwo | with_reducible exact hwe | with_reducible apply below_drew | with_reducible apply below_alloc | with_reducible apply below_set3 | with_reducible apply below_set4 | omega))))); rintro e wo ⟨v, rfl, ho, hbo⟩; obtain ⟨Ao, co, rfl, hco, hCo⟩ := RM_reads ho; (have hwo : Below W.heap.size W wo := bthen (by (repeat (first | with_reducible exact Below.refl _ _ | with_reducible exact hwo | with_reducible exact hwe | with_reducible apply below_drew | with_reducible apply below_alloc | with_reducible apply below_set3 | with_reducible apply below_set4 | omega))) hbo); (have hso := hbo.size); (try simp only [World.size_alloc, World.size_drew, World.size_setCell] at hso); (have hzo := hwo.size); (first | (have k5 := blk_keep (t := 49) (by (repeat (first | with_reducible exact blk_new _ _ | with_reducible exact k5 | with_reducible apply blk_drew | with_reducible apply blk3 | with_reducible apply blk_alloc | with_reducible apply blk_far4 | omega | (simp only [World.size_alloc, World.size_drew, World.size_setCell]; omega)))) hbo; (try simp only [World.size_alloc, World.size_drew, World.size_setCell] at k5); (have l5 := blk_lt k5); (have n5a := Nat.ne_of_lt l5); (have n5b := Nat.ne_of_gt l5); (have kc5 := all3 k5); obtain ⟨p50, p51, p52, f50, f51, f52⟩ := kc5) | skip); (first | (have k6 := blk_keep (t := 61) (by (repeat (first | with_reducible exact blk_new _ _ | with_reducible exact k6 | with_reducible apply blk_drew | with_reducible apply blk4 | with_reducible apply blk_alloc | with_reducible apply blk_far3 | omega | (simp only [World.size_alloc, World.size_drew, World.size_setCell]; omega)))) hbo; (try simp only [World.size_alloc, World.size_drew, World.size_setCell] at k6); (have l6 := blk_lt k6); (have n6a := Nat.ne_of_lt l6); (have n6b := Nat.ne_of_gt l6); (have kc6 := all4 k6); obtain ⟨p60, p61, p62, p63, f60, f61, f62, f63⟩ := kc6) | skip); (first | (have n56 := blk_ne k5 k6 (by decide); have n65 := Ne.symm n56) | skip); obtain ⟨a0, a1, a2, _, _, _⟩ := FJ.out _ hwo; obtain ⟨b0, b1, b2, b3, _, _, _, _⟩ := FK.out _ hwo; (have hlo2 : w.heap.size < wo.heap.size := World.block_lt_of_cell? wo _ a0); (have hlo3 : w.heap.size + 1 < wo.heap.size := World.block_lt_of_cell? wo _ b0)) | (go_at_call 22; refine (ofEdit_any D B dc bc drop add seq' next' _ ?ca ?cb hdl hba).mono ?_; (case ca => exact HD.out.below (bthen HB1.out (by (repeat (first | with_reducible exact Below.refl _ _ | with_reducible exact hwo | with_reducible exact hwe | with_reducible apply below_drew | with_reducible apply below_alloc | with_reducible apply below_set3 | with_reducible apply below_set4 | omega))))); (case cb => exact Kd.C_below HRA.out (bthen HB1.out (by (repeat (first | with_reducible exact Below.refl _ _ | with_reducible exact hwo | with_reducible exact hwe | with_reducible apply below_drew | with_reducible apply below_alloc | with_reducible apply below_set3 | with_reducible apply below_set4 | omega))))); rintro e we ⟨vd, vm, rfl, hvd, hvm, hbe⟩; obtain ⟨De, ce, rfl, hrd⟩ := RI_reads hvd; obtain ⟨Ae, be, rfl, hce, hCe⟩ := RM_reads hvm; (have hwe : Below W.heap.size W we := bthen (by (repeat (first | with_reducible exact Below.refl _ _ | with_reducible exact hwo | with_reducible exact hwe | with_reducible apply below_drew | with_reducible apply below_alloc | with_reducible apply below_set3 | with_reducible apply below_set4 | omega))) hbe); (have hse := hbe.size); (try simp only [World.size_alloc, World.size_drew, World.size_setCell] at hse); (have hze := hwe.size); (first | (have k5 := blk_keep (t := 49) (by (repeat (first | with_reducible exact blk_new _ _ | with_reducible exact k5 | with_reducible apply blk_drew | with_reducible apply blk3 | with_reducible apply blk_alloc | with_reducible apply blk_far4 | omega | (simp only [World.size_alloc, World.size_drew, World.size_setCell]; omega)))) hbe; (try simp only [World.size_alloc, World.size_drew, World.size_setCell] at k5); (have l5 := blk_lt k5); (have n5a := Nat.ne_of_lt l5); (have n5b := Nat.ne_of_gt l5); (have kc5 := all3 k5); obtain ⟨p50, p51, p52, f50, f51, f52⟩ := kc5) | skip); (first | (have k6 := blk_keep (t := 61) (by (repeat (first | with_reducible exact blk_new _ _ | with_reducible exact k6 | with_reducible apply blk_drew | with_reducible apply blk4 | with_reducible apply blk_alloc | with_reducible apply blk_far3 | omega | (simp only [World.size_alloc, World.size_drew, World.size_setCell]; omega)))) hbe; (try simp only [World.size_alloc, World.size_drew, World.size_setCell] at k6); (have l6 := blk_lt k6); (have n6a := Nat.ne_of_lt l6); (have n6b := Nat.ne_of_gt l6); (have kc6 := all4 k6); obtain ⟨p60, p61, p62, p63, f60, f61, f62, f63⟩ := kc6) | skip); (first | (have n56 := blk_ne k5 k6 (by decide); have n65 := Ne.symm n56) | skip); obtain ⟨a0, a1, a2, _, _, _⟩ := FJ.out _ hwe; obtain ⟨b0, b1, b2, b3, _, _, _, _⟩ := FK.out _ hwe; (have hle2 : w.heap.size < we.heap.size := World.block_lt_of_cell? we _ a0); (have hle3 : w.heap.size + 1 < we.heap.size := World.block_lt_of_cell? we _ b0)))
    all_goals go_wp2
    all_goals go_meet
    all_goals refine ⟨_, _, Ao, De, Ae, co, ce, be, rfl, rfl, ⟨⟨?_, ?_, ?_, ?_, ?_, ?_, ?_⟩⟩⟩
    all_goals first
      | (guard_target =~ Below _ _ _; (repeat (first | with_reducible exact Below.refl _ _ | with_reducible exact hwo | with_reducible exact hwe | with_reducible apply below_drew | with_reducible apply below_alloc | with_reducible apply below_set3 | with_reducible apply below_set4 | omega)); done)
      | (guard_target =~ RI _ _ _ _; refine RI_stay hvd ?_ ?_; (repeat (first | with_reducible exact stay_refl _ _ _ | with_reducible apply stay_drew | with_reducible apply stay_alloc | with_reducible apply stay_set3 | with_reducible apply stay_set4 | with_reducible refine stay_call ?_ hbo ?_ | with_reducible refine stay_call ?_ hbe ?_ | omega | (simp only [World.size_alloc, World.size_drew, World.size_setCell]; omega))); done)
      | (refine RM_stay ho ?_ ?_ <;> ((repeat (first | with_reducible exact stay_refl _ _ _ | with_reducible apply stay_drew | with_reducible apply stay_alloc | with_reducible apply stay_set3 | with_reducible apply stay_set4 | with_reducible refine stay_call ?_ hbo ?_ | with_reducible refine stay_call ?_ hbe ?_ | omega | (simp only [World.size_alloc, World.size_drew, World.size_setCell]; omega))); done))
      | (refine RM_stay hvm ?_ ?_ <;> ((repeat (first | with_reducible exact stay_refl _ _ _ | with_reducible apply stay_drew | with_reducible apply stay_alloc | with_reducible apply stay_set3 | with_reducible apply stay_set4 | with_reducible refine stay_call ?_ hbo ?_ | with_reducible refine stay_call ?_ hbe ?_ | omega | (simp only [World.size_alloc, World.size_drew, World.size_setCell]; omega))); done))
      | ((repeat (first | with_reducible exact blk_new _ _ | with_reducible exact k5 | with_reducible apply blk_drew | with_reducible apply blk3 | with_reducible apply blk_alloc | with_reducible apply blk_far4 | omega | (simp only [World.size_alloc, World.size_drew, World.size_setCell]; omega))); done)
      | ((repeat (first | with_reducible exact blk_new _ _ | with_reducible exact k6 | with_reducible apply blk_drew | with_reducible apply blk4 | with_reducible apply blk_alloc | with_reducible apply blk_far3 | omega | (simp only [World.size_alloc, World.size_drew, World.size_setCell]; omega))); done)
      | with_reducible exact blk_new1 _ _ _ _
      | (refine blk_new_at ?_; simp only [World.size_alloc, World.size_drew, World.size_setCell]; done)
      | (intro k h1 h2; (have r1 := RM_range ho k h1); (have r2 := RM_range hvm k h2); (try simp only [World.size_alloc, World.size_drew, World.size_setCell] at r1 r2); omega)
  case rest =>
    obtain ⟨gx, gy, Ax, Dx, Bx, cx, dx, bx, rfl, rfl, HM⟩ := hcut
    clear hk2 hk3
    have HBc := Aside0.mk (bthen HB1.out HM.out.below)
    have FX := Aside0.mk (fun (w' : World) (b : Below wc.heap.size wc w') => all3 (blk_keep HM.out.vx b))
    have FY := Aside0.mk (fun (w' : World) (b : Below wc.heap.size wc w') => all4 (blk_keep HM.out.vy b))
    have FV := Aside0.mk (fun (w' : World) (b : Below wc.heap.size wc w') => FJ.out w' (bthen HM.out.below b))
    have FE := Aside0.mk (fun (w' : World) (b : Below wc.heap.size wc w') => FK.out w' (bthen HM.out.below b))
    have HCx := Aside0.mk (Kd.R_reads' HM.out.rx)
    have HCb := Aside0.mk (Kd.R_reads' HM.out.ra)
    have HRd : Aside0 (ReadsInt wc .i64 Dx drop.length drop) := ⟨by
      obtain ⟨A0, c0, h1, h2⟩ := RI_reads HM.out.rd
      injection h1 with h3
      rw [h3]; exact h2⟩
    obtain ⟨x0, x1, x2, _, _, _⟩ := FX.out _ (Below.refl _ _)
    obtain ⟨y0, y1, y2, y3, _, _, _, _⟩ := FY.out _ (Below.refl _ _)
    go_wp2_with fail
    refine (apply_out Ax Bx Dx cx bx dx l add drop seq next seq' next' E L _ hE.out hL.out HCx.out.2.2 HCx.out.2.1 hw HCb.out.2.2 hwa HRd.out hb hdl).mono ?_
    rintro e wa ⟨⟨A1, n1, c1, a1, b1, rfl, ho1⟩, hba1⟩
    have HO1 := Aside0.mk ho1
    obtain ⟨Wa, hWa⟩ : ∃ Wa, Wa = wa.alloc (Obj.cells #[.slice A1 n1 c1, .int .i64 a1, .int .i64 b1] 49) := ⟨_, rfl⟩
    have HOa := Aside0.mk (And.intro HM.out.rx.2 (And.intro ho1 (by rw [hWa]; exact blk_new _ _ : Wa.heap[wa.heap.size]? = some (.cells #[.slice A1 n1 c1, .int .i64 a1, .int .i64 b1] 49 (0, 0)))))
    have HBa : Aside0 (Below wa.heap.size wa Wa ∧ Below wc.heap.size wc Wa) := ⟨⟨by rw [hWa]; exact below_alloc (Below.refl _ _) _, by rw [hWa]; exact below_alloc hba1 _⟩⟩
    have hfv := fun o => FV.out _ (below_alloc hba1 o)
    have hfe := fun o => FE.out _ (below_alloc hba1 o)
    have z0 := fun o => (hfv o).1
    have z1 := fun o => (hfv o).2.1
    have z2 := fun o => (hfv o).2.2.1
    have u0 := fun o => (hfe o).1
    have u1 := fun o => (hfe o).2.1
    have u2 := fun o => (hfe o).2.2.1
    have u3 := fun o => (hfe o).2.2.2.1
    clear x0 x1 x2 y0 y1 y2 y3 ho1 hba1 hfv hfe
    go_wp2_with fail
    rw [← hWa]
    have hbw := bthen HBc.out HBa.out.2
    refine (refApply_out A B D c bc dc l add drop seq next seq' next' E L _ hE.out hL.out (Kd.C_below HR.out hbw) hc (Kd.C_below HRA.out hbw) (HD.out.below hbw) hb hdl).mono ?_
    rintro e wq ⟨⟨A2, n2, c2, a2, b2, rfl, ho2⟩, hbb⟩
    clear z0 z1 z2 u0 u1 u2 u3 hbw hWa
    obtain ⟨Wb, hWb⟩ : ∃ Wb, Wb = wq.alloc (Obj.cells #[.slice A2 n2 c2, .int .i64 a2, .int .i64 b2] 38) := ⟨_, rfl⟩
    have HBb : Aside0 (Below wq.heap.size wq Wb ∧ Below wc.heap.size wc Wb ∧ Below Wa.heap.size Wa Wb) := ⟨⟨by rw [hWb]; exact below_alloc (Below.refl _ _) _, by rw [hWb]; exact below_alloc (bthen HBa.out.2 hbb) _, by rw [hWb]; exact below_alloc hbb _⟩⟩
    have HOb := Aside0.mk (And.intro ho2 (by rw [hWb]; exact blk_new _ _ : Wb.heap[wq.heap.size]? = some (.cells #[.slice A2 n2 c2, .int .i64 a2, .int .i64 b2] 38 (0, 0))))
    have hfx := fun o => FX.out _ (below_alloc (bthen HBa.out.2 hbb) o)
    have z0 := fun o => (hfx o).1
    have z1 := fun o => (hfx o).2.1
    have z2 := fun o => (hfx o).2.2.1
    clear ho2 hbb hfx
    go_wp2_with fail
    rw [← hWb]
    refine (whole_out Ax cx l seq next V _ hV.out (Kd.C_below HCx.out.2.2 HBb.out.2.1) HCx.out.2.1 hw hbl).mono ?_
    rintro e wd ⟨⟨A3, n3, c3, a3, b3, rfl, ho3⟩, hbd⟩
    clear z0 z1 z2 hWb
    obtain ⟨Wd, hWd⟩ : ∃ Wd, Wd = wd.alloc (Obj.cells #[.slice none 0 0, .slice A3 n3 c3, .int .i64 a3, .int .i64 b3] 61) := ⟨_, rfl⟩
    have HBd : Aside0 (Below wd.heap.size wd Wd ∧ Below wc.heap.size wc Wd ∧ Below Wb.heap.size Wb Wd) := ⟨⟨by rw [hWd]; exact below_alloc (Below.refl _ _) _, by rw [hWd]; exact below_alloc (bthen HBb.out.2.1 hbd) _, by rw [hWd]; exact below_alloc hbd _⟩⟩
    have HOd := Aside0.mk (And.intro ho3 (by rw [hWd]; exact blk_new _ _ : Wd.heap[wd.heap.size]? = some (.cells #[.slice none 0 0, .slice A3 n3 c3, .int .i64 a3, .int .i64 b3] 61 (0, 0))))
    have hfv := fun o => FV.out _ (below_alloc (bthen HBb.out.2.1 hbd) o)
    have z0 := fun o => (hfv o).1
    have z1 := fun o => (hfv o).2.1
    have z2 := fun o => (hfv o).2.2.1
    clear ho3 hbd hfv
    go_wp2_with fail
    rw [← hWd]
    have hbw := bthen HBc.out HBd.out.2.1
    refine (refWhole_out A c l seq next V _ hV.out (Kd.C_below HR.out hbw) hc hw hbl).mono ?_
    rintro e we ⟨⟨A4, n4, c4, a4, b4, rfl, ho4⟩, hbe⟩
    clear z0 z1 z2 hWd hbw
    obtain ⟨We, hWe⟩ : ∃ We, We = we.alloc (Obj.cells #[.slice none 0 0, .slice A4 n4 c4, .int .i64 a4, .int .i64 b4] 57) := ⟨_, rfl⟩
    have HBe : Aside0 (Below we.heap.size we We ∧ Below wc.heap.size wc We ∧ Below Wd.heap.size Wd We) := ⟨⟨by rw [hWe]; exact below_alloc (Below.refl _ _) _, by rw [hWe]; exact below_alloc (bthen HBd.out.2.1 hbe) _, by rw [hWe]; exact below_alloc hbe _⟩⟩
    have HOe := Aside0.mk (And.intro ho4 (by rw [hWe]; exact blk_new _ _ : We.heap[we.heap.size]? = some (.cells #[.slice none 0 0, .slice A4 n4 c4, .int .i64 a4, .int .i64 b4] 57 (0, 0))))
    have hfx := fun o => FX.out _ (below_alloc (bthen HBd.out.2.1 hbe) o)
    have z0 := fun o => (hfx o).1
    have z1 := fun o => (hfx o).2.1
    have z2 := fun o => (hfx o).2.2.1
    clear ho4 hbe hfx
    go_wp2_with fail
    rw [← hWe]
    refine (at_out Ax cx l seq next lev V _ hV.out (Kd.C_below HCx.out.2.2 HBe.out.2.1) HCx.out.2.1 hw hbl).mono ?_
    rintro e wf ⟨⟨A5, n5, c5, rfl, ho5⟩, hbf⟩
    clear z0 z1 z2 hWe
    have HOf := Aside0.mk ho5
    have HBf := Aside0.mk (And.intro hbf (bthen HBe.out.2.1 hbf))
    obtain ⟨z0, z1, z2, _, _, _⟩ := FV.out _ HBf.out.2
    clear ho5 hbf
    go_wp2_with fail
    have hbw := bthen HBc.out HBf.out.2
    refine (refAt_out A c l seq next lev V _ hV.out (Kd.C_below HR.out hbw) hc hbl).mono ?_
    rintro e wg ⟨⟨A6, n6, c6, rfl, ho6⟩, hbg⟩
    clear z0 z1 z2 hbw
    have HOg := Aside0.mk ho6
    have HBg := Aside0.mk (And.intro hbg (bthen HBf.out.2 hbg))
    clear ho6 hbg
    have pe := bthen HBf.out.1 HBg.out.1
    have pd := bthen HBe.out.2.2 pe
    have pb := bthen HBd.out.2.2 pd
    have pa := bthen HBb.out.2.2 pb
    have F9 := Aside0.mk (fun (w' : World) (b : Below wg.heap.size wg w') => all3 (blk_keep HOa.out.2.2 (bthen pa b)))
    have F11 := Aside0.mk (fun (w' : World) (b : Below wg.heap.size wg w') => all3 (blk_keep HOb.out.2 (bthen pb b)))
    have F13 := Aside0.mk (fun (w' : World) (b : Below wg.heap.size wg w') => all4 (blk_keep HOd.out.2 (bthen pd b)))
    have F15 := Aside0.mk (fun (w' : World) (b : Below wg.heap.size wg w') => all4 (blk_keep HOe.out.2 (bthen pe b)))
    have O1 := Aside0.mk ((HOa.out.2.1.below HBa.out.1).below pa)
    have O2 := Aside0.mk ((HOb.out.1.below HBb.out.1).below pb)
    have O3 := Aside0.mk ((HOd.out.1.below HBd.out.1).below pd)
    have O4 := Aside0.mk ((HOe.out.1.below HBe.out.1).below pe)
    have O5 := Aside0.mk (HOf.out.below HBg.out.1)
    have O6 := Aside0.mk HOg.out
    have HFew : Aside0 (E = 0 → L.length ≤ 1048576) := ⟨fun h => by have := apply_few (hE.out ▸ h); rw [hL.out]; omega⟩
    have hat : (atL l lev).length ≤ 1048576 := Nat.le_trans (List.length_filter_le _ _) hbl
    have hgc := HBg.out.2
    clear pe pd pb pa
    obtain ⟨a0, a1', a2', _, _, _⟩ := F9.out _ (Below.refl _ _)
    obtain ⟨e0, e1, e2, _, _, _⟩ := F11.out _ (Below.refl _ _)
    go_wp2_with fail
    refine (alike_out O1.out O2.out HFew.out).mono ?_
    rintro e w1 ⟨rfl, hb1⟩
    have HB1g := Aside0.mk hb1
    clear a0 a1' a2' e0 e1 e2 hb1
    obtain ⟨f0, f1, f2, f3, _, _, _, _⟩ := F13.out _ HB1g.out
    obtain ⟨g0, g1, g2, g3, _, _, _, _⟩ := F15.out _ HB1g.out
    go_wp2_with (go_at_call 23; refine (numE_any _ _).mono ?_; rintro e w1' ⟨rfl, rfl⟩)
    refine (wholes_same (O3.out.below HB1g.out) (O4.out.below HB1g.out) hbl).mono ?_
    rintro e w2 ⟨rfl, hb2⟩
    have HB2g := Aside0.mk (bthen HB1g.out hb2)
    clear f0 f1 f2 f3 g0 g1 g2 g3 hb2
    go_wp2_with (first | (go_at_call 23; refine (numE_any _ _).mono ?_; rintro e w1' ⟨rfl, rfl⟩) | (go_at_call 34; refine (rows_same (O5.out.below HB2g.out) (O6.out.below HB2g.out) hat).mono ?_; rintro e w3 ⟨rfl, hb3⟩))
    have HB3 := Aside0.mk (bthen hgc (bthen HB2g.out hb3))
    obtain ⟨x0, x1, x2, _, _, _⟩ := FX.out _ HB3.out
    obtain ⟨y0, y1, y2, y3, _, _, _, _⟩ := FY.out _ HB3.out
    obtain ⟨z0, z1, z2, _, _, _⟩ := FV.out _ HB3.out
    obtain ⟨u0, u1, u2, u3, _, _, _, _⟩ := FE.out _ HB3.out
    have X0 := wb_cell x0
    have X1 := wb_cell x1
    have X2 := wb_cell x2
    have Y0 := wb_cell y0
    have Y1 := wb_cell y1
    have Y2 := wb_cell y2
    have Y3 := wb_cell y3
    have Z0 := wb_cell z0
    have Z1 := wb_cell z1
    have Z2 := wb_cell z2
    have U0 := wb_cell u0
    have U1 := wb_cell u1
    have U2 := wb_cell u2
    have U3 := wb_cell u3
    have hbw := bthen HBc.out HB3.out
    have HCx3 := Aside0.mk (Kd.C_below HCx.out.2.2 HB3.out)
    have HR3 := Aside0.mk (Kd.C_below HR.out hbw)
    have HY3 : Aside0 (EditAt w1' Dx drop.length Bx add.length drop add) := ⟨⟨rfl, rfl, HRd.out.below HB3.out, Kd.C_below HCb.out.2.2 HB3.out⟩⟩
    have HE3 : Aside0 (EditAt w1' D drop.length B add.length drop add) := ⟨⟨rfl, rfl, HD.out.below hbw, Kd.C_below HRA.out hbw⟩⟩
    have HBW := Aside0.mk hbw
    have hcx2 := HCx.out.2.1
    have CK : ∀ x : Later w1', Calls Try.prog 24 #[.agg #[.slice Ax l.length cx, .int .i64 seq, .int .i64 next]] (wb w1' x) fun e w' => e = .returned (.int .i64 V) ∧ Below (wb w1' x).heap.size (wb w1' x) w' := fun x => by rw [hV.out]; exact check_any Ax cx l seq next _ (Kd.C_below HCx3.out (wb_below _ x)) hcx2 hw
    have CR : ∀ x : Later w1', Calls Try.prog 28 #[.agg #[.slice A l.length c, .int .i64 seq, .int .i64 next]] (wb w1' x) fun e w' => e = .returned (.int .i64 V) ∧ Below (wb w1' x).heap.size (wb w1' x) w' := fun x => by rw [hV.out]; exact refCheck_any A c l seq next _ (Kd.C_below HR3.out (wb_below _ x)) hc
    have CA : ∀ x : Later w1', Calls Try.prog 26 #[.agg #[.slice Ax l.length cx, .int .i64 seq, .int .i64 next], .agg #[.slice A l.length c, .int .i64 seq, .int .i64 next]] (wb w1' x) fun e w' => e = .returned (.int .i64 0) ∧ Below (wb w1' x).heap.size (wb w1' x) w' := fun x => alike_any Ax A cx c l seq next _ (Kd.C_below HCx3.out (wb_below _ x)) (Kd.C_below HR3.out (wb_below _ x)) hbl
    have CE : ∀ x : Later w1', Calls Try.prog 33 #[.agg #[.slice Dx drop.length dx, .slice Bx add.length bx, .int .i64 seq', .int .i64 next'], .agg #[.slice D drop.length dc, .slice B add.length bc, .int .i64 seq', .int .i64 next']] (wb w1' x) fun e w' => e = .returned (.bool true) ∧ Below (wb w1' x).heap.size (wb w1' x) w' := fun x => sameEdit_any dx dc bx bc seq' next' _ (HY3.out.below (wb_below _ x)) (HE3.out.below (wb_below _ x)) hba hdl
    have CL : ∀ x : Later w1', Calls Try.prog 20 #[] (wb w1' x) fun e w' => e = .returned (.bool true) ∧ Below (wb w1' x).heap.size (wb w1' x) w' := fun x => (alive11_any _).mono fun e w' h => h
    have hVV : (V == V) = true := by simp
    clear x0 x1 x2 y0 y1 y2 y3 z0 z1 z2 u0 u1 u2 u3 hbw hgc hb3
    refine wp_region_wide (by kernel_rfl) (by kernel_rfl) ?_
    repeat (go_big_quiet_step (first | (go_at_call 24; exact wide_of (CK _)) | (go_at_call 28; exact wide_of (CR _)) | (go_at_call 26; exact wide_of (CA _)) | (go_at_call 33; exact wide_of (CE _)) | (go_at_call 20; exact wide_of (CL _)) | (go_at_call 23; exact wide_same ((numE_any _ _).mono fun e w' h => And.intro h.1 h.2.symm))))
    refine wpQuiet_nil ?_
    rintro w' ⟨x, rfl⟩
    go_wp2
    go_ret
    exact ⟨rfl, bthen HBW.out (wb_below _ x)⟩
end Go.Proofs.Ytelnhecpcjoonaa.Edit
