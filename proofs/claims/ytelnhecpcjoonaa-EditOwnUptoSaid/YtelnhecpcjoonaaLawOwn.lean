/- The law EditOwn, walked. -/
import Derived.Test.YtelnhecpcjoonaaRefApplyB
import Derived.Test.YtelnhecpcjoonaaOwnKeep
import Derived.Test.YtelnhecpcjoonaaAlikeOut
import Derived.Test.YtelnhecpcjoonaaApplyE
import Derived.Test.YtelnhecpcjoonaaOfEditT
namespace Go.Proofs.Ytelnhecpcjoonaa.Edit
set_option linter.unusedVariables false
set_option linter.unusedSimpArgs false
open Go.RowKit Go.Proofs.YtelnhecpcjoonaaW.PrintWords Go.Proofs.YtelnhecpcjoonaaW.PrintLast Go.Proofs.Ytelnhecpcjoonaa.Base Go.Proofs.Ytelnhecpcjoonaa.EditPure Go.Proofs.Ytelnhecpcjoonaa.Sets Go.Proofs.Ytelnhecpcjoonaa.Wide Go.Proofs.Ytelnhecpcjoonaa.Cells Go.Proofs.Ytelnhecpcjoonaa.Ints

/-- a version and an edit of one's own, each in a variable -/
structure Mine (W wc : World) (l add : List Meta) (drop : List Int) (seq next seq' next' : Int) (gx gy : Nat) (Ax Dx Bx : Option Addr) (cx dx bx : Nat) : Prop where
  vx : wc.heap[gx]? = some (.cells #[.slice Ax l.length cx, .int .i64 seq, .int .i64 next] 49 (0, 0))
  vy : wc.heap[gy]? = some (.cells #[.slice Dx drop.length dx, .slice Bx add.length bx, .int .i64 seq', .int .i64 next'] 61 (0, 0))
  rx : RM 63 wc W.heap.size (.slice Ax l.length cx) l
  rd : RI wc W.heap.size (.slice Dx drop.length dx) drop
  ra : RM 63 wc W.heap.size (.slice Bx add.length bx) add
  apart : ∀ k, (Value.slice Ax l.length cx).ownBlock = some k → (Value.slice Bx add.length bx).ownBlock ≠ some k
  below : Below W.heap.size W wc

set_option maxRecDepth 100000 in
set_option maxHeartbeats 16000000 in
theorem editOwn_walk (A B D : Option Addr) (c bc dc : Nat) (l add : List Meta) (drop : List Int) (seq next seq' next' : Int) (w : World)
    (hr : Kd.C kMeta w A l.length l) (hc : l.length ≤ c) (hw : ∀ m ∈ l, inI64 m.id) (hra : Kd.C kMeta w B add.length add) (hwa : ∀ m ∈ add, inI64 m.id) (hd : ReadsInt w .i64 D drop.length drop) (hb : l.length + add.length ≤ 1048576) (hdl : drop.length ≤ 1048576) :
    Calls Try.prog 6 #[.agg #[.slice A l.length c, .int .i64 seq, .int .i64 next], .agg #[.slice D drop.length dc, .slice B add.length bc, .int .i64 seq', .int .i64 next']] w fun e w' => e = .returned (.bool true) ∧ Below w.heap.size w w' := by
  have HR := Aside0.mk hr
  have HRA := Aside0.mk hra
  have HD := Aside0.mk hd
  have hbl : l.length ≤ 1048576 := by omega
  have hba : add.length ≤ 1048576 := by omega
  obtain ⟨E, hE⟩ := named (applyE l seq next drop add seq' next')
  obtain ⟨L, hL⟩ := named (applyL l drop add)
  clear hr hra hd
  go_enter Try.func6, Try.ntmps6
  go_wp2_with fail
  have hb0 := below_alloc (below_alloc (Below.refl w.heap.size w) (Obj.cells #[Value.slice A l.length c, Value.int IntKind.i64 seq, Value.int IntKind.i64 next] 38)) (Obj.cells #[Value.slice D drop.length dc, Value.slice B add.length bc, Value.int IntKind.i64 seq', Value.int IntKind.i64 next'] 57)
  refine (alive11_any _).mono ?_
  rintro e W ⟨rfl, hb1⟩
  have hk2 := blk_keep (blk_alloc (blk_new w (Obj.cells #[Value.slice A l.length c, Value.int IntKind.i64 seq, Value.int IntKind.i64 next] 38)) _) hb1
  have hk3 := blk_keep (blk_new1 _ _ _ _) hb1
  have HB1 := Aside0.mk (bthen hb0 hb1)
  clear hb0 hb1
  go_upto_region 3 with (fail)
  have FJ := Aside0.mk (fun (w' : World) (b : Below W.heap.size W w') => all3 (blk_keep hk2 b))
  have FK := Aside0.mk (fun (w' : World) (b : Below W.heap.size W w') => all4 (blk_keep hk3 b))
  have HK2 := Aside0.mk hk2
  have HK3 := Aside0.mk hk3
  go_cut [5, 6] (fun vx vy wc => ∃ gx gy Ax Dx Bx cx dx bx, vx = .pointer (some ⟨gx, 0, none⟩) ∧ vy = .pointer (some ⟨gy, 0, none⟩) ∧ Aside0 (Mine W wc l add drop seq next seq' next' gx gy Ax Dx Bx cx dx bx))
  case first =>
    obtain ⟨p0, p1, p2, _, _, _⟩ := all3 hk2
    obtain ⟨q0, q1, q2, q3, _, _, _, _⟩ := all4 hk3
    have d0 : W.drew.cell? ⟨w.heap.size, 0, none⟩ = some (.slice A l.length c) := p0
    have d1 : W.drew.cell? ⟨w.heap.size, 1, none⟩ = some (.int .i64 seq) := p1
    have d2 : W.drew.cell? ⟨w.heap.size, 2, none⟩ = some (.int .i64 next) := p2
    have e0 : W.drew.cell? ⟨w.heap.size + 1, 0, none⟩ = some (.slice D drop.length dc) := q0
    have e1 : W.drew.cell? ⟨w.heap.size + 1, 1, none⟩ = some (.slice B add.length bc) := q1
    have e2 : W.drew.cell? ⟨w.heap.size + 1, 2, none⟩ = some (.int .i64 seq') := q2
    have e3 : W.drew.cell? ⟨w.heap.size + 1, 3, none⟩ = some (.int .i64 next') := q3
    have hl2 : w.heap.size < W.heap.size := blk_lt hk2
    have hl3 : w.heap.size + 1 < W.heap.size := blk_lt hk3
    clear hk2 hk3
    go_region_held3 (fun w' => w'.cell? ⟨w.heap.size, 0, none⟩ = some (.slice A l.length c) ∧ w'.cell? ⟨w.heap.size, 1, none⟩ = some (.int .i64 seq) ∧ w'.cell? ⟨w.heap.size, 2, none⟩ = some (.int .i64 next) ∧ w'.cell? ⟨w.heap.size + 1, 0, none⟩ = some (.slice D drop.length dc) ∧ w'.cell? ⟨w.heap.size + 1, 1, none⟩ = some (.slice B add.length bc) ∧ w'.cell? ⟨w.heap.size + 1, 2, none⟩ = some (.int .i64 seq') ∧ w'.cell? ⟨w.heap.size + 1, 3, none⟩ = some (.int .i64 next')) (refine ⟨?_, ?_, ?_, ?_, ?_, ?_, ?_⟩ <;> (repeat (first | with_reducible exact d0 | with_reducible exact d1 | with_reducible exact d2 | with_reducible exact e0 | with_reducible exact e1 | with_reducible exact e2 | with_reducible exact e3 | with_reducible exact a0 | with_reducible exact a1 | with_reducible exact a2 | with_reducible exact b0 | with_reducible exact b1 | with_reducible exact b2 | with_reducible exact b3 | with_reducible exact p0 | with_reducible exact p1 | with_reducible exact p2 | with_reducible exact q0 | with_reducible exact q1 | with_reducible exact q2 | with_reducible exact q3 | with_reducible apply drew_cell | with_reducible apply alloc_cell | with_reducible apply set3_cell | with_reducible apply set4_cell | (dsimp only; omega) | omega))) (first | (go_at_call 18; refine (of_any A c l seq next _ ?ca hbl).mono ?_; (case ca => exact Kd.C_below HR.out (bthen HB1.out (by (repeat (first | with_reducible exact Below.refl _ _ | with_reducible exact hwo | with_reducible exact hwe | with_reducible apply below_drew | with_reducible apply below_alloc | with_reducible apply below_set3 | with_reducible apply below_set4 | omega))))); rintro e wo ⟨v, rfl, ho, hbo⟩; obtain ⟨Ao, co, rfl, hco, hCo⟩ := RM_reads ho; (have hwo : Below W.heap.size W wo := bthen (by (repeat (first | with_reducible exact Below.refl _ _ | with_reducible exact hwo | with_reducible exact hwe | with_reducible apply below_drew | with_reducible apply below_alloc | with_reducible apply below_set3 | with_reducible apply below_set4 | omega))) hbo); (have hso := hbo.size); (try simp only [World.size_alloc, World.size_drew, World.size_setCell] at hso); (have hzo := hwo.size); (first | (have k5 := blk_keep (t := 49) (by (repeat (first | with_reducible exact blk_new _ _ | with_reducible exact k5 | with_reducible apply blk_drew | with_reducible apply blk3 | with_reducible apply blk_alloc | with_reducible apply blk_far4 | omega | (simp only [World.size_alloc, World.size_drew, World.size_setCell]; omega)))) hbo; (try simp only [World.size_alloc, World.size_drew, World.size_setCell] at k5); (have l5 := blk_lt k5); (have n5a := Nat.ne_of_lt l5); (have n5b := Nat.ne_of_gt l5); (have kc5 := all3 k5); obtain ⟨p50, p51, p52, f50, f51, f52⟩ := kc5) | skip); (first | (have k6 := blk_keep (t := 61) (by (repeat (first | with_reducible exact blk_new _ _ | with_reducible exact k6 | with_reducible apply blk_drew | with_reducible apply blk4 | with_reducible apply blk_alloc | with_reducible apply blk_far3 | omega | (simp only [World.size_alloc, World.size_drew, World.size_setCell]; omega)))) hbo; (try simp only [World.size_alloc, World.size_drew, World.size_setCell] at k6); (have l6 := blk_lt k6); (have n6a := Nat.ne_of_lt l6); (have n6b := Nat.ne_of_gt l6); (have kc6 := all4 k6); obtain ⟨p60, p61, p62, p63, f60, f61, f62, f63⟩ := kc6) | skip); (first | (have n56 := blk_ne k5 k6 (by decide); have n65 := Ne.symm n56) | skip); obtain ⟨a0, a1, a2, _, _, _⟩ := FJ.out _ hwo; obtain ⟨b0, b1, b2, b3, _, _, _, _⟩ := FK.out _ hwo; (have hlo2 : w.heap.size < wo.heap.size := World.block_lt_of_cell? wo _ a0); (have hlo3 : w.heap.size + 1 < wo.heap.size := World.block_lt_of_cell? wo _ b0)) | (go_at_call 22; refine (ofEdit_any D B dc bc drop add seq' next' _ ?ca ?cb hdl hba).mono ?_; (case ca => exact HD.out.below (bthen HB1.out (by (repeat (first | with_reducible exact Below.refl _ _ | with_reducible exact hwo | with_reducible exact hwe | with_reducible apply below_drew | with_reducible apply below_alloc | with_reducible apply below_set3 | with_reducible apply below_set4 | omega))))); (case cb => exact Kd.C_below HRA.out (bthen HB1.out (by (repeat (first | with_reducible exact Below.refl _ _ | with_reducible exact hwo | with_reducible exact hwe | with_reducible apply below_drew | with_reducible apply below_alloc | with_reducible apply below_set3 | with_reducible apply below_set4 | omega))))); rintro e we ⟨vd, vm, rfl, hvd, hvm, hbe⟩; obtain ⟨De, ce, rfl, hrd⟩ := RI_reads hvd; obtain ⟨Ae, be, rfl, hce, hCe⟩ := RM_reads hvm; (have hwe : Below W.heap.size W we := bthen (by (repeat (first | with_reducible exact Below.refl _ _ | with_reducible exact hwo | with_reducible exact hwe | with_reducible apply below_drew | with_reducible apply below_alloc | with_reducible apply below_set3 | with_reducible apply below_set4 | omega))) hbe); (have hse := hbe.size); (try simp only [World.size_alloc, World.size_drew, World.size_setCell] at hse); (have hze := hwe.size); (first | (have k5 := blk_keep (t := 49) (by (repeat (first | with_reducible exact blk_new _ _ | with_reducible exact k5 | with_reducible apply blk_drew | with_reducible apply blk3 | with_reducible apply blk_alloc | with_reducible apply blk_far4 | omega | (simp only [World.size_alloc, World.size_drew, World.size_setCell]; omega)))) hbe; (try simp only [World.size_alloc, World.size_drew, World.size_setCell] at k5); (have l5 := blk_lt k5); (have n5a := Nat.ne_of_lt l5); (have n5b := Nat.ne_of_gt l5); (have kc5 := all3 k5); obtain ⟨p50, p51, p52, f50, f51, f52⟩ := kc5) | skip); (first | (have k6 := blk_keep (t := 61) (by (repeat (first | with_reducible exact blk_new _ _ | with_reducible exact k6 | with_reducible apply blk_drew | with_reducible apply blk4 | with_reducible apply blk_alloc | with_reducible apply blk_far3 | omega | (simp only [World.size_alloc, World.size_drew, World.size_setCell]; omega)))) hbe; (try simp only [World.size_alloc, World.size_drew, World.size_setCell] at k6); (have l6 := blk_lt k6); (have n6a := Nat.ne_of_lt l6); (have n6b := Nat.ne_of_gt l6); (have kc6 := all4 k6); obtain ⟨p60, p61, p62, p63, f60, f61, f62, f63⟩ := kc6) | skip); (first | (have n56 := blk_ne k5 k6 (by decide); have n65 := Ne.symm n56) | skip); obtain ⟨a0, a1, a2, _, _, _⟩ := FJ.out _ hwe; obtain ⟨b0, b1, b2, b3, _, _, _, _⟩ := FK.out _ hwe; (have hle2 : w.heap.size < we.heap.size := World.block_lt_of_cell? we _ a0); (have hle3 : w.heap.size + 1 < we.heap.size := World.block_lt_of_cell? we _ b0)))
    all_goals go_wp2
    all_goals go_meet
    all_goals refine ⟨_, _, Ao, De, Ae, co, ce, be, rfl, rfl, ⟨⟨?_, ?_, ?_, ?_, ?_, ?_, ?_⟩⟩⟩
    all_goals first
      | (guard_target =~ Below _ _ _; (repeat (first | with_reducible exact Below.refl _ _ | with_reducible exact hwo | with_reducible exact hwe | with_reducible apply below_drew | with_reducible apply below_alloc | with_reducible apply below_set3 | with_reducible apply below_set4 | omega)); done)
      | (guard_target =~ RI _ _ _ _; refine RI_stay hvd ?_ ?_; (repeat (first | with_reducible exact stay_refl _ _ _ | with_reducible apply stay_drew | with_reducible apply stay_alloc | with_reducible apply stay_set3 | with_reducible apply stay_set4 | with_reducible refine stay_call ?_ hbo ?_ | with_reducible refine stay_call ?_ hbe ?_ | omega | (simp only [World.size_alloc, World.size_drew, World.size_setCell]; omega))); done)
      | (refine RM_stay ho ?_ ?_ <;> ((repeat (first | with_reducible exact stay_refl _ _ _ | with_reducible apply stay_drew | with_reducible apply stay_alloc | with_reducible apply stay_set3 | with_reducible apply stay_set4 | with_reducible refine stay_call ?_ hbo ?_ | with_reducible refine stay_call ?_ hbe ?_ | omega | (simp only [World.size_alloc, World.size_drew, World.size_setCell]; omega))); done))
      | (refine RM_stay hvm ?_ ?_ <;> ((repeat (first | with_reducible exact stay_refl _ _ _ | with_reducible apply stay_drew | with_reducible apply stay_alloc | with_reducible apply stay_set3 | with_reducible apply stay_set4 | with_reducible refine stay_call ?_ hbo ?_ | with_reducible refine stay_call ?_ hbe ?_ | omega | (simp only [World.size_alloc, World.size_drew, World.size_setCell]; omega))); done))
      | ((repeat (first | with_reducible exact blk_new _ _ | with_reducible exact k5 | with_reducible apply blk_drew | with_reducible apply blk3 | with_reducible apply blk_alloc | with_reducible apply blk_far4 | omega | (simp only [World.size_alloc, World.size_drew, World.size_setCell]; omega))); done)
      | ((repeat (first | with_reducible exact blk_new _ _ | with_reducible exact k6 | with_reducible apply blk_drew | with_reducible apply blk4 | with_reducible apply blk_alloc | with_reducible apply blk_far3 | omega | (simp only [World.size_alloc, World.size_drew, World.size_setCell]; omega))); done)
      | with_reducible exact blk_new1 _ _ _ _
      | (refine blk_new_at ?_; simp only [World.size_alloc, World.size_drew, World.size_setCell]; done)
      | (intro k h1 h2; (have r1 := RM_range ho k h1); (have r2 := RM_range hvm k h2); (try simp only [World.size_alloc, World.size_drew, World.size_setCell] at r1 r2); omega)
  case rest =>
    obtain ⟨gx, gy, Ax, Dx, Bx, cx, dx, bx, rfl, rfl, HM⟩ := hcut
    clear hk2 hk3
    have HBc := Aside0.mk (bthen HB1.out HM.out.below)
    obtain ⟨x0, x1, x2, _, _, _⟩ := all3 HM.out.vx
    obtain ⟨y0, y1, y2, y3, _, _, _, _⟩ := all4 HM.out.vy
    obtain ⟨_, hcx, hCx⟩ := Kd.R_reads' HM.out.rx
    obtain ⟨_, hcb, hCb⟩ := Kd.R_reads' HM.out.ra
    have hRd : ReadsInt wc .i64 Dx drop.length drop := by
      obtain ⟨A0, c0, h1, h2⟩ := RI_reads HM.out.rd
      injection h1 with h3
      rw [h3]; exact h2
    go_wp2_with fail
    refine (apply_out Ax Bx Dx cx bx dx l add drop seq next seq' next' E L _ hE.out hL.out hCx hcx hw hCb hwa hRd hb hdl).mono ?_
    rintro e wa ⟨⟨A1, n1, c1, a1, b1, rfl, ho1⟩, hba1⟩
    have HO1 := Aside0.mk ho1
    have HBa := Aside0.mk hba1
    obtain ⟨Wa, hWa⟩ : ∃ Wa, Wa = wa.alloc (Obj.cells #[.slice A1 n1 c1, .int .i64 a1, .int .i64 b1] 49) := ⟨_, rfl⟩
    have HBWa : Aside0 (Below wa.heap.size wa Wa) := ⟨by rw [hWa]; exact below_alloc (Below.refl _ _) _⟩
    have hk7 : Wa.heap[wa.heap.size]? = some (.cells #[.slice A1 n1 c1, .int .i64 a1, .int .i64 b1] 49 (0, 0)) := by rw [hWa]; exact blk_new _ _
    have HK7 := Aside0.mk hk7
    have hj2 := fun o => all3 (blk_keep HK2.out (bthen HM.out.below (bthen hba1 (below_alloc (Below.refl wa.heap.size wa) o))))
    have hj3 := fun o => all4 (blk_keep HK3.out (bthen HM.out.below (bthen hba1 (below_alloc (Below.refl wa.heap.size wa) o))))
    have z0 := fun o => (hj2 o).1
    have z1 := fun o => (hj2 o).2.1
    have z2 := fun o => (hj2 o).2.2.1
    have u0 := fun o => (hj3 o).1
    have u1 := fun o => (hj3 o).2.1
    have u2 := fun o => (hj3 o).2.2.1
    have u3 := fun o => (hj3 o).2.2.2.1
    clear x0 x1 x2 y0 y1 y2 y3 hCx hCb hRd ho1 hba1 hk7 hj2 hj3
    go_wp2_with fail
    have HBb := Aside0.mk (bthen HBc.out (bthen HBa.out HBWa.out))
    rw [← hWa]
    refine (refApply_out A B D c bc dc l add drop seq next seq' next' E L _ hE.out hL.out (Kd.C_below HR.out HBb.out) hc (Kd.C_below HRA.out HBb.out) (HD.out.below HBb.out) hb hdl).mono ?_
    rintro e wb ⟨⟨A2, n2, c2, a2, b2, rfl, ho2⟩, hbb⟩
    obtain ⟨W2, hW2⟩ : ∃ W2, W2 = wb.alloc (Obj.cells #[.slice A2 n2 c2, .int .i64 a2, .int .i64 b2] 38) := ⟨_, rfl⟩
    have hB2 : Below wb.heap.size wb W2 := by rw [hW2]; exact below_alloc (Below.refl _ _) _
    have hBc2 := bthen HBa.out (bthen HBWa.out (bthen hbb hB2))
    have HK9 : Aside0 (W2.heap[wb.heap.size]? = some (.cells #[.slice A2 n2 c2, .int .i64 a2, .int .i64 b2] 38 (0, 0))) := ⟨by rw [hW2]; exact blk_new _ _⟩
    have HK72 := Aside0.mk (blk_keep HK7.out (bthen hbb hB2))
    have HO12 := Aside0.mk (((HO1.out.below HBWa.out).below hbb).below hB2)
    have HO22 := Aside0.mk ((ho2.below hB2).lower (Nat.le_trans HBa.out.size HBWa.out.size))
    have HL := Aside0.mk (And.intro HBa.out.size (Nat.le_trans HBa.out.size (Nat.le_trans HBWa.out.size hbb.size)))
    have HLt := Aside0.mk (And.intro (blk_lt HK72.out) (blk_lt HK9.out))
    have HKP : Aside0 (Keep w W wc W2 gx gy Ax Dx Bx l.length cx drop.length dx add.length bx seq next seq' next' W2 l add drop) := ⟨{
      zl := rfl
      yl := rfl
      dl := rfl
      vx := blk_keep HM.out.vx hBc2
      vy := blk_keep HM.out.vy hBc2
      rx := Kd.R_below HM.out.rx hBc2
      ra := Kd.R_below HM.out.ra hBc2
      rd := pw_own_below HM.out.rd hBc2
      apart := HM.out.apart
      lx := fun k hk => (RM_range HM.out.rx k hk).2
      lb := fun k hk => (RM_range HM.out.ra k hk).2
      ld := fun k hk => own_lt HM.out.rd k hk
      stay := stay_refl _ _ _
      size := Nat.le_refl _
      below := bthen HBc.out hBc2
      base := HB1.out.size }⟩
    clear hbb ho2 hB2 hBc2 z0 z1 z2 u0 u1 u2 u3
    obtain ⟨sx, hsx⟩ := named l.length
    go_wp2
    rw [← hW2]
    clear hW2 hWa
    go_loopg [11] l.length (fun g v11 wr => ∃ (i : Nat) (Z : List Meta), v11 = .int .i64 i ∧ g + i = l.length ∧ Aside0 (Keep w W wc W2 gx gy Ax Dx Bx l.length cx drop.length dx add.length bx seq next seq' next' wr Z add drop))
    case atStart => exact ⟨0, l, rfl, by omega, HKP⟩
    case round =>
      clear HKP
      obtain ⟨i, Z, rfl, hg, HKP⟩ := hrel
      obtain ⟨x0, x1, x2, _, _, _⟩ := all3 HKP.out.vx
      by_cases hlt : i < l.length
      · obtain ⟨g, rfl, hgW, hm, ⟨m, hmz⟩, hkp⟩ := HKP.out.atX hlt
        obtain ⟨d0, d1, d2, d3, d4⟩ := hm.cells i m hmz
        have f0 := hm.froz (i * 5)
        have f1 := hm.froz (i * 5 + 1)
        have f2 := hm.froz (i * 5 + 2)
        have f3 := hm.froz (i * 5 + 3)
        have f4 := hm.froz (i * 5 + 4)
        have HKN := Aside0.mk hkp
        clear hm hmz hkp
        go_wp2
        go_roundg (l.length - (i + 1))
        case measure => omega
        case rel => exact ⟨i + 1, _, by go_num, by omega, HKN⟩
      · go_wp2
        clear x0 x1 x2
        go_loopg [12] add.length (fun g v12 wr => ∃ (i : Nat) (Y : List Meta), v12 = .int .i64 i ∧ g + i = add.length ∧ Aside0 (Keep w W wc W2 gx gy Ax Dx Bx l.length cx drop.length dx add.length bx seq next seq' next' wr Z Y drop))
        case atStart => exact ⟨0, add, rfl, by omega, HKP⟩
        case round =>
          clear HKP
          obtain ⟨j, Y, rfl, hg2, HKP⟩ := hrel
          obtain ⟨y0, y1, y2, y3, _, _, _, _⟩ := all4 HKP.out.vy
          by_cases hlt2 : j < add.length
          · obtain ⟨g, rfl, hgW, hm, ⟨m, hmz⟩, hkp⟩ := HKP.out.atY hlt2
            obtain ⟨d0, d1, d2, d3, d4⟩ := hm.cells j m hmz
            have f0 := hm.froz (j * 5)
            have f1 := hm.froz (j * 5 + 1)
            have f2 := hm.froz (j * 5 + 2)
            have f3 := hm.froz (j * 5 + 3)
            have f4 := hm.froz (j * 5 + 4)
            have HKN := Aside0.mk hkp
            clear hm hmz hkp
            go_wp2
            go_roundg (add.length - (j + 1))
            case measure => omega
            case rel => exact ⟨j + 1, _, by go_num, by omega, HKN⟩
          · go_wp2
            clear y0 y1 y2 y3
            go_loopg [13] drop.length (fun g v13 wr => ∃ (i : Nat) (Dl : List Int), v13 = .int .i64 i ∧ g + i = drop.length ∧ Aside0 (Keep w W wc W2 gx gy Ax Dx Bx l.length cx drop.length dx add.length bx seq next seq' next' wr Z Y Dl))
            case atStart => exact ⟨0, drop, rfl, by omega, HKP⟩
            case round =>
              clear HKP
              obtain ⟨t, Dl, rfl, hg3, HKP⟩ := hrel
              obtain ⟨y0, y1, y2, y3, _, _, _, _⟩ := all4 HKP.out.vy
              by_cases hlt3 : t < drop.length
              · obtain ⟨g, rfl, hgW, ⟨v, hv⟩, hf, hkp⟩ := HKP.out.atD hlt3 (-1)
                have HKN := Aside0.mk hkp
                clear hkp
                go_wp2
                go_roundg (drop.length - (t + 1))
                case measure => omega
                case rel => exact ⟨t + 1, _, by go_num, by omega, HKN⟩
              · have HS1 := Aside0.mk (HKP.out.stay)
                obtain ⟨q0, q1, q2, _, _, _⟩ := all3 (blk_stay HS1.out HK72.out HL.out.1 HLt.out.1)
                obtain ⟨r0, r1, r2, _, _, _⟩ := all3 (blk_stay HS1.out HK9.out HL.out.2 HLt.out.2)
                have HOa := Aside0.mk (HO12.out.stay HS1.out)
                have HOb := Aside0.mk (HO22.out.stay HS1.out)
                have hfew : E = 0 → L.length ≤ 1048576 := fun h => by have := apply_few (hE.out ▸ h); rw [hL.out]; omega
                have HFew := Aside0.mk hfew
                clear hfew
                go_wp2_with (first | (go_at_call 23; refine (numE_any _ _).mono ?_; rintro e w4 ⟨rfl, rfl⟩) | (go_at_call 26; refine (alike_out HOa.out HOb.out HFew.out).mono ?_; rintro e w5 ⟨rfl, hb5⟩))
                go_ret
                exact ⟨rfl, bthen HKP.out.below hb5⟩
end Go.Proofs.Ytelnhecpcjoonaa.Edit
