/- The law EditApart, walked. -/
import Derived.Test.YtelnhecpcjoonaaApplyOut
import Derived.Test.YtelnhecpcjoonaaApplyE
import Derived.Test.YtelnhecpcjoonaaApartPure
import Derived.Test.YtelnhecpcjoonaaOfEditT
namespace Go.Proofs.Ytelnhecpcjoonaa.Edit
set_option linter.unusedVariables false
set_option linter.unusedSimpArgs false
open Go.RowKit Go.Proofs.YtelnhecpcjoonaaW.PrintWords Go.Proofs.YtelnhecpcjoonaaW.PrintLast Go.Proofs.Ytelnhecpcjoonaa.Base Go.Proofs.Ytelnhecpcjoonaa.EditPure Go.Proofs.Ytelnhecpcjoonaa.Sets Go.Proofs.Ytelnhecpcjoonaa.Wide Go.Proofs.Ytelnhecpcjoonaa.Cells Go.Proofs.Ytelnhecpcjoonaa.Ints

theorem apply_says {l add : List Meta} {drop : List Int} {seq next seq' next' : Int} (h : applyE l seq next drop add seq' next' = 0) : verOk (applyL l drop add) seq' next' = true ∧ seq ≤ seq' ∧ next ≤ next' := by
  rw [applyE] at h
  by_cases hv : verOk l seq next = true
  · rw [if_pos hv] at h
    rw [applyL]
    cases hk : dropIds l drop with
    | none => rw [hk] at h; simp at h
    | some k =>
      rw [hk] at h
      dsimp only at h
      by_cases hs : seq' < seq ∨ next' < next
      · rw [if_pos hs] at h; cases h
      · rw [if_neg hs] at h
        by_cases h1 : verOk (srt (k ++ add)) seq' next' = true
        · exact ⟨h1, by omega, by omega⟩
        · rw [if_neg h1] at h; cases h
  · rw [if_neg hv] at h; cases h

theorem pairwise_at {α : Type} {R : α → α → Prop} {l : List α} (h : l.Pairwise R) {i j : Nat} (hij : i < j) {a b : α} (ha : l[i]? = some a) (hb : l[j]? = some b) : R a b := by
  obtain ⟨h1, h1'⟩ := List.getElem?_eq_some_iff.1 ha
  obtain ⟨h2, h2'⟩ := List.getElem?_eq_some_iff.1 hb
  rw [← h1', ← h2']
  exact List.pairwise_iff_getElem.1 h i j h1 h2 hij

set_option maxRecDepth 100000 in
set_option maxHeartbeats 8000000 in
theorem editApart_walk (A B D : Option Addr) (c bc dc : Nat) (l add : List Meta) (drop : List Int) (seq next seq' next' : Int) (w : World)
    (hr : Kd.C kMeta w A l.length l) (hc : l.length ≤ c) (hw : ∀ m ∈ l, inI64 m.id) (hra : Kd.C kMeta w B add.length add) (hwa : ∀ m ∈ add, inI64 m.id) (hd : ReadsInt w .i64 D drop.length drop) (hb : l.length + add.length ≤ 1048576) (hdl : drop.length ≤ 1048576) :
    Calls Try.prog 5 #[.agg #[.slice A l.length c, .int .i64 seq, .int .i64 next], .agg #[.slice D drop.length dc, .slice B add.length bc, .int .i64 seq', .int .i64 next']] w fun e w' => e = .returned (.bool true) ∧ Below w.heap.size w w' := by
  have HR := Aside0.mk hr
  have HRA := Aside0.mk hra
  have HD := Aside0.mk hd
  have hbl : l.length ≤ 1048576 := by omega
  have hba : add.length ≤ 1048576 := by omega
  obtain ⟨E, hE⟩ := named (applyE l seq next drop add seq' next')
  obtain ⟨L, hL⟩ := named (applyL l drop add)
  clear hr hra hd
  go_enter Try.func5, Try.ntmps5
  go_wp2_with fail
  have hb0 := below_alloc (below_alloc (Below.refl w.heap.size w) (Obj.cells #[Value.slice A l.length c, Value.int IntKind.i64 seq, Value.int IntKind.i64 next] 38)) (Obj.cells #[Value.slice D drop.length dc, Value.slice B add.length bc, Value.int IntKind.i64 seq', Value.int IntKind.i64 next'] 57)
  refine (alive11_any _).mono ?_
  rintro e W ⟨rfl, hb1⟩
  have hk2 := blk_keep (blk_alloc (blk_new w (Obj.cells #[Value.slice A l.length c, Value.int IntKind.i64 seq, Value.int IntKind.i64 next] 38)) _) hb1
  have hk3 := blk_keep (blk_new1 _ _ _ _) hb1
  have HB1 := Aside0.mk (bthen hb0 hb1)
  clear hb0 hb1
  go_upto_region 3 with (fail)
  have FJ := Aside0.mk (fun (w' : World) (b : Below W.heap.size W w') => all3 (blk_keep hk2 b))
  have FK := Aside0.mk (fun (w' : World) (b : Below W.heap.size W w') => all4 (blk_keep hk3 b))
  have HK2 := Aside0.mk hk2
  have HK3 := Aside0.mk hk3
  go_cut [5, 6] (fun v5 v6 wc => v6 = .int .i64 E ∧ ∃ g A' n c' a b, v5 = .pointer (some ⟨g, 0, none⟩) ∧ Aside0 (wc.heap[g]? = some (.cells #[.slice A' n c', .int .i64 a, .int .i64 b] 49 (0, 0)) ∧ Out 63 E L seq' next' W.heap.size wc A' n c' a b ∧ Below W.heap.size W wc))
  case first =>
    obtain ⟨p0, p1, p2, _, _, _⟩ := all3 hk2
    obtain ⟨q0, q1, q2, q3, _, _, _, _⟩ := all4 hk3
    have d0 : W.drew.cell? ⟨w.heap.size, 0, none⟩ = some (.slice A l.length c) := p0
    have d1 : W.drew.cell? ⟨w.heap.size, 1, none⟩ = some (.int .i64 seq) := p1
    have d2 : W.drew.cell? ⟨w.heap.size, 2, none⟩ = some (.int .i64 next) := p2
    have e0 : W.drew.cell? ⟨w.heap.size + 1, 0, none⟩ = some (.slice D drop.length dc) := q0
    have e1 : W.drew.cell? ⟨w.heap.size + 1, 1, none⟩ = some (.slice B add.length bc) := q1
    have e2 : W.drew.cell? ⟨w.heap.size + 1, 2, none⟩ = some (.int .i64 seq') := q2
    have e3 : W.drew.cell? ⟨w.heap.size + 1, 3, none⟩ = some (.int .i64 next') := q3
    have hl2 : w.heap.size < W.heap.size := blk_lt hk2
    have hl3 : w.heap.size + 1 < W.heap.size := blk_lt hk3
    clear hk2 hk3
    go_region_held3 (fun w' => w'.cell? ⟨w.heap.size, 0, none⟩ = some (.slice A l.length c) ∧ w'.cell? ⟨w.heap.size, 1, none⟩ = some (.int .i64 seq) ∧ w'.cell? ⟨w.heap.size, 2, none⟩ = some (.int .i64 next) ∧ w'.cell? ⟨w.heap.size + 1, 0, none⟩ = some (.slice D drop.length dc) ∧ w'.cell? ⟨w.heap.size + 1, 1, none⟩ = some (.slice B add.length bc) ∧ w'.cell? ⟨w.heap.size + 1, 2, none⟩ = some (.int .i64 seq') ∧ w'.cell? ⟨w.heap.size + 1, 3, none⟩ = some (.int .i64 next')) (first | with_reducible exact ⟨d0, d1, d2, e0, e1, e2, e3⟩ | with_reducible exact ⟨a0, a1, a2, b0, b1, b2, b3⟩ | with_reducible exact ⟨set3_cell a0 (by omega), set3_cell a1 (by omega), set3_cell a2 (by omega), set3_cell b0 (by omega), set3_cell b1 (by omega), set3_cell b2 (by omega), set3_cell b3 (by omega)⟩ | go_keep) (first | (go_at_call 18; refine (of_any A c l seq next _ ?ca hbl).mono ?_; (case ca => exact Kd.C_below HR.out (bthen HB1.out (by (repeat (first | with_reducible exact Below.refl _ _ | with_reducible exact hwo | with_reducible exact hwe | with_reducible exact hwa | with_reducible apply below_drew | with_reducible apply below_alloc))))); rintro e wo ⟨v, rfl, ho, hbo⟩; obtain ⟨Ao, co, rfl, hco, hCo⟩ := RM_reads ho; (have hwo : Below W.heap.size W wo := bthen (by (repeat (first | with_reducible exact Below.refl _ _ | with_reducible exact hwo | with_reducible exact hwe | with_reducible exact hwa | with_reducible apply below_drew | with_reducible apply below_alloc))) hbo); (first | have kk := blk_keep (blk_new _ (Obj.cells #[Value.slice none 0 0, Value.int IntKind.i64 0, Value.int IntKind.i64 0] 49)) hbo | have kk := blk_keep (w := (World.alloc _ (Obj.cells #[Value.slice none 0 0, Value.int IntKind.i64 0, Value.int IntKind.i64 0] 49)).drew) (blk_drew (blk_new _ (Obj.cells #[Value.slice none 0 0, Value.int IntKind.i64 0, Value.int IntKind.i64 0] 49))) hbo | have kk := blk_keep kk hbo | skip); obtain ⟨a0, a1, a2, _, _, _⟩ := FJ.out _ hwo; obtain ⟨b0, b1, b2, b3, _, _, _, _⟩ := FK.out _ hwo; (have hlo2 : w.heap.size < wo.heap.size := World.block_lt_of_cell? wo _ a0); (have hlo3 : w.heap.size + 1 < wo.heap.size := World.block_lt_of_cell? wo _ b0)) | (go_at_call 22; refine (ofEdit_any D B dc bc drop add seq' next' _ ?ca ?cb hdl hba).mono ?_; (case ca => exact HD.out.below (bthen HB1.out (by (repeat (first | with_reducible exact Below.refl _ _ | with_reducible exact hwo | with_reducible exact hwe | with_reducible exact hwa | with_reducible apply below_drew | with_reducible apply below_alloc))))); (case cb => exact Kd.C_below HRA.out (bthen HB1.out (by (repeat (first | with_reducible exact Below.refl _ _ | with_reducible exact hwo | with_reducible exact hwe | with_reducible exact hwa | with_reducible apply below_drew | with_reducible apply below_alloc))))); rintro e we ⟨vd, vm, rfl, hvd, hvm, hbe⟩; obtain ⟨De, ce, rfl, hrd⟩ := RI_reads hvd; obtain ⟨Ae, be, rfl, hce, hCe⟩ := RM_reads hvm; (have hwe : Below W.heap.size W we := bthen (by (repeat (first | with_reducible exact Below.refl _ _ | with_reducible exact hwo | with_reducible exact hwe | with_reducible exact hwa | with_reducible apply below_drew | with_reducible apply below_alloc))) hbe); (first | have kk := blk_keep (blk_new _ (Obj.cells #[Value.slice none 0 0, Value.int IntKind.i64 0, Value.int IntKind.i64 0] 49)) hbe | have kk := blk_keep (w := (World.alloc _ (Obj.cells #[Value.slice none 0 0, Value.int IntKind.i64 0, Value.int IntKind.i64 0] 49)).drew) (blk_drew (blk_new _ (Obj.cells #[Value.slice none 0 0, Value.int IntKind.i64 0, Value.int IntKind.i64 0] 49))) hbe | have kk := blk_keep kk hbe | skip); obtain ⟨a0, a1, a2, _, _, _⟩ := FJ.out _ hwe; obtain ⟨b0, b1, b2, b3, _, _, _, _⟩ := FK.out _ hwe; (have hle2 : w.heap.size < we.heap.size := World.block_lt_of_cell? we _ a0); (have hle3 : w.heap.size + 1 < we.heap.size := World.block_lt_of_cell? we _ b0)) | (go_at_call 21; refine (apply_out Ao Ae De co be ce l add drop seq next seq' next' E L _ hE.out hL.out ?ca hco hw ?cb hwa ?cc hb hdl).mono ?_; (case ca => exact Kd.C_below hCo (by (repeat (first | with_reducible exact Below.refl _ _ | with_reducible apply below_drew | with_reducible apply below_alloc | with_reducible refine bthen ?_ hbe)))); (case cb => exact Kd.C_below hCe (by (repeat (first | with_reducible exact Below.refl _ _ | with_reducible apply below_drew | with_reducible apply below_alloc | with_reducible refine bthen ?_ hbo)))); (case cc => exact hrd.below (by (repeat (first | with_reducible exact Below.refl _ _ | with_reducible apply below_drew | with_reducible apply below_alloc | with_reducible refine bthen ?_ hbo)))); rintro e wa ⟨⟨A', n, c', xa, xb, rfl, hout⟩, hbx⟩; obtain ⟨a0, a1, a2, _, _, _⟩ := FJ.out _ (bthen (by (repeat (first | with_reducible exact Below.refl _ _ | with_reducible exact hwo | with_reducible exact hwe | with_reducible apply below_drew | with_reducible apply below_alloc))) hbx); obtain ⟨b0, b1, b2, b3, _, _, _, _⟩ := FK.out _ (bthen (by (repeat (first | with_reducible exact Below.refl _ _ | with_reducible exact hwo | with_reducible exact hwe | with_reducible apply below_drew | with_reducible apply below_alloc))) hbx); (have hwa : Below W.heap.size W wa := bthen (by (repeat (first | with_reducible exact Below.refl _ _ | with_reducible exact hwo | with_reducible exact hwe | with_reducible exact hwa | with_reducible apply below_drew | with_reducible apply below_alloc))) hbx); (first | have kz := blk_keep (blk_new _ (Obj.cells #[Value.slice none 0 0, Value.int IntKind.i64 0, Value.int IntKind.i64 0] 49)) hbx | have kz := blk_keep (w := (World.alloc _ (Obj.cells #[Value.slice none 0 0, Value.int IntKind.i64 0, Value.int IntKind.i64 0] 49)).drew) (blk_drew (blk_new _ (Obj.cells #[Value.slice none 0 0, Value.int IntKind.i64 0, Value.int IntKind.i64 0] 49))) hbx | have kz := blk_keep kk hbx | skip); (first | (have kc := all3 kz; obtain ⟨r0, r1, r2, s0, s1, s2⟩ := kc) | skip)))
    all_goals go_wp2
    all_goals go_meet
    all_goals refine ⟨rfl, _, A', n, c', xa, xb, rfl, ⟨?_, ?_, ?_⟩⟩
    all_goals first
      | with_reducible exact blk_new _ _
      | with_reducible exact blk3 kz
      | with_reducible exact below_alloc hwa _
      | with_reducible exact below_set3 hwa (Nat.le_refl _) _ _ _
      | with_reducible exact below_set3 hwa hwo.size _ _ _
      | with_reducible exact below_set3 hwa hwe.size _ _ _
      | with_reducible exact (hout.alloc _).lower hwo.size
      | with_reducible exact (hout.alloc _).lower hwe.size
      | with_reducible exact (hout.set3 (blk_lt kk) _ _ _).lower hwo.size
      | with_reducible exact (hout.set3 (blk_lt kk) _ _ _).lower hwe.size
      | with_reducible exact (hout.set3 (blk_lt (blk_new _ _)) _ _ _).lower (below_alloc hwo _).size
      | with_reducible exact (hout.set3 (blk_lt (blk_new _ _)) _ _ _).lower (below_alloc hwe _).size
  case rest =>
    obtain ⟨rfl, g, A', n, c', a, b, rfl, HF⟩ := hcut
    clear hk2 hk3
    by_cases h0 : E = 0
    · obtain ⟨rfl, rfl, rfl, ho⟩ := HF.out.2.1.yes h0
      subst h0
      have hsay := apply_says hE.out.symm
      rw [← hL.out] at hsay
      have HV := Aside0.mk hsay.1
      have h256 := (verOk_list hsay.1).1
      have hsq := hsay.2.1
      have hnx := hsay.2.2
      have HO := Aside0.mk ho
      have HG := Aside0.mk (blk_lt HF.out.1)
      obtain ⟨g0, g1, g2, _, _, _⟩ := all3 HF.out.1
      clear hsay ho
      go_wp2_with (go_at_call 23; refine (numE_any _ _).mono ?_; rintro e w4 ⟨rfl, rfl⟩)
      obtain ⟨nL, hnL⟩ : ∃ nL, nL = L.length := ⟨_, rfl⟩
      go_loopg [7] L.length (fun g7 v7 wr => ∃ i : Nat, v7 = .int .i64 i ∧ g7 + i = L.length ∧ Aside0 (Below w4.heap.size w4 wr))
      case atStart => exact ⟨0, rfl, by omega, ⟨Below.refl _ _⟩⟩
      case round =>
        obtain ⟨i, rfl, hgi, HBr⟩ := hrel
        obtain ⟨g0', g1', g2', _, _, _⟩ := all3 (blk_keep HF.out.1 HBr.out)
        clear g0 g1 g2
        by_cases hlt : i < L.length
        · go_wp2
          go_loopg [8] i (fun g8 v8 wv => ∃ k : Nat, v8 = .int .i64 k ∧ g8 + k = i ∧ Aside0 (Below wr.heap.size wr wv))
          case atStart => exact ⟨0, rfl, by omega, ⟨Below.refl _ _⟩⟩
          case round =>
            obtain ⟨k, rfl, hgk, HBv⟩ := hrel
            have HBw := Aside0.mk (bthen HBr.out HBv.out)
            obtain ⟨q0, q1, q2, _, _, _⟩ := all3 (blk_keep HF.out.1 HBw.out)
            clear g0' g1' g2'
            by_cases hk : k < i
            · have hkl : k < L.length := by omega
              obtain ⟨ma, hma⟩ : ∃ m, L[k]? = some m := ⟨_, List.getElem?_eq_getElem hkl⟩
              obtain ⟨mb, hmb⟩ : ∃ m, L[i]? = some m := ⟨_, List.getElem?_eq_getElem hlt⟩
              have hC := (Kd.R_reads' (Kd.R_below HO.out HBw.out)).2.2
              obtain ⟨ad, hadA, x0, x1, x2, x3, x4⟩ := atMeta hC k ma hma
              obtain ⟨ad', hadB, y0, y1, y2, y3, y4⟩ := atMeta hC i mb hmb
              obtain rfl : ad = ad' := by rw [hadA] at hadB; injection hadB
              have hpair : Aside0 (ma.id ≠ mb.id ∧ ApartM ma mb) := ⟨⟨pairwise_at (verOk_list HV.out).2.2.1 hk hma hmb, pairwise_at (verOk_apart HV.out) hk hma hmb⟩⟩
              subst hadA
              clear hC hma hmb hadB
              go_upto_region 12 with (fail)
              go_cut [9, 10] (fun v9 v10 wx => ∃ p q, v9 = .pointer (some ⟨p, 0, none⟩) ∧ v10 = .pointer (some ⟨q, 0, none⟩) ∧ Aside0 (wx.heap[p]? = some (.cells #[.int .i64 ma.id, .int .i64 ma.level, .int .i64 ma.count, .string ma.low, .string ma.high] 63 (0, 0)) ∧ wx.heap[q]? = some (.cells #[.int .i64 mb.id, .int .i64 mb.level, .int .i64 mb.count, .string mb.low, .string mb.high] 63 (0, 0)) ∧ Below wr.heap.size wr wx))
              case first =>
                have Dq0 : wr.drew.cell? ⟨g, 0, none⟩ = some (.slice (some ad) L.length c') := q0
                have Dx0 : wr.drew.cell? (ad.add (k * 5)) = some (.int .i64 ma.id) := x0
                have Dx1 : wr.drew.cell? ⟨(ad.add (k * 5)).block, (ad.add (k * 5)).off + 1, none⟩ = some (.int .i64 ma.level) := x1
                have Dx2 : wr.drew.cell? ⟨(ad.add (k * 5)).block, (ad.add (k * 5)).off + 2, none⟩ = some (.int .i64 ma.count) := x2
                have Dx3 : wr.drew.cell? ⟨(ad.add (k * 5)).block, (ad.add (k * 5)).off + 3, none⟩ = some (.string ma.low) := x3
                have Dx4 : wr.drew.cell? ⟨(ad.add (k * 5)).block, (ad.add (k * 5)).off + 4, none⟩ = some (.string ma.high) := x4
                have Dy0 : wr.drew.cell? (ad.add (i * 5)) = some (.int .i64 mb.id) := y0
                have Dy1 : wr.drew.cell? ⟨(ad.add (i * 5)).block, (ad.add (i * 5)).off + 1, none⟩ = some (.int .i64 mb.level) := y1
                have Dy2 : wr.drew.cell? ⟨(ad.add (i * 5)).block, (ad.add (i * 5)).off + 2, none⟩ = some (.int .i64 mb.count) := y2
                have Dy3 : wr.drew.cell? ⟨(ad.add (i * 5)).block, (ad.add (i * 5)).off + 3, none⟩ = some (.string mb.low) := y3
                have Dy4 : wr.drew.cell? ⟨(ad.add (i * 5)).block, (ad.add (i * 5)).off + 4, none⟩ = some (.string mb.high) := y4
                go_region_held3 (fun w' => w'.cell? ⟨g, 0, none⟩ = some (.slice (some ad) L.length c') ∧ w'.cell? (ad.add (k * 5)) = some (.int .i64 ma.id) ∧ w'.cell? ⟨(ad.add (k * 5)).block, (ad.add (k * 5)).off + 1, none⟩ = some (.int .i64 ma.level) ∧ w'.cell? ⟨(ad.add (k * 5)).block, (ad.add (k * 5)).off + 2, none⟩ = some (.int .i64 ma.count) ∧ w'.cell? ⟨(ad.add (k * 5)).block, (ad.add (k * 5)).off + 3, none⟩ = some (.string ma.low) ∧ w'.cell? ⟨(ad.add (k * 5)).block, (ad.add (k * 5)).off + 4, none⟩ = some (.string ma.high) ∧ w'.cell? (ad.add (i * 5)) = some (.int .i64 mb.id) ∧ w'.cell? ⟨(ad.add (i * 5)).block, (ad.add (i * 5)).off + 1, none⟩ = some (.int .i64 mb.level) ∧ w'.cell? ⟨(ad.add (i * 5)).block, (ad.add (i * 5)).off + 2, none⟩ = some (.int .i64 mb.count) ∧ w'.cell? ⟨(ad.add (i * 5)).block, (ad.add (i * 5)).off + 3, none⟩ = some (.string mb.low) ∧ w'.cell? ⟨(ad.add (i * 5)).block, (ad.add (i * 5)).off + 4, none⟩ = some (.string mb.high)) (first | with_reducible exact ⟨Dq0, Dx0, Dx1, Dx2, Dx3, Dx4, Dy0, Dy1, Dy2, Dy3, Dy4⟩ | go_keep) (fail)
                all_goals go_wp2
                all_goals go_meet
                all_goals refine ⟨_, _, rfl, rfl, ⟨?_, ?_, ?_⟩⟩
                all_goals first
                  | with_reducible exact blk_drew (blk_alloc (blk_new _ _) _)
                  | with_reducible exact blk_drew (blk_new1 _ _ _ _)
                  | with_reducible exact below_drew (below_alloc (below_alloc (Below.refl _ _) _) _)
              case rest =>
                obtain ⟨p, q, rfl, rfl, HP⟩ := hcut
                have HBx := Aside0.mk (bthen HBw.out HP.out.2.2)
                have HBy := Aside0.mk (bthen HBv.out HP.out.2.2)
                obtain ⟨a0, a1, a2, a3, a4, _, _, _, _, _⟩ := all5 HP.out.1
                obtain ⟨b0, b1, b2, b3, b4, _, _, _, _, _⟩ := all5 HP.out.2.1
                have hid := hpair.out.1
                have hap := hpair.out.2
                clear q0 q1 q2 x0 x1 x2 x3 x4 y0 y1 y2 y3 y4
                have hkk : (k : Int) + 1 ≤ 256 := by omega
                by_cases hlev : ma.level = mb.level
                · by_cases hpos : 0 < ma.level
                  · have hs : Op.bytesLess ma.high.toList mb.low.toList = true := hap hlev hpos
                    clear hap
                    have hs2 := leq_bytes mb.low.toList ma.high.toList
                    rw [hs] at hs2
                    obtain ⟨t, ht⟩ : ∃ t, Op.bytesLess mb.high.toList ma.low.toList = t := ⟨_, rfl⟩
                    have ht2 := leq_bytes ma.low.toList mb.high.toList
                    rw [ht] at ht2
                    cases t
                    · go_wp2
                      go_roundg (i - (k + 1))
                      case measure => omega
                      case rel => exact ⟨k + 1, by go_num, by omega, HBy⟩
                    · go_wp2
                      go_roundg (i - (k + 1))
                      case measure => omega
                      case rel => exact ⟨k + 1, by go_num, by omega, HBy⟩
                  · clear hap
                    go_wp2
                    go_roundg (i - (k + 1))
                    case measure => omega
                    case rel => exact ⟨k + 1, by go_num, by omega, HBy⟩
                · clear hap
                  go_wp2
                  go_roundg (i - (k + 1))
                  case measure => omega
                  case rel => exact ⟨k + 1, by go_num, by omega, HBy⟩
            · have hki : k = i := by omega
              clear hk
              go_wp2
              go_roundg (L.length - (i + 1))
              case measure => omega
              case rel => exact ⟨i + 1, by go_num, by omega, HBw⟩
        · have HBf := Aside0.mk (bthen HB1.out (bthen HF.out.2.2 HBr.out))
          obtain ⟨s0, s1, s2, _, _, _⟩ := all3 (blk_keep HK2.out (bthen HF.out.2.2 HBr.out))
          have hve : Aside0 (verE L a b = 0) := ⟨by rw [verE, if_pos HV.out]⟩
          have hids : ∀ m ∈ L, inI64 m.id := fun m hm => by
            have := ((verOk_list HV.out).2.2.2 m hm).1
            simp only [mayM, within, Bool.and_eq_true, decide_eq_true_eq] at this
            exact ⟨by omega, by omega⟩
          obtain ⟨_, hcc, hCL⟩ := Kd.R_reads' (Kd.R_below HO.out HBr.out)
          go_wp2_with (first | (go_at_call 24; refine (check_any A' c' L a b _ hCL hcc hids).mono ?_; rw [hve.out]; rintro e w7 ⟨rfl, hb7⟩; obtain ⟨g0, g1, g2, _, _, _⟩ := all3 (blk_keep HF.out.1 (bthen HBr.out hb7)); obtain ⟨t0, t1, t2, _, _, _⟩ := all3 (blk_keep HK2.out (bthen HF.out.2.2 (bthen HBr.out hb7)))) | (go_at_call 23; refine (numE_any _ _).mono ?_; rintro e w8 ⟨rfl, rfl⟩))
          go_ret
          exact ⟨rfl, bthen HBf.out hb7⟩
    · obtain ⟨rfl, rfl, rfl, rfl, rfl⟩ := HF.out.2.1.no h0
      obtain ⟨g0, g1, g2, _, _, _⟩ := all3 HF.out.1
      have HB2 := Aside0.mk (bthen HB1.out HF.out.2.2)
      go_wp2_with (go_at_call 23; refine (numE_any _ _).mono ?_; rintro e w4 ⟨rfl, rfl⟩)
      go_ret
      exact ⟨rfl, HB2.out⟩
end Go.Proofs.Ytelnhecpcjoonaa.Edit
