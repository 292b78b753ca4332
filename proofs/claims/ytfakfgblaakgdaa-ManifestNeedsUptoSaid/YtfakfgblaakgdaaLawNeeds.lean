/- The law ManifestNeeds: walked. -/
import Derived.Test.YtfakfgblaakgdaaNeedsPure
import Derived.Test.YtfakfgblaakgdaaOrphB
import Derived.Laws.Strings
namespace Go.Proofs.Ytfakfgblaakgdaa.Files
set_option linter.unusedVariables false
set_option linter.unusedSimpArgs false
open Go.RowKit Go.Maps Go.Proofs.YtfakfgblaakgdaaW.PrintWords Go.Proofs.YtfakfgblaakgdaaW.PrintLast Go.Proofs.Ytfakfgblaakgdaa.Base Go.Proofs.Ytfakfgblaakgdaa.Cells Go.Proofs.Ytfakfgblaakgdaa.Ints Go.Proofs.Ytfakfgblaakgdaa.Var Go.Proofs.Ytfakfgblaakgdaa.EditPure Go.Proofs.Ytfakfgblaakgdaa.Edit Go.Proofs.Ytfakfgblaakgdaa.Sets Go.Proofs.Ytfakfgblaakgdaa.Wide Go.Proofs.Ytfakfgblaakgdaa.StrRows Go.Proofs.Ytfakfgblaakgdaa.NamesPure Go.Proofs.Ytfakfgblaakgdaa.Names

theorem sameB_list (y s : ByteArray) : (y.toList == s.toList) = sameB y s := by rw [ByteArray.toList_eq, ByteArray.toList_eq]; rfl
theorem drop_step {α : Type} {l : List α} {i : Nat} {x : α} (h : l[i]? = some x) : l.drop i = x :: l.drop (i + 1) := by
  obtain ⟨hl, he⟩ := List.getElem?_eq_some_iff.1 h
  rw [List.drop_eq_getElem_cons hl, he]
theorem drop_head {α : Type} {l : List α} {k : Nat} {x : α} {r : List α} (h : l.drop k = x :: r) : k < l.length ∧ l[k]? = some x ∧ l.drop (k + 1) = r := by
  have hk : k < l.length := by
    apply Decidable.byContradiction
    intro hn
    rw [List.drop_of_length_le (by omega)] at h
    cases h
  rw [List.drop_eq_getElem_cons hk] at h
  injection h with h1 h2
  exact ⟨hk, by rw [List.getElem?_eq_getElem hk, h1], h2⟩

theorem orph_step {orp all : List ByteArray} {p : ByteArray → Bool} {i k : Nat} {x : ByteArray} (hI : orp.drop k = (all.drop i).filter fun x => !p x) (hO : orp = all.filter fun x => !p x) (hx : all[i]? = some x) :
    (p x = true → orp.drop k = ((all.drop (i + 1)).filter fun x => !p x) ∧ ∀ y, orp[k]? = some y → sameB y x = false) ∧
    (p x = false → orp[k]? = some x ∧ k < orp.length ∧ orp.drop (k + 1) = (all.drop (i + 1)).filter fun x => !p x) := by
  rw [drop_step hx] at hI
  constructor
  · intro h
    rw [List.filter_cons_of_neg (by simp [h])] at hI
    refine ⟨hI, fun y hy => ?_⟩
    have hm := List.mem_of_getElem? hy
    rw [hO] at hm
    have hn := (List.mem_filter.1 hm).2
    cases hq : sameB y x with
    | false => rfl
    | true => rw [sameB_iff.1 hq, h] at hn; cases hn
  · intro h
    rw [List.filter_cons_of_pos (by simp [h])] at hI
    obtain ⟨h1, h2, h3⟩ := drop_head hI
    exact ⟨h2, h1, h3⟩

set_option maxRecDepth 100000 in
set_option maxHeartbeats 4000000 in
theorem needs_walk (s : St) (F N S A : Option Addr) (fc nc sc c : Nat) (t : List Meta) (seq nx id log : Int) (w : World) (h : Hd w s F fc N nc S sc) (hs : Small s) (hw : Wf s) (hr : kMeta.C w A t.length t) (hb : t.length ≤ 1048576) :
    Calls Try.prog 3 #[.agg #[.int .i64 s.cap, .slice F s.files.length fc, .slice N s.names.length nc, .slice S s.safe.length sc, .int .i64 s.next], .agg #[.slice A t.length c, .int .i64 seq, .int .i64 nx], .int .i64 id, .int .i64 log] w fun e w' => e = .returned (.bool true) ∧ Below w.heap.size w w' := by
  have HH := Aside0.mk h
  have HS := Aside0.mk hs
  have HW := Aside0.mk hw
  have HR := Aside0.mk hr
  clear h hs hw hr
  go_enter Try.func3, Try.ntmps3
  go_upto_region 1 with (fail)
  obtain ⟨W0, hW0⟩ : ∃ W, W = (w.alloc (.cells #[.int .i64 s.cap, .slice F s.files.length fc, .slice N s.names.length nc, .slice S s.safe.length sc, .int .i64 s.next] 25)).alloc (.cells #[.slice A t.length c, .int .i64 seq, .int .i64 nx] 28) := ⟨_, rfl⟩
  have hk4 : W0.heap[w.heap.size]? = some (.cells #[.int .i64 s.cap, .slice F s.files.length fc, .slice N s.names.length nc, .slice S s.safe.length sc, .int .i64 s.next] 25 (0, 0)) := by rw [hW0]; exact blk_alloc (blk_new _ _) _
  have hk5 : W0.heap[w.heap.size + 1]? = some (.cells #[.slice A t.length c, .int .i64 seq, .int .i64 nx] 28 (0, 0)) := by rw [hW0]; exact blk_new1 _ _ _ _
  have HB0 : Aside0 (Below w.heap.size w W0) := ⟨by rw [hW0]; exact below_alloc (below_alloc (Below.refl _ _) _) _⟩
  rw [← hW0]
  clear hW0
  have HK4 := Aside0.mk hk4
  have HK5 := Aside0.mk hk5
  clear hk4 hk5
  go_wp2_with fail
  refine (alive_any _).mono ?_
  rintro e w1 ⟨rfl, hb1⟩
  have HB1 := Aside0.mk (bthen HB0.out hb1)
  have HJ4 := Aside0.mk (blk_keep HK4.out hb1)
  have HJ5 := Aside0.mk (blk_keep HK5.out hb1)
  obtain ⟨x0, x1, x2, x3, x4, _, _, _, _, _⟩ := all5 HJ4.out
  clear hb1
  go_wp2_with fail
  refine (of_any s F N S fc nc sc _ (HH.out.below HB1.out) HS.out).mono ?_
  rintro e w2 ⟨vF, vN, vS, rfl, hF, hN, hS, hb2⟩
  obtain ⟨F', fc', rfl, lF, cF⟩ := Kd.R_reads hF
  obtain ⟨N', nc', rfl, lN, cN⟩ := Kd.R_reads hN
  obtain ⟨S', sc', rfl, lS, cS⟩ := Kd.R_reads hS
  have HH2 : Aside0 (Hd w2 s F' fc' N' nc' S' sc') := ⟨⟨cF, cN, cS, lF, lN, lS⟩⟩
  have HB2 := Aside0.mk (bthen HB1.out hb2)
  have HJ6 := Aside0.mk (blk_keep HJ5.out hb2)
  clear hb2 hF hN hS lF lN lS cF cN cS x0 x1 x2 x3 x4
  go_upto_region 4 with (fail)
  obtain ⟨W4, hW4⟩ : ∃ W, W = w2.alloc (.cells #[.int .i64 s.cap, .slice F' s.files.length fc', .slice N' s.names.length nc', .slice S' s.safe.length sc', .int .i64 s.next] 33) := ⟨_, rfl⟩
  have hk9 : W4.heap[w2.heap.size]? = some (.cells #[.int .i64 s.cap, .slice F' s.files.length fc', .slice N' s.names.length nc', .slice S' s.safe.length sc', .int .i64 s.next] 33 (0, 0)) := by rw [hW4]; exact blk_new _ _
  have hk8 : W4.heap[w.heap.size + 1]? = some (.cells #[.slice A t.length c, .int .i64 seq, .int .i64 nx] 28 (0, 0)) := by rw [hW4]; exact blk_alloc HJ6.out _
  have HB4 : Aside0 (Below w2.heap.size w2 W4) := ⟨by rw [hW4]; exact below_alloc (Below.refl _ _) _⟩
  rw [← hW4]
  clear hW4
  have HK9 := Aside0.mk hk9
  have HK8 := Aside0.mk hk8
  have HB5 := Aside0.mk (bthen HB2.out HB4.out)
  have FJ := Aside0.mk (fun (w' : World) (b : Below W4.heap.size W4 w') => all5 (blk_keep HK9.out b))
  have FK := Aside0.mk (fun (w' : World) (b : Below W4.heap.size W4 w') => all3 (blk_keep HK8.out b))
  obtain ⟨E, hE⟩ := named (stE s)
  clear hk9 hk8
  have C13 : Aside0 (∀ W, Below W4.heap.size W4 W → Calls Try.prog 13 #[.agg #[.slice A t.length c, .int .i64 seq, .int .i64 nx]] W fun e w' => ∃ A' c', e = .returned (.agg #[.slice A' t.length c', .int .i64 seq, .int .i64 nx]) ∧ kMeta.C w' A' t.length t ∧ Below W.heap.size W w') := ⟨fun W hW => by
    refine (Edit.of_any A c t seq nx W (Kd.C_below HR.out (bthen HB5.out hW)) hb).mono ?_
    rintro e w' ⟨v, rfl, hv, hb⟩
    obtain ⟨A', c', rfl, _, hC⟩ := RM_reads hv
    exact ⟨A', c', rfl, hC, hb⟩⟩
  have C32 : Aside0 (∀ W A' c', kMeta.C W A' t.length t → Below W4.heap.size W4 W → Calls Try.prog 12 #[.agg #[.int .i64 s.cap, .slice F' s.files.length fc', .slice N' s.names.length nc', .slice S' s.safe.length sc', .int .i64 s.next], .agg #[.slice A' t.length c', .int .i64 seq, .int .i64 nx], .int .i64 id, .int .i64 log] W fun e w' => ∃ v, e = .returned (.tuple #[v, .int .i64 E]) ∧ RS w' W4.heap.size v (orphL s id log t) ∧ Below W.heap.size W w') := ⟨fun W A' c' hC hW => by
    refine (orph_any s F' N' S' A' fc' nc' sc' c' t seq nx id log W (HH2.out.below (bthen HB4.out hW)) HS.out HW.out hC hb).mono ?_
    rw [← hE.out]
    rintro e w' ⟨v, rfl, hv, hb⟩
    exact ⟨v, rfl, Kd.R_lower hv hW.size, hb⟩⟩
  go_cut [10, 11] (fun v10 v11 wc => v11 = .int .i64 E ∧ Aside0 (RS wc W4.heap.size v10 (orphL s id log t)) ∧ Aside0 (Below W4.heap.size W4 wc))
  case first =>
    have HD : Aside0 (Below W4.heap.size W4 W4.drew) := ⟨below_drew (Below.refl _ _)⟩
    obtain ⟨d0, d1, d2, d3, d4, _, _, _, _, _⟩ := FJ.out W4.drew HD.out
    obtain ⟨q0, q1, q2, _, _, _⟩ := FK.out W4.drew HD.out
    go_region_held3 (fun w' => w'.cell? ⟨w2.heap.size, 0, none⟩ = some (.int .i64 s.cap) ∧ w'.cell? ⟨w2.heap.size, 1, none⟩ = some (.slice F' s.files.length fc') ∧ w'.cell? ⟨w2.heap.size, 2, none⟩ = some (.slice N' s.names.length nc') ∧ w'.cell? ⟨w2.heap.size, 3, none⟩ = some (.slice S' s.safe.length sc') ∧ w'.cell? ⟨w2.heap.size, 4, none⟩ = some (.int .i64 s.next) ∧ w'.cell? ⟨w.heap.size + 1, 0, none⟩ = some (.slice A t.length c) ∧ w'.cell? ⟨w.heap.size + 1, 1, none⟩ = some (.int .i64 seq) ∧ w'.cell? ⟨w.heap.size + 1, 2, none⟩ = some (.int .i64 nx)) (first | with_reducible exact ⟨d0, d1, d2, d3, d4, q0, q1, q2⟩ | with_reducible exact ⟨m0, m1, m2, m3, m4, n0, n1, n2⟩ | with_reducible exact ⟨i0, i1, i2, i3, i4, j0, j1, j2⟩ | go_keep) (first
      | (go_at_call 13; refine (C13.out _ HD.out).mono ?_; rintro e wm ⟨Am, cm, rfl, hm, bm⟩; (have hwm : Below W4.heap.size W4 wm := bthen HD.out bm); obtain ⟨m0, m1, m2, m3, m4, _, _, _, _, _⟩ := FJ.out _ hwm; obtain ⟨n0, n1, n2, _, _, _⟩ := FK.out _ hwm)
      | (go_at_call 12; refine (C32.out _ _ _ hm hwm).mono ?_; rintro e wi ⟨vi, rfl, hi, bi⟩; (have hwi : Below W4.heap.size W4 wi := bthen hwm bi); obtain ⟨i0, i1, i2, i3, i4, _, _, _, _, _⟩ := FJ.out _ hwi; obtain ⟨j0, j1, j2, _, _, _⟩ := FK.out _ hwi))
    all_goals go_wp2_with fail
    all_goals go_meet
    all_goals exact ⟨rfl, ⟨hi⟩, ⟨hwi⟩⟩
  case rest =>
    obtain ⟨rfl, HO, HBc⟩ := hcut
    obtain ⟨L, lc, hv10, lL, cL⟩ := RS_reads HO.out
    subst hv10
    have HL0 := Aside0.mk cL
    clear lL cL
    obtain ⟨x0, x1, x2, x3, x4, _, _, _, _, _⟩ := FJ.out _ HBc.out
    obtain ⟨y0, _, _, _, _, _⟩ := FK.out _ HBc.out
    clear C13 C32
    go_wp2_with fail
    refine (list_any s F' N' S' fc' nc' sc' _ (HH2.out.below (bthen HB4.out HBc.out)) HS.out HW.out).mono ?_
    rw [← hE.out]
    rintro e w5 ⟨v12, rfl, hv12, hb5⟩
    obtain ⟨M, mc, rfl, _, cM⟩ := RS_reads hv12
    have HM0 := Aside0.mk cM
    have HL5 := Aside0.mk (Kd.C_below HL0.out hb5)
    have HB6 := Aside0.mk (bthen HBc.out hb5)
    have HBw := Aside0.mk (bthen HB5.out HB6.out)
    clear hv12 hb5 x0 x1 x2 x3 x4 y0 cM
    obtain ⟨orp, horp⟩ := named (orphL s id log t)
    obtain ⟨all, hall⟩ := named (listL s)
    rw [← horp.out] at HL5
    rw [← horp.out]
    rw [← hall.out] at HM0
    rw [← hall.out]
    have HOA : Aside0 (orp = all.filter fun x => !needB id log t x) := ⟨by rw [horp.out, hall.out]; rfl⟩
    have hal : all.length ≤ 1048576 := by rw [hall.out]; exact Nat.le_trans listL_len HS.out.ln
    have hol : orp.length ≤ all.length := by rw [HOA.out]; exact List.length_filter_le _ _
    clear HO HL0 HBc
    have hnum : ∀ (n : Int) (W : World), Calls Try.prog 15 #[.int .i64 n] W fun e w' => e = .returned (.int .i64 n) ∧ W = w' := fun n W => (num_any n W).mono fun e w' ⟨a, b⟩ => ⟨a, b.symm⟩
    cases hst : stB s with
    | false =>
      have HE : Aside0 (E = 9) := ⟨by rw [hE.out, stE, hst]; rfl⟩
      have h0 : all = [] := by rw [hall.out, listL, hst]; rfl
      have h1 : orp.length = 0 := by rw [HOA.out, h0]; rfl
      rw [HE.out, h1]
      clear hst h0 h1 hal hol
      go_wp2_with (go_at_call 15; refine (hnum _ _).mono ?_; rintro e w' ⟨rfl, rfl⟩)
      go_ret
      exact ⟨rfl, HBw.out⟩
    | true =>
      have HE : Aside0 (E = 0) := ⟨by rw [hE.out, stE, hst]; rfl⟩
      rw [HE.out]
      clear hst
      go_wp2_with (go_at_call 15; refine (hnum _ _).mono ?_; rintro e w' ⟨rfl, rfl⟩)
      go_loopg [14, 15] all.length (fun gk v14 v15 wr => ∃ i k : Nat, v14 = .int .i64 k ∧ v15 = .int .i64 i ∧ gk + i = all.length ∧ k ≤ orp.length ∧ Aside0 (orp.drop k = (all.drop i).filter fun x => !needB id log t x) ∧ Aside0 (Below w5.heap.size w5 wr))
      case atStart => exact ⟨0, 0, rfl, rfl, by omega, by omega, ⟨by rw [List.drop_zero, List.drop_zero]; exact HOA.out⟩, ⟨Below.refl _ _⟩⟩
      case round =>
        obtain ⟨i, k, rfl, rfl, hg, hk, HI, HB⟩ := hrel
        by_cases hlt : i < all.length
        · obtain ⟨x, hx⟩ : ∃ x, all[i]? = some x := ⟨_, List.getElem?_eq_getElem hlt⟩
          obtain ⟨ad, rfl, c0⟩ := atS (Kd.C_below HM0.out HB.out) i x hx
          rw [Nat.mul_one] at c0
          have HX := Aside0.mk hx
          clear hx
          obtain ⟨po, hpo⟩ := named (parseOk (bytesOf x))
          obtain ⟨pk, hpk⟩ := named (parseK (bytesOf x))
          obtain ⟨pn, hpn⟩ := named (parseN (bytesOf x))
          obtain ⟨na, hna⟩ := named (needA id log x)
          obtain ⟨nb, hnb⟩ := named (needB id log t x)
          obtain ⟨sq, hsq⟩ := named (sameB x sCur)
          have HNA : Aside0 (na = (sq || (po && ((pk == 109 && pn == id) || (pk == 108 && decide (log ≤ pn)))))) := ⟨by rw [hna.out, needA, ← hpo.out, ← hpk.out, ← hpn.out, ← hsq.out]⟩
          have HNB : Aside0 (nb = (na || (po && (pk == 116 && t.any (fun m => m.id == pn))))) := ⟨by rw [hnb.out, needB_eq, ← hna.out, ← hpo.out, ← hpk.out, ← hpn.out]⟩
          have hsq' : (x.toList == ([67, 85, 82, 82, 69, 78, 84] : List UInt8)) = sq := by rw [hsq.out, ByteArray.toList_eq]; rfl
          go_wp2_with fail
          refine (refParse_any x _).mono ?_
          rw [← hpo.out, ← hpk.out, ← hpn.out]
          rintro e w6 ⟨rfl, hb6⟩
          have HB7 := Aside0.mk (bthen HB.out hb6)
          clear hb6 c0
          clear hsq'
          cases hpv : po with
          | false =>
            rw [hpv] at HNA HNB
            clear hpv
            go_upto_region 14 with (fail)
            go_cut [16] (fun v16 wc => v16 = .bool na ∧ w6 = wc)
            case first =>
              go_wp2
              all_goals go_meet
              all_goals refine ⟨?_, rfl⟩
              all_goals rw [HNA.out]
              all_goals first | (simp [*]; done) | (simp [*]; omega)
            case rest =>
              obtain ⟨rfl, rfl⟩ := hcut
              clear HNA
              go_upto_block 2 with (fail)
              go_cut [16] (fun v16 wc => v16 = .bool nb ∧ w6 = wc)
              case first =>
                go_wp2_with fail
                go_loopg [16, 20] t.length (fun gj v16 v20 wq => ∃ j : Nat, v20 = .int .i64 j ∧ gj + j = t.length ∧ v16 = .bool (na || (false && (pk == 116 && (t.take j).any (fun m => m.id == pn)))) ∧ w6 = wq)
                case atStart => exact ⟨0, rfl, by omega, by simp, rfl⟩
                case round =>
                  obtain ⟨jj, rfl, hgj, rfl, rfl⟩ := hrel
                  obtain ⟨vb, hvb⟩ := named (na || (false && (pk == 116 && (t.take jj).any (fun m => m.id == pn))))
                  rw [← hvb.out]
                  have HV : Aside0 (vb = nb) := ⟨by rw [hvb.out, HNB.out]; rfl⟩
                  clear hvb
                  go_wp2
                  go_meet
                  exact ⟨by rw [HV.out], rfl⟩
              case rest =>
                obtain ⟨rfl, rfl⟩ := hcut
                clear HNB
                obtain ⟨s1, s2⟩ := orph_step HI.out HOA.out HX.out
                obtain ⟨ad', had, c0⟩ := atS (Kd.C_below HM0.out HB7.out) i x HX.out
                obtain rfl : ad = ad' := by injection had
                rw [Nat.mul_one] at c0
                have C0 := wb_cell c0
                clear had c0
                have hlt' : (i : Int) < all.length := by omega
                cases hnv : nb with
                | true =>
                  obtain ⟨s3, s4⟩ := s1 (by rw [← hnb.out]; exact hnv)
                  have HN := Aside0.mk s3
                  by_cases hko : k < orp.length
                  · obtain ⟨y, hy⟩ : ∃ y, orp[k]? = some y := ⟨_, List.getElem?_eq_getElem hko⟩
                    obtain ⟨al, rfl, c1⟩ := atS (Kd.C_below HL5.out HB7.out) k y hy
                    rw [Nat.mul_one] at c1
                    have C1 := wb_cell c1
                    have hsy : (y.toList == x.toList) = false := by rw [sameB_list]; exact s4 y hy
                    have hko' : (k : Int) < orp.length := by omega
                    clear s1 s2 s3 s4 hnv hy c1
                    go_upto_region 19 with (fail)
                    refine wp_region_wide (by kernel_rfl) (by kernel_rfl) ?_
                    repeat (go_big_quiet_step (fail))
                    refine wpQuiet_nil ?_
                    rintro w' ⟨x, rfl⟩
                    go_wp2
                    go_roundg (all.length - (i + 1))
                    case measure => omega
                    case rel => exact ⟨i + 1, k, rfl, by go_num, by omega, hk, HN, ⟨bthen HB7.out (wb_below _ x)⟩⟩
                  · have hko' : ¬ ((k : Int) < orp.length) := by omega
                    clear s1 s2 s3 s4 hnv
                    go_upto_region 19 with (fail)
                    refine wp_region_wide (by kernel_rfl) (by kernel_rfl) ?_
                    repeat (go_big_quiet_step (fail))
                    refine wpQuiet_nil ?_
                    rintro w' ⟨x, rfl⟩
                    go_wp2
                    go_roundg (all.length - (i + 1))
                    case measure => omega
                    case rel => exact ⟨i + 1, k, rfl, by go_num, by omega, hk, HN, ⟨bthen HB7.out (wb_below _ x)⟩⟩
                | false =>
                  obtain ⟨hy, hko, s3⟩ := s2 (by rw [← hnb.out]; exact hnv)
                  have HN := Aside0.mk s3
                  obtain ⟨al, rfl, c1⟩ := atS (Kd.C_below HL5.out HB7.out) k x hy
                  rw [Nat.mul_one] at c1
                  have C1 := wb_cell c1
                  have hko' : (k : Int) < orp.length := by omega
                  clear s1 s2 s3 hnv hy c1
                  go_upto_region 19 with (fail)
                  refine wp_region_wide (by kernel_rfl) (by kernel_rfl) ?_
                  repeat (go_big_quiet_step (fail))
                  refine wpQuiet_nil ?_
                  rintro w' ⟨x, rfl⟩
                  go_wp2
                  go_roundg (all.length - (i + 1))
                  case measure => omega
                  case rel => exact ⟨i + 1, k + 1, by go_num, by go_num, by omega, by omega, HN, ⟨bthen HB7.out (wb_below _ x)⟩⟩
          | true =>
            rw [hpv] at HNA HNB
            clear hpv
            go_upto_region 14 with (fail)
            go_cut [16] (fun v16 wc => v16 = .bool na ∧ w6 = wc)
            case first =>
              obtain ⟨k1, hk1⟩ : ∃ b, (pk == 109) = b := ⟨_, rfl⟩
              obtain ⟨k2, hk2⟩ : ∃ b, (pk == 108) = b := ⟨_, rfl⟩
              obtain ⟨n1, hn1⟩ : ∃ b, (pn == id) = b := ⟨_, rfl⟩
              obtain ⟨g1, hg1⟩ : ∃ b, decide (log ≤ pn) = b := ⟨_, rfl⟩
              rw [hk1, hk2, hn1, hg1] at HNA
              go_wp2
              all_goals go_meet
              all_goals refine ⟨?_, rfl⟩
              all_goals rw [HNA.out]
              all_goals first | (simp [*]; done) | (simp [*]; omega)
            case rest =>
              obtain ⟨rfl, rfl⟩ := hcut
              clear HNA
              go_upto_block 2 with (fail)
              go_cut [16] (fun v16 wc => v16 = .bool nb ∧ w6 = wc)
              case first =>
                go_wp2_with fail
                go_loopg [16, 20] t.length (fun gj v16 v20 wq => ∃ j : Nat, v20 = .int .i64 j ∧ gj + j = t.length ∧ v16 = .bool (na || (true && (pk == 116 && (t.take j).any (fun m => m.id == pn)))) ∧ w6 = wq)
                case atStart => exact ⟨0, rfl, by omega, by simp, rfl⟩
                case round =>
                  obtain ⟨jj, rfl, hgj, rfl, rfl⟩ := hrel
                  obtain ⟨y0, _, _, _, _, _⟩ := FK.out _ (bthen HB6.out HB7.out)
                  obtain ⟨vb, hvb⟩ := named (na || (true && (pk == 116 && (t.take jj).any (fun m => m.id == pn))))
                  rw [← hvb.out]
                  by_cases hk : pk = 116
                  · have hk' : (pk == 116) = true := by simp [hk]
                    by_cases hjl : jj < t.length
                    · obtain ⟨m, hm⟩ : ∃ m, t[jj]? = some m := ⟨_, List.getElem?_eq_getElem hjl⟩
                      obtain ⟨am, rfl, c0, c1, c2, c3, c4⟩ := atMeta (Kd.C_below HR.out (bthen HBw.out HB7.out)) jj m hm
                      have HV : Aside0 ((na || (true && (pk == 116 && (t.take (jj + 1)).any (fun m => m.id == pn)))) = (vb || (m.id == pn))) := ⟨by rw [hvb.out, hk', List.take_add_one, hm, Option.toList_some, List.any_append, List.any_cons, List.any_nil]; simp [Bool.or_assoc]⟩
                      clear hm hk hvb
                      go_wp2
                      all_goals go_roundg (t.length - (jj + 1))
                      all_goals first
                        | (guard_target =~ (_ : Nat) < _; omega)
                        | exact ⟨jj + 1, by go_num, by omega, by rw [HV.out]; simp [*], rfl⟩
                    · have HV : Aside0 (vb = nb) := ⟨by rw [hvb.out, HNB.out, List.take_of_length_le (by omega)]⟩
                      clear hk hvb
                      go_wp2
                      go_meet
                      exact ⟨by rw [HV.out], rfl⟩
                  · have hk' : (pk == 116) = false := by simp [hk]
                    have HV : Aside0 (vb = nb) := ⟨by rw [hvb.out, HNB.out, hk']; simp⟩
                    clear hk hvb
                    go_wp2
                    go_meet
                    exact ⟨by rw [HV.out], rfl⟩
              case rest =>
                obtain ⟨rfl, rfl⟩ := hcut
                clear HNB
                obtain ⟨s1, s2⟩ := orph_step HI.out HOA.out HX.out
                obtain ⟨ad', had, c0⟩ := atS (Kd.C_below HM0.out HB7.out) i x HX.out
                obtain rfl : ad = ad' := by injection had
                rw [Nat.mul_one] at c0
                have C0 := wb_cell c0
                clear had c0
                have hlt' : (i : Int) < all.length := by omega
                cases hnv : nb with
                | true =>
                  obtain ⟨s3, s4⟩ := s1 (by rw [← hnb.out]; exact hnv)
                  have HN := Aside0.mk s3
                  by_cases hko : k < orp.length
                  · obtain ⟨y, hy⟩ : ∃ y, orp[k]? = some y := ⟨_, List.getElem?_eq_getElem hko⟩
                    obtain ⟨al, rfl, c1⟩ := atS (Kd.C_below HL5.out HB7.out) k y hy
                    rw [Nat.mul_one] at c1
                    have C1 := wb_cell c1
                    have hsy : (y.toList == x.toList) = false := by rw [sameB_list]; exact s4 y hy
                    have hko' : (k : Int) < orp.length := by omega
                    clear s1 s2 s3 s4 hnv hy c1
                    go_upto_region 19 with (fail)
                    refine wp_region_wide (by kernel_rfl) (by kernel_rfl) ?_
                    repeat (go_big_quiet_step (fail))
                    refine wpQuiet_nil ?_
                    rintro w' ⟨x, rfl⟩
                    go_wp2
                    go_roundg (all.length - (i + 1))
                    case measure => omega
                    case rel => exact ⟨i + 1, k, rfl, by go_num, by omega, hk, HN, ⟨bthen HB7.out (wb_below _ x)⟩⟩
                  · have hko' : ¬ ((k : Int) < orp.length) := by omega
                    clear s1 s2 s3 s4 hnv
                    go_upto_region 19 with (fail)
                    refine wp_region_wide (by kernel_rfl) (by kernel_rfl) ?_
                    repeat (go_big_quiet_step (fail))
                    refine wpQuiet_nil ?_
                    rintro w' ⟨x, rfl⟩
                    go_wp2
                    go_roundg (all.length - (i + 1))
                    case measure => omega
                    case rel => exact ⟨i + 1, k, rfl, by go_num, by omega, hk, HN, ⟨bthen HB7.out (wb_below _ x)⟩⟩
                | false =>
                  obtain ⟨hy, hko, s3⟩ := s2 (by rw [← hnb.out]; exact hnv)
                  have HN := Aside0.mk s3
                  obtain ⟨al, rfl, c1⟩ := atS (Kd.C_below HL5.out HB7.out) k x hy
                  rw [Nat.mul_one] at c1
                  have C1 := wb_cell c1
                  have hko' : (k : Int) < orp.length := by omega
                  clear s1 s2 s3 hnv hy c1
                  go_upto_region 19 with (fail)
                  refine wp_region_wide (by kernel_rfl) (by kernel_rfl) ?_
                  repeat (go_big_quiet_step (fail))
                  refine wpQuiet_nil ?_
                  rintro w' ⟨x, rfl⟩
                  go_wp2
                  go_roundg (all.length - (i + 1))
                  case measure => omega
                  case rel => exact ⟨i + 1, k + 1, by go_num, by go_num, by omega, by omega, HN, ⟨bthen HB7.out (wb_below _ x)⟩⟩
        · have hkl : Aside0 (k = orp.length) := ⟨by have h1 := HI.out; rw [List.drop_of_length_le (l := all) (by omega), List.filter_nil] at h1; have h2 := congrArg List.length h1; simp at h2; omega⟩
          rw [hkl.out]
          go_wp2
          go_ret
          exact ⟨rfl, bthen HBw.out HB.out⟩
end Go.Proofs.Ytfakfgblaakgdaa.Files
