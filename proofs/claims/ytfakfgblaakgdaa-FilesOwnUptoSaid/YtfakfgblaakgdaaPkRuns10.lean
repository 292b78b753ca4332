/- FilesRuns: for all files and acts of bulk at most 1048576 the law returns true, and what it is given stays. (Printed by wip/gen_rows.py.) -/
import Derived.Test.YtfakfgblaakgdaaPkRuns9
import Derived.Test.YtfakfgblaakgdaaPkRuns8
import Derived.Test.YtfakfgblaakgdaaPkRuns7
import Derived.Test.YtfakfgblaakgdaaPkRuns6
import Derived.Test.YtfakfgblaakgdaaWEqStruct
import Derived.JoinedCond

/- The document's Do, walked: an act of kind 5. (Split by wip/split_refg.py.) -/
namespace Go.Proofs.Ytfakfgblaakgdaa.Files.Ref
set_option linter.unusedVariables false
set_option linter.unusedSimpArgs false
open Go.RowKit Go.Proofs.YtfakfgblaakgdaaW.PrintWords Go.Proofs.YtfakfgblaakgdaaW.PrintLast Go.Proofs.Ytfakfgblaakgdaa.Base Go.Proofs.Ytfakfgblaakgdaa.Cells Go.Proofs.Ytfakfgblaakgdaa.Ints Go.Proofs.Ytfakfgblaakgdaa.Var Go.Proofs.Ytfakfgblaakgdaa.EditPure Go.Proofs.Ytfakfgblaakgdaa.Edit Go.Proofs.Ytfakfgblaakgdaa.Sets Go.Proofs.Ytfakfgblaakgdaa.Wide Go.Proofs.Ytfakfgblaakgdaa.RowsC

set_option maxRecDepth 100000 in
set_option maxHeartbeats 40000000 in
theorem do_5 (s : St) (a : Ac) (F N S D : Option Addr) (fc nc sc dc : Nat) (w : World) (h : Hd w s F fc N nc S sc) (hs : Small s) (hr : ReadsInt w .u8 D a.data.length a.data) (hda : a.data.length ≤ 1048576) (hx : a.what = 5) :
    Calls Try.prog 30 #[.agg #[.int .i64 s.cap, .slice F s.files.length fc, .slice N s.names.length nc, .slice S s.safe.length sc, .int .i64 s.next], acV a D dc] w fun e w' => ∃ v, e = .returned (.tuple #[v, .int .i64 (DoP s a).1]) ∧ Rs w' w.heap.size v (DoP s a).2 ∧ Below w.heap.size w w' := by
  have HH := Aside0.mk h
  have HS := Aside0.mk hs
  have HR := Aside0.mk hr
  obtain ⟨dp, hdp⟩ := named (DoP s a)
  rw [← hdp.out]
  obtain ⟨lf, hlf⟩ : ∃ n, s.files.length = n := ⟨_, rfl⟩
  obtain ⟨ln, hln⟩ : ∃ n, s.names.length = n := ⟨_, rfl⟩
  obtain ⟨ls, hls⟩ : ∃ n, s.safe.length = n := ⟨_, rfl⟩
  obtain ⟨ld, hld⟩ : ∃ n, a.data.length = n := ⟨_, rfl⟩
  have LF := Aside0.mk hlf
  have LN := Aside0.mk hln
  have LS := Aside0.mk hls
  have LD := Aside0.mk hld
  obtain ⟨wh, hwh⟩ : ∃ n, a.what = n := ⟨_, rfl⟩
  have WH := Aside0.mk hwh
  have CA : Aside0 (acV a D dc = .agg #[.int .i64 wh, .string a.name, .string a.dest, .slice D ld dc]) := ⟨by rw [acV, hwh, hld]⟩
  rw [CA.out, hlf, hln, hls]
  rw [hld] at hda
  have hlf1 : lf ≤ 1048576 := by rw [← hlf]; exact hs.lf
  have hln1 : ln ≤ 1048576 := by rw [← hln]; exact hs.ln
  have hls1 : ls ≤ 1048576 := by rw [← hls]; exact hs.ls
  have HXW : Aside0 (wh = 5) := ⟨by rw [← hwh]; exact hx⟩
  clear h hs hr hlf hln hls hld hwh hx
  go_enter Try.func30, Try.ntmps30
  go_upto_region 1 with (fail)
  obtain ⟨W, hW⟩ : ∃ W, W = ((w.alloc (.cells #[.int .i64 s.cap, .slice F lf fc, .slice N ln nc, .slice S ls sc, .int .i64 s.next] 25)).alloc (.cells #[.int .i64 wh, .string a.name, .string a.dest, .slice D ld dc] 64)).alloc (.cells #[.int .i64 0, .slice none 0 0, .slice none 0 0, .slice none 0 0, .int .i64 0] 25) := ⟨_, rfl⟩
  have hk2 : W.heap[w.heap.size]? = some (.cells #[.int .i64 s.cap, .slice F lf fc, .slice N ln nc, .slice S ls sc, .int .i64 s.next] 25 (0, 0)) := by rw [hW]; exact blk_alloc (blk_alloc (blk_new _ _) _) _
  have hk3 : W.heap[w.heap.size + 1]? = some (.cells #[.int .i64 wh, .string a.name, .string a.dest, .slice D ld dc] 64 (0, 0)) := by rw [hW]; exact blk_alloc (blk_new1 _ _ _ _) _
  have hk4 : W.heap[w.heap.size + 2]? = some (.cells #[.int .i64 0, .slice none 0 0, .slice none 0 0, .slice none 0 0, .int .i64 0] 25 (0, 0)) := by
    rw [hW]
    have := blk_new1 (w.alloc (.cells #[.int .i64 s.cap, .slice F lf fc, .slice N ln nc, .slice S ls sc, .int .i64 s.next] 25)) (.cells #[.int .i64 wh, .string a.name, .string a.dest, .slice D ld dc] 64) #[.int .i64 0, .slice none 0 0, .slice none 0 0, .slice none 0 0, .int .i64 0] 25
    rw [show (w.alloc (.cells #[.int .i64 s.cap, .slice F lf fc, .slice N ln nc, .slice S ls sc, .int .i64 s.next] 25)).heap.size = w.heap.size + 1 by simp] at this
    exact this
  have HB : Aside0 (Below w.heap.size w W) := ⟨by rw [hW]; exact below_alloc (below_alloc (below_alloc (Below.refl _ _) _) _) _⟩
  have HZ : Aside0 (W.heap.size = w.heap.size + 3) := ⟨by rw [hW]; simp⟩
  rw [← hW]
  clear hW
  have HJ := Aside0.mk hk2
  have HA := Aside0.mk hk3
  have HK := Aside0.mk hk4
  obtain ⟨x0, x1, x2, x3, x4, _, _, _, _, _⟩ := all5 hk2
  clear hk2 hk3 hk4
  go_wp2_with fail
  refine (check_any s F N S lf fc ln nc ls sc W (HH.out.below HB.out) HS.out LF.out LN.out LS.out).mono ?_
  obtain ⟨E, hE⟩ := named (stE s)
  rw [← hE.out]
  rintro e w1 ⟨rfl, hb1⟩
  have HB1 := Aside0.mk hb1
  have HBw1 := Aside0.mk (bthen HB.out hb1)
  have HK1 := Aside0.mk (blk_keep HK.out hb1)
  have HA1 := Aside0.mk (blk_keep HA.out hb1)
  have HJ1 := Aside0.mk (blk_keep HJ.out hb1)
  clear hb1 x0 x1 x2 x3 x4
  cases hst : stB s with
  | false =>
    obtain rfl : E = 9 := by rw [hE.out, stE, hst]; rfl
    have HDP : Aside0 (dp = (9, zSt)) := ⟨by rw [hdp.out, DoP, if_pos hst]⟩
    clear hst
    obtain ⟨z0, z1, z2, z3, z4, f0, f1, f2, f3, f4⟩ := all5 HK1.out
    go_wp2
    refine bodyPost_ret (results_ct rfl _ _ (w.heap.size + 2) 25 #[.int .i64 0, .slice none 0 0, .slice none 0 0, .slice none 0 0, .int .i64 0] (0, 0) _ rfl (blk5 HK1.out) Try.underlying25 rfl (by kernel_rfl)) rfl ?_
    exact ⟨.agg #[.int .i64 0, .slice none 0 0, .slice none 0 0, .slice none 0 0, .int .i64 0], by rw [HDP.out]; rfl, by rw [HDP.out]; exact Rs_zero _ _, below_set5 HBw1.out (by omega) _ _ _ _ _⟩
  | true =>
    obtain rfl : E = 0 := by rw [hE.out, stE, hst]; rfl
    have HST := Aside0.mk hst
    have HGD : Aside0 (Good s) := ⟨stB_iff.1 hst⟩
    clear hst
    obtain ⟨p0, p1, p2, p3, _, _, _, _⟩ := all4 HA1.out
    by_cases hw1 : wh < 1
    · exfalso; have := HXW.out; omega
    · by_cases hw6 : 6 < wh
      · exfalso; have := HXW.out; omega
      · obtain ⟨x0, x1, x2, x3, x4, _, _, _, _, _⟩ := all5 HJ1.out
        go_wp2_with fail
        refine (own_any s F N S lf fc ln nc ls sc w1 (HH.out.below HBw1.out) HS.out LF.out LN.out LS.out).mono ?_
        rintro e w2 ⟨v2, rfl, hv2, hb2⟩
        obtain ⟨n2, F2, lf2, fc2, N2, ln2, nc2, S2, ls2, sc2, m2, rfl⟩ := show_ hv2
        have HV2 := Aside0.mk (hv2.lower HB1.out.size)
        have HB2 := Aside0.mk (bthen HB1.out hb2)
        clear hv2 hb2 x0 x1 x2 x3 x4 p0 p1 p2 p3
        go_upto_region 6 with (fail)
        obtain ⟨w3, hw3⟩ : ∃ w3, w3 = w2.alloc (.cells #[.int .i64 n2, .slice F2 lf2 fc2, .slice N2 ln2 nc2, .slice S2 ls2 sc2, .int .i64 m2] 25) := ⟨_, rfl⟩
        obtain ⟨g6, hg6⟩ : ∃ g, g = w2.heap.size := ⟨_, rfl⟩
        obtain ⟨L, hL⟩ := HV2.out.own
        have HO : Aside0 (Own w3 W.heap.size g6 s (.slice F2 lf2 fc2) (.slice N2 ln2 nc2) (.slice S2 ls2 sc2) L) := ⟨by rw [hw3, hg6]; exact hL⟩
        have HB3 : Aside0 (Below W.heap.size W w3) := ⟨by rw [hw3]; exact below_alloc HB2.out _⟩
        have hlow : W.heap.size ≤ g6 := by rw [hg6]; exact HB2.out.size
        rw [← hw3, ← hg6]
        clear hw3 hL HV2 hg6
        obtain ⟨Fx, fcx, Nx, ncx, Sx, scx, e1, e2, e3, hhd⟩ := HO.out.forms
        rw [LF.out] at e1
        rw [LN.out] at e2
        rw [LS.out] at e3
        simp only [Value.slice.injEq] at e1 e2 e3
        obtain ⟨rfl, rfl, rfl⟩ := e1
        obtain ⟨rfl, rfl, rfl⟩ := e2
        obtain ⟨rfl, rfl, rfl⟩ := e3
        have HHd := Aside0.mk hhd
        have HBw3 := Aside0.mk (bthen HB.out HB3.out)
        have HK3 := Aside0.mk (blk_keep HK.out HB3.out)
        have HA3 := Aside0.mk (blk_keep HA.out HB3.out)
        obtain ⟨x0, x1, x2, x3, x4, _, fr1, fr2, fr3, fr4⟩ := all5 HO.out.blk
        obtain ⟨p0, p1, p2, p3, _, _, _, _⟩ := all4 HA3.out
        have hnn : kNm.C w3 N2 ln2 s.names := by rw [← LN.out]; exact hhd.hN
        have HNN := Aside0.mk hnn
        clear hhd hnn
        obtain ⟨ix, hix⟩ := named (findIx s.names a.name)
        go_wp2_with fail
        refine (find_any s.names a.name N2 ln2 nc2 w3 HNN.out hln1).mono ?_
        rw [← hix.out]
        rintro e wz ⟨rfl, rfl⟩
        by_cases hwc : wh = 1
        · exfalso; have := HXW.out; omega
        · by_cases hw66 : wh = 6
          · exfalso; have := HXW.out; omega
          · have hw2 : 2 ≤ wh := by omega
            have hw5 : wh ≤ 5 := by omega
            rcases findIx_cases s.names a.name with ⟨q1, q2, q3⟩ | ⟨k, n, q1, q2, q3, q4, q5⟩
            · obtain rfl : ix = -1 := by rw [hix.out, q1]
              have HDP : Aside0 (dp = (71, zSt)) := ⟨by rw [hdp.out]; exact DoP_err HST.out (doP_actE (by rw [WH.out]; exact hw2) (by rw [WH.out]; exact hw5) (by unfold actP; rw [q3])) (by decide)⟩
              clear q1 q2 q3
              obtain ⟨z0, z1, z2, z3, z4, f0, f1, f2, f3, f4⟩ := all5 HK3.out
              go_wp2
              refine bodyPost_ret (results_ct rfl _ _ (w.heap.size + 2) 25 #[.int .i64 0, .slice none 0 0, .slice none 0 0, .slice none 0 0, .int .i64 0] (0, 0) _ rfl (blk5 HK3.out) Try.underlying25 rfl (by kernel_rfl)) rfl ?_
              exact ⟨.agg #[.int .i64 0, .slice none 0 0, .slice none 0 0, .slice none 0 0, .int .i64 0], by rw [HDP.out]; rfl, by rw [HDP.out]; exact Rs_zero _ _, below_set5 HBw3.out (by omega) _ _ _ _ _⟩
            · obtain rfl : ix = (k : Int) := by rw [hix.out, q1]
              have HAW := Aside0.mk (act_what q5)
              have hkl : k < ln2 := by rw [← LN.out]; exact (List.getElem?_eq_some_iff.1 q2).1
              have hkl' : (k : Int) < (ln2 : Int) := by omega
              obtain ⟨kf, f, r1, r2, r3⟩ := fileIx_some (HGD.out.nm.each n (List.mem_of_getElem? q2)).2
              have hkf : kf < lf2 := by rw [← LF.out]; exact (List.getElem?_eq_some_iff.1 r2).1
              have hkf' : (kf : Int) < (lf2 : Int) := by omega
              obtain ⟨ad, hNs, c0, c1⟩ := atNm HNN.out k n q2
              subst hNs
              have HQ2 := Aside0.mk q2
              have HQ3 := Aside0.mk q3
              have HR1 := Aside0.mk r1
              have HR23 := Aside0.mk (And.intro r2 r3)
              have C1 := Aside0.mk c1
              obtain ⟨nid, hnid⟩ : ∃ x, n.id = x := ⟨_, rfl⟩
              have NID := Aside0.mk hnid
              rw [hnid] at c1
              clear q1 q2 q3 q4 q5 r1 r2 r3 c0 hnid
              go_upto_region 23 with (fail)
              go_cut [8] (fun v8 wc => v8 = .int .i64 (kf : Int) ∧ Aside0 (Below w3.heap.size w3 wc))
              case first =>
                have CF : ∀ x : Later w3, Calls Try.prog 64 #[.agg #[.int .i64 s.cap, .slice F2 lf2 fc2, .slice (some ad) ln2 nc2, .slice S2 ls2 sc2, .int .i64 s.next], .int .i64 nid] (wb w3 x) fun e w' => e = .returned (.int .i64 (kf : Int)) ∧ Below (wb w3 x).heap.size (wb w3 x) w' := fun x => by
                  have h1 := file_any s.files nid s.cap s.next F2 (some ad) S2 lf2 fc2 ln2 nc2 ls2 sc2 (wb w3 x) (Kd.C_below (by rw [← LF.out]; exact HHd.out.hF) (wb_below _ x)) hlf1
                  rw [← NID.out, HR1.out, NID.out] at h1
                  exact h1
                have X0 := wb_cell x0
                have X1 := wb_cell x1
                have X2 := wb_cell x2
                have X3 := wb_cell x3
                have X4 := wb_cell x4
                have Y1 := wb_cell c1
                clear x0 x1 x2 x3 x4 fr1 fr2 fr3 fr4 p0 p1 p2 p3 c1
                refine wp_region_wide (by kernel_rfl) (by kernel_rfl) ?_
                repeat (go_big_quiet_step ((go_at_call 64; exact wide_of (CF _))))
                refine wpQuiet_nil ?_
                rintro w' ⟨x, rfl⟩
                go_wp2
                go_meet
                exact ⟨rfl, ⟨wb_below _ x⟩⟩
              case rest =>
                obtain ⟨rfl, HBc⟩ := hcut
                obtain ⟨w4, hw4⟩ : ∃ w4, w4 = wc := ⟨_, rfl⟩
                rw [← hw4] at HBc ⊢
                clear hw4 x0 x1 x2 x3 x4 fr1 fr2 fr3 fr4 p0 p1 p2 p3 c1
                have HB4 := Aside0.mk (bthen HB3.out HBc.out)
                have HO4 := Aside0.mk (HO.out.below HBc.out)
                have HBw4 := Aside0.mk (bthen HB.out HB4.out)
                have HK4 := Aside0.mk (blk_keep HK.out HB4.out)
                have HA4 := Aside0.mk (blk_keep HA.out HB4.out)
                have HN4 := Aside0.mk (Kd.C_below HNN.out HBc.out)
                obtain ⟨x0, x1, x2, x3, x4, _, fr1, fr2, fr3, fr4⟩ := all5 HO4.out.blk
                obtain ⟨p0, p1, p2, p3, _, _, _, _⟩ := all4 HA4.out
                obtain ⟨x, hx, hxf⟩ : ∃ x, L[kf]? = some x ∧ x.1 = f := by
                  have h1 := HR23.out.1
                  rw [← HO.out.fs, List.getElem?_map] at h1
                  exact Option.map_eq_some_iff.1 h1
                have HX0 := Aside0.mk (And.intro hx hxf)
                have hrb := HO4.out.oF.own x (List.mem_of_getElem? hx)
                obtain ⟨Df, dcf, hxv⟩ := own_slice hrb
                obtain ⟨lx, hlx⟩ : ∃ n, x.1.data.length = n := ⟨_, rfl⟩
                rw [hlx] at hxv
                have HXV := Aside0.mk (And.intro hrb (And.intro hxv hlx))
                have hlxm : lx ≤ 1048576 := by
                  have h1 := HS.out.ld f (List.mem_of_getElem? HR23.out.1)
                  rw [← hxf, hlx] at h1; exact h1
                obtain ⟨gF, capF, hAF, hbg, hcm, hrow⟩ : ∃ g cap, Value.slice F2 lf2 fc2 = .slice (some ⟨g, 0, none⟩) (L.map rowF).length cap ∧ W.heap.size ≤ g ∧ cap ≤ 9223372036854775807 ∧ CRow 106 3 w4 g cap (L.map rowF) := by
                  rcases HO4.out.oF.row with ⟨_, h2⟩ | h
                  · rw [List.map_eq_nil_iff] at h2; rw [h2] at hx; simp at hx
                  · exact h
                injection hAF with hA1 hA2 hA3
                subst hA1 hA3
                have HROW := Aside0.mk hrow
                have hrx : (L.map rowF)[kf]? = some (rowF x) := by rw [List.getElem?_map, hx]; rfl
                have d1 : w4.cell? ⟨gF, kf * 3 + 1, none⟩ = some (.slice Df lx dcf) := by have := hrow.cell kf _ hrx 1 (by omega); rw [rowF, hxv] at this; exact this
                have fd1 := hrow.froz (kf * 3 + 1)
                have d2 : w4.cell? ⟨gF, kf * 3 + 2, none⟩ = some (.int .i64 x.1.sync) := hrow.cell kf _ hrx 2 (by omega)
                have fd2 := hrow.froz (kf * 3 + 2)
                have HUP : Aside0 (∀ g : Fl → Fl, updF s.files n.id g = s.files.set kf (g f)) := ⟨fun g => updF_set g HGD.out.fl.asc HR23.out.1 HR23.out.2⟩
                clear hx hxf hrb hxv hlx hrow hrx hA2
                have hcap0 := HGD.out.hd.c0
                have hcap1 := HGD.out.hd.c1
                have hw4s : W.heap.size ≤ w4.heap.size := HB4.out.size
                rcases (by omega : wh = 2 ∨ wh = 3 ∨ wh = 4 ∨ wh = 5) with rfl | rfl | rfl | rfl
                · exfalso; have := HXW.out; omega
                · exfalso; have := HXW.out; omega
                · exfalso; have := HXW.out; omega
                · skip
                  have HDP : Aside0 (dp = (0, sweepP { s with names := withoutN s.names a.name })) := ⟨by rw [hdp.out]; exact DoP_ok HST.out (doP_act (by rw [WH.out]; exact hw2) (by rw [WH.out]; exact hw5) (by rw [HAW.out, WH.out, if_neg (by decide), if_neg (by decide), if_neg (by decide)]))⟩
                  go_wp2_with fail
                  refine (without_any (some ad) ln2 nc2 s.names a.name w4 HN4.out hln1).mono ?_
                  obtain ⟨wn, hwn⟩ := named (withoutN s.names a.name)
                  rw [← hwn.out] at HDP ⊢
                  rintro e w5 ⟨v5, rfl, hv5, hb5⟩
                  obtain ⟨A5, c5, rfl, _⟩ := Kd.R_reads hv5
                  have HV5 := Aside0.mk (Kd.R_lower hv5 HB4.out.size)
                  have HB5 := Aside0.mk (bthen HB4.out hb5)
                  have HO5 := Aside0.mk (HO4.out.below hb5)
                  have HWL : Aside0 (wn.length ≤ 1048576) := ⟨by rw [hwn.out]; exact Nat.le_trans (List.length_filter_le _ _) (by rw [LN.out]; exact hln1)⟩
                  obtain ⟨y0, y1, y2, y3, y4, _, _, f2, _, _⟩ := all5 HO5.out.blk
                  clear hv5 hb5 x0 x1 x2 x3 x4 fr1 fr2 fr3 fr4 p0 p1 p2 p3 d1 d2 fd1 fd2
                  go_upto_region 39 with (fail)
                  obtain ⟨wx, hwx⟩ : ∃ wx, wx = w5.setCell ⟨g6, 2, none⟩ (.slice A5 wn.length c5) := ⟨_, rfl⟩
                  have HX : Aside0 (Own wx W.heap.size g6 { s with names := wn } (.slice (some ⟨gF, 0, none⟩) lf2 fc2) (.slice A5 wn.length c5) (.slice S2 ls2 sc2) L) := ⟨by rw [hwx]; exact HO5.out.putNames HV5.out⟩
                  have HBX : Aside0 (Below W.heap.size W wx) := ⟨by rw [hwx]; exact HB5.out.setCell hlow _⟩
                  have HSZ : Aside0 (({ s with names := wn } : St).files.length ≤ 1048576 ∧ ({ s with names := wn } : St).names.length ≤ 1048576 ∧ ({ s with names := wn } : St).safe.length ≤ 1048576) := ⟨⟨by show s.files.length ≤ _; rw [LF.out]; exact hlf1, HWL.out, by show s.safe.length ≤ _; rw [LS.out]; exact hls1⟩⟩
                  rw [← hwx]
                  clear hwx y0 y1 y2 y3 y4 f2
                  obtain ⟨y0, y1, y2, y3, y4, _, _, _, _, _⟩ := all5 HX.out.blk
                  have hbx := HBX.out.size
                  go_wp2_with fail
                  refine (swept_any { s with names := wn } _ W.heap.size wx HX.out.rs hbx HSZ.out.1 HSZ.out.2.1 HSZ.out.2.2).mono ?_
                  obtain ⟨sw, hsw⟩ := named (sweepP { s with names := wn })
                  rw [← hsw.out]
                  rintro e wy ⟨vy, rfl, hvy, hby⟩
                  obtain ⟨n9, F9, lf9, fc9, N9, ln9, nc9, S9, ls9, sc9, m9, rfl⟩ := show_ hvy
                  have HV := Aside0.mk hvy
                  have HKy := Aside0.mk (blk_keep (blk_keep HK.out HBX.out) hby)
                  have HBy := Aside0.mk (bthen HB.out (bthen HBX.out hby))
                  have HDP2 : Aside0 (dp = (0, sw)) := ⟨by rw [HDP.out, hsw.out]⟩
                  obtain ⟨z0, z1, z2, z3, z4, f0, f1, f2, f3, f4⟩ := all5 HKy.out
                  clear hvy hby y0 y1 y2 y3 y4
                  go_wp2
                  refine bodyPost_ret (results_ct rfl _ _ (w.heap.size + 2) 25 #[.int .i64 n9, .slice F9 lf9 fc9, .slice N9 ln9 nc9, .slice S9 ls9 sc9, .int .i64 m9] (0, 0) _ rfl (blk5 HKy.out) Try.underlying25 rfl (by kernel_rfl)) rfl ?_
                  exact ⟨.agg #[.int .i64 n9, .slice F9 lf9 fc9, .slice N9 ln9 nc9, .slice S9 ls9 sc9, .int .i64 m9], by rw [HDP2.out]; rfl, by rw [HDP2.out]; exact (HV.out.far5 HKy.out _ _ _ _ _).lower (by have := HZ.out; omega), below_set5 HBy.out (by omega) _ _ _ _ _⟩
end Go.Proofs.Ytfakfgblaakgdaa.Files.Ref

/- The document's Do, walked: an act of kind 6. (Split by wip/split_refg.py.) -/
namespace Go.Proofs.Ytfakfgblaakgdaa.Files.Ref
set_option linter.unusedVariables false
set_option linter.unusedSimpArgs false
open Go.RowKit Go.Proofs.YtfakfgblaakgdaaW.PrintWords Go.Proofs.YtfakfgblaakgdaaW.PrintLast Go.Proofs.Ytfakfgblaakgdaa.Base Go.Proofs.Ytfakfgblaakgdaa.Cells Go.Proofs.Ytfakfgblaakgdaa.Ints Go.Proofs.Ytfakfgblaakgdaa.Var Go.Proofs.Ytfakfgblaakgdaa.EditPure Go.Proofs.Ytfakfgblaakgdaa.Edit Go.Proofs.Ytfakfgblaakgdaa.Sets Go.Proofs.Ytfakfgblaakgdaa.Wide Go.Proofs.Ytfakfgblaakgdaa.RowsC

set_option maxRecDepth 100000 in
set_option maxHeartbeats 40000000 in
theorem do_6 (s : St) (a : Ac) (F N S D : Option Addr) (fc nc sc dc : Nat) (w : World) (h : Hd w s F fc N nc S sc) (hs : Small s) (hr : ReadsInt w .u8 D a.data.length a.data) (hda : a.data.length ≤ 1048576) (hx : a.what = 6) :
    Calls Try.prog 30 #[.agg #[.int .i64 s.cap, .slice F s.files.length fc, .slice N s.names.length nc, .slice S s.safe.length sc, .int .i64 s.next], acV a D dc] w fun e w' => ∃ v, e = .returned (.tuple #[v, .int .i64 (DoP s a).1]) ∧ Rs w' w.heap.size v (DoP s a).2 ∧ Below w.heap.size w w' := by
  have HH := Aside0.mk h
  have HS := Aside0.mk hs
  have HR := Aside0.mk hr
  obtain ⟨dp, hdp⟩ := named (DoP s a)
  rw [← hdp.out]
  obtain ⟨lf, hlf⟩ : ∃ n, s.files.length = n := ⟨_, rfl⟩
  obtain ⟨ln, hln⟩ : ∃ n, s.names.length = n := ⟨_, rfl⟩
  obtain ⟨ls, hls⟩ : ∃ n, s.safe.length = n := ⟨_, rfl⟩
  obtain ⟨ld, hld⟩ : ∃ n, a.data.length = n := ⟨_, rfl⟩
  have LF := Aside0.mk hlf
  have LN := Aside0.mk hln
  have LS := Aside0.mk hls
  have LD := Aside0.mk hld
  obtain ⟨wh, hwh⟩ : ∃ n, a.what = n := ⟨_, rfl⟩
  have WH := Aside0.mk hwh
  have CA : Aside0 (acV a D dc = .agg #[.int .i64 wh, .string a.name, .string a.dest, .slice D ld dc]) := ⟨by rw [acV, hwh, hld]⟩
  rw [CA.out, hlf, hln, hls]
  rw [hld] at hda
  have hlf1 : lf ≤ 1048576 := by rw [← hlf]; exact hs.lf
  have hln1 : ln ≤ 1048576 := by rw [← hln]; exact hs.ln
  have hls1 : ls ≤ 1048576 := by rw [← hls]; exact hs.ls
  have HXW : Aside0 (wh = 6) := ⟨by rw [← hwh]; exact hx⟩
  clear h hs hr hlf hln hls hld hwh hx
  go_enter Try.func30, Try.ntmps30
  go_upto_region 1 with (fail)
  obtain ⟨W, hW⟩ : ∃ W, W = ((w.alloc (.cells #[.int .i64 s.cap, .slice F lf fc, .slice N ln nc, .slice S ls sc, .int .i64 s.next] 25)).alloc (.cells #[.int .i64 wh, .string a.name, .string a.dest, .slice D ld dc] 64)).alloc (.cells #[.int .i64 0, .slice none 0 0, .slice none 0 0, .slice none 0 0, .int .i64 0] 25) := ⟨_, rfl⟩
  have hk2 : W.heap[w.heap.size]? = some (.cells #[.int .i64 s.cap, .slice F lf fc, .slice N ln nc, .slice S ls sc, .int .i64 s.next] 25 (0, 0)) := by rw [hW]; exact blk_alloc (blk_alloc (blk_new _ _) _) _
  have hk3 : W.heap[w.heap.size + 1]? = some (.cells #[.int .i64 wh, .string a.name, .string a.dest, .slice D ld dc] 64 (0, 0)) := by rw [hW]; exact blk_alloc (blk_new1 _ _ _ _) _
  have hk4 : W.heap[w.heap.size + 2]? = some (.cells #[.int .i64 0, .slice none 0 0, .slice none 0 0, .slice none 0 0, .int .i64 0] 25 (0, 0)) := by
    rw [hW]
    have := blk_new1 (w.alloc (.cells #[.int .i64 s.cap, .slice F lf fc, .slice N ln nc, .slice S ls sc, .int .i64 s.next] 25)) (.cells #[.int .i64 wh, .string a.name, .string a.dest, .slice D ld dc] 64) #[.int .i64 0, .slice none 0 0, .slice none 0 0, .slice none 0 0, .int .i64 0] 25
    rw [show (w.alloc (.cells #[.int .i64 s.cap, .slice F lf fc, .slice N ln nc, .slice S ls sc, .int .i64 s.next] 25)).heap.size = w.heap.size + 1 by simp] at this
    exact this
  have HB : Aside0 (Below w.heap.size w W) := ⟨by rw [hW]; exact below_alloc (below_alloc (below_alloc (Below.refl _ _) _) _) _⟩
  have HZ : Aside0 (W.heap.size = w.heap.size + 3) := ⟨by rw [hW]; simp⟩
  rw [← hW]
  clear hW
  have HJ := Aside0.mk hk2
  have HA := Aside0.mk hk3
  have HK := Aside0.mk hk4
  obtain ⟨x0, x1, x2, x3, x4, _, _, _, _, _⟩ := all5 hk2
  clear hk2 hk3 hk4
  go_wp2_with fail
  refine (check_any s F N S lf fc ln nc ls sc W (HH.out.below HB.out) HS.out LF.out LN.out LS.out).mono ?_
  obtain ⟨E, hE⟩ := named (stE s)
  rw [← hE.out]
  rintro e w1 ⟨rfl, hb1⟩
  have HB1 := Aside0.mk hb1
  have HBw1 := Aside0.mk (bthen HB.out hb1)
  have HK1 := Aside0.mk (blk_keep HK.out hb1)
  have HA1 := Aside0.mk (blk_keep HA.out hb1)
  have HJ1 := Aside0.mk (blk_keep HJ.out hb1)
  clear hb1 x0 x1 x2 x3 x4
  cases hst : stB s with
  | false =>
    obtain rfl : E = 9 := by rw [hE.out, stE, hst]; rfl
    have HDP : Aside0 (dp = (9, zSt)) := ⟨by rw [hdp.out, DoP, if_pos hst]⟩
    clear hst
    obtain ⟨z0, z1, z2, z3, z4, f0, f1, f2, f3, f4⟩ := all5 HK1.out
    go_wp2
    refine bodyPost_ret (results_ct rfl _ _ (w.heap.size + 2) 25 #[.int .i64 0, .slice none 0 0, .slice none 0 0, .slice none 0 0, .int .i64 0] (0, 0) _ rfl (blk5 HK1.out) Try.underlying25 rfl (by kernel_rfl)) rfl ?_
    exact ⟨.agg #[.int .i64 0, .slice none 0 0, .slice none 0 0, .slice none 0 0, .int .i64 0], by rw [HDP.out]; rfl, by rw [HDP.out]; exact Rs_zero _ _, below_set5 HBw1.out (by omega) _ _ _ _ _⟩
  | true =>
    obtain rfl : E = 0 := by rw [hE.out, stE, hst]; rfl
    have HST := Aside0.mk hst
    have HGD : Aside0 (Good s) := ⟨stB_iff.1 hst⟩
    clear hst
    obtain ⟨p0, p1, p2, p3, _, _, _, _⟩ := all4 HA1.out
    by_cases hw1 : wh < 1
    · exfalso; have := HXW.out; omega
    · by_cases hw6 : 6 < wh
      · exfalso; have := HXW.out; omega
      · obtain ⟨x0, x1, x2, x3, x4, _, _, _, _, _⟩ := all5 HJ1.out
        go_wp2_with fail
        refine (own_any s F N S lf fc ln nc ls sc w1 (HH.out.below HBw1.out) HS.out LF.out LN.out LS.out).mono ?_
        rintro e w2 ⟨v2, rfl, hv2, hb2⟩
        obtain ⟨n2, F2, lf2, fc2, N2, ln2, nc2, S2, ls2, sc2, m2, rfl⟩ := show_ hv2
        have HV2 := Aside0.mk (hv2.lower HB1.out.size)
        have HB2 := Aside0.mk (bthen HB1.out hb2)
        clear hv2 hb2 x0 x1 x2 x3 x4 p0 p1 p2 p3
        go_upto_region 6 with (fail)
        obtain ⟨w3, hw3⟩ : ∃ w3, w3 = w2.alloc (.cells #[.int .i64 n2, .slice F2 lf2 fc2, .slice N2 ln2 nc2, .slice S2 ls2 sc2, .int .i64 m2] 25) := ⟨_, rfl⟩
        obtain ⟨g6, hg6⟩ : ∃ g, g = w2.heap.size := ⟨_, rfl⟩
        obtain ⟨L, hL⟩ := HV2.out.own
        have HO : Aside0 (Own w3 W.heap.size g6 s (.slice F2 lf2 fc2) (.slice N2 ln2 nc2) (.slice S2 ls2 sc2) L) := ⟨by rw [hw3, hg6]; exact hL⟩
        have HB3 : Aside0 (Below W.heap.size W w3) := ⟨by rw [hw3]; exact below_alloc HB2.out _⟩
        have hlow : W.heap.size ≤ g6 := by rw [hg6]; exact HB2.out.size
        rw [← hw3, ← hg6]
        clear hw3 hL HV2 hg6
        obtain ⟨Fx, fcx, Nx, ncx, Sx, scx, e1, e2, e3, hhd⟩ := HO.out.forms
        rw [LF.out] at e1
        rw [LN.out] at e2
        rw [LS.out] at e3
        simp only [Value.slice.injEq] at e1 e2 e3
        obtain ⟨rfl, rfl, rfl⟩ := e1
        obtain ⟨rfl, rfl, rfl⟩ := e2
        obtain ⟨rfl, rfl, rfl⟩ := e3
        have HHd := Aside0.mk hhd
        have HBw3 := Aside0.mk (bthen HB.out HB3.out)
        have HK3 := Aside0.mk (blk_keep HK.out HB3.out)
        have HA3 := Aside0.mk (blk_keep HA.out HB3.out)
        obtain ⟨x0, x1, x2, x3, x4, _, fr1, fr2, fr3, fr4⟩ := all5 HO.out.blk
        obtain ⟨p0, p1, p2, p3, _, _, _, _⟩ := all4 HA3.out
        have hnn : kNm.C w3 N2 ln2 s.names := by rw [← LN.out]; exact hhd.hN
        have HNN := Aside0.mk hnn
        clear hhd hnn
        obtain ⟨ix, hix⟩ := named (findIx s.names a.name)
        go_wp2_with fail
        refine (find_any s.names a.name N2 ln2 nc2 w3 HNN.out hln1).mono ?_
        rw [← hix.out]
        rintro e wz ⟨rfl, rfl⟩
        by_cases hwc : wh = 1
        · exfalso; have := HXW.out; omega
        · by_cases hw66 : wh = 6
          · skip
            subst hw66
            have HDP : Aside0 (dp = (0, sweepP { s with safe := s.names })) := ⟨by rw [hdp.out]; exact DoP_ok HST.out (by rw [doP, if_neg (by rw [WH.out]; omega), if_neg (by rw [WH.out]; omega), if_pos WH.out])⟩
            go_wp2_with fail
            refine (ownNames_any N2 ln2 nc2 s.names w3 HNN.out hln1).mono ?_
            rintro e w4 ⟨v4, rfl, hv4, hb4⟩
            obtain ⟨A4, c4, rfl, _⟩ := Kd.R_reads hv4
            have HV4 := Aside0.mk (Kd.R_lower hv4 HB3.out.size)
            have HB4 := Aside0.mk (bthen HB3.out hb4)
            have HO4 := Aside0.mk (HO.out.below hb4)
            obtain ⟨y0, y1, y2, y3, y4, _, _, _, f3, _⟩ := all5 HO4.out.blk
            clear hv4 hb4 x0 x1 x2 x3 x4 fr1 fr2 fr3 fr4
            go_upto_region 20 with (fail)
            obtain ⟨wx, hwx⟩ : ∃ wx, wx = w4.setCell ⟨g6, 3, none⟩ (.slice A4 s.names.length c4) := ⟨_, rfl⟩
            have HX : Aside0 (Own wx W.heap.size g6 { s with safe := s.names } (.slice F2 lf2 fc2) (.slice N2 ln2 nc2) (.slice A4 s.names.length c4) L) := ⟨by rw [hwx]; exact HO4.out.setSafe HV4.out⟩
            have HBX : Aside0 (Below W.heap.size W wx) := ⟨by rw [hwx]; exact HB4.out.setCell hlow _⟩
            have HSZ : Aside0 (({ s with safe := s.names } : St).files.length ≤ 1048576 ∧ ({ s with safe := s.names } : St).names.length ≤ 1048576 ∧ ({ s with safe := s.names } : St).safe.length ≤ 1048576) := ⟨⟨by show s.files.length ≤ _; rw [LF.out]; exact hlf1, by show s.names.length ≤ _; rw [LN.out]; exact hln1, by show s.names.length ≤ _; rw [LN.out]; exact hln1⟩⟩
            rw [← hwx]
            clear hwx y0 y1 y2 y3 y4 f3
            obtain ⟨y0, y1, y2, y3, y4, _, _, _, _, _⟩ := all5 HX.out.blk
            have hbx := HBX.out.size
            go_wp2_with fail
            refine (swept_any { s with safe := s.names } _ W.heap.size wx HX.out.rs hbx HSZ.out.1 HSZ.out.2.1 HSZ.out.2.2).mono ?_
            obtain ⟨sw, hsw⟩ := named (sweepP { s with safe := s.names })
            rw [← hsw.out]
            rintro e wy ⟨vy, rfl, hvy, hby⟩
            obtain ⟨n9, F9, lf9, fc9, N9, ln9, nc9, S9, ls9, sc9, m9, rfl⟩ := show_ hvy
            have HV := Aside0.mk hvy
            have HKy := Aside0.mk (blk_keep (blk_keep HK.out HBX.out) hby)
            have HBy := Aside0.mk (bthen HB.out (bthen HBX.out hby))
            have HDP2 : Aside0 (dp = (0, sw)) := ⟨by rw [HDP.out, hsw.out]⟩
            obtain ⟨z0, z1, z2, z3, z4, f0, f1, f2, f3, f4⟩ := all5 HKy.out
            clear hvy hby y0 y1 y2 y3 y4
            go_wp2
            refine bodyPost_ret (results_ct rfl _ _ (w.heap.size + 2) 25 #[.int .i64 n9, .slice F9 lf9 fc9, .slice N9 ln9 nc9, .slice S9 ls9 sc9, .int .i64 m9] (0, 0) _ rfl (blk5 HKy.out) Try.underlying25 rfl (by kernel_rfl)) rfl ?_
            exact ⟨.agg #[.int .i64 n9, .slice F9 lf9 fc9, .slice N9 ln9 nc9, .slice S9 ls9 sc9, .int .i64 m9], by rw [HDP2.out]; rfl, by rw [HDP2.out]; exact (HV.out.far5 HKy.out _ _ _ _ _).lower (by have := HZ.out; omega), below_set5 HBy.out (by omega) _ _ _ _ _⟩
          · exfalso; have := HXW.out; omega
end Go.Proofs.Ytfakfgblaakgdaa.Files.Ref

/- The document's Do: walked, out of its kinds. (Split by wip/split_refg.py.) -/
namespace Go.Proofs.Ytfakfgblaakgdaa.Files.Ref
set_option linter.unusedVariables false
set_option linter.unusedSimpArgs false
open Go.RowKit Go.Proofs.YtfakfgblaakgdaaW.PrintWords Go.Proofs.YtfakfgblaakgdaaW.PrintLast Go.Proofs.Ytfakfgblaakgdaa.Base Go.Proofs.Ytfakfgblaakgdaa.Cells Go.Proofs.Ytfakfgblaakgdaa.Ints Go.Proofs.Ytfakfgblaakgdaa.Var Go.Proofs.Ytfakfgblaakgdaa.EditPure Go.Proofs.Ytfakfgblaakgdaa.Edit Go.Proofs.Ytfakfgblaakgdaa.Sets Go.Proofs.Ytfakfgblaakgdaa.Wide Go.Proofs.Ytfakfgblaakgdaa.RowsC

theorem do_any (s : St) (a : Ac) (F N S D : Option Addr) (fc nc sc dc : Nat) (w : World) (h : Hd w s F fc N nc S sc) (hs : Small s) (hr : ReadsInt w .u8 D a.data.length a.data) (hda : a.data.length ≤ 1048576) :
    Calls Try.prog 30 #[.agg #[.int .i64 s.cap, .slice F s.files.length fc, .slice N s.names.length nc, .slice S s.safe.length sc, .int .i64 s.next], acV a D dc] w fun e w' => ∃ v, e = .returned (.tuple #[v, .int .i64 (DoP s a).1]) ∧ Rs w' w.heap.size v (DoP s a).2 ∧ Below w.heap.size w w' := by
  by_cases h0 : a.what < 1 ∨ 6 < a.what
  · exact do_0 s a F N S D fc nc sc dc w h hs hr hda h0
  · rcases (show a.what = 1 ∨ a.what = 2 ∨ a.what = 3 ∨ a.what = 4 ∨ a.what = 5 ∨ a.what = 6 by omega) with hk | hk | hk | hk | hk | hk
    · exact do_1 s a F N S D fc nc sc dc w h hs hr hda hk
    · exact do_2 s a F N S D fc nc sc dc w h hs hr hda hk
    · exact do_3 s a F N S D fc nc sc dc w h hs hr hda hk
    · exact do_4 s a F N S D fc nc sc dc w h hs hr hda hk
    · exact do_5 s a F N S D fc nc sc dc w h hs hr hda hk
    · exact do_6 s a F N S D fc nc sc dc w h hs hr hda hk
end Go.Proofs.Ytfakfgblaakgdaa.Files.Ref

/- Acts and crashes leave a state that may be; what lasts. No program. -/
namespace Go.Proofs.Ytfakfgblaakgdaa.Files
set_option linter.unusedVariables false
set_option linter.unusedSimpArgs false
open Go.RowKit Go.Proofs.YtfakfgblaakgdaaW.PrintWords Go.Proofs.YtfakfgblaakgdaaW.PrintLast Go.Proofs.Ytfakfgblaakgdaa.Base Go.Proofs.Ytfakfgblaakgdaa.Cells Go.Proofs.Ytfakfgblaakgdaa.Ints Go.Proofs.Ytfakfgblaakgdaa.Var Go.Proofs.Ytfakfgblaakgdaa.EditPure Go.Proofs.Ytfakfgblaakgdaa.Edit Go.Proofs.Ytfakfgblaakgdaa.Sets Go.Proofs.Ytfakfgblaakgdaa.Wide Go.Proofs.Ytfakfgblaakgdaa.RowsC

theorem runL_good : ∀ (l : List Ac) {s : St} (i : Int), Good s → Good (runL s l i).1 ∧ usedF (runL s l i).1.files ≤ usedF s.files + dataA l ∧ i ≤ (runL s l i).2.1 ∧ (runL s l i).2.1 ≤ i + l.length
  | [], s, i, h => ⟨h, by simp [runL, dataA], Int.le_refl _, by simp [runL]⟩
  | a :: l, s, i, h => by
    rw [runL]
    by_cases h0 : (doP s a).1 = 0
    · rw [if_pos h0]
      obtain ⟨g1, g2⟩ := doP_good h a h0
      obtain ⟨k1, k2, k3, k4⟩ := runL_good l (i + 1) g1
      refine ⟨k1, ?_, by omega, by rw [List.length_cons]; push_cast; omega⟩
      rw [dataA_cons]; push_cast; omega
    · rw [if_neg h0]
      refine ⟨h, ?_, Int.le_refl _, ?_⟩
      · dsimp only; rw [dataA_cons]; push_cast; omega
      · dsimp only; omega
theorem runP_good {s : St} (h : Good s) (l : List Ac) : Good (runP s l).1 ∧ usedF (runP s l).1.files ≤ usedF s.files + dataA l ∧ 0 ≤ (runP s l).2.1 ∧ (runP s l).2.1 ≤ l.length := by
  rw [runP, if_neg (by rw [stB_iff.2 h]; decide)]
  obtain ⟨k1, k2, k3, k4⟩ := runL_good l 0 h
  exact ⟨k1, k2, k3, by omega⟩
theorem crashP_good {s : St} (h : Good s) (keep : List Int) : (crashP s keep).2 = 0 ∧ Good (crashP s keep).1 ∧ (crashP s keep).1.names = s.safe ∧ (crashP s keep).1.safe = s.safe ∧ usedF (crashP s keep).1.files ≤ usedF s.files := by
  rw [crashP, if_neg (by rw [stB_iff.2 h]; decide)]
  exact ⟨rfl, (cut_pre h keep).sweep, rfl, rfl, Int.le_trans (usedF_filter _ _) usedF_cut⟩
theorem crash_twice {u : St} (h : Good u) (hn : u.names = u.safe) : (crashP u []).1.files.length = u.files.length := by
  rw [crashP, if_neg (by rw [stB_iff.2 h]; decide)]
  show (List.filter (fun f => stands u.safe f.id || stands u.safe f.id) (cutAt [] 0 u.files)).length = _
  rw [List.filter_eq_self.2, cutAt_len]
  intro f hf
  obtain ⟨g, k, hg, rfl⟩ := cut_mem hf
  have h1 := h.st g hg
  rw [hn] at h1
  show (stands u.safe g.id || stands u.safe g.id) = true
  rw [Bool.or_eq_true]
  exact h1
/-- what FilesKeeps asks -/
theorem keeps_law {s : St} (h : Good s) (l : List Ac) (keep : List Int) (hu : usedF s.files + dataA l ≤ 1048576) :
    Good (runP s l).1 ∧ usedF (runP s l).1.files ≤ 1048576 ∧ (runP s l).2.1 ≤ l.length ∧ (crashP (runP s l).1 keep).2 = 0 ∧ Good (crashP (runP s l).1 keep).1 ∧ usedF (crashP (runP s l).1 keep).1.files ≤ 1048576 ∧
    (crashP (crashP (runP s l).1 keep).1 []).2 = 0 ∧ (crashP (crashP (runP s l).1 keep).1 []).1.names.length = (crashP (runP s l).1 keep).1.names.length ∧ (crashP (crashP (runP s l).1 keep).1 []).1.files.length = (crashP (runP s l).1 keep).1.files.length := by
  obtain ⟨g1, g2, g3, g4⟩ := runP_good h l
  obtain ⟨c1, c2, c3, c4, c5⟩ := crashP_good g1 keep
  obtain ⟨d1, d2, d3, d4, d5⟩ := crashP_good c2 []
  exact ⟨g1, by omega, g4, c1, c2, by omega, d1, by rw [d3, c4, c3], crash_twice c2 (by rw [c3, c4])⟩

/-- the state behind names that are synced -/
def sync6 (s : St) : St := sweepP { s with safe := s.names }
theorem do_six {s : St} (h : Good s) (nm de : ByteArray) (d : List Int) : DoP s ⟨6, nm, de, d⟩ = (0, sync6 s) := by
  rw [DoP, if_neg (by rw [stB_iff.2 h]; decide)]
  have : doP s ⟨6, nm, de, d⟩ = (0, sync6 s) := by
    unfold doP
    dsimp only
    rw [if_neg (by decide), if_neg (by decide), if_pos rfl]
    rfl
  rw [this]
  dsimp only
  rw [if_pos rfl]
theorem sync6_good {s : St} (h : Good s) : Good (sync6 s) ∧ usedF (sync6 s).files ≤ usedF s.files := by
  have hp : Pre { s with safe := s.names } := ⟨⟨h.hd.c0, h.hd.c1, h.hd.lf, h.hd.n0, h.hd.n1, h.hd.us, h.hd.ln, h.hd.ln⟩, h.fl, h.nm, h.nm⟩
  exact ⟨hp.sweep, usedF_filter _ _⟩
/-- what a crash keeps of a name's file -/
theorem last_read {t : St} (h : Good t) (hs : t.safe = t.names) (keep : List Int) {n : Nm} (hn : n ∈ t.names) :
    ∃ (j : Nat) (f : Fl) (k : Nat), t.files[j]? = some f ∧ f.id = n.id ∧ dataOf t n.id = f.data ∧ dataOf (crashP t keep).1 n.id = f.data.take k ∧ f.sync ≤ (k : Int) ∧ k ≤ f.data.length := by
  obtain ⟨j, f, hj, hf⟩ := find_id h.pre hn
  have hfl := h.fl.each f (List.mem_of_getElem? hj)
  have hk := keptOf_between keep[j]? hfl.2.1 hfl.2.2
  refine ⟨j, f, (keptOf f keep[j]?).toNat, hj, hf, dataOf_at h.fl.asc hj hf, ?_, by omega, by omega⟩
  have hc : crashP t keep = (sweepP { t with files := cutAt keep 0 t.files, names := t.safe }, 0) := by rw [crashP, if_neg (by rw [stB_iff.2 h]; decide)]
  have hg := (crashP_good h keep).2.1
  rw [hc] at hg ⊢
  have h1 : (cutAt keep 0 t.files)[j]? = some (cutF f keep[j]?) := by rw [cutAt_get, hj, Nat.zero_add]; rfl
  have h2 : cutF f keep[j]? ∈ (sweepP { t with files := cutAt keep 0 t.files, names := t.safe }).files := by
    refine List.mem_filter.2 ⟨List.mem_of_getElem? h1, ?_⟩
    show (stands t.safe f.id || stands t.safe f.id) = true
    rw [hs, hf, stands_of hn]; rfl
  obtain ⟨i, hi⟩ := List.mem_iff_getElem?.1 h2
  exact dataOf_at hg.fl.asc hi hf
end Go.Proofs.Ytfakfgblaakgdaa.Files

/- The document's Run: walked. -/
namespace Go.Proofs.Ytfakfgblaakgdaa.Files.Ref
set_option linter.unusedVariables false
set_option linter.unusedSimpArgs false
open Go.RowKit Go.Proofs.YtfakfgblaakgdaaW.PrintWords Go.Proofs.YtfakfgblaakgdaaW.PrintLast Go.Proofs.Ytfakfgblaakgdaa.Base Go.Proofs.Ytfakfgblaakgdaa.Cells Go.Proofs.Ytfakfgblaakgdaa.Ints Go.Proofs.Ytfakfgblaakgdaa.Var Go.Proofs.Ytfakfgblaakgdaa.EditPure Go.Proofs.Ytfakfgblaakgdaa.Edit Go.Proofs.Ytfakfgblaakgdaa.Sets Go.Proofs.Ytfakfgblaakgdaa.Wide Go.Proofs.Ytfakfgblaakgdaa.RowsC

theorem rjoin {B : Nat} {a b c : World} (h : Below B a b) (k : Below B b c) : Below B a c := ⟨k.os.trans h.os, k.tape.trans h.tape, k.output.trans h.output, Nat.le_trans h.size k.size, fun i hi => (k.block i hi).trans (h.block i hi)⟩
theorem rcheck_at' {s : St} {v : Value} {w : World} (h : At w v s) (hs : Small s) :
    Calls Try.prog 26 #[v] w fun e w' => e = .returned (.int .i64 (stE s)) ∧ Below w.heap.size w w' := by
  obtain ⟨F, fc, N, nc, S, sc, rfl, h2⟩ := h
  exact check_any s F N S _ fc _ nc _ sc w h2 hs rfl rfl rfl
theorem own_at {s : St} {v : Value} {w : World} (h : At w v s) (hs : Small s) :
    Calls Try.prog 46 #[v] w fun e w' => ∃ v', e = .returned v' ∧ Rs w' w.heap.size v' s ∧ Below w.heap.size w w' := by
  obtain ⟨F, fc, N, nc, S, sc, rfl, h2⟩ := h
  exact own_any s F N S _ fc _ nc _ sc w h2 hs rfl rfl rfl
theorem do_at {s : St} {v : Value} {w : World} {a : Ac} {D : Option Addr} {n dc : Nat} {wh : Int} {nm de : ByteArray} (h : At w v s) (hs : Small s) (hr : ReadsInt w .u8 D n a.data) (hda : n ≤ 1048576) (e1 : wh = a.what) (e2 : nm = a.name) (e3 : de = a.dest) :
    Calls Try.prog 30 #[v, .agg #[.int .i64 wh, .string nm, .string de, .slice D n dc]] w fun e w' => ∃ v', e = .returned (.tuple #[v', .int .i64 (DoP s a).1]) ∧ Rs w' w.heap.size v' (DoP s a).2 ∧ Below w.heap.size w w' := by
  obtain ⟨F, fc, N, nc, S, sc, rfl, h2⟩ := h
  subst e1 e2 e3
  have hn : a.data.length = n := hr.1
  subst hn
  exact do_any s a F N S D fc nc sc dc w h2 hs hr hda
/-- a state's value in a variable -/
def Box (w : World) (g : Nat) (s : St) (a b c d e : Value) : Prop := w.heap[g]? = some (.cells #[a, b, c, d, e] 25 (0, 0)) ∧ Rs w 0 (.agg #[a, b, c, d, e]) s
theorem Box.below {w w1 : World} {g : Nat} {s : St} {a b c d e : Value} (h : Box w g s a b c d e) (hb : Below w.heap.size w w1) : Box w1 g s a b c d e := ⟨blk_keep h.1 hb, h.2.below hb⟩
theorem Box.set {w : World} {g : Nat} {s : St} {a b c d e a' b' c' d' e' : Value} (h : Rs w 0 (.agg #[a, b, c, d, e]) s) (hg : w.heap[g]? = some (.cells #[a', b', c', d', e'] 25 (0, 0))) :
    Box (((((w.setCell ⟨g, 0, none⟩ a).setCell ⟨g, 1, none⟩ b).setCell ⟨g, 2, none⟩ c).setCell ⟨g, 3, none⟩ d).setCell ⟨g, 4, none⟩ e) g s a b c d e :=
  ⟨blk5 hg, h.far5 hg _ _ _ _ _⟩
theorem box_first {w0 wr w7 : World} {B : Nat} {a b c d e n F N S m : Value} {s : St} (hB : Below B w0 wr)
    (hb : Below (wr.alloc (.cells #[a, b, c, d, e] 25)).drew.heap.size (wr.alloc (.cells #[a, b, c, d, e] 25)).drew w7) (hv : Rs w7 (wr.alloc (.cells #[a, b, c, d, e] 25)).drew.heap.size (.agg #[n, F, N, S, m]) s) :
    Box (((((w7.setCell ⟨wr.heap.size, 0, none⟩ n).setCell ⟨wr.heap.size, 1, none⟩ F).setCell ⟨wr.heap.size, 2, none⟩ N).setCell ⟨wr.heap.size, 3, none⟩ S).setCell ⟨wr.heap.size, 4, none⟩ m) wr.heap.size s n F N S m ∧
    Below wr.heap.size wr (((((w7.setCell ⟨wr.heap.size, 0, none⟩ n).setCell ⟨wr.heap.size, 1, none⟩ F).setCell ⟨wr.heap.size, 2, none⟩ N).setCell ⟨wr.heap.size, 3, none⟩ S).setCell ⟨wr.heap.size, 4, none⟩ m) := by
  have h1 := blk_keep (blk_drew (blk_new wr _)) hb
  have hal : Below wr.heap.size wr (wr.alloc (.cells #[a, b, c, d, e] 25)).drew := below_drew (below_alloc (Below.refl _ _) _)
  exact ⟨Box.set (hv.lower (Nat.zero_le _)) h1, below_set5 (bthen hal hb) (Nat.le_refl _) _ _ _ _ _⟩
theorem box_last {wr w7 : World} {B : Nat} {n F N S m : Value} {s : St} (hb : Below wr.heap.size wr w7) (hv : Rs w7 B (.agg #[n, F, N, S, m]) s) :
    Box (w7.alloc (.cells #[n, F, N, S, m] 25)) w7.heap.size s n F N S m ∧ Below wr.heap.size wr (w7.alloc (.cells #[n, F, N, S, m] 25)) :=
  ⟨⟨blk_new _ _, (hv.lower (Nat.zero_le _)).below (below_alloc (Below.refl _ _) _)⟩, below_alloc hb _⟩
theorem DoP_good {s : St} (h : Good s) (a : Ac) : DoP s a = if (doP s a).1 = 0 then (0, (doP s a).2) else ((doP s a).1, zSt) := by
  rw [DoP, if_neg (by rw [stB_iff.2 h]; decide)]

set_option maxRecDepth 100000 in
set_option maxHeartbeats 8000000 in
theorem run_any (s : St) (l : List Ac) (v : Value) (A : Option Addr) (la ac : Nat) (w : World) (h : At w v s) (hs : Small s) (hr : kAc.C w A la l) (hl : la ≤ 1048576) (hu : usedF s.files + dataA l ≤ 1048576) :
    Calls Try.prog 18 #[v, .slice A la ac] w fun e w' => ∃ v, e = .returned (.tuple #[v, .int .i64 (runP s l).2.1, .int .i64 (runP s l).2.2]) ∧ Rs w' 0 v (runP s l).1 ∧ Below w.heap.size w w' := by
  obtain ⟨n0, F0, lf0, fc0, N0, ln0, nc0, S0, ls0, sc0, m0, hv0⟩ : ∃ n F lf fc N ln nc S ls sc m, v = .agg #[.int .i64 n, .slice F lf fc, .slice N ln nc, .slice S ls sc, .int .i64 m] := by
    obtain ⟨F, fc, N, nc, S, sc, h1, _⟩ := h
    exact ⟨_, _, _, _, _, _, _, _, _, _, _, h1⟩
  subst hv0
  have HH := Aside0.mk h
  have HS := Aside0.mk hs
  have HR := Aside0.mk hr
  have HU := Aside0.mk hu
  have LA : Aside0 (l.length = la) := ⟨Kd.C_len hr⟩
  obtain ⟨dp, hdp⟩ := named (runP s l)
  rw [← hdp.out]
  clear h hs hr hu
  go_enter Try.func18, Try.ntmps18
  go_upto_region 1 with (fail)
  obtain ⟨W, hW⟩ : ∃ W, W = (w.alloc (.cells #[.int .i64 n0, .slice F0 lf0 fc0, .slice N0 ln0 nc0, .slice S0 ls0 sc0, .int .i64 m0] 25)).alloc (.cells #[.int .i64 0, .slice none 0 0, .slice none 0 0, .slice none 0 0, .int .i64 0] 25) := ⟨_, rfl⟩
  have hk2 : W.heap[w.heap.size]? = some (.cells #[.int .i64 n0, .slice F0 lf0 fc0, .slice N0 ln0 nc0, .slice S0 ls0 sc0, .int .i64 m0] 25 (0, 0)) := by rw [hW]; exact blk_alloc (blk_new _ _) _
  have hk4 : W.heap[w.heap.size + 1]? = some (.cells #[.int .i64 0, .slice none 0 0, .slice none 0 0, .slice none 0 0, .int .i64 0] 25 (0, 0)) := by rw [hW]; exact blk_new1 _ _ _ _
  have HB : Aside0 (Below w.heap.size w W) := ⟨by rw [hW]; exact below_alloc (below_alloc (Below.refl _ _) _) _⟩
  have HZ : Aside0 (W.heap.size = w.heap.size + 2) := ⟨by rw [hW]; simp⟩
  rw [← hW]
  clear hW
  have HJ := Aside0.mk hk2
  have HK := Aside0.mk hk4
  obtain ⟨x0, x1, x2, x3, x4, _, _, _, _, _⟩ := all5 hk2
  clear hk2 hk4
  go_wp2_with fail
  refine (rcheck_at' (HH.out.below HB.out) HS.out).mono ?_
  obtain ⟨E, hE⟩ := named (stE s)
  rw [← hE.out]
  rintro e w1 ⟨rfl, hb1⟩
  have HB1 := Aside0.mk hb1
  have HBw1 := Aside0.mk (bthen HB.out hb1)
  have HK1 := Aside0.mk (blk_keep HK.out hb1)
  have HJ1 := Aside0.mk (blk_keep HJ.out hb1)
  clear hb1 x0 x1 x2 x3 x4
  cases hst : stB s with
  | false =>
    obtain rfl : E = 9 := by rw [hE.out, stE, hst]; rfl
    have HDP : Aside0 (dp = (zSt, 0, 9)) := ⟨by rw [hdp.out, runP, if_pos hst]⟩
    obtain ⟨z0, z1, z2, z3, z4, f0, f1, f2, f3, f4⟩ := all5 HK1.out
    clear hst
    go_wp2
    refine bodyPost_ret (results_ctt rfl _ _ (w.heap.size + 1) 25 #[.int .i64 0, .slice none 0 0, .slice none 0 0, .slice none 0 0, .int .i64 0] (0, 0) _ rfl (blk5 HK1.out) Try.underlying25 rfl (by kernel_rfl)) rfl ?_
    exact ⟨.agg #[.int .i64 0, .slice none 0 0, .slice none 0 0, .slice none 0 0, .int .i64 0], by rw [HDP.out]; rfl, by rw [HDP.out]; exact Rs_zero _ _, below_set5 HBw1.out (by omega) _ _ _ _ _⟩
  | true =>
    obtain rfl : E = 0 := by rw [hE.out, stE, hst]; rfl
    have HDP : Aside0 (dp = runL s l 0) := ⟨by rw [hdp.out, runP, if_neg (by rw [hst]; decide)]⟩
    have HGD : Aside0 (Good s) := ⟨stB_iff.1 hst⟩
    clear hst
    obtain ⟨x0, x1, x2, x3, x4, _, _, _, _, _⟩ := all5 HJ1.out
    go_wp2_with fail
    refine (own_at (HH.out.below HBw1.out) HS.out).mono ?_
    rintro e w2 ⟨v2, rfl, hv2, hb2⟩
    obtain ⟨n2, F2, lf2, fc2, N2, ln2, nc2, S2, ls2, sc2, m2, rfl⟩ := show_ hv2
    have HB2 := Aside0.mk (bthen HB1.out hb2)
    have HV2 := Aside0.mk hv2
    clear hv2 hb2 x0 x1 x2 x3 x4
    go_upto_region 4 with (fail)
    obtain ⟨w3, hw3⟩ : ∃ w3, w3 = w2.alloc (.cells #[.int .i64 n2, .slice F2 lf2 fc2, .slice N2 ln2 nc2, .slice S2 ls2 sc2, .int .i64 m2] 25) := ⟨_, rfl⟩
    obtain ⟨g7, hg7⟩ : ∃ g, g = w2.heap.size := ⟨_, rfl⟩
    have HX : Aside0 (Box w3 g7 s (.int .i64 n2) (.slice F2 lf2 fc2) (.slice N2 ln2 nc2) (.slice S2 ls2 sc2) (.int .i64 m2)) := ⟨by rw [hw3, hg7]; exact ⟨blk_new _ _, (HV2.out.lower (Nat.zero_le _)).below (below_alloc (Below.refl _ _) _)⟩⟩
    have HB3 : Aside0 (Below W.heap.size W w3) := ⟨by rw [hw3]; exact below_alloc HB2.out _⟩
    have hlow : W.heap.size ≤ g7 := by rw [hg7]; exact HB2.out.size
    rw [← hw3, ← hg7]
    clear hw3 hg7 HV2
    go_wp2
    go_loopg [8] la (fun gk v8 wr => ∃ (i : Nat) (si : St) (n : Int) (F : Option Addr) (lf fc : Nat) (N : Option Addr) (ln nc : Nat) (S : Option Addr) (ls sc : Nat) (m : Int), v8 = .int .i64 i ∧ gk + i = la ∧ Aside0 (Good si ∧ usedF si.files + dataA (l.drop i) ≤ 1048576 ∧ runL si (l.drop i) i = dp) ∧ Aside0 (Box wr g7 si (.int .i64 n) (.slice F lf fc) (.slice N ln nc) (.slice S ls sc) (.int .i64 m)) ∧ Aside0 (Below W.heap.size W wr))
    case atStart => exact ⟨0, s, n2, F2, lf2, fc2, N2, ln2, nc2, S2, ls2, sc2, m2, rfl, by omega, ⟨HGD.out, HU.out, HDP.out.symm⟩, HX, HB3⟩
    case round =>
      obtain ⟨i, si, n3, F3, lf3, fc3, N3, ln3, nc3, S3, ls3, sc3, m3, rfl, hg, HI, HXr, HBr⟩ := hrel
      have HBw := Aside0.mk (bthen HB.out HBr.out)
      by_cases hlt : i < la
      · have hlt' : (i : Int) < (la : Int) := by omega
        obtain ⟨m, hm⟩ : ∃ m, l[i]? = some m := ⟨_, List.getElem?_eq_getElem (by have := LA.out; omega)⟩
        have hdrop : l.drop i = m :: l.drop (i + 1) := by
          obtain ⟨h2, h3⟩ := List.getElem?_eq_some_iff.1 hm
          rw [List.drop_eq_getElem_cons h2, h3]
        obtain ⟨ad, D, dc, rfl, c0, c1, c2, c3, hdl, hrd⟩ := atAc (Kd.C_below HR.out HBw.out) i m hm
        obtain ⟨mwh, hmw⟩ : ∃ n, m.what = n := ⟨_, rfl⟩
        obtain ⟨mld, hmd⟩ : ∃ n, m.data.length = n := ⟨_, rfl⟩
        rw [hmw] at c0
        rw [hmd] at c3
        have HMW := Aside0.mk hmw
        have HMD := Aside0.mk hmd
        have HRD : Aside0 (ReadsInt wr .u8 D mld m.data) := ⟨by rw [← hmd]; exact hrd⟩
        have HDR := Aside0.mk hdrop
        have hus := HI.out.2.1
        rw [hdrop, dataA_cons] at hus
        push_cast at hus
        have h0 := usedF_nonneg si.files
        have hml : mld ≤ 1048576 := by rw [← hmd]; omega
        have HSm : Aside0 (Small si) := ⟨HI.out.1.small (by omega)⟩
        have HUS := Aside0.mk hus
        obtain ⟨dq, hdq⟩ := named (DoP si m)
        obtain ⟨ae, hae⟩ := named dq.1
        have HC := Aside0.mk (And.intro c0 (And.intro c1 (And.intro c2 c3)))
        clear hm hdl hrd hdrop hmw hmd hus h0 c0 c1 c2 c3
        go_upto_region 7 with (fail)
        go_cut [9, 10] (fun v9 v10 wc => v10 = .int .i64 ae ∧ ∃ (g9 : Nat) (n4 : Int) (F4 : Option Addr) (lf4 fc4 : Nat) (N4 : Option Addr) (ln4 nc4 : Nat) (S4 : Option Addr) (ls4 sc4 : Nat) (m4 : Int), v9 = .pointer (some ⟨g9, 0, none⟩) ∧ Aside0 (Box wc g9 dq.2 (.int .i64 n4) (.slice F4 lf4 fc4) (.slice N4 ln4 nc4) (.slice S4 ls4 sc4) (.int .i64 m4)) ∧ Aside0 (Below wr.heap.size wr wc))
        case first =>
          have HD : Aside0 (Below wr.heap.size wr wr.drew) := ⟨below_drew (Below.refl _ _)⟩
          have HAl : Aside0 (∀ o, Below wr.heap.size wr (wr.drew.alloc o)) := ⟨fun o => below_alloc HD.out o⟩
          obtain ⟨x0, x1, x2, x3, x4, _, _, _, _, _⟩ := all5 (blk_keep HXr.out.1 HD.out)
          have c0 := pw_cell_below HD.out HC.out.1
          have c1 := pw_cell_below HD.out HC.out.2.1
          have c2 := pw_cell_below HD.out HC.out.2.2.1
          have c3 := pw_cell_below HD.out HC.out.2.2.2
          have b0 := fun o => pw_cell_below (HAl.out o) HC.out.1
          have b1 := fun o => pw_cell_below (HAl.out o) HC.out.2.1
          have b2 := fun o => pw_cell_below (HAl.out o) HC.out.2.2.1
          have b3 := fun o => pw_cell_below (HAl.out o) HC.out.2.2.2
          have a0 : ∀ o, (wr.alloc o).drew.cell? ⟨g7, 0, none⟩ = some (.int .i64 n3) := fun o => (all5 (blk_keep HXr.out.1 (HAl.out o))).1
          have a1 : ∀ o, (wr.alloc o).drew.cell? ⟨g7, 1, none⟩ = some (.slice F3 lf3 fc3) := fun o => (all5 (blk_keep HXr.out.1 (HAl.out o))).2.1
          have a2 : ∀ o, (wr.alloc o).drew.cell? ⟨g7, 2, none⟩ = some (.slice N3 ln3 nc3) := fun o => (all5 (blk_keep HXr.out.1 (HAl.out o))).2.2.1
          have a3 : ∀ o, (wr.alloc o).drew.cell? ⟨g7, 3, none⟩ = some (.slice S3 ls3 sc3) := fun o => (all5 (blk_keep HXr.out.1 (HAl.out o))).2.2.2.1
          have a4 : ∀ o, (wr.alloc o).drew.cell? ⟨g7, 4, none⟩ = some (.int .i64 m3) := fun o => (all5 (blk_keep HXr.out.1 (HAl.out o))).2.2.2.2.1
          have b0' : ∀ o, (wr.alloc o).drew.cell? (ad.add (i * 4)) = some (.int .i64 mwh) := b0
          have b1' : ∀ o, (wr.alloc o).drew.cell? ⟨(ad.add (i * 4)).block, (ad.add (i * 4)).off + 1, none⟩ = some (.string m.name) := b1
          have b2' : ∀ o, (wr.alloc o).drew.cell? ⟨(ad.add (i * 4)).block, (ad.add (i * 4)).off + 2, none⟩ = some (.string m.dest) := b2
          have b3' : ∀ o, (wr.alloc o).drew.cell? ⟨(ad.add (i * 4)).block, (ad.add (i * 4)).off + 3, none⟩ = some (.slice D mld dc) := b3
          go_region_law (go_simp; go_wp2_with (go_at_call 30; refine Calls.mono (do_at (s := si) (a := m) (HXr.out.2.below (by first | with_reducible exact HD.out | exact HAl.out _)).at_ HSm.out (HRD.out.below (by first | with_reducible exact HD.out | exact HAl.out _)) hml HMW.out.symm rfl rfl) ?_; rw [← hdq.out]; rintro e w7 ⟨v7, rfl, hv7, hb7⟩; rw [← hae.out]; obtain ⟨n7, F7, lf7, fc7, N7, ln7, nc7, S7, ls7, sc7, m7, rfl⟩ := show_ hv7; first | (revert hb7; guard_target =~ (Below (World.drew (World.alloc wr _)).heap.size _ _ → _); intro hb7; obtain ⟨k0, k1, k2, k3, k4, kf0, kf1, kf2, kf3, kf4⟩ := all5 (blk_keep (blk_drew (blk_new _ _)) hb7)) | skip))
          all_goals go_wp2_with fail
          all_goals go_meet
          all_goals first
            | (obtain ⟨q1, q2⟩ := box_first HBr.out hb7 hv7
               exact ⟨rfl, _, n7, F7, lf7, fc7, N7, ln7, nc7, S7, ls7, sc7, m7, rfl, ⟨q1⟩, ⟨q2⟩⟩)
            | (obtain ⟨q1, q2⟩ := box_last (rjoin HD.out hb7) hv7
               exact ⟨rfl, _, n7, F7, lf7, fc7, N7, ln7, nc7, S7, ls7, sc7, m7, rfl, ⟨q1⟩, ⟨q2⟩⟩)
        case rest =>
          obtain ⟨rfl, g9, n4, F4, lf4, fc4, N4, ln4, nc4, S4, ls4, sc4, m4, rfl, HT, HTB⟩ := hcut
          obtain ⟨w5, hw5⟩ : ∃ w5, w5 = wc := ⟨_, rfl⟩
          rw [← hw5] at HT HTB ⊢
          clear hw5
          have HB5 := Aside0.mk (bthen HBr.out HTB.out)
          have HX5 := Aside0.mk (HXr.out.below HTB.out)
          have hdg := DoP_good HI.out.1 m
          by_cases hz : ae = 0
          · subst hz
            have he0 : (doP si m).1 = 0 := by
              by_cases h1 : (doP si m).1 = 0
              · exact h1
              · rw [if_neg h1, ← hdq.out] at hdg
                have := hae.out
                rw [hdg] at this
                exact absurd this.symm h1
            rw [if_pos he0, ← hdq.out] at hdg
            have hq2 : dq.2 = (doP si m).2 := by rw [hdg]
            obtain ⟨g1, g2⟩ := doP_good HI.out.1 m he0
            have HQ := Aside0.mk (And.intro he0 (And.intro g1 (And.intro g2 hq2)))
            obtain ⟨y0, y1, y2, y3, y4, _, _, _, _, _⟩ := all5 HT.out.1
            obtain ⟨z0, z1, z2, z3, z4, f0, f1, f2, f3, f4⟩ := all5 HX5.out.1
            clear he0 hdg hq2 g1 g2
            go_wp2
            go_roundg (la - (i + 1))
            case measure => omega
            case rel =>
              refine ⟨i + 1, dq.2, n4, F4, lf4, fc4, N4, ln4, nc4, S4, ls4, sc4, m4, by go_num, by omega, ⟨?_, ?_, ?_⟩, ⟨Box.set HT.out.2 HX5.out.1⟩, ⟨below_set5 HB5.out hlow _ _ _ _ _⟩⟩
              · rw [HQ.out.2.2.2]; exact HQ.out.2.1
              · rw [HQ.out.2.2.2]; have := HUS.out; have := HQ.out.2.2.1; omega
              · have := HI.out.2.2
                rw [HDR.out, runL, if_pos HQ.out.1] at this
                rw [HQ.out.2.2.2, ← this]
                push_cast
                rfl
          · have hz' : (ae != 0) = true := by simp [hz]
            have hne : ¬ (doP si m).1 = 0 := by
              intro h1
              rw [if_pos h1, ← hdq.out] at hdg
              have := hae.out
              rw [hdg] at this
              exact hz this
            rw [if_neg hne, ← hdq.out] at hdg
            have HD2 : Aside0 (dp = (si, (i : Int), ae)) := ⟨by
              have := HI.out.2.2
              rw [HDR.out, runL, if_neg hne] at this
              rw [← this, hae.out, hdg]⟩
            have hsz := HZ.out
            have HK5 := Aside0.mk (blk_keep HK.out HB5.out)
            have HBw5 := Aside0.mk (bthen HB.out HB5.out)
            obtain ⟨y0, y1, y2, y3, y4, _, _, _, _, _⟩ := all5 HX5.out.1
            obtain ⟨z0, z1, z2, z3, z4, f0, f1, f2, f3, f4⟩ := all5 HK5.out
            clear hne hdg hz
            go_wp2
            refine bodyPost_ret (results_ctt rfl _ _ (w.heap.size + 1) 25 #[.int .i64 n3, .slice F3 lf3 fc3, .slice N3 ln3 nc3, .slice S3 ls3 sc3, .int .i64 m3] (0, 0) _ rfl (blk5 HK5.out) Try.underlying25 rfl (by kernel_rfl)) rfl ?_
            exact ⟨.agg #[.int .i64 n3, .slice F3 lf3 fc3, .slice N3 ln3 nc3, .slice S3 ls3 sc3, .int .i64 m3], by rw [HD2.out]; rfl, by rw [HD2.out]; exact HX5.out.2.far5 HK5.out _ _ _ _ _, below_set5 HBw5.out (by omega) _ _ _ _ _⟩
      · have hie : i = la := by omega
        subst hie
        have hnf : ¬ ((i : Int) < (i : Int)) := by omega
        have HD2 : Aside0 (dp = (si, (i : Int), 0)) := ⟨by
          have := HI.out.2.2
          rw [List.drop_of_length_le (by have := LA.out; omega), runL] at this
          exact this.symm⟩
        have HKr := Aside0.mk (blk_keep HK.out HBr.out)
        obtain ⟨y0, y1, y2, y3, y4, _, _, _, _, _⟩ := all5 HXr.out.1
        obtain ⟨z0, z1, z2, z3, z4, f0, f1, f2, f3, f4⟩ := all5 HKr.out
        go_wp2
        refine bodyPost_ret (results_ctt rfl _ _ (w.heap.size + 1) 25 #[.int .i64 n3, .slice F3 lf3 fc3, .slice N3 ln3 nc3, .slice S3 ls3 sc3, .int .i64 m3] (0, 0) _ rfl (blk5 HKr.out) Try.underlying25 rfl (by kernel_rfl)) rfl ?_
        exact ⟨.agg #[.int .i64 n3, .slice F3 lf3 fc3, .slice N3 ln3 nc3, .slice S3 ls3 sc3, .int .i64 m3], by rw [HD2.out]; rfl, by rw [HD2.out]; exact HXr.out.2.far5 HKr.out _ _ _ _ _, below_set5 HBw.out (by omega) _ _ _ _ _⟩
end Go.Proofs.Ytfakfgblaakgdaa.Files.Ref

/- Alike of chapter 4 of two states that are one: walked. -/
namespace Go.Proofs.Ytfakfgblaakgdaa.Files
set_option linter.unusedVariables false
set_option linter.unusedSimpArgs false
open Go.RowKit Go.Proofs.YtfakfgblaakgdaaW.PrintWords Go.Proofs.YtfakfgblaakgdaaW.PrintLast Go.Proofs.Ytfakfgblaakgdaa.Base Go.Proofs.Ytfakfgblaakgdaa.Cells Go.Proofs.Ytfakfgblaakgdaa.Ints Go.Proofs.Ytfakfgblaakgdaa.Var Go.Proofs.Ytfakfgblaakgdaa.EditPure Go.Proofs.Ytfakfgblaakgdaa.Edit Go.Proofs.Ytfakfgblaakgdaa.Sets Go.Proofs.Ytfakfgblaakgdaa.Wide Go.Proofs.Ytfakfgblaakgdaa.RowsC

theorem eqNr (d : Nat) (w : World) (x0 y0 : ByteArray) (x1 y1 : Int) :
    (Op.equalIn (d + 2) 120 (.agg #[.string x0, .int .i64 x1]) (.agg #[.string y0, .int .i64 y1])).run Try.prog w = .ok (x0.toList == y0.toList && (x1 == y1)) w := by
  refine eqA_of Try.underlying120 (by kernel_rfl) ?_
  refine eqf_cons (by rfl) (by go_simp; rfl) (by go_simp; rfl) (by go_simp) ?_
  exact eqf_last (by rfl) (by go_simp; rfl) (by go_simp; rfl) (by go_simp)
theorem neqN (x : Nm) (w : World) : (binOp .neq 120 (.agg #[.string x.name, .int .i64 x.id]) (.agg #[.string x.name, .int .i64 x.id])).run Try.prog w = .ok (.bool false) w := by
  have h := eqNr 9998 w x.name x.name x.id x.id
  simp only [beq_self_eq_true, Bool.and_self] at h
  simp only [binOp]
  simp [Op.equal, Op.maxDepth, h]

set_option maxRecDepth 100000 in
set_option maxHeartbeats 1000000 in
theorem sameNames_any (A B : Option Addr) (n c d : Nat) (l : List Nm) (w : World) (hA : kNm.C w A n l) (hB : kNm.C w B n l) (hb : n ≤ 1048576) :
    Calls Try.prog 47 #[.slice A n c, .slice B n d] w fun e w' => e = .returned (.bool true) ∧ Below w.heap.size w w' := by
  have HA := Aside0.mk hA
  have HB := Aside0.mk hB
  have HL : Aside0 (l.length = n) := ⟨Kd.C_len hA⟩
  clear hA hB
  go_enter Try.func47, Try.ntmps47
  go_wp2
  go_loopg [5] n (fun g v5 wr => ∃ i : Nat, v5 = .int .i64 i ∧ g + i = n ∧ Aside0 (Below w.heap.size w wr))
  case atStart => exact ⟨0, rfl, by omega, ⟨Below.refl _ _⟩⟩
  case round =>
    obtain ⟨i, rfl, hg, HW⟩ := hrel
    by_cases hlt : i < n
    · have hlt' : (i : Int) < (n : Int) := by omega
      obtain ⟨m, hm⟩ : ∃ m, l[i]? = some m := ⟨_, List.getElem?_eq_getElem (by rw [HL.out]; exact hlt)⟩
      obtain ⟨ad, rfl, a0, a1⟩ := atNm (Kd.C_below HA.out HW.out) i m hm
      obtain ⟨bd, rfl, b0, b1⟩ := atNm (Kd.C_below HB.out HW.out) i m hm
      have hn := neqN m
      clear hm
      go_wp2_with fail
      go_quiet (fail)
      go_wp2
      go_roundg (n - (i + 1))
      case measure => omega
      case rel => exact ⟨i + 1, by go_num, by omega, ⟨pw_below_drewN HW.out nq⟩⟩
    · go_wp2
      go_ret
      exact ⟨rfl, HW.out⟩

theorem alloc_cellA {w : World} {a : Addr} {v : Value} {o : Obj} (h : w.cell? a = some v) : (w.alloc o).cell? a = some v := pw_cell_below (below_alloc (Below.refl _ _) o) h
theorem drew_cellA {w : World} {a : Addr} {v : Value} (h : w.cell? a = some v) : w.drew.cell? a = some v := h
theorem set3_cellA {w : World} {g : Nat} {x y z v : Value} {a : Addr} (h : w.cell? a = some v) (hne : a.block < g) : (((w.setCell ⟨g, 0, none⟩ x).setCell ⟨g, 1, none⟩ y).setCell ⟨g, 2, none⟩ z).cell? a = some v := by
  rw [World.cell?_setCell_far _ _ _ _ (by show g ≠ a.block; omega), World.cell?_setCell_far _ _ _ _ (by show g ≠ a.block; omega), World.cell?_setCell_far _ _ _ _ (by show g ≠ a.block; omega)]
  exact h

set_option maxRecDepth 100000 in
set_option maxHeartbeats 8000000 in
/-- the same states -/
theorem alike_at {s : St} {v v' : Value} {w : World} (hA : At w v s) (hB : At w v' s) (hs : Small s) :
    Calls Try.prog 19 #[v, v'] w fun e w' => e = .returned (.int .i64 0) ∧ Below w.heap.size w w' := by
  obtain ⟨F, fc, N, nc, S, sc, rfl, hA⟩ := hA
  obtain ⟨G, gc, M, mc, T, tc, rfl, hB⟩ := hB
  have HA := Aside0.mk hA
  have HB := Aside0.mk hB
  obtain ⟨lf, hlf⟩ : ∃ n, s.files.length = n := ⟨_, rfl⟩
  obtain ⟨ln, hln⟩ : ∃ n, s.names.length = n := ⟨_, rfl⟩
  obtain ⟨ls, hls⟩ : ∃ n, s.safe.length = n := ⟨_, rfl⟩
  have LF := Aside0.mk hlf
  have LN := Aside0.mk hln
  have LS := Aside0.mk hls
  have hlf1 : lf ≤ 1048576 := by rw [← hlf]; exact hs.lf
  have hln1 : ln ≤ 1048576 := by rw [← hln]; exact hs.ln
  have hls1 : ls ≤ 1048576 := by rw [← hls]; exact hs.ls
  rw [hlf, hln, hls]
  clear hA hB hs hlf hln hls
  go_enter Try.func19, Try.ntmps19
  go_upto_region 1 with (fail)
  obtain ⟨W, hW⟩ : ∃ W, W = ((w.alloc (Obj.cells #[.int .i64 s.cap, .slice F lf fc, .slice N ln nc, .slice S ls sc, .int .i64 s.next] 33)).alloc
      (Obj.cells #[.int .i64 s.cap, .slice G lf gc, .slice M ln mc, .slice T ls tc, .int .i64 s.next] 25)) := ⟨_, rfl⟩
  have hj : W.heap[w.heap.size]? = some (.cells #[.int .i64 s.cap, .slice F lf fc, .slice N ln nc, .slice S ls sc, .int .i64 s.next] 33 (0, 0)) := by rw [hW]; exact blk_alloc (blk_new _ _) _
  have hk : W.heap[w.heap.size + 1]? = some (.cells #[.int .i64 s.cap, .slice G lf gc, .slice M ln mc, .slice T ls tc, .int .i64 s.next] 25 (0, 0)) := by rw [hW]; exact blk_new1 _ _ _ _
  have HBW : Aside0 (Below w.heap.size w W) := ⟨by rw [hW]; exact below_alloc (below_alloc (Below.refl _ _) _) _⟩
  rw [← hW]
  clear hW
  have HJ := Aside0.mk hj
  have HK := Aside0.mk hk
  obtain ⟨x0, x1, x2, x3, x4, _, _, _, _, _⟩ := all5 hj
  obtain ⟨y0, y1, y2, y3, y4, _, _, _, _, _⟩ := all5 hk
  clear hj hk
  go_wp2_with fail
  refine (sameNames_any N M ln nc mc s.names W (by have := Kd.C_below HA.out.hN HBW.out; rwa [LN.out] at this) (by have := Kd.C_below HB.out.hN HBW.out; rwa [LN.out] at this) hln1).mono ?_
  rintro e w1 ⟨rfl, hb1⟩
  have HB1 := Aside0.mk hb1
  clear x0 x1 x2 x3 x4 y0 y1 y2 y3 y4 hb1
  obtain ⟨x0, x1, x2, x3, x4, _, _, _, _, _⟩ := all5 (blk_keep HJ.out HB1.out)
  obtain ⟨y0, y1, y2, y3, y4, _, _, _, _, _⟩ := all5 (blk_keep HK.out HB1.out)
  go_wp2_with fail
  refine (sameNames_any S T ls sc tc s.safe w1 (by have := Kd.C_below HA.out.hS (bthen HBW.out HB1.out); rwa [LS.out] at this) (by have := Kd.C_below HB.out.hS (bthen HBW.out HB1.out); rwa [LS.out] at this) hls1).mono ?_
  rintro e w2 ⟨rfl, hb2⟩
  have HB2 := Aside0.mk (bthen HB1.out hb2)
  have HBw2 := Aside0.mk (bthen HBW.out (bthen HB1.out hb2))
  clear x0 x1 x2 x3 x4 y0 y1 y2 y3 y4 hb2
  have HJ2 := Aside0.mk (blk_keep HJ.out HB2.out)
  have HK2 := Aside0.mk (blk_keep HK.out HB2.out)
  obtain ⟨x0, x1, x2, x3, x4, _, _, _, _, _⟩ := all5 HJ2.out
  obtain ⟨y0, y1, y2, y3, y4, _, _, _, _, _⟩ := all5 HK2.out
  go_wp2
  go_loopg [5] lf (fun g v5 wr => ∃ i : Nat, v5 = .int .i64 i ∧ g + i = lf ∧ Aside0 (Below w2.heap.size w2 wr))
  case atStart => exact ⟨0, rfl, by omega, ⟨Below.refl _ _⟩⟩
  case round =>
    obtain ⟨i, rfl, hg, HBr⟩ := hrel
    have HBw := Aside0.mk (bthen HBw2.out HBr.out)
    clear x0 x1 x2 x3 x4 y0 y1 y2 y3 y4
    have HJr := Aside0.mk (blk_keep HJ2.out HBr.out)
    have HKr := Aside0.mk (blk_keep HK2.out HBr.out)
    obtain ⟨_, x1, _, _, _, _, _, _, _, _⟩ := all5 HJr.out
    by_cases hlt : i < lf
    · have hlt' : (i : Int) < (lf : Int) := by omega
      obtain ⟨m, hm⟩ : ∃ m, s.files[i]? = some m := ⟨_, List.getElem?_eq_getElem (by rw [LF.out]; exact hlt)⟩
      obtain ⟨ad, D, dc, hFs, a0, a1, a2, _, ra⟩ := atFl (Kd.C_below HA.out.hF HBw.out) i m hm
      obtain ⟨bd, E, ec, hGs, b0, b1, b2, _, rb⟩ := atFl (Kd.C_below HB.out.hF HBw.out) i m hm
      subst hFs hGs
      obtain ⟨ld, hld⟩ : ∃ n, m.data.length = n := ⟨_, rfl⟩
      rw [hld] at a1 b1 ra rb
      have RA := Aside0.mk ra
      have RB' := Aside0.mk rb
      clear hm hld ra rb
      obtain ⟨_, y1, _, _, _, _, _, _, _, _⟩ := all5 HKr.out
      go_upto_region 6 with (fail)
      go_cut [6, 7] (fun v6 v7 wc => ∃ g6 g7, v6 = .pointer (some ⟨g6, 0, none⟩) ∧ v7 = .pointer (some ⟨g7, 0, none⟩) ∧ Aside0 (wc.heap[g6]? = some (.cells #[.int .i64 m.id, .slice D ld dc, .int .i64 m.sync] 79 (0, 0)) ∧ wc.heap[g7]? = some (.cells #[.int .i64 m.id, .slice E ld ec, .int .i64 m.sync] 106 (0, 0)) ∧ Below wr.heap.size wr wc))
      case first =>
        have q0 := World.block_lt_of_cell? wr _ a0
        have q1 := World.block_lt_of_cell? wr _ b0
        have q2 := World.block_lt_of_cell? wr _ x1
        have q3 := World.block_lt_of_cell? wr _ y1
        have n0 := World.new_ne wr _ a0
        have n1 := World.new_ne wr _ b0
        have n2 := World.new_ne wr _ x1
        have n3 := World.new_ne wr _ y1
        go_region_held3 (fun w' => w'.cell? ⟨w.heap.size, 1, none⟩ = some (.slice (some ad) lf fc) ∧ w'.cell? ⟨w.heap.size + 1, 1, none⟩ = some (.slice (some bd) lf gc) ∧ w'.cell? (ad.add (i * 3)) = some (.int .i64 m.id) ∧ w'.cell? ⟨(ad.add (i * 3)).block, (ad.add (i * 3)).off + 1, none⟩ = some (.slice D ld dc) ∧ w'.cell? ⟨(ad.add (i * 3)).block, (ad.add (i * 3)).off + 2, none⟩ = some (.int .i64 m.sync) ∧ w'.cell? (bd.add (i * 3)) = some (.int .i64 m.id) ∧ w'.cell? ⟨(bd.add (i * 3)).block, (bd.add (i * 3)).off + 1, none⟩ = some (.slice E ld ec) ∧ w'.cell? ⟨(bd.add (i * 3)).block, (bd.add (i * 3)).off + 2, none⟩ = some (.int .i64 m.sync)) (first | with_reducible exact ⟨x1, y1, a0, a1, a2, b0, b1, b2⟩ | go_keep | (refine ⟨?_, ?_, ?_, ?_, ?_, ?_, ?_, ?_⟩ <;> (repeat (first | with_reducible exact x1 | with_reducible exact y1 | with_reducible exact a0 | with_reducible exact a1 | with_reducible exact a2 | with_reducible exact b0 | with_reducible exact b1 | with_reducible exact b2 | with_reducible apply alloc_cellA | with_reducible apply drew_cellA | with_reducible apply set3_cellA | (dsimp only; omega) | (simp only [World.size_alloc, World.size_drew, World.size_setCell]; omega))))) (fail)
        all_goals go_wp2
        all_goals go_meet
        all_goals first
          | exact ⟨_, _, rfl, rfl, ⟨blk_drew (blk_alloc (blk_new _ _) _), blk_drew (blk_new1 _ _ _ _), below_drew (below_alloc (below_alloc (Below.refl _ _) _) _)⟩⟩
          | exact ⟨_, _, rfl, rfl, ⟨blk_drew (blk_new1 _ _ _ _), blk_drew (blk_alloc (blk_new _ _) _), below_drew (below_alloc (below_alloc (Below.refl _ _) _) _)⟩⟩
      case rest =>
        obtain ⟨g6, g7, rfl, rfl, HT⟩ := hcut
        obtain ⟨p0, p1, p2, _, _, _⟩ := all3 HT.out.1
        obtain ⟨q0, q1, q2, _, _, _⟩ := all3 HT.out.2.1
        go_wp2_with (go_at_call 25; refine (same_any D E ld ld dc ec m.data m.data _ (RA.out.below HT.out.2.2) (RB'.out.below HT.out.2.2) rfl).mono ?_; rintro e wz ⟨rfl, rfl⟩)
        go_roundg (lf - (i + 1))
        case measure => omega
        case rel => exact ⟨i + 1, by go_num, by omega, ⟨bthen HBr.out HT.out.2.2⟩⟩
    · have hnf : ¬ ((i : Int) < (lf : Int)) := by omega
      go_wp2
      go_ret
      exact ⟨rfl, HBw.out⟩
end Go.Proofs.Ytfakfgblaakgdaa.Files

/- FilesRuns: the law's function walked: it returns true. -/
namespace Go.Proofs.Ytfakfgblaakgdaa.Files
set_option linter.unusedVariables false
set_option linter.unusedSimpArgs false
open Go.RowKit Go.Proofs.YtfakfgblaakgdaaW.PrintWords Go.Proofs.YtfakfgblaakgdaaW.PrintLast Go.Proofs.Ytfakfgblaakgdaa.Base Go.Proofs.Ytfakfgblaakgdaa.Cells Go.Proofs.Ytfakfgblaakgdaa.Ints Go.Proofs.Ytfakfgblaakgdaa.Var Go.Proofs.Ytfakfgblaakgdaa.EditPure Go.Proofs.Ytfakfgblaakgdaa.Edit Go.Proofs.Ytfakfgblaakgdaa.Sets Go.Proofs.Ytfakfgblaakgdaa.Wide Go.Proofs.Ytfakfgblaakgdaa.RowsC

theorem small_zs : Small zSt := ⟨by decide, by decide, by decide, fun f hf => by simp [zSt] at hf⟩
theorem runP_small (s : St) (l : List Ac) (hu : usedF s.files + dataA l ≤ 1048576) : Small (runP s l).1 := by
  cases hst : stB s with
  | false => rw [runP, if_pos hst]; exact small_zs
  | true =>
    obtain ⟨g1, g2, _⟩ := runP_good (stB_iff.1 hst) l
    exact g1.small (by omega)

set_option maxRecDepth 100000 in
set_option maxHeartbeats 8000000 in
theorem runs_walk (s : St) (l : List Ac) (F N S A : Option Addr) (fc nc sc ac : Nat) (w : World) (h : Hd w s F fc N nc S sc) (hs : Small s) (hw : Wf s) (hl : kAc.C w A l.length l) (hll : l.length ≤ 1048576) (hu : usedF s.files + dataA l ≤ 1048576) :
    Calls Try.prog 4 #[.agg #[.int .i64 s.cap, .slice F s.files.length fc, .slice N s.names.length nc, .slice S s.safe.length sc, .int .i64 s.next], .slice A l.length ac] w fun e w' => e = .returned (.bool true) ∧ Below w.heap.size w w' := by
  have HA := Aside0.mk h.at_
  have HS := Aside0.mk hs
  have HW := Aside0.mk hw
  have HL := Aside0.mk hl
  have HU := Aside0.mk hu
  obtain ⟨la, hla⟩ : ∃ n, l.length = n := ⟨_, rfl⟩
  have LA := Aside0.mk hla
  rw [hla] at HL hll ⊢
  obtain ⟨n0, F0, lf0, fc0, N0, ln0, nc0, S0, ls0, sc0, m0, hv0⟩ := HA.out.show_
  rw [hv0] at HA ⊢
  clear h hs hw hl hu hla hv0
  go_enter Try.func4, Try.ntmps4
  go_upto_region 1 with (fail)
  obtain ⟨W0, hW0⟩ : ∃ W, W = w.alloc (.cells #[.int .i64 n0, .slice F0 lf0 fc0, .slice N0 ln0 nc0, .slice S0 ls0 sc0, .int .i64 m0] 25) := ⟨_, rfl⟩
  have hk2 : W0.heap[w.heap.size]? = some (.cells #[.int .i64 n0, .slice F0 lf0 fc0, .slice N0 ln0 nc0, .slice S0 ls0 sc0, .int .i64 m0] 25 (0, 0)) := by rw [hW0]; exact blk_new _ _
  have HB0 : Aside0 (Below w.heap.size w W0) := ⟨by rw [hW0]; exact below_alloc (Below.refl _ _) _⟩
  rw [← hW0]
  clear hW0
  have HK0 := Aside0.mk hk2
  obtain ⟨x0, x1, x2, x3, x4, _, _, _, _, _⟩ := all5 hk2
  clear hk2
  go_wp2_with fail
  refine (of_at (HA.out.below HB0.out) HS.out).mono ?_
  rintro e w1 ⟨v1, rfl, hA1, hb1⟩
  obtain ⟨n1, F1, lf1, fc1, N1, ln1, nc1, S1, ls1, sc1, m1, rfl⟩ := hA1.show_
  have HA1 := Aside0.mk hA1
  have HB1 := Aside0.mk (bthen HB0.out hb1)
  have HK1 := Aside0.mk (blk_keep HK0.out hb1)
  clear hA1 hb1 x0 x1 x2 x3 x4
  go_upto_region 2 with (fail)
  obtain ⟨w2, hw2⟩ : ∃ W, W = w1.alloc (.cells #[.int .i64 n1, .slice F1 lf1 fc1, .slice N1 ln1 nc1, .slice S1 ls1 sc1, .int .i64 m1] 33) := ⟨_, rfl⟩
  obtain ⟨g5, hg5⟩ : ∃ g, g = w1.heap.size := ⟨_, rfl⟩
  have HA2 : Aside0 (At w2 (.agg #[.int .i64 n1, .slice F1 lf1 fc1, .slice N1 ln1 nc1, .slice S1 ls1 sc1, .int .i64 m1]) s) := ⟨by rw [hw2]; exact HA1.out.below (below_alloc (Below.refl _ _) _)⟩
  have HG5 : Aside0 (w2.heap[g5]? = some (.cells #[.int .i64 n1, .slice F1 lf1 fc1, .slice N1 ln1 nc1, .slice S1 ls1 sc1, .int .i64 m1] 33 (0, 0))) := ⟨by rw [hw2, hg5]; exact blk_new _ _⟩
  have HB2 : Aside0 (Below w.heap.size w w2) := ⟨by rw [hw2]; exact below_alloc HB1.out _⟩
  have HK2 : Aside0 (w2.heap[w.heap.size]? = some (.cells #[.int .i64 n0, .slice F0 lf0 fc0, .slice N0 ln0 nc0, .slice S0 ls0 sc0, .int .i64 m0] 25 (0, 0))) := ⟨by rw [hw2]; exact blk_keep HK1.out (below_alloc (Below.refl _ _) _)⟩
  rw [← hw2, ← hg5]
  clear hw2 hg5
  obtain ⟨x0, x1, x2, x3, x4, _, _, _, _, _⟩ := all5 HG5.out
  go_wp2_with fail
  refine (run_at HA2.out HS.out HW.out (Kd.C_below HL.out HB2.out) hll HU.out).mono ?_
  obtain ⟨rp, hrp⟩ := named (runP s l)
  rw [← hrp.out]
  rintro e w3 ⟨v3, rfl, hv3, hb3⟩
  obtain ⟨n3, F3, lf3, fc3, N3, ln3, nc3, S3, ls3, sc3, m3, rfl⟩ := hv3.show_
  obtain ⟨rn, hrn⟩ := named rp.2.1
  obtain ⟨re, hre⟩ := named rp.2.2
  rw [← hrn.out, ← hre.out]
  have HV3 := Aside0.mk hv3.at_
  have HB3 := Aside0.mk (bthen HB2.out hb3)
  have HBg3 := Aside0.mk hb3
  clear hv3 hb3 x0 x1 x2 x3 x4
  go_upto_region 3 with (fail)
  obtain ⟨w4, hw4⟩ : ∃ W, W = w3.alloc (.cells #[.int .i64 n3, .slice F3 lf3 fc3, .slice N3 ln3 nc3, .slice S3 ls3 sc3, .int .i64 m3] 33) := ⟨_, rfl⟩
  obtain ⟨g6, hg6⟩ : ∃ g, g = w3.heap.size := ⟨_, rfl⟩
  have HV4 : Aside0 (At w4 (.agg #[.int .i64 n3, .slice F3 lf3 fc3, .slice N3 ln3 nc3, .slice S3 ls3 sc3, .int .i64 m3]) rp.1) := ⟨by rw [hw4]; exact HV3.out.below (below_alloc (Below.refl _ _) _)⟩
  have HG6 : Aside0 (w4.heap[g6]? = some (.cells #[.int .i64 n3, .slice F3 lf3 fc3, .slice N3 ln3 nc3, .slice S3 ls3 sc3, .int .i64 m3] 33 (0, 0))) := ⟨by rw [hw4, hg6]; exact blk_new _ _⟩
  have HB4g : Aside0 (Below w2.heap.size w2 w4) := ⟨by rw [hw4]; exact below_alloc HBg3.out _⟩
  rw [← hw4, ← hg6]
  clear hw4 hg6
  have HB4 := Aside0.mk (bthen HB2.out HB4g.out)
  obtain ⟨x0, x1, x2, x3, x4, _, _, _, _, _⟩ := all5 (blk_keep HK2.out HB4g.out)
  go_wp2_with fail
  refine (Ref.run_any s l _ A la ac w4 (HA.out.below HB4.out) HS.out (Kd.C_below HL.out HB4.out) hll HU.out).mono ?_
  rw [← hrp.out]
  rintro e w5 ⟨v5, rfl, hv5, hb5⟩
  obtain ⟨n5, F5, lf5, fc5, N5, ln5, nc5, S5, ls5, sc5, m5, rfl⟩ := Ref.show_ hv5
  rw [← hrn.out, ← hre.out]
  have HV5 := Aside0.mk hv5.forms
  have HBg5 := Aside0.mk hb5
  clear hv5 hb5 x0 x1 x2 x3 x4
  go_upto_region 4 with (fail)
  obtain ⟨w6, hw6⟩ : ∃ W, W = w5.alloc (.cells #[.int .i64 n5, .slice F5 lf5 fc5, .slice N5 ln5 nc5, .slice S5 ls5 sc5, .int .i64 m5] 25) := ⟨_, rfl⟩
  obtain ⟨g9, hg9⟩ : ∃ g, g = w5.heap.size := ⟨_, rfl⟩
  have HV6 : Aside0 (At w6 (.agg #[.int .i64 n5, .slice F5 lf5 fc5, .slice N5 ln5 nc5, .slice S5 ls5 sc5, .int .i64 m5]) rp.1) := ⟨by rw [hw6]; exact At.below HV5.out (below_alloc (Below.refl _ _) _)⟩
  have HG9 : Aside0 (w6.heap[g9]? = some (.cells #[.int .i64 n5, .slice F5 lf5 fc5, .slice N5 ln5 nc5, .slice S5 ls5 sc5, .int .i64 m5] 25 (0, 0))) := ⟨by rw [hw6, hg9]; exact blk_new _ _⟩
  have HB6g : Aside0 (Below w4.heap.size w4 w6) := ⟨by rw [hw6]; exact below_alloc HBg5.out _⟩
  rw [← hw6, ← hg9]
  clear hw6 hg9
  have HB6 := Aside0.mk (bthen HB4.out HB6g.out)
  have HB62 := Aside0.mk (bthen HB4g.out HB6g.out)
  have HSM : Aside0 (Small rp.1) := ⟨by rw [hrp.out]; exact runP_small s l HU.out⟩
  obtain ⟨x0, x1, x2, x3, x4, _, _, _, _, _⟩ := all5 (blk_keep HG6.out HB6g.out)
  obtain ⟨y0, y1, y2, y3, y4, _, _, _, _, _⟩ := all5 HG9.out
  go_wp2_with fail
  refine (alike_at (HV4.out.below HB6g.out) HV6.out HSM.out).mono ?_
  rintro e w7 ⟨rfl, hb7⟩
  have HB7 := Aside0.mk hb7
  clear hb7 x0 x1 x2 x3 x4 y0 y1 y2 y3 y4
  obtain ⟨x0, x1, x2, x3, x4, _, _, _, _, _⟩ := all5 (blk_keep HG5.out (bthen HB62.out HB7.out))
  obtain ⟨y0, y1, y2, y3, y4, _, _, _, _, _⟩ := all5 (blk_keep HK2.out (bthen HB62.out HB7.out))
  go_wp2_with (go_at_call 20; refine (num_any _ _).mono ?_; rintro e wz ⟨rfl, rfl⟩)
  refine (alike_at (HA2.out.below (bthen HB62.out HB7.out)) (HA.out.below (bthen HB6.out HB7.out)) HS.out).mono ?_
  rintro e w8 ⟨rfl, hb8⟩
  have HB8 := Aside0.mk (bthen (bthen HB6.out HB7.out) hb8)
  clear hb8 x0 x1 x2 x3 x4 y0 y1 y2 y3 y4
  go_wp2_with fail
  refine (alive_any w8).mono ?_
  rintro e w9 ⟨rfl, hb9⟩
  have HB9 := Aside0.mk (bthen HB8.out hb9)
  clear hb9
  go_wp2
  go_ret
  exact ⟨rfl, HB9.out⟩
end Go.Proofs.Ytfakfgblaakgdaa.Files

/- FilesRuns: for all files and acts of bulk at most 1048576 the law returns true, and what it is given stays. (Printed by wip/gen_rows.py.) -/
namespace Go.Proofs.Ytfakfgblaakgdaa.rowRuns
open Go.ChangeShapes Go.WideShapes Go.ChangeAt Go.RowKit Go.Proofs.Ytfakfgblaakgdaa.Lift
set_option linter.unusedVariables false
set_option linter.unusedSimpArgs false
theorem own : ownKnob Try.prog.godebug = none := by kernel_rfl
theorem laidOut : laidOutB Try.prog = true := by kernel_rfl

set_option maxRecDepth 100000 in
set_option maxHeartbeats 4000000 in
theorem lifted (os : Os) (started : os.Started) (H : Type) (enc : TypeId × Value → H) (F : Stop.Interp) :
    ReturnsInHanded {} Try.checked os 4 .any ((Rows.OpenSpec.upto Rows.filesRunsSpec).pre6 enc Try.prog Try.f4 Rows.filesRunsUptoRow.domain false) (((Rows.OpenSpec.upto Rows.filesRunsSpec).at F).post enc Try.prog Try.f4 false true false false) := by
  refine returnsInHanded_of_cond (C := Try.checked) (s := Rows.OpenSpec.upto Rows.filesRunsSpec) (k := Rows.uptoSmall) rfl own started (by kernel_rfl) Try.func4
    (OpenSpec.witness (enc := enc) (C := Try.checked) (s := Rows.OpenSpec.upto Rows.filesRunsSpec) (k := Rows.uptoSmall) rfl false ⟨#[], #[.agg #[.int .i64 0, .slice none 0 0, .slice none 0 0, .slice none 0 0, .int .i64 0], .slice none 0 0], []⟩ 8 (by kernel_rfl) (by kernel_rfl) (by kernel_rfl)
      (x := ([.agg [.lit (.int .i64 0), .nil, .nil, .nil, .lit (.int .i64 0)], .nil], [], [])) (by kernel_rfl) rfl (by kernel_rfl)) ?_
  intro W base args ds gs before hval hW _ hk _
  have hW' := hW
  obtain ⟨p, q, hA0, hV, rfl, hfz, hnd⟩ := hW
  have hA : DataW.TrodAll enc Try.prog W 0 (fun _ => true) true Try.f4.params.toList args.toList ds p := hA0
  rw [Try.params4] at hA hval
  obtain ⟨v0, vs0, d0, ds0, p0, q0, hargs, rfl, rfl, h0, r0⟩ := trodAll_cons hA
  obtain ⟨v1, vs1, d1, ds1, p1, q1, rfl, rfl, rfl, h1, r1⟩ := trodAll_cons r0
  obtain ⟨rfl, rfl, rfl⟩ := trodAll_nil r1
  obtain rfl : args = #[v0, v1] := by cases args; simp_all
  obtain ⟨rfl, rfl⟩ := trodVars_none hV
  have k0 := h0
  have lt0 : ∀ x ∈ p0, x.block < W.heap.size := by obtain ⟨m, hm⟩ := k0; exact DataW.trod_lt m _ _ _ hm
  have k1 := h1
  have lt1 : ∀ x ∈ p1, x.block < W.heap.size := by obtain ⟨m, hm⟩ := k1; exact DataW.trod_lt m _ _ _ hm
  obtain ⟨cs0, hcs0, _⟩ := okWide_struct Try.underlying25 (hval 0 25 v0 rfl rfl)
  obtain ⟨fu0, hf0⟩ := h0
  obtain ⟨s0, F0, N0, S0, fc0, nc0, sc0, rfl, hd0, wf0, in0, us0, sm0⟩ := trod_state2 ⟨cs0, hcs0⟩ hf0
  obtain ⟨A1, sn1, c1, rfl⟩ := okWide_slice Try.underlying50 (hval 1 50 v1 rfl rfl)
  obtain ⟨fu1, hf1⟩ := h1
  obtain ⟨B1, l1, b1, hv1, lc1, hC1, fx1, hb1, hs1⟩ := trod_acts (v := .slice A1 sn1 c1) hf1
  injection hv1 with e1 e2 e3
  subst e1 e2 e3
  have hb : Rows.uptoBulk d0 + Rows.uptoBulk d1 ≤ 1048576 := by
    have h := of_decide_eq_true hk
    simp only [List.append_nil, Rows.uptoBulkAll] at h
    omega
  clear hA0 hk
  refine (Files.runs_walk s0 l1 F0 N0 S0 A1 fc0 nc0 sc0 c1 W hd0 (sm0 (by omega)).1 wf0 hC1 (by omega) (by have : Files.dataA l1 = (l1.map fun m => m.data.length).sum := rfl; omega)).mono fun e W' ⟨he, bel⟩ => ?_
  subst he
  exact ⟨_, rfl, _, _, _, [], _, [], hW', trodAll_mk1 (shut_bool Try.underlying4 _), (trodAll_cons_mk (Below.trod laidOut (by kernel_rfl) (of_decide_eq_true (by kernel_rfl)) k0 bel lt0) (trodAll_cons_mk (Below.trod laidOut (by kernel_rfl) (of_decide_eq_true (by kernel_rfl)) k1 bel lt1) trodAll_mk0)), rfl, bel.frame _, fun h => by cases h⟩

theorem proved : Rows.FilesRunsUptoSaid :=
  OpenClaim.holds_of_cond 4 Try.f4 rfl rfl rfl rfl rfl rfl rfl ⟨rfl, rfl, rfl, rfl, rfl⟩ rfl rfl rfl rfl rfl (by kernel_rfl) Try.func4 (by kernel_rfl)
    (of_decide_eq_true (by kernel_rfl)) (by unfold Func.isWrapper; first | (rw [if_pos (by decide +kernel)]; kernel_rfl) | (rw [if_neg (by decide +kernel)]; exact ⟨rfl, rfl⟩))
    (fun os started H enc _ F => lifted os started H enc F)
end Go.Proofs.Ytfakfgblaakgdaa.rowRuns
namespace Go.Proofs.Ytfakfgblaakgdaa
theorem filesRuns_holds : Rows.FilesRunsUptoSaid := rowRuns.proved
#print axioms filesRuns_holds
end Go.Proofs.Ytfakfgblaakgdaa
