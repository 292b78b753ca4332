/- A part of the proof: The document's Do, walked: an act of kind 1. (Split by wip/split_refg.py.) -/
import Derived.Test.YtfakfgblaakgdaaPkRuns8

/- The document's Do, walked: an act of kind 1. (Split by wip/split_refg.py.) -/
namespace Go.Proofs.Ytfakfgblaakgdaa.Files.Ref
set_option linter.unusedVariables false
set_option linter.unusedSimpArgs false
open Go.RowKit Go.Proofs.YtfakfgblaakgdaaW.PrintWords Go.Proofs.YtfakfgblaakgdaaW.PrintLast Go.Proofs.Ytfakfgblaakgdaa.Base Go.Proofs.Ytfakfgblaakgdaa.Cells Go.Proofs.Ytfakfgblaakgdaa.Ints Go.Proofs.Ytfakfgblaakgdaa.Var Go.Proofs.Ytfakfgblaakgdaa.EditPure Go.Proofs.Ytfakfgblaakgdaa.Edit Go.Proofs.Ytfakfgblaakgdaa.Sets Go.Proofs.Ytfakfgblaakgdaa.Wide Go.Proofs.Ytfakfgblaakgdaa.RowsC

set_option maxRecDepth 100000 in
set_option maxHeartbeats 40000000 in
theorem do_1 (s : St) (a : Ac) (F N S D : Option Addr) (fc nc sc dc : Nat) (w : World) (h : Hd w s F fc N nc S sc) (hs : Small s) (hr : ReadsInt w .u8 D a.data.length a.data) (hda : a.data.length ≤ 1048576) (hx : a.what = 1) :
    Calls Try.prog 30 #[.agg #[.int .i64 s.cap, .slice F s.files.length fc, .slice N s.names.length nc, .slice S s.safe.length sc, .int .i64 s.next], acV a D dc] w fun e w' => ∃ v, e = .returned (.tuple #[v, .int .i64 (DoP s a).1]) ∧ Rs w' w.heap.size v (DoP s a).2 ∧ Below w.heap.size w w' := by
  have HH := Aside0.mk h
  have HS := Aside0.mk hs
  have HR := Aside0.mk hr
  obtain ⟨dp, hdp⟩ := named (DoP s a)
  rw [← hdp.out]
  obtain ⟨lf, hlf⟩ : ∃ n, s.files.length = n := ⟨_, rfl⟩
  obtain ⟨ln, hln⟩ : ∃ n, s.names.length = n := ⟨_, rfl⟩
  obtain ⟨ls, hls⟩ : ∃ n, s.safe.length = n := ⟨_, rfl⟩
  obtain ⟨ld, hld⟩ : ∃ n, a.data.length = n := ⟨_, rfl⟩
  have LF := Aside0.mk hlf
  have LN := Aside0.mk hln
  have LS := Aside0.mk hls
  have LD := Aside0.mk hld
  obtain ⟨wh, hwh⟩ : ∃ n, a.what = n := ⟨_, rfl⟩
  have WH := Aside0.mk hwh
  have CA : Aside0 (acV a D dc = .agg #[.int .i64 wh, .string a.name, .string a.dest, .slice D ld dc]) := ⟨by rw [acV, hwh, hld]⟩
  rw [CA.out, hlf, hln, hls]
  rw [hld] at hda
  have hlf1 : lf ≤ 1048576 := by rw [← hlf]; exact hs.lf
  have hln1 : ln ≤ 1048576 := by rw [← hln]; exact hs.ln
  have hls1 : ls ≤ 1048576 := by rw [← hls]; exact hs.ls
  have HXW : Aside0 (wh = 1) := ⟨by rw [← hwh]; exact hx⟩
  clear h hs hr hlf hln hls hld hwh hx
  go_enter Try.func30, Try.ntmps30
  go_upto_region 1 with (fail)
  obtain ⟨W, hW⟩ : ∃ W, W = ((w.alloc (.cells #[.int .i64 s.cap, .slice F lf fc, .slice N ln nc, .slice S ls sc, .int .i64 s.next] 25)).alloc (.cells #[.int .i64 wh, .string a.name, .string a.dest, .slice D ld dc] 64)).alloc (.cells #[.int .i64 0, .slice none 0 0, .slice none 0 0, .slice none 0 0, .int .i64 0] 25) := ⟨_, rfl⟩
  have hk2 : W.heap[w.heap.size]? = some (.cells #[.int .i64 s.cap, .slice F lf fc, .slice N ln nc, .slice S ls sc, .int .i64 s.next] 25 (0, 0)) := by rw [hW]; exact blk_alloc (blk_alloc (blk_new _ _) _) _
  have hk3 : W.heap[w.heap.size + 1]? = some (.cells #[.int .i64 wh, .string a.name, .string a.dest, .slice D ld dc] 64 (0, 0)) := by rw [hW]; exact blk_alloc (blk_new1 _ _ _ _) _
  have hk4 : W.heap[w.heap.size + 2]? = some (.cells #[.int .i64 0, .slice none 0 0, .slice none 0 0, .slice none 0 0, .int .i64 0] 25 (0, 0)) := by
    rw [hW]
    have := blk_new1 (w.alloc (.cells #[.int .i64 s.cap, .slice F lf fc, .slice N ln nc, .slice S ls sc, .int .i64 s.next] 25)) (.cells #[.int .i64 wh, .string a.name, .string a.dest, .slice D ld dc] 64) #[.int .i64 0, .slice none 0 0, .slice none 0 0, .slice none 0 0, .int .i64 0] 25
    rw [show (w.alloc (.cells #[.int .i64 s.cap, .slice F lf fc, .slice N ln nc, .slice S ls sc, .int .i64 s.next] 25)).heap.size = w.heap.size + 1 by simp] at this
    exact this
  have HB : Aside0 (Below w.heap.size w W) := ⟨by rw [hW]; exact below_alloc (below_alloc (below_alloc (Below.refl _ _) _) _) _⟩
  have HZ : Aside0 (W.heap.size = w.heap.size + 3) := ⟨by rw [hW]; simp⟩
  rw [← hW]
  clear hW
  have HJ := Aside0.mk hk2
  have HA := Aside0.mk hk3
  have HK := Aside0.mk hk4
  obtain ⟨x0, x1, x2, x3, x4, _, _, _, _, _⟩ := all5 hk2
  clear hk2 hk3 hk4
  go_wp2_with fail
  refine (check_any s F N S lf fc ln nc ls sc W (HH.out.below HB.out) HS.out LF.out LN.out LS.out).mono ?_
  obtain ⟨E, hE⟩ := named (stE s)
  rw [← hE.out]
  rintro e w1 ⟨rfl, hb1⟩
  have HB1 := Aside0.mk hb1
  have HBw1 := Aside0.mk (bthen HB.out hb1)
  have HK1 := Aside0.mk (blk_keep HK.out hb1)
  have HA1 := Aside0.mk (blk_keep HA.out hb1)
  have HJ1 := Aside0.mk (blk_keep HJ.out hb1)
  clear hb1 x0 x1 x2 x3 x4
  cases hst : stB s with
  | false =>
    obtain rfl : E = 9 := by rw [hE.out, stE, hst]; rfl
    have HDP : Aside0 (dp = (9, zSt)) := ⟨by rw [hdp.out, DoP, if_pos hst]⟩
    clear hst
    obtain ⟨z0, z1, z2, z3, z4, f0, f1, f2, f3, f4⟩ := all5 HK1.out
    go_wp2
    refine bodyPost_ret (results_ct rfl _ _ (w.heap.size + 2) 25 #[.int .i64 0, .slice none 0 0, .slice none 0 0, .slice none 0 0, .int .i64 0] (0, 0) _ rfl (blk5 HK1.out) Try.underlying25 rfl (by kernel_rfl)) rfl ?_
    exact ⟨.agg #[.int .i64 0, .slice none 0 0, .slice none 0 0, .slice none 0 0, .int .i64 0], by rw [HDP.out]; rfl, by rw [HDP.out]; exact Rs_zero _ _, below_set5 HBw1.out (by omega) _ _ _ _ _⟩
  | true =>
    obtain rfl : E = 0 := by rw [hE.out, stE, hst]; rfl
    have HST := Aside0.mk hst
    have HGD : Aside0 (Good s) := ⟨stB_iff.1 hst⟩
    clear hst
    obtain ⟨p0, p1, p2, p3, _, _, _, _⟩ := all4 HA1.out
    by_cases hw1 : wh < 1
    · exfalso; have := HXW.out; omega
    · by_cases hw6 : 6 < wh
      · exfalso; have := HXW.out; omega
      · obtain ⟨x0, x1, x2, x3, x4, _, _, _, _, _⟩ := all5 HJ1.out
        go_wp2_with fail
        refine (own_any s F N S lf fc ln nc ls sc w1 (HH.out.below HBw1.out) HS.out LF.out LN.out LS.out).mono ?_
        rintro e w2 ⟨v2, rfl, hv2, hb2⟩
        obtain ⟨n2, F2, lf2, fc2, N2, ln2, nc2, S2, ls2, sc2, m2, rfl⟩ := show_ hv2
        have HV2 := Aside0.mk (hv2.lower HB1.out.size)
        have HB2 := Aside0.mk (bthen HB1.out hb2)
        clear hv2 hb2 x0 x1 x2 x3 x4 p0 p1 p2 p3
        go_upto_region 6 with (fail)
        obtain ⟨w3, hw3⟩ : ∃ w3, w3 = w2.alloc (.cells #[.int .i64 n2, .slice F2 lf2 fc2, .slice N2 ln2 nc2, .slice S2 ls2 sc2, .int .i64 m2] 25) := ⟨_, rfl⟩
        obtain ⟨g6, hg6⟩ : ∃ g, g = w2.heap.size := ⟨_, rfl⟩
        obtain ⟨L, hL⟩ := HV2.out.own
        have HO : Aside0 (Own w3 W.heap.size g6 s (.slice F2 lf2 fc2) (.slice N2 ln2 nc2) (.slice S2 ls2 sc2) L) := ⟨by rw [hw3, hg6]; exact hL⟩
        have HB3 : Aside0 (Below W.heap.size W w3) := ⟨by rw [hw3]; exact below_alloc HB2.out _⟩
        have hlow : W.heap.size ≤ g6 := by rw [hg6]; exact HB2.out.size
        rw [← hw3, ← hg6]
        clear hw3 hL HV2 hg6
        obtain ⟨Fx, fcx, Nx, ncx, Sx, scx, e1, e2, e3, hhd⟩ := HO.out.forms
        rw [LF.out] at e1
        rw [LN.out] at e2
        rw [LS.out] at e3
        simp only [Value.slice.injEq] at e1 e2 e3
        obtain ⟨rfl, rfl, rfl⟩ := e1
        obtain ⟨rfl, rfl, rfl⟩ := e2
        obtain ⟨rfl, rfl, rfl⟩ := e3
        have HHd := Aside0.mk hhd
        have HBw3 := Aside0.mk (bthen HB.out HB3.out)
        have HK3 := Aside0.mk (blk_keep HK.out HB3.out)
        have HA3 := Aside0.mk (blk_keep HA.out HB3.out)
        obtain ⟨x0, x1, x2, x3, x4, _, fr1, fr2, fr3, fr4⟩ := all5 HO.out.blk
        obtain ⟨p0, p1, p2, p3, _, _, _, _⟩ := all4 HA3.out
        have hnn : kNm.C w3 N2 ln2 s.names := by rw [← LN.out]; exact hhd.hN
        have HNN := Aside0.mk hnn
        clear hhd hnn
        obtain ⟨ix, hix⟩ := named (findIx s.names a.name)
        go_wp2_with fail
        refine (find_any s.names a.name N2 ln2 nc2 w3 HNN.out hln1).mono ?_
        rw [← hix.out]
        rintro e wz ⟨rfl, rfl⟩
        by_cases hwc : wh = 1
        · skip
          subst hwc
          have hdo : Aside0 (doP s a = createP s a) := ⟨by rw [doP, if_neg (by rw [WH.out]; omega), if_pos WH.out]⟩
          obtain ⟨my, hmy⟩ := named (mayF a.name)
          have CM : ∀ W, Calls Try.prog 60 #[.string a.name] W fun e w' => e = .returned (.bool my) ∧ W = w' := fun W => by rw [hmy.out]; exact may_any a.name W
          cases hm : my with
          | false =>
            have HDP : Aside0 (dp = (31, zSt)) := ⟨by rw [hdp.out]; exact DoP_err HST.out (by rw [hdo.out, createP, if_pos (by rw [← hmy.out]; exact hm)]) (by decide)⟩
            rw [hm] at CM
            clear hm
            go_wp2_with fail
            refine (CM _).mono ?_
            rintro e wz ⟨rfl, rfl⟩
            obtain ⟨z0, z1, z2, z3, z4, f0, f1, f2, f3, f4⟩ := all5 HK3.out
            go_wp2
            refine bodyPost_ret (results_ct rfl _ _ (w.heap.size + 2) 25 #[.int .i64 0, .slice none 0 0, .slice none 0 0, .slice none 0 0, .int .i64 0] (0, 0) _ rfl (blk5 HK3.out) Try.underlying25 rfl (by kernel_rfl)) rfl ?_
            exact ⟨.agg #[.int .i64 0, .slice none 0 0, .slice none 0 0, .slice none 0 0, .int .i64 0], by rw [HDP.out]; rfl, by rw [HDP.out]; exact Rs_zero _ _, below_set5 HBw3.out (by omega) _ _ _ _ _⟩
          | true =>
            rw [hm] at CM
            have HMY : Aside0 (¬ mayF a.name = false) := ⟨by rw [← hmy.out, hm]; decide⟩
            clear hm
            go_wp2_with fail
            refine (CM _).mono ?_
            rintro e wz ⟨rfl, rfl⟩
            rcases findIx_cases s.names a.name with ⟨q1, q2, q3⟩ | ⟨k, n, q1, q2, q3, q4, q5⟩
            · obtain rfl : ix = -1 := by rw [hix.out, q1]
              have HNO := Aside0.mk q2
              clear q1 q2 q3
              by_cases hfull : 256 ≤ lf2 ∨ 2147483647 ≤ s.next
              · have HDP : Aside0 (dp = (51, zSt)) := ⟨by rw [hdp.out]; exact DoP_err HST.out (by rw [hdo.out, createP, if_neg HMY.out, if_neg (by rw [HNO.out]; decide), if_pos (by rw [LF.out]; omega)]) (by decide)⟩
                rcases hfull with hq | hq
                · have hq' : (256 : Int) ≤ (lf2 : Int) := by omega
                  clear hq
                  obtain ⟨z0, z1, z2, z3, z4, f0, f1, f2, f3, f4⟩ := all5 HK3.out
                  go_wp2
                  refine bodyPost_ret (results_ct rfl _ _ (w.heap.size + 2) 25 #[.int .i64 0, .slice none 0 0, .slice none 0 0, .slice none 0 0, .int .i64 0] (0, 0) _ rfl (blk5 HK3.out) Try.underlying25 rfl (by kernel_rfl)) rfl ?_
                  exact ⟨.agg #[.int .i64 0, .slice none 0 0, .slice none 0 0, .slice none 0 0, .int .i64 0], by rw [HDP.out]; rfl, by rw [HDP.out]; exact Rs_zero _ _, below_set5 HBw3.out (by omega) _ _ _ _ _⟩
                · by_cases hq2 : (256 : Int) ≤ (lf2 : Int)
                  · skip
                    obtain ⟨z0, z1, z2, z3, z4, f0, f1, f2, f3, f4⟩ := all5 HK3.out
                    go_wp2
                    refine bodyPost_ret (results_ct rfl _ _ (w.heap.size + 2) 25 #[.int .i64 0, .slice none 0 0, .slice none 0 0, .slice none 0 0, .int .i64 0] (0, 0) _ rfl (blk5 HK3.out) Try.underlying25 rfl (by kernel_rfl)) rfl ?_
                    exact ⟨.agg #[.int .i64 0, .slice none 0 0, .slice none 0 0, .slice none 0 0, .int .i64 0], by rw [HDP.out]; rfl, by rw [HDP.out]; exact Rs_zero _ _, below_set5 HBw3.out (by omega) _ _ _ _ _⟩
                  · skip
                    obtain ⟨z0, z1, z2, z3, z4, f0, f1, f2, f3, f4⟩ := all5 HK3.out
                    go_wp2
                    refine bodyPost_ret (results_ct rfl _ _ (w.heap.size + 2) 25 #[.int .i64 0, .slice none 0 0, .slice none 0 0, .slice none 0 0, .int .i64 0] (0, 0) _ rfl (blk5 HK3.out) Try.underlying25 rfl (by kernel_rfl)) rfl ?_
                    exact ⟨.agg #[.int .i64 0, .slice none 0 0, .slice none 0 0, .slice none 0 0, .int .i64 0], by rw [HDP.out]; rfl, by rw [HDP.out]; exact Rs_zero _ _, below_set5 HBw3.out (by omega) _ _ _ _ _⟩
              · have hq1 : ¬ ((256 : Int) ≤ (lf2 : Int)) := by omega
                have hq2 : ¬ (2147483647 ≤ s.next) := by omega
                have hq3 : s.next ≤ 2147483646 := by omega
                have hq4 : 1 ≤ s.next := HGD.out.hd.n0
                have HDP : Aside0 (dp = (0, { s with names := giveN s.names ⟨a.name, s.next⟩, files := s.files ++ [⟨s.next, [], 0⟩], next := s.next + 1 })) := ⟨by rw [hdp.out]; exact DoP_ok HST.out (by rw [hdo.out, createP, if_neg HMY.out, if_neg (by rw [HNO.out]; decide), if_neg (by rw [LF.out]; omega)])⟩
                clear hfull
                have HLL : Aside0 (L.length = lf2) := ⟨by have := congrArg List.length HO.out.fs; rw [List.length_map] at this; rw [this]; exact LF.out⟩
                have HST2 : Aside0 (∀ W1, w3.grownBy W1 (Value.slice F2 lf2 fc2).ownBlock → W1.heap[g6]? = some (.cells #[.int .i64 s.cap, .slice F2 lf2 fc2, .slice N2 ln2 nc2, .slice S2 ls2 sc2, .int .i64 s.next] 25 (0, 0))) := ⟨fun W1 hg => (hg.block g6 (blk_lt HO.out.blk) (fun e => by obtain ⟨_, _, cs, h3⟩ := HO.out.oF.row.block g6 e.symm; exact type_ne HO.out.blk h3 (by decide) rfl)).trans HO.out.blk⟩
                have hb3s := HB3.out.size
                go_upto_region 15 with (at_builtin; refine Kd.R_append kFd (w0 := W) W.heap.size rfl (.tmp 57) (.tmp 61) 22 106 (.agg #[.int .i64 0, .slice none 0 0, .int .i64 0]) 40 rfl Try.underlying22 infoFl rfl (by decide) (by omega) (.slice F2 lf2 fc2) L (⟨s.next, [], 0⟩, .slice none 0 0) [.int .i64 s.next, .slice none 0 0, .int .i64 0] (fun _ => True) (fun _ => False) rfl rfl ?aP (fun _ hk => hk.elim) (fun _ _ => trivial) ?aO ?aB ?aS ?c1 ?_; (case aP => exact ⟨rfl, rfl⟩); (case aO => have h9 := RFd_of_OF HO.out.oF; rw [← HLL.out] at h9 ⊢; exact h9); (case aB => exact HB3.out); (case aS => exact hb3s); (case c1 => rw [HLL.out]; omega); intro v1 wf hown hB1 hg1 hat; obtain ⟨A6, c6, hv1⟩ := Kd.R_slice hown; rw [List.length_append, HLL.out, List.length_singleton] at hv1; subst hv1; have HO6 := Aside0.mk hown; have HG6 := Aside0.mk hg1; have HB6 := Aside0.mk hB1; obtain ⟨_, b1, _, _, _, _, fb1, _, _, _⟩ := all5 (HST2.out _ hg1); clear hown hB1 hg1 hat)
                have HHA : Aside0 (wf.heap[w.heap.size + 1]? = some (.cells #[.int .i64 1, .string a.name, .string a.dest, .slice D ld dc] 64 (0, 0))) := ⟨blk_keep HA.out HB6.out⟩
                obtain ⟨w5, hw5⟩ : ∃ w5, w5 = wf.setCell ⟨g6, 1, none⟩ (.slice A6 (lf2 + 1) c6) := ⟨_, rfl⟩
                have hown := Own.setFiles (vF' := .slice A6 (lf2 + 1) c6) (L' := L ++ [(⟨s.next, [], 0⟩, .slice none 0 0)]) HO.out HG6.out (CR_of_RFd HO6.out) (fun x hx => by
                  rcases List.mem_append.1 hx with hx | hx
                  · exact RB_step (HO.out.oF.own x hx) (fun k hk => HG6.out.block k (own_lt (HO.out.oF.own x hx) k hk) (fun e => by
                      obtain ⟨_, _, cs, h3⟩ := HO.out.oF.row.block k e.symm
                      obtain ⟨cs', h4⟩ := own_typed (HO.out.oF.own x hx) k hk
                      exact type_ne h4 h3 (by decide) rfl))
                  · rw [List.mem_singleton.1 hx]; exact own_nil _ _ _ _) (by
                  rw [List.filterMap_append]
                  have : ([((⟨s.next, [], 0⟩ : Fl), Value.slice none 0 0)].filterMap fun x => x.2.ownBlock) = [] := rfl
                  rw [this, List.append_nil]
                  exact HO.out.oF.apart)
                have he : (L ++ [((⟨s.next, [], 0⟩ : Fl), Value.slice none 0 0)]).map (·.1) = s.files ++ [⟨s.next, [], 0⟩] := by rw [List.map_append, HO.out.fs]; rfl
                rw [he] at hown
                have HO5 : Aside0 (Own w5 W.heap.size g6 { s with files := s.files ++ [⟨s.next, [], 0⟩] } (.slice A6 (lf2 + 1) c6) (.slice N2 ln2 nc2) (.slice S2 ls2 sc2) (L ++ [(⟨s.next, [], 0⟩, .slice none 0 0)])) := ⟨by rw [hw5]; exact hown⟩
                have HB5 : Aside0 (Below W.heap.size W w5) := ⟨by rw [hw5]; exact HB6.out.setCell hlow _⟩
                rw [← hw5]
                clear hw5 hown he b1 fb1 x0 x1 x2 x3 x4 fr1 fr2 fr3 fr4 p0 p1 p2 p3
                obtain ⟨x0, x1, x2, x3, x4, _, fr1, fr2, fr3, fr4⟩ := all5 HO5.out.blk
                obtain ⟨p0, p1, p2, p3, _, _, _, _⟩ := all4 (blk_keep HA.out HB5.out)
                have hcn : kNm.C w5 N2 ln2 s.names := by
                  obtain ⟨A9, c9, e9, _, hC9⟩ := Kd.R_reads HO5.out.rN
                  injection e9 with e1 e2 e3
                  subst e1
                  have h4 : s.names.length = ln2 := LN.out
                  rw [h4] at hC9
                  exact hC9
                have hln5 : ln2 ≤ 524288 := by have := HGD.out.hd.ln; rw [LN.out] at this; omega
                have CW := Aside0.mk (with_any N2 ln2 nc2 s.names a.name s.next w5 hcn hln5 HGD.out.nm.asc HNO.out)
                clear hcn
                go_wp2_with fail
                refine CW.out.mono ?_
                obtain ⟨gn, hgn⟩ := named (giveN s.names ⟨a.name, s.next⟩)
                rw [← hgn.out]
                rintro e w6 ⟨v6, rfl, hv6, hb6⟩
                obtain ⟨A7, c7, rfl, _⟩ := Kd.R_reads hv6
                have HV6 := Aside0.mk (Kd.R_lower hv6 HB5.out.size)
                have HB7 := Aside0.mk (bthen HB5.out hb6)
                have HO7 := Aside0.mk (HO5.out.below hb6)
                obtain ⟨y0, y1, y2, y3, y4, _, _, f2, _, _⟩ := all5 HO7.out.blk
                clear hv6 hb6 CW x0 x1 x2 x3 x4 fr1 fr2 fr3 fr4 p0 p1 p2 p3
                go_upto_region 16 with (fail)
                obtain ⟨w8, hw8⟩ : ∃ w8, w8 = w6.setCell ⟨g6, 2, none⟩ (.slice A7 gn.length c7) := ⟨_, rfl⟩
                have HO8 : Aside0 (Own w8 W.heap.size g6 { s with files := s.files ++ [⟨s.next, [], 0⟩], names := gn } (.slice A6 (lf2 + 1) c6) (.slice A7 gn.length c7) (.slice S2 ls2 sc2) (L ++ [(⟨s.next, [], 0⟩, .slice none 0 0)])) := ⟨by rw [hw8]; exact HO7.out.putNames HV6.out⟩
                have HB8 : Aside0 (Below W.heap.size W w8) := ⟨by rw [hw8]; exact HB7.out.setCell hlow _⟩
                rw [← hw8]
                clear hw8 y0 y1 y2 y3 y4 f2
                obtain ⟨y0, y1, y2, y3, y4, _, _, _, _, f4⟩ := all5 HO8.out.blk
                go_upto_region 17 with (fail)
                obtain ⟨w9, hw9⟩ : ∃ w9, w9 = w8.setCell ⟨g6, 4, none⟩ (.int .i64 (s.next + 1)) := ⟨_, rfl⟩
                have HO9 : Aside0 (Own w9 W.heap.size g6 { s with files := s.files ++ [⟨s.next, [], 0⟩], names := gn, next := s.next + 1 } (.slice A6 (lf2 + 1) c6) (.slice A7 gn.length c7) (.slice S2 ls2 sc2) (L ++ [(⟨s.next, [], 0⟩, .slice none 0 0)])) := ⟨by rw [hw9]; exact HO8.out.setNext (s.next + 1)⟩
                have HB9 : Aside0 (Below W.heap.size W w9) := ⟨by rw [hw9]; exact HB8.out.setCell hlow _⟩
                rw [← hw9]
                clear hw9 y0 y1 y2 y3 y4 f4
                have HBw9 := Aside0.mk (bthen HB.out HB9.out)
                have HK9 := Aside0.mk (blk_keep HK.out HB9.out)
                have HDP2 : Aside0 (dp = (0, { s with files := s.files ++ [⟨s.next, [], 0⟩], names := gn, next := s.next + 1 })) := ⟨by rw [HDP.out, hgn.out]⟩
                obtain ⟨y0, y1, y2, y3, y4, _, _, _, _, _⟩ := all5 HO9.out.blk
                obtain ⟨z0, z1, z2, z3, z4, f0, f1, f2, f3, f4⟩ := all5 HK9.out
                go_wp2
                refine bodyPost_ret (results_ct rfl _ _ (w.heap.size + 2) 25 #[.int .i64 s.cap, .slice A6 (lf2 + 1) c6, .slice A7 gn.length c7, .slice S2 ls2 sc2, .int .i64 (s.next + 1)] (0, 0) _ rfl (blk5 HK9.out) Try.underlying25 rfl (by kernel_rfl)) rfl ?_
                exact ⟨.agg #[.int .i64 s.cap, .slice A6 (lf2 + 1) c6, .slice A7 gn.length c7, .slice S2 ls2 sc2, .int .i64 (s.next + 1)], by rw [HDP2.out]; rfl, by rw [HDP2.out]; exact (HO9.out.rs.far5 HK9.out _ _ _ _ _).lower (by have := HZ.out; omega), below_set5 HBw9.out (by omega) _ _ _ _ _⟩
            · obtain rfl : ix = (k : Int) := by rw [hix.out, q1]
              have HDP : Aside0 (dp = (6, zSt)) := ⟨by rw [hdp.out]; exact DoP_err HST.out (by rw [hdo.out, createP, if_neg HMY.out, if_pos q4]) (by decide)⟩
              clear q1 q2 q3 q4 q5
              obtain ⟨z0, z1, z2, z3, z4, f0, f1, f2, f3, f4⟩ := all5 HK3.out
              go_wp2
              refine bodyPost_ret (results_ct rfl _ _ (w.heap.size + 2) 25 #[.int .i64 0, .slice none 0 0, .slice none 0 0, .slice none 0 0, .int .i64 0] (0, 0) _ rfl (blk5 HK3.out) Try.underlying25 rfl (by kernel_rfl)) rfl ?_
              exact ⟨.agg #[.int .i64 0, .slice none 0 0, .slice none 0 0, .slice none 0 0, .int .i64 0], by rw [HDP.out]; rfl, by rw [HDP.out]; exact Rs_zero _ _, below_set5 HBw3.out (by omega) _ _ _ _ _⟩
        · exfalso; have := HXW.out; omega
end Go.Proofs.Ytfakfgblaakgdaa.Files.Ref

/- The document's Do, walked: an act of kind 2. (Split by wip/split_refg.py.) -/
namespace Go.Proofs.Ytfakfgblaakgdaa.Files.Ref
set_option linter.unusedVariables false
set_option linter.unusedSimpArgs false
open Go.RowKit Go.Proofs.YtfakfgblaakgdaaW.PrintWords Go.Proofs.YtfakfgblaakgdaaW.PrintLast Go.Proofs.Ytfakfgblaakgdaa.Base Go.Proofs.Ytfakfgblaakgdaa.Cells Go.Proofs.Ytfakfgblaakgdaa.Ints Go.Proofs.Ytfakfgblaakgdaa.Var Go.Proofs.Ytfakfgblaakgdaa.EditPure Go.Proofs.Ytfakfgblaakgdaa.Edit Go.Proofs.Ytfakfgblaakgdaa.Sets Go.Proofs.Ytfakfgblaakgdaa.Wide Go.Proofs.Ytfakfgblaakgdaa.RowsC

set_option maxRecDepth 100000 in
set_option maxHeartbeats 40000000 in
theorem do_2 (s : St) (a : Ac) (F N S D : Option Addr) (fc nc sc dc : Nat) (w : World) (h : Hd w s F fc N nc S sc) (hs : Small s) (hr : ReadsInt w .u8 D a.data.length a.data) (hda : a.data.length ≤ 1048576) (hx : a.what = 2) :
    Calls Try.prog 30 #[.agg #[.int .i64 s.cap, .slice F s.files.length fc, .slice N s.names.length nc, .slice S s.safe.length sc, .int .i64 s.next], acV a D dc] w fun e w' => ∃ v, e = .returned (.tuple #[v, .int .i64 (DoP s a).1]) ∧ Rs w' w.heap.size v (DoP s a).2 ∧ Below w.heap.size w w' := by
  have HH := Aside0.mk h
  have HS := Aside0.mk hs
  have HR := Aside0.mk hr
  obtain ⟨dp, hdp⟩ := named (DoP s a)
  rw [← hdp.out]
  obtain ⟨lf, hlf⟩ : ∃ n, s.files.length = n := ⟨_, rfl⟩
  obtain ⟨ln, hln⟩ : ∃ n, s.names.length = n := ⟨_, rfl⟩
  obtain ⟨ls, hls⟩ : ∃ n, s.safe.length = n := ⟨_, rfl⟩
  obtain ⟨ld, hld⟩ : ∃ n, a.data.length = n := ⟨_, rfl⟩
  have LF := Aside0.mk hlf
  have LN := Aside0.mk hln
  have LS := Aside0.mk hls
  have LD := Aside0.mk hld
  obtain ⟨wh, hwh⟩ : ∃ n, a.what = n := ⟨_, rfl⟩
  have WH := Aside0.mk hwh
  have CA : Aside0 (acV a D dc = .agg #[.int .i64 wh, .string a.name, .string a.dest, .slice D ld dc]) := ⟨by rw [acV, hwh, hld]⟩
  rw [CA.out, hlf, hln, hls]
  rw [hld] at hda
  have hlf1 : lf ≤ 1048576 := by rw [← hlf]; exact hs.lf
  have hln1 : ln ≤ 1048576 := by rw [← hln]; exact hs.ln
  have hls1 : ls ≤ 1048576 := by rw [← hls]; exact hs.ls
  have HXW : Aside0 (wh = 2) := ⟨by rw [← hwh]; exact hx⟩
  clear h hs hr hlf hln hls hld hwh hx
  go_enter Try.func30, Try.ntmps30
  go_upto_region 1 with (fail)
  obtain ⟨W, hW⟩ : ∃ W, W = ((w.alloc (.cells #[.int .i64 s.cap, .slice F lf fc, .slice N ln nc, .slice S ls sc, .int .i64 s.next] 25)).alloc (.cells #[.int .i64 wh, .string a.name, .string a.dest, .slice D ld dc] 64)).alloc (.cells #[.int .i64 0, .slice none 0 0, .slice none 0 0, .slice none 0 0, .int .i64 0] 25) := ⟨_, rfl⟩
  have hk2 : W.heap[w.heap.size]? = some (.cells #[.int .i64 s.cap, .slice F lf fc, .slice N ln nc, .slice S ls sc, .int .i64 s.next] 25 (0, 0)) := by rw [hW]; exact blk_alloc (blk_alloc (blk_new _ _) _) _
  have hk3 : W.heap[w.heap.size + 1]? = some (.cells #[.int .i64 wh, .string a.name, .string a.dest, .slice D ld dc] 64 (0, 0)) := by rw [hW]; exact blk_alloc (blk_new1 _ _ _ _) _
  have hk4 : W.heap[w.heap.size + 2]? = some (.cells #[.int .i64 0, .slice none 0 0, .slice none 0 0, .slice none 0 0, .int .i64 0] 25 (0, 0)) := by
    rw [hW]
    have := blk_new1 (w.alloc (.cells #[.int .i64 s.cap, .slice F lf fc, .slice N ln nc, .slice S ls sc, .int .i64 s.next] 25)) (.cells #[.int .i64 wh, .string a.name, .string a.dest, .slice D ld dc] 64) #[.int .i64 0, .slice none 0 0, .slice none 0 0, .slice none 0 0, .int .i64 0] 25
    rw [show (w.alloc (.cells #[.int .i64 s.cap, .slice F lf fc, .slice N ln nc, .slice S ls sc, .int .i64 s.next] 25)).heap.size = w.heap.size + 1 by simp] at this
    exact this
  have HB : Aside0 (Below w.heap.size w W) := ⟨by rw [hW]; exact below_alloc (below_alloc (below_alloc (Below.refl _ _) _) _) _⟩
  have HZ : Aside0 (W.heap.size = w.heap.size + 3) := ⟨by rw [hW]; simp⟩
  rw [← hW]
  clear hW
  have HJ := Aside0.mk hk2
  have HA := Aside0.mk hk3
  have HK := Aside0.mk hk4
  obtain ⟨x0, x1, x2, x3, x4, _, _, _, _, _⟩ := all5 hk2
  clear hk2 hk3 hk4
  go_wp2_with fail
  refine (check_any s F N S lf fc ln nc ls sc W (HH.out.below HB.out) HS.out LF.out LN.out LS.out).mono ?_
  obtain ⟨E, hE⟩ := named (stE s)
  rw [← hE.out]
  rintro e w1 ⟨rfl, hb1⟩
  have HB1 := Aside0.mk hb1
  have HBw1 := Aside0.mk (bthen HB.out hb1)
  have HK1 := Aside0.mk (blk_keep HK.out hb1)
  have HA1 := Aside0.mk (blk_keep HA.out hb1)
  have HJ1 := Aside0.mk (blk_keep HJ.out hb1)
  clear hb1 x0 x1 x2 x3 x4
  cases hst : stB s with
  | false =>
    obtain rfl : E = 9 := by rw [hE.out, stE, hst]; rfl
    have HDP : Aside0 (dp = (9, zSt)) := ⟨by rw [hdp.out, DoP, if_pos hst]⟩
    clear hst
    obtain ⟨z0, z1, z2, z3, z4, f0, f1, f2, f3, f4⟩ := all5 HK1.out
    go_wp2
    refine bodyPost_ret (results_ct rfl _ _ (w.heap.size + 2) 25 #[.int .i64 0, .slice none 0 0, .slice none 0 0, .slice none 0 0, .int .i64 0] (0, 0) _ rfl (blk5 HK1.out) Try.underlying25 rfl (by kernel_rfl)) rfl ?_
    exact ⟨.agg #[.int .i64 0, .slice none 0 0, .slice none 0 0, .slice none 0 0, .int .i64 0], by rw [HDP.out]; rfl, by rw [HDP.out]; exact Rs_zero _ _, below_set5 HBw1.out (by omega) _ _ _ _ _⟩
  | true =>
    obtain rfl : E = 0 := by rw [hE.out, stE, hst]; rfl
    have HST := Aside0.mk hst
    have HGD : Aside0 (Good s) := ⟨stB_iff.1 hst⟩
    clear hst
    obtain ⟨p0, p1, p2, p3, _, _, _, _⟩ := all4 HA1.out
    by_cases hw1 : wh < 1
    · exfalso; have := HXW.out; omega
    · by_cases hw6 : 6 < wh
      · exfalso; have := HXW.out; omega
      · obtain ⟨x0, x1, x2, x3, x4, _, _, _, _, _⟩ := all5 HJ1.out
        go_wp2_with fail
        refine (own_any s F N S lf fc ln nc ls sc w1 (HH.out.below HBw1.out) HS.out LF.out LN.out LS.out).mono ?_
        rintro e w2 ⟨v2, rfl, hv2, hb2⟩
        obtain ⟨n2, F2, lf2, fc2, N2, ln2, nc2, S2, ls2, sc2, m2, rfl⟩ := show_ hv2
        have HV2 := Aside0.mk (hv2.lower HB1.out.size)
        have HB2 := Aside0.mk (bthen HB1.out hb2)
        clear hv2 hb2 x0 x1 x2 x3 x4 p0 p1 p2 p3
        go_upto_region 6 with (fail)
        obtain ⟨w3, hw3⟩ : ∃ w3, w3 = w2.alloc (.cells #[.int .i64 n2, .slice F2 lf2 fc2, .slice N2 ln2 nc2, .slice S2 ls2 sc2, .int .i64 m2] 25) := ⟨_, rfl⟩
        obtain ⟨g6, hg6⟩ : ∃ g, g = w2.heap.size := ⟨_, rfl⟩
        obtain ⟨L, hL⟩ := HV2.out.own
        have HO : Aside0 (Own w3 W.heap.size g6 s (.slice F2 lf2 fc2) (.slice N2 ln2 nc2) (.slice S2 ls2 sc2) L) := ⟨by rw [hw3, hg6]; exact hL⟩
        have HB3 : Aside0 (Below W.heap.size W w3) := ⟨by rw [hw3]; exact below_alloc HB2.out _⟩
        have hlow : W.heap.size ≤ g6 := by rw [hg6]; exact HB2.out.size
        rw [← hw3, ← hg6]
        clear hw3 hL HV2 hg6
        obtain ⟨Fx, fcx, Nx, ncx, Sx, scx, e1, e2, e3, hhd⟩ := HO.out.forms
        rw [LF.out] at e1
        rw [LN.out] at e2
        rw [LS.out] at e3
        simp only [Value.slice.injEq] at e1 e2 e3
        obtain ⟨rfl, rfl, rfl⟩ := e1
        obtain ⟨rfl, rfl, rfl⟩ := e2
        obtain ⟨rfl, rfl, rfl⟩ := e3
        have HHd := Aside0.mk hhd
        have HBw3 := Aside0.mk (bthen HB.out HB3.out)
        have HK3 := Aside0.mk (blk_keep HK.out HB3.out)
        have HA3 := Aside0.mk (blk_keep HA.out HB3.out)
        obtain ⟨x0, x1, x2, x3, x4, _, fr1, fr2, fr3, fr4⟩ := all5 HO.out.blk
        obtain ⟨p0, p1, p2, p3, _, _, _, _⟩ := all4 HA3.out
        have hnn : kNm.C w3 N2 ln2 s.names := by rw [← LN.out]; exact hhd.hN
        have HNN := Aside0.mk hnn
        clear hhd hnn
        obtain ⟨ix, hix⟩ := named (findIx s.names a.name)
        go_wp2_with fail
        refine (find_any s.names a.name N2 ln2 nc2 w3 HNN.out hln1).mono ?_
        rw [← hix.out]
        rintro e wz ⟨rfl, rfl⟩
        by_cases hwc : wh = 1
        · exfalso; have := HXW.out; omega
        · by_cases hw66 : wh = 6
          · exfalso; have := HXW.out; omega
          · have hw2 : 2 ≤ wh := by omega
            have hw5 : wh ≤ 5 := by omega
            rcases findIx_cases s.names a.name with ⟨q1, q2, q3⟩ | ⟨k, n, q1, q2, q3, q4, q5⟩
            · obtain rfl : ix = -1 := by rw [hix.out, q1]
              have HDP : Aside0 (dp = (71, zSt)) := ⟨by rw [hdp.out]; exact DoP_err HST.out (doP_actE (by rw [WH.out]; exact hw2) (by rw [WH.out]; exact hw5) (by unfold actP; rw [q3])) (by decide)⟩
              clear q1 q2 q3
              obtain ⟨z0, z1, z2, z3, z4, f0, f1, f2, f3, f4⟩ := all5 HK3.out
              go_wp2
              refine bodyPost_ret (results_ct rfl _ _ (w.heap.size + 2) 25 #[.int .i64 0, .slice none 0 0, .slice none 0 0, .slice none 0 0, .int .i64 0] (0, 0) _ rfl (blk5 HK3.out) Try.underlying25 rfl (by kernel_rfl)) rfl ?_
              exact ⟨.agg #[.int .i64 0, .slice none 0 0, .slice none 0 0, .slice none 0 0, .int .i64 0], by rw [HDP.out]; rfl, by rw [HDP.out]; exact Rs_zero _ _, below_set5 HBw3.out (by omega) _ _ _ _ _⟩
            · obtain rfl : ix = (k : Int) := by rw [hix.out, q1]
              have HAW := Aside0.mk (act_what q5)
              have hkl : k < ln2 := by rw [← LN.out]; exact (List.getElem?_eq_some_iff.1 q2).1
              have hkl' : (k : Int) < (ln2 : Int) := by omega
              obtain ⟨kf, f, r1, r2, r3⟩ := fileIx_some (HGD.out.nm.each n (List.mem_of_getElem? q2)).2
              have hkf : kf < lf2 := by rw [← LF.out]; exact (List.getElem?_eq_some_iff.1 r2).1
              have hkf' : (kf : Int) < (lf2 : Int) := by omega
              obtain ⟨ad, hNs, c0, c1⟩ := atNm HNN.out k n q2
              subst hNs
              have HQ2 := Aside0.mk q2
              have HQ3 := Aside0.mk q3
              have HR1 := Aside0.mk r1
              have HR23 := Aside0.mk (And.intro r2 r3)
              have C1 := Aside0.mk c1
              obtain ⟨nid, hnid⟩ : ∃ x, n.id = x := ⟨_, rfl⟩
              have NID := Aside0.mk hnid
              rw [hnid] at c1
              clear q1 q2 q3 q4 q5 r1 r2 r3 c0 hnid
              go_upto_region 23 with (fail)
              go_cut [8] (fun v8 wc => v8 = .int .i64 (kf : Int) ∧ Aside0 (Below w3.heap.size w3 wc))
              case first =>
                have CF : ∀ x : Later w3, Calls Try.prog 64 #[.agg #[.int .i64 s.cap, .slice F2 lf2 fc2, .slice (some ad) ln2 nc2, .slice S2 ls2 sc2, .int .i64 s.next], .int .i64 nid] (wb w3 x) fun e w' => e = .returned (.int .i64 (kf : Int)) ∧ Below (wb w3 x).heap.size (wb w3 x) w' := fun x => by
                  have h1 := file_any s.files nid s.cap s.next F2 (some ad) S2 lf2 fc2 ln2 nc2 ls2 sc2 (wb w3 x) (Kd.C_below (by rw [← LF.out]; exact HHd.out.hF) (wb_below _ x)) hlf1
                  rw [← NID.out, HR1.out, NID.out] at h1
                  exact h1
                have X0 := wb_cell x0
                have X1 := wb_cell x1
                have X2 := wb_cell x2
                have X3 := wb_cell x3
                have X4 := wb_cell x4
                have Y1 := wb_cell c1
                clear x0 x1 x2 x3 x4 fr1 fr2 fr3 fr4 p0 p1 p2 p3 c1
                refine wp_region_wide (by kernel_rfl) (by kernel_rfl) ?_
                repeat (go_big_quiet_step ((go_at_call 64; exact wide_of (CF _))))
                refine wpQuiet_nil ?_
                rintro w' ⟨x, rfl⟩
                go_wp2
                go_meet
                exact ⟨rfl, ⟨wb_below _ x⟩⟩
              case rest =>
                obtain ⟨rfl, HBc⟩ := hcut
                obtain ⟨w4, hw4⟩ : ∃ w4, w4 = wc := ⟨_, rfl⟩
                rw [← hw4] at HBc ⊢
                clear hw4 x0 x1 x2 x3 x4 fr1 fr2 fr3 fr4 p0 p1 p2 p3 c1
                have HB4 := Aside0.mk (bthen HB3.out HBc.out)
                have HO4 := Aside0.mk (HO.out.below HBc.out)
                have HBw4 := Aside0.mk (bthen HB.out HB4.out)
                have HK4 := Aside0.mk (blk_keep HK.out HB4.out)
                have HA4 := Aside0.mk (blk_keep HA.out HB4.out)
                have HN4 := Aside0.mk (Kd.C_below HNN.out HBc.out)
                obtain ⟨x0, x1, x2, x3, x4, _, fr1, fr2, fr3, fr4⟩ := all5 HO4.out.blk
                obtain ⟨p0, p1, p2, p3, _, _, _, _⟩ := all4 HA4.out
                obtain ⟨x, hx, hxf⟩ : ∃ x, L[kf]? = some x ∧ x.1 = f := by
                  have h1 := HR23.out.1
                  rw [← HO.out.fs, List.getElem?_map] at h1
                  exact Option.map_eq_some_iff.1 h1
                have HX0 := Aside0.mk (And.intro hx hxf)
                have hrb := HO4.out.oF.own x (List.mem_of_getElem? hx)
                obtain ⟨Df, dcf, hxv⟩ := own_slice hrb
                obtain ⟨lx, hlx⟩ : ∃ n, x.1.data.length = n := ⟨_, rfl⟩
                rw [hlx] at hxv
                have HXV := Aside0.mk (And.intro hrb (And.intro hxv hlx))
                have hlxm : lx ≤ 1048576 := by
                  have h1 := HS.out.ld f (List.mem_of_getElem? HR23.out.1)
                  rw [← hxf, hlx] at h1; exact h1
                obtain ⟨gF, capF, hAF, hbg, hcm, hrow⟩ : ∃ g cap, Value.slice F2 lf2 fc2 = .slice (some ⟨g, 0, none⟩) (L.map rowF).length cap ∧ W.heap.size ≤ g ∧ cap ≤ 9223372036854775807 ∧ CRow 106 3 w4 g cap (L.map rowF) := by
                  rcases HO4.out.oF.row with ⟨_, h2⟩ | h
                  · rw [List.map_eq_nil_iff] at h2; rw [h2] at hx; simp at hx
                  · exact h
                injection hAF with hA1 hA2 hA3
                subst hA1 hA3
                have HROW := Aside0.mk hrow
                have hrx : (L.map rowF)[kf]? = some (rowF x) := by rw [List.getElem?_map, hx]; rfl
                have d1 : w4.cell? ⟨gF, kf * 3 + 1, none⟩ = some (.slice Df lx dcf) := by have := hrow.cell kf _ hrx 1 (by omega); rw [rowF, hxv] at this; exact this
                have fd1 := hrow.froz (kf * 3 + 1)
                have d2 : w4.cell? ⟨gF, kf * 3 + 2, none⟩ = some (.int .i64 x.1.sync) := hrow.cell kf _ hrx 2 (by omega)
                have fd2 := hrow.froz (kf * 3 + 2)
                have HUP : Aside0 (∀ g : Fl → Fl, updF s.files n.id g = s.files.set kf (g f)) := ⟨fun g => updF_set g HGD.out.fl.asc HR23.out.1 HR23.out.2⟩
                clear hx hxf hrb hxv hlx hrow hrx hA2
                have hcap0 := HGD.out.hd.c0
                have hcap1 := HGD.out.hd.c1
                have hw4s : W.heap.size ≤ w4.heap.size := HB4.out.size
                rcases (by omega : wh = 2 ∨ wh = 3 ∨ wh = 4 ∨ wh = 5) with rfl | rfl | rfl | rfl
                · skip
                  obtain ⟨u, hu⟩ := named (usedF s.files)
                  have hu0 : 0 ≤ u := by rw [hu.out]; exact usedF_nonneg _
                  have hu1 : u ≤ s.cap := by rw [hu.out]; exact HGD.out.hd.us
                  go_upto_region 26 with (fail)
                  go_cut [110] (fun v110 wc => v110 = .bool (decide (s.cap - u < (ld : Int))) ∧ Aside0 (Below w4.heap.size w4 wc))
                  case first =>
                    have CU : ∀ x : Later w4, Calls Try.prog 52 #[.agg #[.int .i64 s.cap, .slice (some ⟨gF, 0, none⟩) lf2 fc2, .slice (some ad) ln2 nc2, .slice S2 ls2 sc2, .int .i64 s.next]] (wb w4 x) fun e w' => e = .returned (.int .i64 u) ∧ Below (wb w4 x).heap.size (wb w4 x) w' := fun x => by
                      rw [hu.out]
                      exact used_any s.files s.cap s.next (some ⟨gF, 0, none⟩) (some ad) S2 lf2 fc2 ln2 nc2 ls2 sc2 (wb w4 x) (Kd.C_below (by rw [← LF.out]; exact HHd.out.hF) (bthen HBc.out (wb_below _ x))) hlf1 HS.out.ld
                    have X0 := wb_cell x0
                    have X1 := wb_cell x1
                    have X2 := wb_cell x2
                    have X3 := wb_cell x3
                    have X4 := wb_cell x4
                    have P3 := wb_cell p3
                    clear x0 x1 x2 x3 x4 fr1 fr2 fr3 fr4 p0 p1 p2 p3 d1 d2 fd1 fd2
                    refine wp_region_wide (by kernel_rfl) (by kernel_rfl) ?_
                    repeat (go_big_quiet_step ((go_at_call 52; exact wide_of (CU _))))
                    refine wpQuiet_nil ?_
                    rintro w' ⟨z, rfl⟩
                    go_wp2_with fail
                    go_meet
                    exact ⟨rfl, ⟨wb_below _ z⟩⟩
                  case rest =>
                    obtain ⟨rfl, HC7⟩ := hcut
                    obtain ⟨W7, hW7⟩ : ∃ W, W = wc := ⟨_, rfl⟩
                    rw [← hW7] at HC7 ⊢
                    clear hW7 x0 x1 x2 x3 x4 fr1 fr2 fr3 fr4 p0 p1 p2 p3
                    have HB7 := Aside0.mk (bthen HB4.out HC7.out)
                    have HO7 := Aside0.mk (HO4.out.below HC7.out)
                    have HBw7 := Aside0.mk (bthen HB.out HB7.out)
                    have HK7 := Aside0.mk (blk_keep HK.out HB7.out)
                    have e1 := pw_cell_below HC7.out d1
                    have e2 := ((bcell HC7.out).2 gF (kf * 3 + 1) HROW.out.lt).trans fd1
                    have hw7s : W.heap.size ≤ W7.heap.size := HB7.out.size
                    clear d1 d2 fd1 fd2
                    by_cases hfl : s.cap - u < (ld : Int)
                    · have HDP : Aside0 (dp = (51, zSt)) := ⟨by rw [hdp.out]; exact DoP_err HST.out (doP_actE (by rw [WH.out]; exact hw2) (by rw [WH.out]; exact hw5) (by rw [HAW.out, WH.out, if_pos rfl, if_pos (by rw [← hu.out, LD.out]; exact hfl)])) (by decide)⟩
                      obtain ⟨z0, z1, z2, z3, z4, f0, f1, f2, f3, f4⟩ := all5 HK7.out
                      go_wp2
                      refine bodyPost_ret (results_ct rfl _ _ (w.heap.size + 2) 25 #[.int .i64 0, .slice none 0 0, .slice none 0 0, .slice none 0 0, .int .i64 0] (0, 0) _ rfl (blk5 HK7.out) Try.underlying25 rfl (by kernel_rfl)) rfl ?_
                      exact ⟨.agg #[.int .i64 0, .slice none 0 0, .slice none 0 0, .slice none 0 0, .int .i64 0], by rw [HDP.out]; rfl, by rw [HDP.out]; exact Rs_zero _ _, below_set5 HBw7.out (by omega) _ _ _ _ _⟩
                    · have HDP : Aside0 (dp = (0, sweepP { s with files := s.files.set kf { x.1 with data := x.1.data ++ a.data } })) := ⟨by
                        rw [hdp.out]
                        exact DoP_ok HST.out (doP_act (by rw [WH.out]; exact hw2) (by rw [WH.out]; exact hw5) (by rw [HAW.out, WH.out, if_pos rfl, if_neg (by rw [← hu.out, LD.out]; exact hfl), HUP.out, HX0.out.2]))⟩
                      obtain ⟨x0, x1, x2, x3, x4, _, fr1, fr2, fr3, fr4⟩ := all5 HO7.out.blk
                      obtain ⟨p0, p1, p2, p3, _, _, _, _⟩ := all4 (blk_keep HA.out HB7.out)
                      go_upto_region 28 with (fail)
                      have HRW : Aside0 ((Kd.int .u8).R 5 W7.drew W.heap.size (fun _ => True) (.slice Df lx dcf) x.1.data) := ⟨by
                        have h1 := RB_below (RB_below HXV.out.1 HC7.out) (below_drew (Below.refl W7.heap.size W7))
                        rw [HXV.out.2.1] at h1
                        exact Kd.R_of_own h1 (fun _ _ => trivial)⟩
                      have HRA : Aside0 ((Kd.int .u8).C W7.drew D ld a.data) := ⟨by
                        have h1 := HR.out.below (bthen HBw7.out (below_drew (Below.refl W7.heap.size W7)))
                        rw [LD.out] at h1
                        exact Kd.C_of_reads (d := (0 : Int)) h1⟩
                      have HGT : Aside0 (∀ W1, W7.drew.grownBy W1 (Value.slice Df lx dcf).ownBlock → W1.cell? ⟨gF, kf * 3 + 1, none⟩ = some (.slice Df lx dcf) ∧ W1.frozen? ⟨gF, kf * 3 + 1, none⟩ = false ∧ W1.cell? ⟨g6, 1, none⟩ = some (.slice (some ⟨gF, 0, none⟩) lf2 fc2)) := ⟨fun W1 hg => by
                        obtain ⟨cs, h3, _⟩ := HROW.out.keep HC7.out
                        have h4 := RB_below HXV.out.1 HC7.out
                        rw [HXV.out.2.1] at h4
                        have hb : W1.heap[gF]? = W7.heap[gF]? := hg.block gF (blk_lt h3) (fun e => by
                          obtain ⟨cs', h5⟩ := own_typed h4 gF e.symm
                          exact type_ne h3 h5 (by decide) rfl)
                        have hb6 : W1.heap[g6]? = W7.heap[g6]? := hg.block g6 (blk_lt HO7.out.blk) (fun e => by
                          obtain ⟨cs', h5⟩ := own_typed h4 g6 e.symm
                          exact type_ne HO7.out.blk h5 (by decide) rfl)
                        exact ⟨(World.cell?_of_block (a := ⟨gF, kf * 3 + 1, none⟩) hb).trans e1, (World.frozen?_of_block (a := ⟨gF, kf * 3 + 1, none⟩) hb).trans e2, (World.cell?_of_block (a := ⟨g6, 1, none⟩) hb6).trans x1⟩⟩
                      have hdw : W.heap.size ≤ W7.drew.heap.size := hw7s
                      have e1' : W7.drew.cell? ⟨gF, kf * 3 + 1, none⟩ = some (.slice Df lx dcf) := e1
                      have p3'' : W7.drew.cell? ⟨w.heap.size + 1, 3, none⟩ = some (.slice D ld dc) := p3
                      have x1'' : W7.drew.cell? ⟨g6, 1, none⟩ = some (.slice (some ⟨gF, 0, none⟩) lf2 fc2) := x1
                      go_region_law (refine Kd.R_append_rows_step (Kd.int .u8) (Rr := (Kd.int .u8).K W7.drew) (w0 := W7.drew) (W := W7.drew) W.heap.size (by rfl) (.tmp 120) (.tmp 122) 62 5 (.int .u8 0) 1 rfl Try.underlying62 infoB rfl (by decide) (by omega) (.slice Df lx dcf) x.1.data a.data D ld dc (fun _ => True) (fun _ => False) rfl rfl ?aO ?aR ?aK (fun _ hk => hk.elim) (fun _ _ => trivial) ?aB ?aS ?c1 ?_; (case aO => exact HRW.out); (case aR => exact HRA.out); (case aK => intro x cs hx; exact hx); (case aB => exact Below.refl _ _); (case aS => exact hdw); (case c1 => rw [HXV.out.2.2]; omega); intro v1 w1 hown hB1 hg1 hat; obtain ⟨A2, c2, hv1⟩ := Kd.R_slice hown; rw [List.length_append, HXV.out.2.2, LD.out] at hv1; subst hv1; obtain ⟨b1, fb1, b6⟩ := HGT.out _ hg1; have HO2 := Aside0.mk hown; have HG2 := Aside0.mk (And.intro hg1 hat); clear hown hB1 hg1 hat)
                      all_goals go_upto_region 39 with (fail)
                      all_goals
                        have hrb : RB w1 W.heap.size (.slice A2 (lx + ld) c2) (x.1.data ++ a.data) := Kd.own_of_R HO2.out
                        have hgx : W7.grownBy w1 x.2.ownBlock := by rw [HXV.out.2.1]; exact grown_trans (grown_drew (grown_refl W7 _)) HG2.out.1
                        have hat : (Value.slice A2 (lx + ld) c2).ownBlock = x.2.ownBlock ∨ ∃ b, (Value.slice A2 (lx + ld) c2).ownBlock = some b ∧ W7.heap.size ≤ b := by rw [HXV.out.2.1]; exact HG2.out.2
                        obtain ⟨wx, hwx⟩ : ∃ wx, wx = w1.setCell ⟨gF, kf * 3 + 1, none⟩ (.slice A2 (lx + ld) c2) := ⟨_, rfl⟩
                        have HX : Aside0 (Own wx W.heap.size g6 { s with files := s.files.set kf { x.1 with data := x.1.data ++ a.data } } (.slice (some ⟨gF, 0, none⟩) lf2 fc2) (.slice (some ad) ln2 nc2) (.slice S2 ls2 sc2) (L.set kf ({ x.1 with data := x.1.data ++ a.data }, .slice A2 (lx + ld) c2))) := ⟨by rw [hwx]; exact Own.setData HO7.out HX0.out.1 hgx hrb hat⟩
                        have HBX : Aside0 (Below W.heap.size W wx) := ⟨by rw [hwx]; exact (below_of_grown HB7.out hgx (fun b hb => own_base HXV.out.1 b hb)).setCell hbg _⟩
                        have HSZ : Aside0 (({ s with files := s.files.set kf { x.1 with data := x.1.data ++ a.data } } : St).files.length ≤ 1048576 ∧ ({ s with files := s.files.set kf { x.1 with data := x.1.data ++ a.data } } : St).names.length ≤ 1048576 ∧ ({ s with files := s.files.set kf { x.1 with data := x.1.data ++ a.data } } : St).safe.length ≤ 1048576) := ⟨⟨by show (s.files.set kf _).length ≤ _; rw [List.length_set, LF.out]; exact hlf1, by show s.names.length ≤ _; rw [LN.out]; exact hln1, by show s.safe.length ≤ _; rw [LS.out]; exact hls1⟩⟩
                        rw [← hwx]
                        clear hwx x0 x1 x2 x3 x4 fr1 fr2 fr3 fr4 p0 p1 p2 p3 e1 e2 e1' p3'' x1'' b1 fb1 b6 hrb hgx hat
                        obtain ⟨y0, y1, y2, y3, y4, _, _, _, _, _⟩ := all5 HX.out.blk
                        have hbx := HBX.out.size
                        go_wp2_with fail
                        refine (swept_any { s with files := s.files.set kf { x.1 with data := x.1.data ++ a.data } } _ W.heap.size wx HX.out.rs hbx HSZ.out.1 HSZ.out.2.1 HSZ.out.2.2).mono ?_
                        obtain ⟨sw, hsw⟩ := named (sweepP { s with files := s.files.set kf { x.1 with data := x.1.data ++ a.data } })
                        rw [← hsw.out]
                        rintro e wy ⟨vy, rfl, hvy, hby⟩
                        obtain ⟨n9, F9, lf9, fc9, N9, ln9, nc9, S9, ls9, sc9, m9, rfl⟩ := show_ hvy
                        have HV := Aside0.mk hvy
                        have HKy := Aside0.mk (blk_keep (blk_keep HK.out HBX.out) hby)
                        have HBy := Aside0.mk (bthen HB.out (bthen HBX.out hby))
                        have HDP2 : Aside0 (dp = (0, sw)) := ⟨by rw [HDP.out, hsw.out]⟩
                        obtain ⟨z0, z1, z2, z3, z4, f0, f1, f2, f3, f4⟩ := all5 HKy.out
                        clear hvy hby y0 y1 y2 y3 y4
                        go_wp2
                        refine bodyPost_ret (results_ct rfl _ _ (w.heap.size + 2) 25 #[.int .i64 n9, .slice F9 lf9 fc9, .slice N9 ln9 nc9, .slice S9 ls9 sc9, .int .i64 m9] (0, 0) _ rfl (blk5 HKy.out) Try.underlying25 rfl (by kernel_rfl)) rfl ?_
                        exact ⟨.agg #[.int .i64 n9, .slice F9 lf9 fc9, .slice N9 ln9 nc9, .slice S9 ls9 sc9, .int .i64 m9], by rw [HDP2.out]; rfl, by rw [HDP2.out]; exact (HV.out.far5 HKy.out _ _ _ _ _).lower (by have := HZ.out; omega), below_set5 HBy.out (by omega) _ _ _ _ _⟩
                · exfalso; have := HXW.out; omega
                · exfalso; have := HXW.out; omega
                · exfalso; have := HXW.out; omega
end Go.Proofs.Ytfakfgblaakgdaa.Files.Ref

/- The document's Do, walked: an act of kind 3. (Split by wip/split_refg.py.) -/
namespace Go.Proofs.Ytfakfgblaakgdaa.Files.Ref
set_option linter.unusedVariables false
set_option linter.unusedSimpArgs false
open Go.RowKit Go.Proofs.YtfakfgblaakgdaaW.PrintWords Go.Proofs.YtfakfgblaakgdaaW.PrintLast Go.Proofs.Ytfakfgblaakgdaa.Base Go.Proofs.Ytfakfgblaakgdaa.Cells Go.Proofs.Ytfakfgblaakgdaa.Ints Go.Proofs.Ytfakfgblaakgdaa.Var Go.Proofs.Ytfakfgblaakgdaa.EditPure Go.Proofs.Ytfakfgblaakgdaa.Edit Go.Proofs.Ytfakfgblaakgdaa.Sets Go.Proofs.Ytfakfgblaakgdaa.Wide Go.Proofs.Ytfakfgblaakgdaa.RowsC

set_option maxRecDepth 100000 in
set_option maxHeartbeats 40000000 in
theorem do_3 (s : St) (a : Ac) (F N S D : Option Addr) (fc nc sc dc : Nat) (w : World) (h : Hd w s F fc N nc S sc) (hs : Small s) (hr : ReadsInt w .u8 D a.data.length a.data) (hda : a.data.length ≤ 1048576) (hx : a.what = 3) :
    Calls Try.prog 30 #[.agg #[.int .i64 s.cap, .slice F s.files.length fc, .slice N s.names.length nc, .slice S s.safe.length sc, .int .i64 s.next], acV a D dc] w fun e w' => ∃ v, e = .returned (.tuple #[v, .int .i64 (DoP s a).1]) ∧ Rs w' w.heap.size v (DoP s a).2 ∧ Below w.heap.size w w' := by
  have HH := Aside0.mk h
  have HS := Aside0.mk hs
  have HR := Aside0.mk hr
  obtain ⟨dp, hdp⟩ := named (DoP s a)
  rw [← hdp.out]
  obtain ⟨lf, hlf⟩ : ∃ n, s.files.length = n := ⟨_, rfl⟩
  obtain ⟨ln, hln⟩ : ∃ n, s.names.length = n := ⟨_, rfl⟩
  obtain ⟨ls, hls⟩ : ∃ n, s.safe.length = n := ⟨_, rfl⟩
  obtain ⟨ld, hld⟩ : ∃ n, a.data.length = n := ⟨_, rfl⟩
  have LF := Aside0.mk hlf
  have LN := Aside0.mk hln
  have LS := Aside0.mk hls
  have LD := Aside0.mk hld
  obtain ⟨wh, hwh⟩ : ∃ n, a.what = n := ⟨_, rfl⟩
  have WH := Aside0.mk hwh
  have CA : Aside0 (acV a D dc = .agg #[.int .i64 wh, .string a.name, .string a.dest, .slice D ld dc]) := ⟨by rw [acV, hwh, hld]⟩
  rw [CA.out, hlf, hln, hls]
  rw [hld] at hda
  have hlf1 : lf ≤ 1048576 := by rw [← hlf]; exact hs.lf
  have hln1 : ln ≤ 1048576 := by rw [← hln]; exact hs.ln
  have hls1 : ls ≤ 1048576 := by rw [← hls]; exact hs.ls
  have HXW : Aside0 (wh = 3) := ⟨by rw [← hwh]; exact hx⟩
  clear h hs hr hlf hln hls hld hwh hx
  go_enter Try.func30, Try.ntmps30
  go_upto_region 1 with (fail)
  obtain ⟨W, hW⟩ : ∃ W, W = ((w.alloc (.cells #[.int .i64 s.cap, .slice F lf fc, .slice N ln nc, .slice S ls sc, .int .i64 s.next] 25)).alloc (.cells #[.int .i64 wh, .string a.name, .string a.dest, .slice D ld dc] 64)).alloc (.cells #[.int .i64 0, .slice none 0 0, .slice none 0 0, .slice none 0 0, .int .i64 0] 25) := ⟨_, rfl⟩
  have hk2 : W.heap[w.heap.size]? = some (.cells #[.int .i64 s.cap, .slice F lf fc, .slice N ln nc, .slice S ls sc, .int .i64 s.next] 25 (0, 0)) := by rw [hW]; exact blk_alloc (blk_alloc (blk_new _ _) _) _
  have hk3 : W.heap[w.heap.size + 1]? = some (.cells #[.int .i64 wh, .string a.name, .string a.dest, .slice D ld dc] 64 (0, 0)) := by rw [hW]; exact blk_alloc (blk_new1 _ _ _ _) _
  have hk4 : W.heap[w.heap.size + 2]? = some (.cells #[.int .i64 0, .slice none 0 0, .slice none 0 0, .slice none 0 0, .int .i64 0] 25 (0, 0)) := by
    rw [hW]
    have := blk_new1 (w.alloc (.cells #[.int .i64 s.cap, .slice F lf fc, .slice N ln nc, .slice S ls sc, .int .i64 s.next] 25)) (.cells #[.int .i64 wh, .string a.name, .string a.dest, .slice D ld dc] 64) #[.int .i64 0, .slice none 0 0, .slice none 0 0, .slice none 0 0, .int .i64 0] 25
    rw [show (w.alloc (.cells #[.int .i64 s.cap, .slice F lf fc, .slice N ln nc, .slice S ls sc, .int .i64 s.next] 25)).heap.size = w.heap.size + 1 by simp] at this
    exact this
  have HB : Aside0 (Below w.heap.size w W) := ⟨by rw [hW]; exact below_alloc (below_alloc (below_alloc (Below.refl _ _) _) _) _⟩
  have HZ : Aside0 (W.heap.size = w.heap.size + 3) := ⟨by rw [hW]; simp⟩
  rw [← hW]
  clear hW
  have HJ := Aside0.mk hk2
  have HA := Aside0.mk hk3
  have HK := Aside0.mk hk4
  obtain ⟨x0, x1, x2, x3, x4, _, _, _, _, _⟩ := all5 hk2
  clear hk2 hk3 hk4
  go_wp2_with fail
  refine (check_any s F N S lf fc ln nc ls sc W (HH.out.below HB.out) HS.out LF.out LN.out LS.out).mono ?_
  obtain ⟨E, hE⟩ := named (stE s)
  rw [← hE.out]
  rintro e w1 ⟨rfl, hb1⟩
  have HB1 := Aside0.mk hb1
  have HBw1 := Aside0.mk (bthen HB.out hb1)
  have HK1 := Aside0.mk (blk_keep HK.out hb1)
  have HA1 := Aside0.mk (blk_keep HA.out hb1)
  have HJ1 := Aside0.mk (blk_keep HJ.out hb1)
  clear hb1 x0 x1 x2 x3 x4
  cases hst : stB s with
  | false =>
    obtain rfl : E = 9 := by rw [hE.out, stE, hst]; rfl
    have HDP : Aside0 (dp = (9, zSt)) := ⟨by rw [hdp.out, DoP, if_pos hst]⟩
    clear hst
    obtain ⟨z0, z1, z2, z3, z4, f0, f1, f2, f3, f4⟩ := all5 HK1.out
    go_wp2
    refine bodyPost_ret (results_ct rfl _ _ (w.heap.size + 2) 25 #[.int .i64 0, .slice none 0 0, .slice none 0 0, .slice none 0 0, .int .i64 0] (0, 0) _ rfl (blk5 HK1.out) Try.underlying25 rfl (by kernel_rfl)) rfl ?_
    exact ⟨.agg #[.int .i64 0, .slice none 0 0, .slice none 0 0, .slice none 0 0, .int .i64 0], by rw [HDP.out]; rfl, by rw [HDP.out]; exact Rs_zero _ _, below_set5 HBw1.out (by omega) _ _ _ _ _⟩
  | true =>
    obtain rfl : E = 0 := by rw [hE.out, stE, hst]; rfl
    have HST := Aside0.mk hst
    have HGD : Aside0 (Good s) := ⟨stB_iff.1 hst⟩
    clear hst
    obtain ⟨p0, p1, p2, p3, _, _, _, _⟩ := all4 HA1.out
    by_cases hw1 : wh < 1
    · exfalso; have := HXW.out; omega
    · by_cases hw6 : 6 < wh
      · exfalso; have := HXW.out; omega
      · obtain ⟨x0, x1, x2, x3, x4, _, _, _, _, _⟩ := all5 HJ1.out
        go_wp2_with fail
        refine (own_any s F N S lf fc ln nc ls sc w1 (HH.out.below HBw1.out) HS.out LF.out LN.out LS.out).mono ?_
        rintro e w2 ⟨v2, rfl, hv2, hb2⟩
        obtain ⟨n2, F2, lf2, fc2, N2, ln2, nc2, S2, ls2, sc2, m2, rfl⟩ := show_ hv2
        have HV2 := Aside0.mk (hv2.lower HB1.out.size)
        have HB2 := Aside0.mk (bthen HB1.out hb2)
        clear hv2 hb2 x0 x1 x2 x3 x4 p0 p1 p2 p3
        go_upto_region 6 with (fail)
        obtain ⟨w3, hw3⟩ : ∃ w3, w3 = w2.alloc (.cells #[.int .i64 n2, .slice F2 lf2 fc2, .slice N2 ln2 nc2, .slice S2 ls2 sc2, .int .i64 m2] 25) := ⟨_, rfl⟩
        obtain ⟨g6, hg6⟩ : ∃ g, g = w2.heap.size := ⟨_, rfl⟩
        obtain ⟨L, hL⟩ := HV2.out.own
        have HO : Aside0 (Own w3 W.heap.size g6 s (.slice F2 lf2 fc2) (.slice N2 ln2 nc2) (.slice S2 ls2 sc2) L) := ⟨by rw [hw3, hg6]; exact hL⟩
        have HB3 : Aside0 (Below W.heap.size W w3) := ⟨by rw [hw3]; exact below_alloc HB2.out _⟩
        have hlow : W.heap.size ≤ g6 := by rw [hg6]; exact HB2.out.size
        rw [← hw3, ← hg6]
        clear hw3 hL HV2 hg6
        obtain ⟨Fx, fcx, Nx, ncx, Sx, scx, e1, e2, e3, hhd⟩ := HO.out.forms
        rw [LF.out] at e1
        rw [LN.out] at e2
        rw [LS.out] at e3
        simp only [Value.slice.injEq] at e1 e2 e3
        obtain ⟨rfl, rfl, rfl⟩ := e1
        obtain ⟨rfl, rfl, rfl⟩ := e2
        obtain ⟨rfl, rfl, rfl⟩ := e3
        have HHd := Aside0.mk hhd
        have HBw3 := Aside0.mk (bthen HB.out HB3.out)
        have HK3 := Aside0.mk (blk_keep HK.out HB3.out)
        have HA3 := Aside0.mk (blk_keep HA.out HB3.out)
        obtain ⟨x0, x1, x2, x3, x4, _, fr1, fr2, fr3, fr4⟩ := all5 HO.out.blk
        obtain ⟨p0, p1, p2, p3, _, _, _, _⟩ := all4 HA3.out
        have hnn : kNm.C w3 N2 ln2 s.names := by rw [← LN.out]; exact hhd.hN
        have HNN := Aside0.mk hnn
        clear hhd hnn
        obtain ⟨ix, hix⟩ := named (findIx s.names a.name)
        go_wp2_with fail
        refine (find_any s.names a.name N2 ln2 nc2 w3 HNN.out hln1).mono ?_
        rw [← hix.out]
        rintro e wz ⟨rfl, rfl⟩
        by_cases hwc : wh = 1
        · exfalso; have := HXW.out; omega
        · by_cases hw66 : wh = 6
          · exfalso; have := HXW.out; omega
          · have hw2 : 2 ≤ wh := by omega
            have hw5 : wh ≤ 5 := by omega
            rcases findIx_cases s.names a.name with ⟨q1, q2, q3⟩ | ⟨k, n, q1, q2, q3, q4, q5⟩
            · obtain rfl : ix = -1 := by rw [hix.out, q1]
              have HDP : Aside0 (dp = (71, zSt)) := ⟨by rw [hdp.out]; exact DoP_err HST.out (doP_actE (by rw [WH.out]; exact hw2) (by rw [WH.out]; exact hw5) (by unfold actP; rw [q3])) (by decide)⟩
              clear q1 q2 q3
              obtain ⟨z0, z1, z2, z3, z4, f0, f1, f2, f3, f4⟩ := all5 HK3.out
              go_wp2
              refine bodyPost_ret (results_ct rfl _ _ (w.heap.size + 2) 25 #[.int .i64 0, .slice none 0 0, .slice none 0 0, .slice none 0 0, .int .i64 0] (0, 0) _ rfl (blk5 HK3.out) Try.underlying25 rfl (by kernel_rfl)) rfl ?_
              exact ⟨.agg #[.int .i64 0, .slice none 0 0, .slice none 0 0, .slice none 0 0, .int .i64 0], by rw [HDP.out]; rfl, by rw [HDP.out]; exact Rs_zero _ _, below_set5 HBw3.out (by omega) _ _ _ _ _⟩
            · obtain rfl : ix = (k : Int) := by rw [hix.out, q1]
              have HAW := Aside0.mk (act_what q5)
              have hkl : k < ln2 := by rw [← LN.out]; exact (List.getElem?_eq_some_iff.1 q2).1
              have hkl' : (k : Int) < (ln2 : Int) := by omega
              obtain ⟨kf, f, r1, r2, r3⟩ := fileIx_some (HGD.out.nm.each n (List.mem_of_getElem? q2)).2
              have hkf : kf < lf2 := by rw [← LF.out]; exact (List.getElem?_eq_some_iff.1 r2).1
              have hkf' : (kf : Int) < (lf2 : Int) := by omega
              obtain ⟨ad, hNs, c0, c1⟩ := atNm HNN.out k n q2
              subst hNs
              have HQ2 := Aside0.mk q2
              have HQ3 := Aside0.mk q3
              have HR1 := Aside0.mk r1
              have HR23 := Aside0.mk (And.intro r2 r3)
              have C1 := Aside0.mk c1
              obtain ⟨nid, hnid⟩ : ∃ x, n.id = x := ⟨_, rfl⟩
              have NID := Aside0.mk hnid
              rw [hnid] at c1
              clear q1 q2 q3 q4 q5 r1 r2 r3 c0 hnid
              go_upto_region 23 with (fail)
              go_cut [8] (fun v8 wc => v8 = .int .i64 (kf : Int) ∧ Aside0 (Below w3.heap.size w3 wc))
              case first =>
                have CF : ∀ x : Later w3, Calls Try.prog 64 #[.agg #[.int .i64 s.cap, .slice F2 lf2 fc2, .slice (some ad) ln2 nc2, .slice S2 ls2 sc2, .int .i64 s.next], .int .i64 nid] (wb w3 x) fun e w' => e = .returned (.int .i64 (kf : Int)) ∧ Below (wb w3 x).heap.size (wb w3 x) w' := fun x => by
                  have h1 := file_any s.files nid s.cap s.next F2 (some ad) S2 lf2 fc2 ln2 nc2 ls2 sc2 (wb w3 x) (Kd.C_below (by rw [← LF.out]; exact HHd.out.hF) (wb_below _ x)) hlf1
                  rw [← NID.out, HR1.out, NID.out] at h1
                  exact h1
                have X0 := wb_cell x0
                have X1 := wb_cell x1
                have X2 := wb_cell x2
                have X3 := wb_cell x3
                have X4 := wb_cell x4
                have Y1 := wb_cell c1
                clear x0 x1 x2 x3 x4 fr1 fr2 fr3 fr4 p0 p1 p2 p3 c1
                refine wp_region_wide (by kernel_rfl) (by kernel_rfl) ?_
                repeat (go_big_quiet_step ((go_at_call 64; exact wide_of (CF _))))
                refine wpQuiet_nil ?_
                rintro w' ⟨x, rfl⟩
                go_wp2
                go_meet
                exact ⟨rfl, ⟨wb_below _ x⟩⟩
              case rest =>
                obtain ⟨rfl, HBc⟩ := hcut
                obtain ⟨w4, hw4⟩ : ∃ w4, w4 = wc := ⟨_, rfl⟩
                rw [← hw4] at HBc ⊢
                clear hw4 x0 x1 x2 x3 x4 fr1 fr2 fr3 fr4 p0 p1 p2 p3 c1
                have HB4 := Aside0.mk (bthen HB3.out HBc.out)
                have HO4 := Aside0.mk (HO.out.below HBc.out)
                have HBw4 := Aside0.mk (bthen HB.out HB4.out)
                have HK4 := Aside0.mk (blk_keep HK.out HB4.out)
                have HA4 := Aside0.mk (blk_keep HA.out HB4.out)
                have HN4 := Aside0.mk (Kd.C_below HNN.out HBc.out)
                obtain ⟨x0, x1, x2, x3, x4, _, fr1, fr2, fr3, fr4⟩ := all5 HO4.out.blk
                obtain ⟨p0, p1, p2, p3, _, _, _, _⟩ := all4 HA4.out
                obtain ⟨x, hx, hxf⟩ : ∃ x, L[kf]? = some x ∧ x.1 = f := by
                  have h1 := HR23.out.1
                  rw [← HO.out.fs, List.getElem?_map] at h1
                  exact Option.map_eq_some_iff.1 h1
                have HX0 := Aside0.mk (And.intro hx hxf)
                have hrb := HO4.out.oF.own x (List.mem_of_getElem? hx)
                obtain ⟨Df, dcf, hxv⟩ := own_slice hrb
                obtain ⟨lx, hlx⟩ : ∃ n, x.1.data.length = n := ⟨_, rfl⟩
                rw [hlx] at hxv
                have HXV := Aside0.mk (And.intro hrb (And.intro hxv hlx))
                have hlxm : lx ≤ 1048576 := by
                  have h1 := HS.out.ld f (List.mem_of_getElem? HR23.out.1)
                  rw [← hxf, hlx] at h1; exact h1
                obtain ⟨gF, capF, hAF, hbg, hcm, hrow⟩ : ∃ g cap, Value.slice F2 lf2 fc2 = .slice (some ⟨g, 0, none⟩) (L.map rowF).length cap ∧ W.heap.size ≤ g ∧ cap ≤ 9223372036854775807 ∧ CRow 106 3 w4 g cap (L.map rowF) := by
                  rcases HO4.out.oF.row with ⟨_, h2⟩ | h
                  · rw [List.map_eq_nil_iff] at h2; rw [h2] at hx; simp at hx
                  · exact h
                injection hAF with hA1 hA2 hA3
                subst hA1 hA3
                have HROW := Aside0.mk hrow
                have hrx : (L.map rowF)[kf]? = some (rowF x) := by rw [List.getElem?_map, hx]; rfl
                have d1 : w4.cell? ⟨gF, kf * 3 + 1, none⟩ = some (.slice Df lx dcf) := by have := hrow.cell kf _ hrx 1 (by omega); rw [rowF, hxv] at this; exact this
                have fd1 := hrow.froz (kf * 3 + 1)
                have d2 : w4.cell? ⟨gF, kf * 3 + 2, none⟩ = some (.int .i64 x.1.sync) := hrow.cell kf _ hrx 2 (by omega)
                have fd2 := hrow.froz (kf * 3 + 2)
                have HUP : Aside0 (∀ g : Fl → Fl, updF s.files n.id g = s.files.set kf (g f)) := ⟨fun g => updF_set g HGD.out.fl.asc HR23.out.1 HR23.out.2⟩
                clear hx hxf hrb hxv hlx hrow hrx hA2
                have hcap0 := HGD.out.hd.c0
                have hcap1 := HGD.out.hd.c1
                have hw4s : W.heap.size ≤ w4.heap.size := HB4.out.size
                rcases (by omega : wh = 2 ∨ wh = 3 ∨ wh = 4 ∨ wh = 5) with rfl | rfl | rfl | rfl
                · exfalso; have := HXW.out; omega
                · skip
                  have HDP : Aside0 (dp = (0, sweepP { s with files := s.files.set kf { x.1 with sync := (lx : Int) } })) := ⟨by
                    rw [hdp.out]
                    exact DoP_ok HST.out (doP_act (by rw [WH.out]; exact hw2) (by rw [WH.out]; exact hw5) (by rw [HAW.out, WH.out, if_neg (by decide), if_pos rfl, HUP.out, HX0.out.2, ← HXV.out.2.2, HX0.out.2]))⟩
                  go_upto_region 30 with (fail)
                  have e1' : w4.drew.cell? ⟨gF, kf * 3 + 1, none⟩ = some (.slice Df lx dcf) := d1
                  have x1'' : w4.drew.cell? ⟨g6, 1, none⟩ = some (.slice (some ⟨gF, 0, none⟩) lf2 fc2) := x1
                  have d2'' : w4.drew.cell? ⟨gF, kf * 3 + 2, none⟩ = some (.int .i64 x.1.sync) := d2
                  go_region_law (fail)
                  all_goals go_upto_region 39 with (fail)
                  all_goals
                    obtain ⟨wx, hwx⟩ : ∃ wx, wx = (w4.setCell ⟨gF, kf * 3 + 2, none⟩ (.int .i64 (lx : Int))).drew := ⟨_, rfl⟩
                    have HX : Aside0 (Own wx W.heap.size g6 { s with files := s.files.set kf { x.1 with sync := (lx : Int) } } (.slice (some ⟨gF, 0, none⟩) lf2 fc2) (.slice (some ad) ln2 nc2) (.slice S2 ls2 sc2) (L.set kf ({ x.1 with sync := (lx : Int) }, x.2))) := ⟨by rw [hwx]; exact (HO4.out.setSync lx HX0.out.1).below (below_drew (Below.refl _ _))⟩
                    have HBX : Aside0 (Below W.heap.size W wx) := ⟨by rw [hwx]; exact below_drew (HB4.out.setCell hbg _)⟩
                    have HSZ : Aside0 (({ s with files := s.files.set kf { x.1 with sync := (lx : Int) } } : St).files.length ≤ 1048576 ∧ ({ s with files := s.files.set kf { x.1 with sync := (lx : Int) } } : St).names.length ≤ 1048576 ∧ ({ s with files := s.files.set kf { x.1 with sync := (lx : Int) } } : St).safe.length ≤ 1048576) := ⟨⟨by show (s.files.set kf _).length ≤ _; rw [List.length_set, LF.out]; exact hlf1, by show s.names.length ≤ _; rw [LN.out]; exact hln1, by show s.safe.length ≤ _; rw [LS.out]; exact hls1⟩⟩
                    rw [← hwx]
                    clear hwx x0 x1 x2 x3 x4 fr1 fr2 fr3 fr4 p0 p1 p2 p3 d1 d2 fd1 fd2 e1' x1'' d2''
                    obtain ⟨y0, y1, y2, y3, y4, _, _, _, _, _⟩ := all5 HX.out.blk
                    have hbx := HBX.out.size
                    go_wp2_with fail
                    refine (swept_any { s with files := s.files.set kf { x.1 with sync := (lx : Int) } } _ W.heap.size wx HX.out.rs hbx HSZ.out.1 HSZ.out.2.1 HSZ.out.2.2).mono ?_
                    obtain ⟨sw, hsw⟩ := named (sweepP { s with files := s.files.set kf { x.1 with sync := (lx : Int) } })
                    rw [← hsw.out]
                    rintro e wy ⟨vy, rfl, hvy, hby⟩
                    obtain ⟨n9, F9, lf9, fc9, N9, ln9, nc9, S9, ls9, sc9, m9, rfl⟩ := show_ hvy
                    have HV := Aside0.mk hvy
                    have HKy := Aside0.mk (blk_keep (blk_keep HK.out HBX.out) hby)
                    have HBy := Aside0.mk (bthen HB.out (bthen HBX.out hby))
                    have HDP2 : Aside0 (dp = (0, sw)) := ⟨by rw [HDP.out, hsw.out]⟩
                    obtain ⟨z0, z1, z2, z3, z4, f0, f1, f2, f3, f4⟩ := all5 HKy.out
                    clear hvy hby y0 y1 y2 y3 y4
                    go_wp2
                    refine bodyPost_ret (results_ct rfl _ _ (w.heap.size + 2) 25 #[.int .i64 n9, .slice F9 lf9 fc9, .slice N9 ln9 nc9, .slice S9 ls9 sc9, .int .i64 m9] (0, 0) _ rfl (blk5 HKy.out) Try.underlying25 rfl (by kernel_rfl)) rfl ?_
                    exact ⟨.agg #[.int .i64 n9, .slice F9 lf9 fc9, .slice N9 ln9 nc9, .slice S9 ls9 sc9, .int .i64 m9], by rw [HDP2.out]; rfl, by rw [HDP2.out]; exact (HV.out.far5 HKy.out _ _ _ _ _).lower (by have := HZ.out; omega), below_set5 HBy.out (by omega) _ _ _ _ _⟩
                · exfalso; have := HXW.out; omega
                · exfalso; have := HXW.out; omega
end Go.Proofs.Ytfakfgblaakgdaa.Files.Ref

/- The document's Do, walked: an act of kind 4. (Split by wip/split_refg.py.) -/
namespace Go.Proofs.Ytfakfgblaakgdaa.Files.Ref
set_option linter.unusedVariables false
set_option linter.unusedSimpArgs false
open Go.RowKit Go.Proofs.YtfakfgblaakgdaaW.PrintWords Go.Proofs.YtfakfgblaakgdaaW.PrintLast Go.Proofs.Ytfakfgblaakgdaa.Base Go.Proofs.Ytfakfgblaakgdaa.Cells Go.Proofs.Ytfakfgblaakgdaa.Ints Go.Proofs.Ytfakfgblaakgdaa.Var Go.Proofs.Ytfakfgblaakgdaa.EditPure Go.Proofs.Ytfakfgblaakgdaa.Edit Go.Proofs.Ytfakfgblaakgdaa.Sets Go.Proofs.Ytfakfgblaakgdaa.Wide Go.Proofs.Ytfakfgblaakgdaa.RowsC

set_option maxRecDepth 100000 in
set_option maxHeartbeats 40000000 in
theorem do_4 (s : St) (a : Ac) (F N S D : Option Addr) (fc nc sc dc : Nat) (w : World) (h : Hd w s F fc N nc S sc) (hs : Small s) (hr : ReadsInt w .u8 D a.data.length a.data) (hda : a.data.length ≤ 1048576) (hx : a.what = 4) :
    Calls Try.prog 30 #[.agg #[.int .i64 s.cap, .slice F s.files.length fc, .slice N s.names.length nc, .slice S s.safe.length sc, .int .i64 s.next], acV a D dc] w fun e w' => ∃ v, e = .returned (.tuple #[v, .int .i64 (DoP s a).1]) ∧ Rs w' w.heap.size v (DoP s a).2 ∧ Below w.heap.size w w' := by
  have HH := Aside0.mk h
  have HS := Aside0.mk hs
  have HR := Aside0.mk hr
  obtain ⟨dp, hdp⟩ := named (DoP s a)
  rw [← hdp.out]
  obtain ⟨lf, hlf⟩ : ∃ n, s.files.length = n := ⟨_, rfl⟩
  obtain ⟨ln, hln⟩ : ∃ n, s.names.length = n := ⟨_, rfl⟩
  obtain ⟨ls, hls⟩ : ∃ n, s.safe.length = n := ⟨_, rfl⟩
  obtain ⟨ld, hld⟩ : ∃ n, a.data.length = n := ⟨_, rfl⟩
  have LF := Aside0.mk hlf
  have LN := Aside0.mk hln
  have LS := Aside0.mk hls
  have LD := Aside0.mk hld
  obtain ⟨wh, hwh⟩ : ∃ n, a.what = n := ⟨_, rfl⟩
  have WH := Aside0.mk hwh
  have CA : Aside0 (acV a D dc = .agg #[.int .i64 wh, .string a.name, .string a.dest, .slice D ld dc]) := ⟨by rw [acV, hwh, hld]⟩
  rw [CA.out, hlf, hln, hls]
  rw [hld] at hda
  have hlf1 : lf ≤ 1048576 := by rw [← hlf]; exact hs.lf
  have hln1 : ln ≤ 1048576 := by rw [← hln]; exact hs.ln
  have hls1 : ls ≤ 1048576 := by rw [← hls]; exact hs.ls
  have HXW : Aside0 (wh = 4) := ⟨by rw [← hwh]; exact hx⟩
  clear h hs hr hlf hln hls hld hwh hx
  go_enter Try.func30, Try.ntmps30
  go_upto_region 1 with (fail)
  obtain ⟨W, hW⟩ : ∃ W, W = ((w.alloc (.cells #[.int .i64 s.cap, .slice F lf fc, .slice N ln nc, .slice S ls sc, .int .i64 s.next] 25)).alloc (.cells #[.int .i64 wh, .string a.name, .string a.dest, .slice D ld dc] 64)).alloc (.cells #[.int .i64 0, .slice none 0 0, .slice none 0 0, .slice none 0 0, .int .i64 0] 25) := ⟨_, rfl⟩
  have hk2 : W.heap[w.heap.size]? = some (.cells #[.int .i64 s.cap, .slice F lf fc, .slice N ln nc, .slice S ls sc, .int .i64 s.next] 25 (0, 0)) := by rw [hW]; exact blk_alloc (blk_alloc (blk_new _ _) _) _
  have hk3 : W.heap[w.heap.size + 1]? = some (.cells #[.int .i64 wh, .string a.name, .string a.dest, .slice D ld dc] 64 (0, 0)) := by rw [hW]; exact blk_alloc (blk_new1 _ _ _ _) _
  have hk4 : W.heap[w.heap.size + 2]? = some (.cells #[.int .i64 0, .slice none 0 0, .slice none 0 0, .slice none 0 0, .int .i64 0] 25 (0, 0)) := by
    rw [hW]
    have := blk_new1 (w.alloc (.cells #[.int .i64 s.cap, .slice F lf fc, .slice N ln nc, .slice S ls sc, .int .i64 s.next] 25)) (.cells #[.int .i64 wh, .string a.name, .string a.dest, .slice D ld dc] 64) #[.int .i64 0, .slice none 0 0, .slice none 0 0, .slice none 0 0, .int .i64 0] 25
    rw [show (w.alloc (.cells #[.int .i64 s.cap, .slice F lf fc, .slice N ln nc, .slice S ls sc, .int .i64 s.next] 25)).heap.size = w.heap.size + 1 by simp] at this
    exact this
  have HB : Aside0 (Below w.heap.size w W) := ⟨by rw [hW]; exact below_alloc (below_alloc (below_alloc (Below.refl _ _) _) _) _⟩
  have HZ : Aside0 (W.heap.size = w.heap.size + 3) := ⟨by rw [hW]; simp⟩
  rw [← hW]
  clear hW
  have HJ := Aside0.mk hk2
  have HA := Aside0.mk hk3
  have HK := Aside0.mk hk4
  obtain ⟨x0, x1, x2, x3, x4, _, _, _, _, _⟩ := all5 hk2
  clear hk2 hk3 hk4
  go_wp2_with fail
  refine (check_any s F N S lf fc ln nc ls sc W (HH.out.below HB.out) HS.out LF.out LN.out LS.out).mono ?_
  obtain ⟨E, hE⟩ := named (stE s)
  rw [← hE.out]
  rintro e w1 ⟨rfl, hb1⟩
  have HB1 := Aside0.mk hb1
  have HBw1 := Aside0.mk (bthen HB.out hb1)
  have HK1 := Aside0.mk (blk_keep HK.out hb1)
  have HA1 := Aside0.mk (blk_keep HA.out hb1)
  have HJ1 := Aside0.mk (blk_keep HJ.out hb1)
  clear hb1 x0 x1 x2 x3 x4
  cases hst : stB s with
  | false =>
    obtain rfl : E = 9 := by rw [hE.out, stE, hst]; rfl
    have HDP : Aside0 (dp = (9, zSt)) := ⟨by rw [hdp.out, DoP, if_pos hst]⟩
    clear hst
    obtain ⟨z0, z1, z2, z3, z4, f0, f1, f2, f3, f4⟩ := all5 HK1.out
    go_wp2
    refine bodyPost_ret (results_ct rfl _ _ (w.heap.size + 2) 25 #[.int .i64 0, .slice none 0 0, .slice none 0 0, .slice none 0 0, .int .i64 0] (0, 0) _ rfl (blk5 HK1.out) Try.underlying25 rfl (by kernel_rfl)) rfl ?_
    exact ⟨.agg #[.int .i64 0, .slice none 0 0, .slice none 0 0, .slice none 0 0, .int .i64 0], by rw [HDP.out]; rfl, by rw [HDP.out]; exact Rs_zero _ _, below_set5 HBw1.out (by omega) _ _ _ _ _⟩
  | true =>
    obtain rfl : E = 0 := by rw [hE.out, stE, hst]; rfl
    have HST := Aside0.mk hst
    have HGD : Aside0 (Good s) := ⟨stB_iff.1 hst⟩
    clear hst
    obtain ⟨p0, p1, p2, p3, _, _, _, _⟩ := all4 HA1.out
    by_cases hw1 : wh < 1
    · exfalso; have := HXW.out; omega
    · by_cases hw6 : 6 < wh
      · exfalso; have := HXW.out; omega
      · obtain ⟨x0, x1, x2, x3, x4, _, _, _, _, _⟩ := all5 HJ1.out
        go_wp2_with fail
        refine (own_any s F N S lf fc ln nc ls sc w1 (HH.out.below HBw1.out) HS.out LF.out LN.out LS.out).mono ?_
        rintro e w2 ⟨v2, rfl, hv2, hb2⟩
        obtain ⟨n2, F2, lf2, fc2, N2, ln2, nc2, S2, ls2, sc2, m2, rfl⟩ := show_ hv2
        have HV2 := Aside0.mk (hv2.lower HB1.out.size)
        have HB2 := Aside0.mk (bthen HB1.out hb2)
        clear hv2 hb2 x0 x1 x2 x3 x4 p0 p1 p2 p3
        go_upto_region 6 with (fail)
        obtain ⟨w3, hw3⟩ : ∃ w3, w3 = w2.alloc (.cells #[.int .i64 n2, .slice F2 lf2 fc2, .slice N2 ln2 nc2, .slice S2 ls2 sc2, .int .i64 m2] 25) := ⟨_, rfl⟩
        obtain ⟨g6, hg6⟩ : ∃ g, g = w2.heap.size := ⟨_, rfl⟩
        obtain ⟨L, hL⟩ := HV2.out.own
        have HO : Aside0 (Own w3 W.heap.size g6 s (.slice F2 lf2 fc2) (.slice N2 ln2 nc2) (.slice S2 ls2 sc2) L) := ⟨by rw [hw3, hg6]; exact hL⟩
        have HB3 : Aside0 (Below W.heap.size W w3) := ⟨by rw [hw3]; exact below_alloc HB2.out _⟩
        have hlow : W.heap.size ≤ g6 := by rw [hg6]; exact HB2.out.size
        rw [← hw3, ← hg6]
        clear hw3 hL HV2 hg6
        obtain ⟨Fx, fcx, Nx, ncx, Sx, scx, e1, e2, e3, hhd⟩ := HO.out.forms
        rw [LF.out] at e1
        rw [LN.out] at e2
        rw [LS.out] at e3
        simp only [Value.slice.injEq] at e1 e2 e3
        obtain ⟨rfl, rfl, rfl⟩ := e1
        obtain ⟨rfl, rfl, rfl⟩ := e2
        obtain ⟨rfl, rfl, rfl⟩ := e3
        have HHd := Aside0.mk hhd
        have HBw3 := Aside0.mk (bthen HB.out HB3.out)
        have HK3 := Aside0.mk (blk_keep HK.out HB3.out)
        have HA3 := Aside0.mk (blk_keep HA.out HB3.out)
        obtain ⟨x0, x1, x2, x3, x4, _, fr1, fr2, fr3, fr4⟩ := all5 HO.out.blk
        obtain ⟨p0, p1, p2, p3, _, _, _, _⟩ := all4 HA3.out
        have hnn : kNm.C w3 N2 ln2 s.names := by rw [← LN.out]; exact hhd.hN
        have HNN := Aside0.mk hnn
        clear hhd hnn
        obtain ⟨ix, hix⟩ := named (findIx s.names a.name)
        go_wp2_with fail
        refine (find_any s.names a.name N2 ln2 nc2 w3 HNN.out hln1).mono ?_
        rw [← hix.out]
        rintro e wz ⟨rfl, rfl⟩
        by_cases hwc : wh = 1
        · exfalso; have := HXW.out; omega
        · by_cases hw66 : wh = 6
          · exfalso; have := HXW.out; omega
          · have hw2 : 2 ≤ wh := by omega
            have hw5 : wh ≤ 5 := by omega
            rcases findIx_cases s.names a.name with ⟨q1, q2, q3⟩ | ⟨k, n, q1, q2, q3, q4, q5⟩
            · obtain rfl : ix = -1 := by rw [hix.out, q1]
              have HDP : Aside0 (dp = (71, zSt)) := ⟨by rw [hdp.out]; exact DoP_err HST.out (doP_actE (by rw [WH.out]; exact hw2) (by rw [WH.out]; exact hw5) (by unfold actP; rw [q3])) (by decide)⟩
              clear q1 q2 q3
              obtain ⟨z0, z1, z2, z3, z4, f0, f1, f2, f3, f4⟩ := all5 HK3.out
              go_wp2
              refine bodyPost_ret (results_ct rfl _ _ (w.heap.size + 2) 25 #[.int .i64 0, .slice none 0 0, .slice none 0 0, .slice none 0 0, .int .i64 0] (0, 0) _ rfl (blk5 HK3.out) Try.underlying25 rfl (by kernel_rfl)) rfl ?_
              exact ⟨.agg #[.int .i64 0, .slice none 0 0, .slice none 0 0, .slice none 0 0, .int .i64 0], by rw [HDP.out]; rfl, by rw [HDP.out]; exact Rs_zero _ _, below_set5 HBw3.out (by omega) _ _ _ _ _⟩
            · obtain rfl : ix = (k : Int) := by rw [hix.out, q1]
              have HAW := Aside0.mk (act_what q5)
              have hkl : k < ln2 := by rw [← LN.out]; exact (List.getElem?_eq_some_iff.1 q2).1
              have hkl' : (k : Int) < (ln2 : Int) := by omega
              obtain ⟨kf, f, r1, r2, r3⟩ := fileIx_some (HGD.out.nm.each n (List.mem_of_getElem? q2)).2
              have hkf : kf < lf2 := by rw [← LF.out]; exact (List.getElem?_eq_some_iff.1 r2).1
              have hkf' : (kf : Int) < (lf2 : Int) := by omega
              obtain ⟨ad, hNs, c0, c1⟩ := atNm HNN.out k n q2
              subst hNs
              have HQ2 := Aside0.mk q2
              have HQ3 := Aside0.mk q3
              have HR1 := Aside0.mk r1
              have HR23 := Aside0.mk (And.intro r2 r3)
              have C1 := Aside0.mk c1
              obtain ⟨nid, hnid⟩ : ∃ x, n.id = x := ⟨_, rfl⟩
              have NID := Aside0.mk hnid
              rw [hnid] at c1
              clear q1 q2 q3 q4 q5 r1 r2 r3 c0 hnid
              go_upto_region 23 with (fail)
              go_cut [8] (fun v8 wc => v8 = .int .i64 (kf : Int) ∧ Aside0 (Below w3.heap.size w3 wc))
              case first =>
                have CF : ∀ x : Later w3, Calls Try.prog 64 #[.agg #[.int .i64 s.cap, .slice F2 lf2 fc2, .slice (some ad) ln2 nc2, .slice S2 ls2 sc2, .int .i64 s.next], .int .i64 nid] (wb w3 x) fun e w' => e = .returned (.int .i64 (kf : Int)) ∧ Below (wb w3 x).heap.size (wb w3 x) w' := fun x => by
                  have h1 := file_any s.files nid s.cap s.next F2 (some ad) S2 lf2 fc2 ln2 nc2 ls2 sc2 (wb w3 x) (Kd.C_below (by rw [← LF.out]; exact HHd.out.hF) (wb_below _ x)) hlf1
                  rw [← NID.out, HR1.out, NID.out] at h1
                  exact h1
                have X0 := wb_cell x0
                have X1 := wb_cell x1
                have X2 := wb_cell x2
                have X3 := wb_cell x3
                have X4 := wb_cell x4
                have Y1 := wb_cell c1
                clear x0 x1 x2 x3 x4 fr1 fr2 fr3 fr4 p0 p1 p2 p3 c1
                refine wp_region_wide (by kernel_rfl) (by kernel_rfl) ?_
                repeat (go_big_quiet_step ((go_at_call 64; exact wide_of (CF _))))
                refine wpQuiet_nil ?_
                rintro w' ⟨x, rfl⟩
                go_wp2
                go_meet
                exact ⟨rfl, ⟨wb_below _ x⟩⟩
              case rest =>
                obtain ⟨rfl, HBc⟩ := hcut
                obtain ⟨w4, hw4⟩ : ∃ w4, w4 = wc := ⟨_, rfl⟩
                rw [← hw4] at HBc ⊢
                clear hw4 x0 x1 x2 x3 x4 fr1 fr2 fr3 fr4 p0 p1 p2 p3 c1
                have HB4 := Aside0.mk (bthen HB3.out HBc.out)
                have HO4 := Aside0.mk (HO.out.below HBc.out)
                have HBw4 := Aside0.mk (bthen HB.out HB4.out)
                have HK4 := Aside0.mk (blk_keep HK.out HB4.out)
                have HA4 := Aside0.mk (blk_keep HA.out HB4.out)
                have HN4 := Aside0.mk (Kd.C_below HNN.out HBc.out)
                obtain ⟨x0, x1, x2, x3, x4, _, fr1, fr2, fr3, fr4⟩ := all5 HO4.out.blk
                obtain ⟨p0, p1, p2, p3, _, _, _, _⟩ := all4 HA4.out
                obtain ⟨x, hx, hxf⟩ : ∃ x, L[kf]? = some x ∧ x.1 = f := by
                  have h1 := HR23.out.1
                  rw [← HO.out.fs, List.getElem?_map] at h1
                  exact Option.map_eq_some_iff.1 h1
                have HX0 := Aside0.mk (And.intro hx hxf)
                have hrb := HO4.out.oF.own x (List.mem_of_getElem? hx)
                obtain ⟨Df, dcf, hxv⟩ := own_slice hrb
                obtain ⟨lx, hlx⟩ : ∃ n, x.1.data.length = n := ⟨_, rfl⟩
                rw [hlx] at hxv
                have HXV := Aside0.mk (And.intro hrb (And.intro hxv hlx))
                have hlxm : lx ≤ 1048576 := by
                  have h1 := HS.out.ld f (List.mem_of_getElem? HR23.out.1)
                  rw [← hxf, hlx] at h1; exact h1
                obtain ⟨gF, capF, hAF, hbg, hcm, hrow⟩ : ∃ g cap, Value.slice F2 lf2 fc2 = .slice (some ⟨g, 0, none⟩) (L.map rowF).length cap ∧ W.heap.size ≤ g ∧ cap ≤ 9223372036854775807 ∧ CRow 106 3 w4 g cap (L.map rowF) := by
                  rcases HO4.out.oF.row with ⟨_, h2⟩ | h
                  · rw [List.map_eq_nil_iff] at h2; rw [h2] at hx; simp at hx
                  · exact h
                injection hAF with hA1 hA2 hA3
                subst hA1 hA3
                have HROW := Aside0.mk hrow
                have hrx : (L.map rowF)[kf]? = some (rowF x) := by rw [List.getElem?_map, hx]; rfl
                have d1 : w4.cell? ⟨gF, kf * 3 + 1, none⟩ = some (.slice Df lx dcf) := by have := hrow.cell kf _ hrx 1 (by omega); rw [rowF, hxv] at this; exact this
                have fd1 := hrow.froz (kf * 3 + 1)
                have d2 : w4.cell? ⟨gF, kf * 3 + 2, none⟩ = some (.int .i64 x.1.sync) := hrow.cell kf _ hrx 2 (by omega)
                have fd2 := hrow.froz (kf * 3 + 2)
                have HUP : Aside0 (∀ g : Fl → Fl, updF s.files n.id g = s.files.set kf (g f)) := ⟨fun g => updF_set g HGD.out.fl.asc HR23.out.1 HR23.out.2⟩
                clear hx hxf hrb hxv hlx hrow hrx hA2
                have hcap0 := HGD.out.hd.c0
                have hcap1 := HGD.out.hd.c1
                have hw4s : W.heap.size ≤ w4.heap.size := HB4.out.size
                rcases (by omega : wh = 2 ∨ wh = 3 ∨ wh = 4 ∨ wh = 5) with rfl | rfl | rfl | rfl
                · exfalso; have := HXW.out; omega
                · exfalso; have := HXW.out; omega
                · skip
                  obtain ⟨md, hmd⟩ := named (mayF a.dest)
                  have CM : ∀ W, Calls Try.prog 60 #[.string a.dest] W fun e w' => e = .returned (.bool md) ∧ W = w' := fun W => by rw [hmd.out]; exact may_any a.dest W
                  go_wp2_with fail
                  refine (CM _).mono ?_
                  rintro e wz ⟨rfl, rfl⟩
                  cases hm : md with
                  | false =>
                    have HDP : Aside0 (dp = (31, zSt)) := ⟨by rw [hdp.out]; exact DoP_err HST.out (doP_actE (by rw [WH.out]; exact hw2) (by rw [WH.out]; exact hw5) (by rw [HAW.out, WH.out, if_neg (by decide), if_neg (by decide), if_pos rfl, if_pos (by rw [← hmd.out]; exact hm)])) (by decide)⟩
                    rw [hm] at CM
                    clear hm
                    obtain ⟨z0, z1, z2, z3, z4, f0, f1, f2, f3, f4⟩ := all5 HK4.out
                    go_wp2
                    refine bodyPost_ret (results_ct rfl _ _ (w.heap.size + 2) 25 #[.int .i64 0, .slice none 0 0, .slice none 0 0, .slice none 0 0, .int .i64 0] (0, 0) _ rfl (blk5 HK4.out) Try.underlying25 rfl (by kernel_rfl)) rfl ?_
                    exact ⟨.agg #[.int .i64 0, .slice none 0 0, .slice none 0 0, .slice none 0 0, .int .i64 0], by rw [HDP.out]; rfl, by rw [HDP.out]; exact Rs_zero _ _, below_set5 HBw4.out (by omega) _ _ _ _ _⟩
                  | true =>
                    have HDP0 : Aside0 (dp = (0, sweepP { s with names := giveN (withoutN s.names a.name) ⟨a.dest, n.id⟩ })) := ⟨by rw [hdp.out]; exact DoP_ok HST.out (doP_act (by rw [WH.out]; exact hw2) (by rw [WH.out]; exact hw5) (by rw [HAW.out, WH.out, if_neg (by decide), if_neg (by decide), if_pos rfl, if_neg (by rw [← hmd.out, hm]; decide)]))⟩
                    have HRN : Aside0 (renR s.names a.name a.dest n.id = giveN (withoutN s.names a.name) ⟨a.dest, n.id⟩) := ⟨ren_eq HGD.out.nm.asc (List.mem_of_getElem? HQ2.out) HQ3.out⟩
                    clear hm CM
                    have c1 := pw_cell_below HBc.out C1.out
                    rw [NID.out] at c1
                    go_upto_region 35 with (fail)
                    cases hsm : sameB a.dest a.name with
                    | true =>
                      have HDP : Aside0 (dp = (0, sweepP s)) := ⟨by rw [HDP0.out, ← HRN.out, renR, if_pos hsm]⟩
                      have he2 : (a.dest.toList == a.name.toList) = true := by rw [sameB_list]; exact hsm
                      clear hsm
                      go_upto_region 39 with (fail)
                      obtain ⟨wx, hwx⟩ : ∃ wx, wx = w4 := ⟨_, rfl⟩
                      have HX := HO4
                      have HBX := HB4
                      rw [← hwx] at HX HBX ⊢
                      have HSZ : Aside0 (s.files.length ≤ 1048576 ∧ s.names.length ≤ 1048576 ∧ s.safe.length ≤ 1048576) := ⟨⟨by rw [LF.out]; exact hlf1, by rw [LN.out]; exact hln1, by rw [LS.out]; exact hls1⟩⟩
                      clear hwx x0 x1 x2 x3 x4 fr1 fr2 fr3 fr4 p0 p1 p2 p3 d1 d2 fd1 fd2 c1 he2
                      obtain ⟨y0, y1, y2, y3, y4, _, _, _, _, _⟩ := all5 HX.out.blk
                      have hbx := HBX.out.size
                      go_wp2_with fail
                      refine (swept_any s _ W.heap.size wx HX.out.rs hbx HSZ.out.1 HSZ.out.2.1 HSZ.out.2.2).mono ?_
                      obtain ⟨sw, hsw⟩ := named (sweepP s)
                      rw [← hsw.out]
                      rintro e wy ⟨vy, rfl, hvy, hby⟩
                      obtain ⟨n9, F9, lf9, fc9, N9, ln9, nc9, S9, ls9, sc9, m9, rfl⟩ := show_ hvy
                      have HV := Aside0.mk hvy
                      have HKy := Aside0.mk (blk_keep (blk_keep HK.out HBX.out) hby)
                      have HBy := Aside0.mk (bthen HB.out (bthen HBX.out hby))
                      have HDP2 : Aside0 (dp = (0, sw)) := ⟨by rw [HDP.out, hsw.out]⟩
                      obtain ⟨z0, z1, z2, z3, z4, f0, f1, f2, f3, f4⟩ := all5 HKy.out
                      clear hvy hby y0 y1 y2 y3 y4
                      go_wp2
                      refine bodyPost_ret (results_ct rfl _ _ (w.heap.size + 2) 25 #[.int .i64 n9, .slice F9 lf9 fc9, .slice N9 ln9 nc9, .slice S9 ls9 sc9, .int .i64 m9] (0, 0) _ rfl (blk5 HKy.out) Try.underlying25 rfl (by kernel_rfl)) rfl ?_
                      exact ⟨.agg #[.int .i64 n9, .slice F9 lf9 fc9, .slice N9 ln9 nc9, .slice S9 ls9 sc9, .int .i64 m9], by rw [HDP2.out]; rfl, by rw [HDP2.out]; exact (HV.out.far5 HKy.out _ _ _ _ _).lower (by have := HZ.out; omega), below_set5 HBy.out (by omega) _ _ _ _ _⟩
                    | false =>
                      obtain ⟨gn, hgn⟩ := named (giveN (withoutN (withoutN s.names a.name) a.dest) ⟨a.dest, nid⟩)
                      have HDP : Aside0 (dp = (0, sweepP { s with names := gn })) := ⟨by rw [HDP0.out, ← HRN.out, renR, if_neg (by rw [hsm]; decide), hgn.out, NID.out]⟩
                      have he2 : (a.dest.toList == a.name.toList) = false := by rw [sameB_list]; exact hsm
                      clear hsm
                      obtain ⟨n1, hn1⟩ := named (withoutN s.names a.name)
                      obtain ⟨n2', hn2⟩ := named (withoutN n1 a.dest)
                      have HN1 : Aside0 (n1.length ≤ 256 ∧ n2'.length ≤ 256) := ⟨by
                        have h1 : n1.length ≤ s.names.length := by rw [hn1.out]; exact List.length_filter_le _ _
                        have h2 : n2'.length ≤ n1.length := by rw [hn2.out]; exact List.length_filter_le _ _
                        have h3 := HGD.out.hd.ln
                        omega⟩
                      have HA2 : Aside0 (AscN n2' ∧ hasN n2' a.dest = false) := ⟨by
                        rw [hn2.out, hn1.out]
                        refine ⟨List.Pairwise.sublist List.filter_sublist (List.Pairwise.sublist List.filter_sublist HGD.out.nm.asc), ?_⟩
                        rw [hasN, List.any_eq_false]
                        intro x hx
                        have := (List.mem_filter.1 hx).2
                        simpa using this⟩
                      have HGN : Aside0 (gn = giveN n2' ⟨a.dest, nid⟩) := ⟨by rw [hgn.out, hn2.out, hn1.out]⟩
                      have HGL : Aside0 (gn.length ≤ 1048576) := ⟨by
                        have h1 := giveN_len1 n2' ⟨a.dest, nid⟩
                        rw [← HGN.out] at h1
                        have := HN1.out.2
                        omega⟩
                      have HD : Aside0 (Below w4.heap.size w4 w4.drew) := ⟨below_drew (Below.refl _ _)⟩
                      have CW1 : Aside0 (Calls Try.prog 65 #[.slice (some ad) ln2 nc2, .string a.name] w4.drew fun e w' => ∃ A n c, e = .returned (.slice A n c) ∧ n ≤ 1048576 ∧ kNm.C w' A n n1 ∧ Below w4.heap.size w4 w') := ⟨by
                        refine (without_any (some ad) ln2 nc2 s.names a.name w4.drew (Kd.C_below HN4.out HD.out) hln1).mono ?_
                        rw [← hn1.out]
                        rintro e w' ⟨v, rfl, hv, hb⟩
                        obtain ⟨A, c, rfl, _, hC⟩ := Kd.R_reads hv
                        exact ⟨A, _, c, rfl, by have := HN1.out.1; omega, hC, bthen HD.out hb⟩⟩
                      have CW2 : Aside0 (∀ W A n c, kNm.C W A n n1 → n ≤ 1048576 → Calls Try.prog 65 #[.slice A n c, .string a.dest] W fun e w' => ∃ A n c, e = .returned (.slice A n c) ∧ n ≤ 524288 ∧ kNm.C w' A n n2' ∧ Below W.heap.size W w') := ⟨fun W A n c hC hn => by
                        refine (without_any A n c n1 a.dest W hC hn).mono ?_
                        rw [← hn2.out]
                        rintro e w' ⟨v, rfl, hv, hb⟩
                        obtain ⟨A, c, rfl, _, hC⟩ := Kd.R_reads hv
                        exact ⟨A, _, c, rfl, by have := HN1.out.2; omega, hC, hb⟩⟩
                      have CW3 : Aside0 (∀ W A n c, kNm.C W A n n2' → n ≤ 524288 → Calls Try.prog 61 #[.slice A n c, .agg #[.string a.dest, .int .i64 nid]] W fun e w' => ∃ A c, e = .returned (.slice A gn.length c) ∧ RN w' W.heap.size (.slice A gn.length c) gn ∧ Below W.heap.size W w') := ⟨fun W A n c hC hn => by
                        refine (with_any A n c n2' a.dest nid W hC hn HA2.out.1 HA2.out.2).mono ?_
                        rw [← HGN.out]
                        rintro e w' ⟨v, rfl, hv, hb⟩
                        obtain ⟨A, c, rfl, _⟩ := Kd.R_reads hv
                        exact ⟨A, c, rfl, hv, hb⟩⟩
                      go_upto_region 36 with (fail)
                      have u1 : w4.drew.cell? ⟨w.heap.size + 1, 1, none⟩ = some (.string a.name) := p1
                      have u2' : w4.drew.cell? ⟨w.heap.size + 1, 2, none⟩ = some (.string a.dest) := p2
                      have ux2 : w4.drew.cell? ⟨g6, 2, none⟩ = some (.slice (some ad) ln2 nc2) := x2
                      go_region_law (go_simp; go_wp2_with (first
                        | (go_at_call 65; with_reducible refine Calls.mono CW1.out ?_; rintro e w5 ⟨A5, l5, c5, rfl, hl5, hC5, hb5⟩; (have HC5 := Aside0.mk hC5); (have HB5 := Aside0.mk hb5); obtain ⟨_, t51, t52, _, _, _, _, _⟩ := all4 (blk_keep HA4.out hb5); clear hC5 hb5)
                        | (go_at_call 65; refine Calls.mono (CW2.out w5 A5 l5 c5 HC5.out hl5) ?_; rintro e w6 ⟨A6, l6, c6, rfl, hl6, hC6, hb6⟩; (have HC6 := Aside0.mk hC6); (have HB6 := Aside0.mk (bthen HB5.out hb6)); obtain ⟨_, t61, t62, _, _, _, _, _⟩ := all4 (blk_keep HA4.out HB6.out); clear hC6 hb6)
                        | (go_at_call 61; refine Calls.mono (CW3.out w6 A6 l6 c6 HC6.out hl6) ?_; rintro e w7 ⟨A7, c7, rfl, hv7, hb7⟩; (have HB7 := Aside0.mk (bthen HB6.out hb7)); (have HV7 := Aside0.mk (Kd.R_lower hv7 (Nat.le_trans hw4s HB6.out.size))); obtain ⟨_, _, t72, _, _, _, _, ft72, _, _⟩ := all5 (HO4.out.below HB7.out).blk; clear hv7 hb7)))
                      all_goals go_upto_region 39 with (fail)
                      all_goals
                        obtain ⟨wx, hwx⟩ : ∃ wx, wx = w7.setCell ⟨g6, 2, none⟩ (.slice A7 gn.length c7) := ⟨_, rfl⟩
                        have HX : Aside0 (Own wx W.heap.size g6 { s with names := gn } (.slice (some ⟨gF, 0, none⟩) lf2 fc2) (.slice A7 gn.length c7) (.slice S2 ls2 sc2) L) := ⟨by rw [hwx]; exact (HO4.out.below HB7.out).putNames HV7.out⟩
                        have HBX : Aside0 (Below W.heap.size W wx) := ⟨by rw [hwx]; exact (bthen HB4.out HB7.out).setCell hlow _⟩
                        have HSZ : Aside0 (({ s with names := gn } : St).files.length ≤ 1048576 ∧ ({ s with names := gn } : St).names.length ≤ 1048576 ∧ ({ s with names := gn } : St).safe.length ≤ 1048576) := ⟨⟨by show s.files.length ≤ _; rw [LF.out]; exact hlf1, HGL.out, by show s.safe.length ≤ _; rw [LS.out]; exact hls1⟩⟩
                        rw [← hwx]
                        clear hwx x0 x1 x2 x3 x4 fr1 fr2 fr3 fr4 p0 p1 p2 p3 d1 d2 fd1 fd2 c1 he2 u1 u2' ux2 t51 t52 t61 t62 t72 ft72
                        obtain ⟨y0, y1, y2, y3, y4, _, _, _, _, _⟩ := all5 HX.out.blk
                        have hbx := HBX.out.size
                        go_wp2_with fail
                        refine (swept_any { s with names := gn } _ W.heap.size wx HX.out.rs hbx HSZ.out.1 HSZ.out.2.1 HSZ.out.2.2).mono ?_
                        obtain ⟨sw, hsw⟩ := named (sweepP { s with names := gn })
                        rw [← hsw.out]
                        rintro e wy ⟨vy, rfl, hvy, hby⟩
                        obtain ⟨n9, F9, lf9, fc9, N9, ln9, nc9, S9, ls9, sc9, m9, rfl⟩ := show_ hvy
                        have HV := Aside0.mk hvy
                        have HKy := Aside0.mk (blk_keep (blk_keep HK.out HBX.out) hby)
                        have HBy := Aside0.mk (bthen HB.out (bthen HBX.out hby))
                        have HDP2 : Aside0 (dp = (0, sw)) := ⟨by rw [HDP.out, hsw.out]⟩
                        obtain ⟨z0, z1, z2, z3, z4, f0, f1, f2, f3, f4⟩ := all5 HKy.out
                        clear hvy hby y0 y1 y2 y3 y4
                        go_wp2
                        refine bodyPost_ret (results_ct rfl _ _ (w.heap.size + 2) 25 #[.int .i64 n9, .slice F9 lf9 fc9, .slice N9 ln9 nc9, .slice S9 ls9 sc9, .int .i64 m9] (0, 0) _ rfl (blk5 HKy.out) Try.underlying25 rfl (by kernel_rfl)) rfl ?_
                        exact ⟨.agg #[.int .i64 n9, .slice F9 lf9 fc9, .slice N9 ln9 nc9, .slice S9 ls9 sc9, .int .i64 m9], by rw [HDP2.out]; rfl, by rw [HDP2.out]; exact (HV.out.far5 HKy.out _ _ _ _ _).lower (by have := HZ.out; omega), below_set5 HBy.out (by omega) _ _ _ _ _⟩
                · exfalso; have := HXW.out; omega
end Go.Proofs.Ytfakfgblaakgdaa.Files.Ref
