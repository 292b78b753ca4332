/- FilesLast: for all files and numbers of bulk at most 1048576 the law returns true, and what it is given stays. (Printed by wip/gen_rows.py.) -/
import Derived.Test.YtfakfgblaakgdaaPkLast7
import Derived.Test.YtfakfgblaakgdaaPkLast6
import Derived.JoinedCond

/- The document's Check of files: walked. (Printed by wip/gen_refc.py.) -/
namespace Go.Proofs.Ytfakfgblaakgdaa.Files.Ref
set_option linter.unusedVariables false
set_option linter.unusedSimpArgs false
open Go.RowKit Go.Proofs.YtfakfgblaakgdaaW.PrintWords Go.Proofs.YtfakfgblaakgdaaW.PrintLast Go.Proofs.Ytfakfgblaakgdaa.Base Go.Proofs.Ytfakfgblaakgdaa.Cells Go.Proofs.Ytfakfgblaakgdaa.Ints Go.Proofs.Ytfakfgblaakgdaa.Var Go.Proofs.Ytfakfgblaakgdaa.EditPure Go.Proofs.Ytfakfgblaakgdaa.Edit Go.Proofs.Ytfakfgblaakgdaa.Sets Go.Proofs.Ytfakfgblaakgdaa.Wide Go.Proofs.Ytfakfgblaakgdaa.RowsC

theorem hdB_false {s : St} (h : ¬ HdOk s) : hdB s = false := by cases hq : hdB s with | false => rfl | true => exact absurd (hdB_iff.1 hq) h
theorem flOkR_iff {s : St} {i : Nat} {f : Fl} : flOkR s i f = true ↔ 1 ≤ f.id ∧ f.id < s.next ∧ (i = 0 ∨ (s.files.getD (i - 1) zFl).id < f.id) ∧ 0 ≤ f.sync ∧ f.sync ≤ f.data.length ∧ (stands s.names f.id = true ∨ stands s.safe f.id = true) := by
  simp only [flOkR, Bool.and_eq_true, Bool.or_eq_true, decide_eq_true_eq, beq_iff_eq]
theorem flOkR_false {s : St} {i : Nat} {f : Fl} (h : ¬ (1 ≤ f.id ∧ f.id < s.next ∧ (i = 0 ∨ (s.files.getD (i - 1) zFl).id < f.id) ∧ 0 ≤ f.sync ∧ f.sync ≤ f.data.length ∧ (stands s.names f.id = true ∨ stands s.safe f.id = true))) : flOkR s i f = false := by
  cases hq : flOkR s i f with | false => rfl | true => exact absurd (flOkR_iff.1 hq) h

set_option maxRecDepth 100000 in
set_option maxHeartbeats 8000000 in
theorem check_any (s : St) (F N S : Option Addr) (lf fc ln nc ls sc : Nat) (w : World) (h : Hd w s F fc N nc S sc) (hs : Small s) (hlf : s.files.length = lf) (hln : s.names.length = ln) (hls : s.safe.length = ls) :
    Calls Try.prog 26 #[.agg #[.int .i64 s.cap, .slice F lf fc, .slice N ln nc, .slice S ls sc, .int .i64 s.next]] w fun e w' => e = .returned (.int .i64 (stE s)) ∧ Below w.heap.size w w' := by
  have HF0 := Aside0.mk (hlf ▸ h.hF : kFl.C w F lf s.files)
  have HN0 := Aside0.mk (hln ▸ h.hN : kNm.C w N ln s.names)
  have HS0 := Aside0.mk (hls ▸ h.hS : kNm.C w S ls s.safe)
  have HS := Aside0.mk hs
  have LF := Aside0.mk hlf
  have LN := Aside0.mk hln
  have LS := Aside0.mk hls
  have hlf1 : lf ≤ 1048576 := by rw [← hlf]; exact hs.lf
  have hln1 : ln ≤ 1048576 := by rw [← hln]; exact hs.ln
  have hls1 : ls ≤ 1048576 := by rw [← hls]; exact hs.ls
  obtain ⟨q, hq⟩ := named (stE s)
  rw [← hq.out]
  have HQ : Aside0 (q = if stR' s then 0 else 9) := ⟨by rw [hq.out, stE, stR_eq]⟩
  obtain ⟨cap, hcap⟩ : ∃ c, s.cap = c := ⟨_, rfl⟩
  obtain ⟨next, hnext⟩ : ∃ c, s.next = c := ⟨_, rfl⟩
  have CAP := Aside0.mk hcap
  have NEXT := Aside0.mk hnext
  rw [hcap, hnext]
  clear h hs hlf hln hls hcap hnext
  go_enter Try.func26, Try.ntmps26
  go_upto_region 1 with (fail)
  obtain ⟨W0, hW0⟩ : ∃ W, W = w.alloc (.cells #[.int .i64 cap, .slice F lf fc, .slice N ln nc, .slice S ls sc, .int .i64 next] 25) := ⟨_, rfl⟩
  have hk2 : W0.heap[w.heap.size]? = some (.cells #[.int .i64 cap, .slice F lf fc, .slice N ln nc, .slice S ls sc, .int .i64 next] 25 (0, 0)) := by rw [hW0]; exact blk_new _ _
  have HB0 : Aside0 (Below w.heap.size w W0) := ⟨by rw [hW0]; exact below_alloc (Below.refl _ _) _⟩
  rw [← hW0]
  clear hW0
  have HK2 := Aside0.mk hk2
  clear hk2
  obtain ⟨hd, hhd⟩ := named (hdB s)
  go_cut [47] (fun v47 wc => v47 = .bool (!hd) ∧ Aside0 (Below W0.heap.size W0 wc))
  case first =>
    obtain ⟨us, hus⟩ := named (usedF s.files)
    have CU : ∀ x : Later W0, Calls Try.prog 52 #[.agg #[.int .i64 cap, .slice F lf fc, .slice N ln nc, .slice S ls sc, .int .i64 next]] (wb W0 x) fun e w' => e = .returned (.int .i64 us) ∧ Below (wb W0 x).heap.size (wb W0 x) w' := fun x => by
      rw [hus.out]
      exact used_any s.files cap next F N S lf fc ln nc ls sc _ (Kd.C_below HF0.out (bthen HB0.out (wb_below _ x))) hlf1 HS.out.ld
    obtain ⟨x0, x1, x2, x3, x4, _, _, _, _, _⟩ := all5 HK2.out
    have X0 := wb_cell x0
    have X1 := wb_cell x1
    have X2 := wb_cell x2
    have X3 := wb_cell x3
    have X4 := wb_cell x4
    clear x0 x1 x2 x3 x4
    by_cases g0 : cap < 0
    · have HV : Aside0 (hd = false) := ⟨by rw [hhd.out]; exact hdB_false (fun k => by have := k.c0; have := LF.out; have := LN.out; have := LS.out; have := CAP.out; have := NEXT.out; have := hus.out; omega)⟩
      refine wp_region_wide (by kernel_rfl) (by kernel_rfl) ?_
      repeat (go_big_quiet_step ((go_at_call 52; exact wide_of (CU _))))
      refine wpQuiet_nil ?_
      rintro w' ⟨x, rfl⟩
      go_wp2
      go_meet
      exact ⟨by rw [HV.out]; rfl, ⟨wb_below _ x⟩⟩
    · skip
      by_cases g1 : 16777216 < cap
      · have HV : Aside0 (hd = false) := ⟨by rw [hhd.out]; exact hdB_false (fun k => by have := k.c1; have := LF.out; have := LN.out; have := LS.out; have := CAP.out; have := NEXT.out; have := hus.out; omega)⟩
        refine wp_region_wide (by kernel_rfl) (by kernel_rfl) ?_
        repeat (go_big_quiet_step ((go_at_call 52; exact wide_of (CU _))))
        refine wpQuiet_nil ?_
        rintro w' ⟨x, rfl⟩
        go_wp2
        go_meet
        exact ⟨by rw [HV.out]; rfl, ⟨wb_below _ x⟩⟩
      · skip
        by_cases g2 : (256 : Int) < (lf : Int)
        · have HV : Aside0 (hd = false) := ⟨by rw [hhd.out]; exact hdB_false (fun k => by have := k.lf; have := LF.out; have := LN.out; have := LS.out; have := CAP.out; have := NEXT.out; have := hus.out; omega)⟩
          have e2 : decide ((256 : Int) < (lf : Int)) = true := decide_eq_true g2
          refine wp_region_wide (by kernel_rfl) (by kernel_rfl) ?_
          repeat (go_big_quiet_step ((go_at_call 52; exact wide_of (CU _))))
          refine wpQuiet_nil ?_
          rintro w' ⟨x, rfl⟩
          go_wp2
          go_meet
          exact ⟨by rw [HV.out]; rfl, ⟨wb_below _ x⟩⟩
        · skip
          have e2 : decide ((256 : Int) < (lf : Int)) = false := decide_eq_false g2
          by_cases g3 : next < 1
          · have HV : Aside0 (hd = false) := ⟨by rw [hhd.out]; exact hdB_false (fun k => by have := k.n0; have := LF.out; have := LN.out; have := LS.out; have := CAP.out; have := NEXT.out; have := hus.out; omega)⟩
            refine wp_region_wide (by kernel_rfl) (by kernel_rfl) ?_
            repeat (go_big_quiet_step ((go_at_call 52; exact wide_of (CU _))))
            refine wpQuiet_nil ?_
            rintro w' ⟨x, rfl⟩
            go_wp2
            go_meet
            exact ⟨by rw [HV.out]; rfl, ⟨wb_below _ x⟩⟩
          · skip
            by_cases g4 : 2147483647 < next
            · have HV : Aside0 (hd = false) := ⟨by rw [hhd.out]; exact hdB_false (fun k => by have := k.n1; have := LF.out; have := LN.out; have := LS.out; have := CAP.out; have := NEXT.out; have := hus.out; omega)⟩
              refine wp_region_wide (by kernel_rfl) (by kernel_rfl) ?_
              repeat (go_big_quiet_step ((go_at_call 52; exact wide_of (CU _))))
              refine wpQuiet_nil ?_
              rintro w' ⟨x, rfl⟩
              go_wp2
              go_meet
              exact ⟨by rw [HV.out]; rfl, ⟨wb_below _ x⟩⟩
            · skip
              by_cases g5 : cap < us
              · have HV : Aside0 (hd = false) := ⟨by rw [hhd.out]; exact hdB_false (fun k => by have := k.us; have := LF.out; have := LN.out; have := LS.out; have := CAP.out; have := NEXT.out; have := hus.out; omega)⟩
                refine wp_region_wide (by kernel_rfl) (by kernel_rfl) ?_
                repeat (go_big_quiet_step ((go_at_call 52; exact wide_of (CU _))))
                refine wpQuiet_nil ?_
                rintro w' ⟨x, rfl⟩
                go_wp2
                go_meet
                exact ⟨by rw [HV.out]; rfl, ⟨wb_below _ x⟩⟩
              · skip
                by_cases g6 : (256 : Int) < (ln : Int)
                · have HV : Aside0 (hd = false) := ⟨by rw [hhd.out]; exact hdB_false (fun k => by have := k.ln; have := LF.out; have := LN.out; have := LS.out; have := CAP.out; have := NEXT.out; have := hus.out; omega)⟩
                  have e6 : decide ((256 : Int) < (ln : Int)) = true := decide_eq_true g6
                  refine wp_region_wide (by kernel_rfl) (by kernel_rfl) ?_
                  repeat (go_big_quiet_step ((go_at_call 52; exact wide_of (CU _))))
                  refine wpQuiet_nil ?_
                  rintro w' ⟨x, rfl⟩
                  go_wp2
                  go_meet
                  exact ⟨by rw [HV.out]; rfl, ⟨wb_below _ x⟩⟩
                · skip
                  have e6 : decide ((256 : Int) < (ln : Int)) = false := decide_eq_false g6
                  by_cases g7 : (256 : Int) < (ls : Int)
                  · have HV : Aside0 (hd = false) := ⟨by rw [hhd.out]; exact hdB_false (fun k => by have := k.ls; have := LF.out; have := LN.out; have := LS.out; have := CAP.out; have := NEXT.out; have := hus.out; omega)⟩
                    have e7 : decide ((256 : Int) < (ls : Int)) = true := decide_eq_true g7
                    refine wp_region_wide (by kernel_rfl) (by kernel_rfl) ?_
                    repeat (go_big_quiet_step ((go_at_call 52; exact wide_of (CU _))))
                    refine wpQuiet_nil ?_
                    rintro w' ⟨x, rfl⟩
                    go_wp2
                    go_meet
                    exact ⟨by rw [HV.out]; rfl, ⟨wb_below _ x⟩⟩
                  · skip
                    have e7 : decide ((256 : Int) < (ls : Int)) = false := decide_eq_false g7
                    have HV : Aside0 (hd = true) := ⟨by rw [hhd.out]; exact hdB_iff.2 ⟨by rw [CAP.out]; omega, by rw [CAP.out]; omega, by rw [LF.out]; omega, by rw [NEXT.out]; omega, by rw [NEXT.out]; omega, by rw [CAP.out, ← hus.out]; omega, by rw [LN.out]; omega, by rw [LS.out]; omega⟩⟩
                    refine wp_region_wide (by kernel_rfl) (by kernel_rfl) ?_
                    repeat (go_big_quiet_step ((go_at_call 52; exact wide_of (CU _))))
                    refine wpQuiet_nil ?_
                    rintro w' ⟨x, rfl⟩
                    go_wp2
                    go_meet
                    exact ⟨by rw [HV.out]; rfl, ⟨wb_below _ x⟩⟩
  case rest =>
    obtain ⟨rfl, HBc⟩ := hcut
    obtain ⟨wd, hwd⟩ : ∃ wd, wd = wc := ⟨_, rfl⟩
    rw [← hwd] at HBc ⊢
    clear hwd
    cases hdv : hd with
    | false =>
      have HQ2 : Aside0 (q = 9) := ⟨by rw [HQ.out, stR', ← hhd.out, hdv]; rfl⟩
      clear hdv
      go_wp2
      go_ret
      exact ⟨by rw [HQ2.out]; rfl, bthen HB0.out HBc.out⟩
    | true =>
      have HQ1 : Aside0 (q = if flToR s lf && (namesOk s.files s.names && namesOk s.files s.safe) then 0 else 9) := ⟨by rw [HQ.out, stR', ← hhd.out, hdv, LF.out]; rfl⟩
      clear hdv
      have HK := Aside0.mk (blk_keep HK2.out HBc.out)
      have HBw0 := Aside0.mk (bthen HB0.out HBc.out)
      obtain ⟨x0, x1, x2, x3, x4, _, _, _, _, _⟩ := all5 HK.out
      go_wp2
      go_loopg [3] lf (fun g v3 wr => ∃ i : Nat, v3 = .int .i64 i ∧ g + i = lf ∧ Aside0 (flToR s i = true) ∧ Aside0 (Below wd.heap.size wd wr))
      case atStart => exact ⟨0, rfl, by omega, ⟨rfl⟩, ⟨Below.refl _ _⟩⟩
      case round =>
        obtain ⟨i, rfl, hg, HT, HBr⟩ := hrel
        have HBw : Aside0 (Below w.heap.size w wr) := ⟨bthen HBw0.out HBr.out⟩
        have HKr := Aside0.mk (blk_keep HK.out HBr.out)
        clear x0 x1 x2 x3 x4
        obtain ⟨_, y1, _, _, _, _, _, _, _, _⟩ := all5 HKr.out
        by_cases hlt : i < lf
        · have hlt' : (i : Int) < (lf : Int) := by omega
          obtain ⟨f, hf⟩ : ∃ f, s.files[i]? = some f := ⟨_, List.getElem?_eq_getElem (by rw [LF.out]; omega)⟩
          obtain ⟨ad, D, dc, hFs, d0, d1, d2, _, _⟩ := atFl (Kd.C_below HF0.out HBw.out) i f hf
          subst hFs
          have hgd : s.files.getD i zFl = f := by rw [List.getD_eq_getElem?_getD, hf]; rfl
          obtain ⟨ok, hok⟩ := named (flOkR s i f)
          have HTO : Aside0 (flToR s (i + 1) = ok) := ⟨by rw [flToR, HT.out, hgd, ← hok.out]; rfl⟩
          obtain ⟨fid, hfid⟩ : ∃ n, f.id = n := ⟨_, rfl⟩
          obtain ⟨fsy, hfsy⟩ : ∃ n, f.sync = n := ⟨_, rfl⟩
          obtain ⟨ld, hld⟩ : ∃ n, f.data.length = n := ⟨_, rfl⟩
          have FID := Aside0.mk hfid
          have FSY := Aside0.mk hfsy
          have FLD := Aside0.mk hld
          rw [hfid] at d0
          rw [hld] at d1
          rw [hfsy] at d2
          clear hf hgd hfid hfsy hld
          go_upto_region 7 with (fail)
          obtain ⟨W4, hW4⟩ : ∃ W, W = wr.alloc (.cells #[.int .i64 fid, .slice D ld dc, .int .i64 fsy] 106) := ⟨_, rfl⟩
          have hk4 : W4.heap[wr.heap.size]? = some (.cells #[.int .i64 fid, .slice D ld dc, .int .i64 fsy] 106 (0, 0)) := by rw [hW4]; exact blk_new _ _
          have HB4 : Aside0 (Below wr.heap.size wr W4) := ⟨by rw [hW4]; exact below_alloc (Below.refl _ _) _⟩
          rw [← hW4]
          clear hW4 d0 d1 d2 y1
          have HK4 := Aside0.mk hk4
          have HBw4 : Aside0 (Below w.heap.size w W4) := ⟨bthen HBw.out HB4.out⟩
          clear hk4
          go_cut [114] (fun v114 wc2 => v114 = .bool (!ok) ∧ Aside0 (Below W4.heap.size W4 wc2))
          case first =>
            obtain ⟨s1, hs1⟩ := named (stands s.names fid)
            obtain ⟨s2, hs2⟩ := named (stands s.safe fid)
            have CS1 : ∀ x : Later W4, Calls Try.prog 53 #[.slice N ln nc, .int .i64 fid] (wb W4 x) fun e w' => e = .returned (.bool s1) ∧ wb W4 x = w' := fun x => by
              rw [hs1.out]; exact stands_any s.names fid N ln nc _ (Kd.C_below HN0.out (bthen HBw4.out (wb_below _ x))) hln1
            have CS2 : ∀ x : Later W4, Calls Try.prog 53 #[.slice S ls sc, .int .i64 fid] (wb W4 x) fun e w' => e = .returned (.bool s2) ∧ wb W4 x = w' := fun x => by
              rw [hs2.out]; exact stands_any s.safe fid S ls sc _ (Kd.C_below HS0.out (bthen HBw4.out (wb_below _ x))) hls1
            obtain ⟨z0, z1, z2, _, _, _⟩ := all3 HK4.out
            obtain ⟨y0, y1, y2, y3, y4, _, _, _, _, _⟩ := all5 (blk_keep HKr.out HB4.out)
            have Z0 := wb_cell z0
            have Z1 := wb_cell z1
            have Z2 := wb_cell z2
            have Y0 := wb_cell y0
            have Y1 := wb_cell y1
            have Y2 := wb_cell y2
            have Y3 := wb_cell y3
            have Y4 := wb_cell y4
            clear z0 z1 z2 y0 y1 y2 y3 y4
            by_cases hi0 : i = 0
            · have hi1 : decide (0 < i) = false := by simp [hi0]
              have hi2 : ¬ (0 < i) := by omega
              have I0 := Aside0.mk hi0
              clear hi0
              by_cases g0 : fid < 1
              · have HV : Aside0 (ok = false) := ⟨by rw [hok.out]; exact flOkR_false (fun k => by obtain ⟨k1, k2, k3, k4, k5, k6⟩ := k; have := FID.out; have := FSY.out; have := FLD.out; have := NEXT.out; omega)⟩
                refine wp_region_wide (by kernel_rfl) (by kernel_rfl) ?_
                repeat (go_big_quiet_step ((first | (go_at_call 53; with_reducible exact wide_same (CS1 _)) | (go_at_call 53; with_reducible exact wide_same (CS2 _)))))
                refine wpQuiet_nil ?_
                rintro w' ⟨x, rfl⟩
                go_wp2
                go_meet
                exact ⟨by rw [HV.out]; rfl, ⟨wb_below _ x⟩⟩
              · skip
                by_cases g1 : next ≤ fid
                · have HV : Aside0 (ok = false) := ⟨by rw [hok.out]; exact flOkR_false (fun k => by obtain ⟨k1, k2, k3, k4, k5, k6⟩ := k; have := FID.out; have := FSY.out; have := FLD.out; have := NEXT.out; omega)⟩
                  refine wp_region_wide (by kernel_rfl) (by kernel_rfl) ?_
                  repeat (go_big_quiet_step ((first | (go_at_call 53; with_reducible exact wide_same (CS1 _)) | (go_at_call 53; with_reducible exact wide_same (CS2 _)))))
                  refine wpQuiet_nil ?_
                  rintro w' ⟨x, rfl⟩
                  go_wp2
                  go_meet
                  exact ⟨by rw [HV.out]; rfl, ⟨wb_below _ x⟩⟩
                · skip
                  by_cases g2 : fsy < 0
                  · have HV : Aside0 (ok = false) := ⟨by rw [hok.out]; exact flOkR_false (fun k => by obtain ⟨k1, k2, k3, k4, k5, k6⟩ := k; have := FID.out; have := FSY.out; have := FLD.out; have := NEXT.out; omega)⟩
                    refine wp_region_wide (by kernel_rfl) (by kernel_rfl) ?_
                    repeat (go_big_quiet_step ((first | (go_at_call 53; with_reducible exact wide_same (CS1 _)) | (go_at_call 53; with_reducible exact wide_same (CS2 _)))))
                    refine wpQuiet_nil ?_
                    rintro w' ⟨x, rfl⟩
                    go_wp2
                    go_meet
                    exact ⟨by rw [HV.out]; rfl, ⟨wb_below _ x⟩⟩
                  · skip
                    by_cases g3 : (ld : Int) < fsy
                    · have HV : Aside0 (ok = false) := ⟨by rw [hok.out]; exact flOkR_false (fun k => by obtain ⟨k1, k2, k3, k4, k5, k6⟩ := k; have := FID.out; have := FSY.out; have := FLD.out; have := NEXT.out; omega)⟩
                      refine wp_region_wide (by kernel_rfl) (by kernel_rfl) ?_
                      repeat (go_big_quiet_step ((first | (go_at_call 53; with_reducible exact wide_same (CS1 _)) | (go_at_call 53; with_reducible exact wide_same (CS2 _)))))
                      refine wpQuiet_nil ?_
                      rintro w' ⟨x, rfl⟩
                      go_wp2
                      go_meet
                      exact ⟨by rw [HV.out]; rfl, ⟨wb_below _ x⟩⟩
                    · skip
                      have hal : (1 ≤ f.id ∧ f.id < s.next ∧ (i = 0 ∨ (s.files.getD (i - 1) zFl).id < fid) ∧ 0 ≤ f.sync ∧ f.sync ≤ f.data.length) := by rw [FID.out, FSY.out, FLD.out, NEXT.out]; exact ⟨by omega, by omega, .inl I0.out, by omega, by omega⟩
                      have HAL := Aside0.mk hal
                      clear hal
                      cases hv1 : s1 with
                      | true =>
                        rw [hv1] at CS1
                        have HV : Aside0 (ok = true) := ⟨by rw [hok.out]; refine flOkR_iff.2 ⟨HAL.out.1, HAL.out.2.1, by rw [FID.out]; exact HAL.out.2.2.1, HAL.out.2.2.2.1, HAL.out.2.2.2.2, .inl (by rw [FID.out, ← hs1.out]; exact hv1)⟩⟩
                        clear hv1
                        refine wp_region_wide (by kernel_rfl) (by kernel_rfl) ?_
                        repeat (go_big_quiet_step ((first | (go_at_call 53; with_reducible exact wide_same (CS1 _)) | (go_at_call 53; with_reducible exact wide_same (CS2 _)))))
                        refine wpQuiet_nil ?_
                        rintro w' ⟨x, rfl⟩
                        go_wp2
                        go_meet
                        exact ⟨by rw [HV.out]; rfl, ⟨wb_below _ x⟩⟩
                      | false =>
                        rw [hv1] at CS1
                        have HV1 := Aside0.mk hv1
                        clear hv1
                        cases hv2 : s2 with
                        | true =>
                          rw [hv2] at CS2
                          have HV : Aside0 (ok = true) := ⟨by rw [hok.out]; refine flOkR_iff.2 ⟨HAL.out.1, HAL.out.2.1, by rw [FID.out]; exact HAL.out.2.2.1, HAL.out.2.2.2.1, HAL.out.2.2.2.2, .inr (by rw [FID.out, ← hs2.out]; exact hv2)⟩⟩
                          clear hv2
                          refine wp_region_wide (by kernel_rfl) (by kernel_rfl) ?_
                          repeat (go_big_quiet_step ((first | (go_at_call 53; with_reducible exact wide_same (CS1 _)) | (go_at_call 53; with_reducible exact wide_same (CS2 _)))))
                          refine wpQuiet_nil ?_
                          rintro w' ⟨x, rfl⟩
                          go_wp2
                          go_meet
                          exact ⟨by rw [HV.out]; rfl, ⟨wb_below _ x⟩⟩
                        | false =>
                          rw [hv2] at CS2
                          have HV : Aside0 (ok = false) := ⟨by rw [hok.out]; exact flOkR_false (fun k => by obtain ⟨k1, k2, k3, k4, k5, k6⟩ := k; rw [FID.out, ← hs1.out, ← hs2.out, HV1.out, hv2] at k6; rcases k6 with k6 | k6 <;> cases k6)⟩
                          clear hv2
                          refine wp_region_wide (by kernel_rfl) (by kernel_rfl) ?_
                          repeat (go_big_quiet_step ((first | (go_at_call 53; with_reducible exact wide_same (CS1 _)) | (go_at_call 53; with_reducible exact wide_same (CS2 _)))))
                          refine wpQuiet_nil ?_
                          rintro w' ⟨x, rfl⟩
                          go_wp2
                          go_meet
                          exact ⟨by rw [HV.out]; rfl, ⟨wb_below _ x⟩⟩
            · obtain ⟨k, rfl⟩ : ∃ k, i = k + 1 := ⟨i - 1, by omega⟩
              clear hi0
              obtain ⟨p, hp⟩ : ∃ p, s.files[k]? = some p := ⟨_, List.getElem?_eq_getElem (by rw [LF.out]; omega)⟩
              obtain ⟨ad', D', dc', had, e0, _, _, _, _⟩ := atFl (Kd.C_below HF0.out HBw4.out) k p hp
              obtain rfl : ad = ad' := by injection had
              obtain ⟨pid, hpid⟩ : ∃ n, p.id = n := ⟨_, rfl⟩
              rw [hpid] at e0
              have E0 := wb_cell e0
              have PID := Aside0.mk hpid
              have PRV : Aside0 (s.files.getD (k + 1 - 1) zFl = p) := ⟨by rw [Nat.add_sub_cancel, List.getD_eq_getElem?_getD, hp]; rfl⟩
              clear hp had e0 hpid
              by_cases g0 : fid < 1
              · have HV : Aside0 (ok = false) := ⟨by rw [hok.out]; exact flOkR_false (fun k => by obtain ⟨k1, k2, k3, k4, k5, k6⟩ := k; have := FID.out; have := FSY.out; have := FLD.out; have := NEXT.out; omega)⟩
                refine wp_region_wide (by kernel_rfl) (by kernel_rfl) ?_
                repeat (go_big_quiet_step ((first | (go_at_call 53; with_reducible exact wide_same (CS1 _)) | (go_at_call 53; with_reducible exact wide_same (CS2 _)))))
                refine wpQuiet_nil ?_
                rintro w' ⟨x, rfl⟩
                go_wp2
                go_meet
                exact ⟨by rw [HV.out]; rfl, ⟨wb_below _ x⟩⟩
              · skip
                by_cases g1 : next ≤ fid
                · have HV : Aside0 (ok = false) := ⟨by rw [hok.out]; exact flOkR_false (fun k => by obtain ⟨k1, k2, k3, k4, k5, k6⟩ := k; have := FID.out; have := FSY.out; have := FLD.out; have := NEXT.out; omega)⟩
                  refine wp_region_wide (by kernel_rfl) (by kernel_rfl) ?_
                  repeat (go_big_quiet_step ((first | (go_at_call 53; with_reducible exact wide_same (CS1 _)) | (go_at_call 53; with_reducible exact wide_same (CS2 _)))))
                  refine wpQuiet_nil ?_
                  rintro w' ⟨x, rfl⟩
                  go_wp2
                  go_meet
                  exact ⟨by rw [HV.out]; rfl, ⟨wb_below _ x⟩⟩
                · skip
                  by_cases g2 : fid ≤ pid
                  · have HV : Aside0 (ok = false) := ⟨by rw [hok.out]; exact flOkR_false (fun k => by obtain ⟨k1, k2, k3, k4, k5, k6⟩ := k; have := FID.out; have := FSY.out; have := FLD.out; have := NEXT.out; rw [PRV.out, PID.out] at k3; omega)⟩
                    refine wp_region_wide (by kernel_rfl) (by kernel_rfl) ?_
                    repeat (go_big_quiet_step ((first | (go_at_call 53; with_reducible exact wide_same (CS1 _)) | (go_at_call 53; with_reducible exact wide_same (CS2 _)))))
                    refine wpQuiet_nil ?_
                    rintro w' ⟨x, rfl⟩
                    go_wp2
                    go_meet
                    exact ⟨by rw [HV.out]; rfl, ⟨wb_below _ x⟩⟩
                  · skip
                    by_cases g3 : fsy < 0
                    · have HV : Aside0 (ok = false) := ⟨by rw [hok.out]; exact flOkR_false (fun k => by obtain ⟨k1, k2, k3, k4, k5, k6⟩ := k; have := FID.out; have := FSY.out; have := FLD.out; have := NEXT.out; omega)⟩
                      refine wp_region_wide (by kernel_rfl) (by kernel_rfl) ?_
                      repeat (go_big_quiet_step ((first | (go_at_call 53; with_reducible exact wide_same (CS1 _)) | (go_at_call 53; with_reducible exact wide_same (CS2 _)))))
                      refine wpQuiet_nil ?_
                      rintro w' ⟨x, rfl⟩
                      go_wp2
                      go_meet
                      exact ⟨by rw [HV.out]; rfl, ⟨wb_below _ x⟩⟩
                    · skip
                      by_cases g4 : (ld : Int) < fsy
                      · have HV : Aside0 (ok = false) := ⟨by rw [hok.out]; exact flOkR_false (fun k => by obtain ⟨k1, k2, k3, k4, k5, k6⟩ := k; have := FID.out; have := FSY.out; have := FLD.out; have := NEXT.out; omega)⟩
                        refine wp_region_wide (by kernel_rfl) (by kernel_rfl) ?_
                        repeat (go_big_quiet_step ((first | (go_at_call 53; with_reducible exact wide_same (CS1 _)) | (go_at_call 53; with_reducible exact wide_same (CS2 _)))))
                        refine wpQuiet_nil ?_
                        rintro w' ⟨x, rfl⟩
                        go_wp2
                        go_meet
                        exact ⟨by rw [HV.out]; rfl, ⟨wb_below _ x⟩⟩
                      · skip
                        have hal : (1 ≤ f.id ∧ f.id < s.next ∧ (k + 1 = 0 ∨ (s.files.getD (k + 1 - 1) zFl).id < fid) ∧ 0 ≤ f.sync ∧ f.sync ≤ f.data.length) := by rw [FID.out, FSY.out, FLD.out, NEXT.out]; exact ⟨by omega, by omega, .inr (by have := PRV.out; rw [this, PID.out]; omega), by omega, by omega⟩
                        have HAL := Aside0.mk hal
                        clear hal
                        cases hv1 : s1 with
                        | true =>
                          rw [hv1] at CS1
                          have HV : Aside0 (ok = true) := ⟨by rw [hok.out]; refine flOkR_iff.2 ⟨HAL.out.1, HAL.out.2.1, by rw [FID.out]; exact HAL.out.2.2.1, HAL.out.2.2.2.1, HAL.out.2.2.2.2, .inl (by rw [FID.out, ← hs1.out]; exact hv1)⟩⟩
                          clear hv1
                          refine wp_region_wide (by kernel_rfl) (by kernel_rfl) ?_
                          repeat (go_big_quiet_step ((first | (go_at_call 53; with_reducible exact wide_same (CS1 _)) | (go_at_call 53; with_reducible exact wide_same (CS2 _)))))
                          refine wpQuiet_nil ?_
                          rintro w' ⟨x, rfl⟩
                          go_wp2
                          go_meet
                          exact ⟨by rw [HV.out]; rfl, ⟨wb_below _ x⟩⟩
                        | false =>
                          rw [hv1] at CS1
                          have HV1 := Aside0.mk hv1
                          clear hv1
                          cases hv2 : s2 with
                          | true =>
                            rw [hv2] at CS2
                            have HV : Aside0 (ok = true) := ⟨by rw [hok.out]; refine flOkR_iff.2 ⟨HAL.out.1, HAL.out.2.1, by rw [FID.out]; exact HAL.out.2.2.1, HAL.out.2.2.2.1, HAL.out.2.2.2.2, .inr (by rw [FID.out, ← hs2.out]; exact hv2)⟩⟩
                            clear hv2
                            refine wp_region_wide (by kernel_rfl) (by kernel_rfl) ?_
                            repeat (go_big_quiet_step ((first | (go_at_call 53; with_reducible exact wide_same (CS1 _)) | (go_at_call 53; with_reducible exact wide_same (CS2 _)))))
                            refine wpQuiet_nil ?_
                            rintro w' ⟨x, rfl⟩
                            go_wp2
                            go_meet
                            exact ⟨by rw [HV.out]; rfl, ⟨wb_below _ x⟩⟩
                          | false =>
                            rw [hv2] at CS2
                            have HV : Aside0 (ok = false) := ⟨by rw [hok.out]; exact flOkR_false (fun k => by obtain ⟨k1, k2, k3, k4, k5, k6⟩ := k; rw [FID.out, ← hs1.out, ← hs2.out, HV1.out, hv2] at k6; rcases k6 with k6 | k6 <;> cases k6)⟩
                            clear hv2
                            refine wp_region_wide (by kernel_rfl) (by kernel_rfl) ?_
                            repeat (go_big_quiet_step ((first | (go_at_call 53; with_reducible exact wide_same (CS1 _)) | (go_at_call 53; with_reducible exact wide_same (CS2 _)))))
                            refine wpQuiet_nil ?_
                            rintro w' ⟨x, rfl⟩
                            go_wp2
                            go_meet
                            exact ⟨by rw [HV.out]; rfl, ⟨wb_below _ x⟩⟩
          case rest =>
            obtain ⟨rfl, HBc2⟩ := hcut
            cases hov : ok with
            | false =>
              have HQ2 : Aside0 (q = 9) := ⟨by rw [HQ1.out, flToR_false (s := s) (i := i + 1) (by rw [HTO.out]; exact hov) (by omega)]; rfl⟩
              clear hov
              go_wp2
              go_ret
              exact ⟨by rw [HQ2.out]; rfl, bthen HBw4.out HBc2.out⟩
            | true =>
              have HT2 : Aside0 (flToR s (i + 1) = true) := ⟨by rw [HTO.out]; exact hov⟩
              clear hov
              go_wp2
              go_roundg (lf - (i + 1))
              case measure => omega
              case rel => exact ⟨i + 1, by go_num, by omega, HT2, ⟨bthen HBr.out (bthen HB4.out HBc2.out)⟩⟩
        · have hnf : ¬ ((i : Int) < (lf : Int)) := by omega
          have HQ3 : Aside0 (q = if namesOk s.files s.names && namesOk s.files s.safe then 0 else 9) := ⟨by
            obtain rfl : i = lf := by omega
            rw [HQ1.out, HT.out]; rfl⟩
          obtain ⟨n1, hn1⟩ := named (namesOk s.files s.names)
          obtain ⟨n2, hn2⟩ := named (namesOk s.files s.safe)
          obtain ⟨z0, _, z2, z3, z4, _, _, _, _, _⟩ := all5 HKr.out
          go_upto_region 9 with (fail)
          go_wp2_with fail
          refine (names_any s.files s.names cap next F N S N lf fc ln nc ls sc ln nc wr (Kd.C_below HF0.out HBw.out) (Kd.C_below HN0.out HBw.out) hlf1 hln1).mono ?_
          rw [← hn1.out]
          rintro e w1 ⟨rfl, hb1⟩
          have HB1 := Aside0.mk (bthen HBw.out hb1)
          obtain ⟨u0, u1, u2, u3, u4, _, _, _, _, _⟩ := all5 (blk_keep HKr.out hb1)
          clear y1 z0 z2 z3 z4 hb1
          cases hv1 : n1 with
          | false =>
            have HQ4 : Aside0 (q = 9) := ⟨by rw [HQ3.out, ← hn1.out, hv1]; rfl⟩
            clear hv1
            go_wp2
            go_ret
            exact ⟨by rw [HQ4.out]; rfl, HB1.out⟩
          | true =>
            have HQ4 : Aside0 (q = if n2 then 0 else 9) := ⟨by rw [HQ3.out, ← hn1.out, hv1, ← hn2.out]; rfl⟩
            clear hv1
            go_wp2_with fail
            refine (names_any s.files s.safe cap next F N S S lf fc ln nc ls sc ls sc w1 (Kd.C_below HF0.out HB1.out) (Kd.C_below HS0.out HB1.out) hlf1 hls1).mono ?_
            rw [← hn2.out]
            rintro e w2 ⟨rfl, hb2⟩
            have HB2 := Aside0.mk (bthen HB1.out hb2)
            clear hb2
            cases hv2 : n2 with
            | false =>
              have HQ5 : Aside0 (q = 9) := ⟨by rw [HQ4.out, hv2]; rfl⟩
              clear hv2
              go_wp2
              go_ret
              exact ⟨by rw [HQ5.out]; rfl, HB2.out⟩
            | true =>
              have HQ5 : Aside0 (q = 0) := ⟨by rw [HQ4.out, hv2]; rfl⟩
              clear hv2
              go_wp2
              go_ret
              exact ⟨by rw [HQ5.out]; rfl, HB2.out⟩
end Go.Proofs.Ytfakfgblaakgdaa.Files.Ref

/- Of, Check, List of a state that is there; the document's Check: contracts in short. -/
namespace Go.Proofs.Ytfakfgblaakgdaa.Files
set_option linter.unusedVariables false
set_option linter.unusedSimpArgs false
open Go.RowKit Go.Proofs.YtfakfgblaakgdaaW.PrintWords Go.Proofs.YtfakfgblaakgdaaW.PrintLast Go.Proofs.Ytfakfgblaakgdaa.Base Go.Proofs.Ytfakfgblaakgdaa.Cells Go.Proofs.Ytfakfgblaakgdaa.Ints Go.Proofs.Ytfakfgblaakgdaa.Var Go.Proofs.Ytfakfgblaakgdaa.EditPure Go.Proofs.Ytfakfgblaakgdaa.Edit Go.Proofs.Ytfakfgblaakgdaa.Sets Go.Proofs.Ytfakfgblaakgdaa.Wide Go.Proofs.Ytfakfgblaakgdaa.RowsC

theorem At.show_ {w : World} {v : Value} {s : St} (h : At w v s) : ∃ n F lf fc N ln nc S ls sc m, v = .agg #[.int .i64 n, .slice F lf fc, .slice N ln nc, .slice S ls sc, .int .i64 m] := by
  obtain ⟨F, fc, N, nc, S, sc, h1, _⟩ := h
  exact ⟨_, _, _, _, _, _, _, _, _, _, _, h1⟩
theorem Hd.at_ {w : World} {s : St} {F N S : Option Addr} {fc nc sc : Nat} (h : Hd w s F fc N nc S sc) : At w (.agg #[.int .i64 s.cap, .slice F s.files.length fc, .slice N s.names.length nc, .slice S s.safe.length sc, .int .i64 s.next]) s := ⟨F, fc, N, nc, S, sc, rfl, h⟩
theorem of_at {s : St} {v : Value} {w : World} (h : At w v s) (hs : Small s) :
    Calls Try.prog 11 #[v] w fun e w' => ∃ v', e = .returned v' ∧ At w' v' s ∧ Below w.heap.size w w' := by
  obtain ⟨F, fc, N, nc, S, sc, rfl, h2⟩ := h
  refine (of_any s F N S fc nc sc w h2 hs).mono ?_
  rintro e w' ⟨vF, vN, vS, rfl, h1, h3, h4, hb⟩
  obtain ⟨F', fc', rfl, a1, a2⟩ := Kd.R_reads h1
  obtain ⟨N', nc', rfl, b1, b2⟩ := Kd.R_reads h3
  obtain ⟨S', sc', rfl, c1, c2⟩ := Kd.R_reads h4
  exact ⟨_, rfl, ⟨F', fc', N', nc', S', sc', rfl, ⟨a2, b2, c2, a1, b1, c1⟩⟩, hb⟩
theorem check_at {s : St} {v : Value} {w : World} (h : At w v s) (hs : Small s) (hw : Wf s) :
    Calls Try.prog 28 #[v] w fun e w' => e = .returned (.int .i64 (stE s)) ∧ Below w.heap.size w w' := by
  obtain ⟨F, fc, N, nc, S, sc, rfl, h2⟩ := h
  exact check_any s F N S fc nc sc w h2 hs hw
theorem rcheck_at {s : St} {v : Value} {w : World} (h : At w v s) (hs : Small s) :
    Calls Try.prog 26 #[v] w fun e w' => e = .returned (.int .i64 (stE s)) ∧ Below w.heap.size w w' := by
  obtain ⟨F, fc, N, nc, S, sc, rfl, h2⟩ := h
  exact Ref.check_any s F N S _ fc _ nc _ sc w h2 hs rfl rfl rfl
/-- a state's value in a new variable -/
theorem box_new {w0 w : World} {base : Nat} {a b c d e : Value} {s : St} (h : Rs w base (.agg #[a, b, c, d, e]) s) (hb : Below w0.heap.size w0 w) :
    Box (w.alloc (.cells #[a, b, c, d, e] 33)) w.heap.size s a b c d e ∧ Below w0.heap.size w0 (w.alloc (.cells #[a, b, c, d, e] 33)) :=
  ⟨⟨blk_new _ _, (h.lower (Nat.zero_le _)).below (below_alloc (Below.refl _ _) _)⟩, below_alloc hb _⟩
theorem stE_good {s : St} (h : Good s) : stE s = 0 := by rw [stE, stB_iff.2 h]; rfl
/-- how long the rows of a state's value are -/
theorem Rs.lens {w : World} {base : Nat} {n m : Int} {F N S : Option Addr} {lf fc ln nc ls sc : Nat} {s : St} (h : Rs w base (.agg #[.int .i64 n, .slice F lf fc, .slice N ln nc, .slice S ls sc, .int .i64 m]) s) : lf = s.files.length ∧ ln = s.names.length ∧ ls = s.safe.length := by
  obtain ⟨F', fc', N', nc', S', sc', h1, _⟩ := h.forms
  simp only [Value.agg.injEq, Array.mk.injEq, List.cons.injEq, Value.slice.injEq] at h1
  exact ⟨h1.2.1.2.1, h1.2.2.1.2.1, h1.2.2.2.1.2.1⟩
end Go.Proofs.Ytfakfgblaakgdaa.Files

/- SameStrings; List of a state that is there: walked. -/
namespace Go.Proofs.Ytfakfgblaakgdaa.Files
set_option linter.unusedVariables false
set_option linter.unusedSimpArgs false
open Go.RowKit Go.Proofs.YtfakfgblaakgdaaW.PrintWords Go.Proofs.YtfakfgblaakgdaaW.PrintLast Go.Proofs.Ytfakfgblaakgdaa.Base Go.Proofs.Ytfakfgblaakgdaa.Cells Go.Proofs.Ytfakfgblaakgdaa.Ints Go.Proofs.Ytfakfgblaakgdaa.Var Go.Proofs.Ytfakfgblaakgdaa.EditPure Go.Proofs.Ytfakfgblaakgdaa.Edit Go.Proofs.Ytfakfgblaakgdaa.Sets Go.Proofs.Ytfakfgblaakgdaa.Wide Go.Proofs.Ytfakfgblaakgdaa.RowsC Go.Proofs.Ytfakfgblaakgdaa.StrRows

theorem list_at {s : St} {v : Value} {w : World} (h : At w v s) (hs : Small s) (hw : Wf s) :
    Calls Try.prog 14 #[v] w fun e w' => ∃ v', e = .returned (.tuple #[v', .int .i64 (stE s)]) ∧ RS w' w.heap.size v' (listL s) ∧ Below w.heap.size w w' := by
  obtain ⟨F, fc, N, nc, S, sc, rfl, h2⟩ := h
  exact list_any s F N S fc nc sc w h2 hs hw

set_option maxRecDepth 100000 in
set_option maxHeartbeats 1000000 in
/-- the same texts -/
theorem sameStr_any (A B : Option Addr) (n c d : Nat) (l : List ByteArray) (w : World) (hA : Kd.string.C w A n l) (hB : Kd.string.C w B n l) (hb : n ≤ 1048576) :
    Calls Try.prog 35 #[.slice A n c, .slice B n d] w fun e w' => e = .returned (.bool true) ∧ Below w.heap.size w w' := by
  have HA := Aside0.mk hA
  have HB := Aside0.mk hB
  have HL : Aside0 (l.length = n) := ⟨Kd.C_len hA⟩
  clear hA hB
  go_enter Try.func35, Try.ntmps35
  go_wp2
  go_loopg [5] n (fun g v5 wr => ∃ i : Nat, v5 = .int .i64 i ∧ g + i = n ∧ Aside0 (Below w.heap.size w wr))
  case atStart => exact ⟨0, rfl, by omega, ⟨Below.refl _ _⟩⟩
  case round =>
    obtain ⟨i, rfl, hg, HW⟩ := hrel
    by_cases hlt : i < n
    · have hlt' : (i : Int) < (n : Int) := by omega
      obtain ⟨m, hm⟩ : ∃ m, l[i]? = some m := ⟨_, List.getElem?_eq_getElem (by rw [HL.out]; exact hlt)⟩
      obtain ⟨ad, rfl, a0⟩ := atS (Kd.C_below HA.out HW.out) i m hm
      obtain ⟨bd, rfl, b0⟩ := atS (Kd.C_below HB.out HW.out) i m hm
      rw [Nat.mul_one] at a0 b0
      clear hm
      go_wp2_with fail
      go_quiet (fail)
      go_wp2
      go_roundg (n - (i + 1))
      case measure => omega
      case rel => exact ⟨i + 1, by go_num, by omega, ⟨pw_below_drewN HW.out nq⟩⟩
    · go_wp2
      go_ret
      exact ⟨rfl, HW.out⟩
end Go.Proofs.Ytfakfgblaakgdaa.Files

/- Acts and crashes leave a state that may be; what lasts. No program. -/
namespace Go.Proofs.Ytfakfgblaakgdaa.Files
set_option linter.unusedVariables false
set_option linter.unusedSimpArgs false
open Go.RowKit Go.Proofs.YtfakfgblaakgdaaW.PrintWords Go.Proofs.YtfakfgblaakgdaaW.PrintLast Go.Proofs.Ytfakfgblaakgdaa.Base Go.Proofs.Ytfakfgblaakgdaa.Cells Go.Proofs.Ytfakfgblaakgdaa.Ints Go.Proofs.Ytfakfgblaakgdaa.Var Go.Proofs.Ytfakfgblaakgdaa.EditPure Go.Proofs.Ytfakfgblaakgdaa.Edit Go.Proofs.Ytfakfgblaakgdaa.Sets Go.Proofs.Ytfakfgblaakgdaa.Wide Go.Proofs.Ytfakfgblaakgdaa.RowsC

theorem runL_good : ∀ (l : List Ac) {s : St} (i : Int), Good s → Good (runL s l i).1 ∧ usedF (runL s l i).1.files ≤ usedF s.files + dataA l ∧ i ≤ (runL s l i).2.1 ∧ (runL s l i).2.1 ≤ i + l.length
  | [], s, i, h => ⟨h, by simp [runL, dataA], Int.le_refl _, by simp [runL]⟩
  | a :: l, s, i, h => by
    rw [runL]
    by_cases h0 : (doP s a).1 = 0
    · rw [if_pos h0]
      obtain ⟨g1, g2⟩ := doP_good h a h0
      obtain ⟨k1, k2, k3, k4⟩ := runL_good l (i + 1) g1
      refine ⟨k1, ?_, by omega, by rw [List.length_cons]; push_cast; omega⟩
      rw [dataA_cons]; push_cast; omega
    · rw [if_neg h0]
      refine ⟨h, ?_, Int.le_refl _, ?_⟩
      · dsimp only; rw [dataA_cons]; push_cast; omega
      · dsimp only; omega
theorem runP_good {s : St} (h : Good s) (l : List Ac) : Good (runP s l).1 ∧ usedF (runP s l).1.files ≤ usedF s.files + dataA l ∧ 0 ≤ (runP s l).2.1 ∧ (runP s l).2.1 ≤ l.length := by
  rw [runP, if_neg (by rw [stB_iff.2 h]; decide)]
  obtain ⟨k1, k2, k3, k4⟩ := runL_good l 0 h
  exact ⟨k1, k2, k3, by omega⟩
theorem crashP_good {s : St} (h : Good s) (keep : List Int) : (crashP s keep).2 = 0 ∧ Good (crashP s keep).1 ∧ (crashP s keep).1.names = s.safe ∧ (crashP s keep).1.safe = s.safe ∧ usedF (crashP s keep).1.files ≤ usedF s.files := by
  rw [crashP, if_neg (by rw [stB_iff.2 h]; decide)]
  exact ⟨rfl, (cut_pre h keep).sweep, rfl, rfl, Int.le_trans (usedF_filter _ _) usedF_cut⟩
theorem crash_twice {u : St} (h : Good u) (hn : u.names = u.safe) : (crashP u []).1.files.length = u.files.length := by
  rw [crashP, if_neg (by rw [stB_iff.2 h]; decide)]
  show (List.filter (fun f => stands u.safe f.id || stands u.safe f.id) (cutAt [] 0 u.files)).length = _
  rw [List.filter_eq_self.2, cutAt_len]
  intro f hf
  obtain ⟨g, k, hg, rfl⟩ := cut_mem hf
  have h1 := h.st g hg
  rw [hn] at h1
  show (stands u.safe g.id || stands u.safe g.id) = true
  rw [Bool.or_eq_true]
  exact h1
/-- what FilesKeeps asks -/
theorem keeps_law {s : St} (h : Good s) (l : List Ac) (keep : List Int) (hu : usedF s.files + dataA l ≤ 1048576) :
    Good (runP s l).1 ∧ usedF (runP s l).1.files ≤ 1048576 ∧ (runP s l).2.1 ≤ l.length ∧ (crashP (runP s l).1 keep).2 = 0 ∧ Good (crashP (runP s l).1 keep).1 ∧ usedF (crashP (runP s l).1 keep).1.files ≤ 1048576 ∧
    (crashP (crashP (runP s l).1 keep).1 []).2 = 0 ∧ (crashP (crashP (runP s l).1 keep).1 []).1.names.length = (crashP (runP s l).1 keep).1.names.length ∧ (crashP (crashP (runP s l).1 keep).1 []).1.files.length = (crashP (runP s l).1 keep).1.files.length := by
  obtain ⟨g1, g2, g3, g4⟩ := runP_good h l
  obtain ⟨c1, c2, c3, c4, c5⟩ := crashP_good g1 keep
  obtain ⟨d1, d2, d3, d4, d5⟩ := crashP_good c2 []
  exact ⟨g1, by omega, g4, c1, c2, by omega, d1, by rw [d3, c4, c3], crash_twice c2 (by rw [c3, c4])⟩

/-- the state behind names that are synced -/
def sync6 (s : St) : St := sweepP { s with safe := s.names }
theorem do_six {s : St} (h : Good s) (nm de : ByteArray) (d : List Int) : DoP s ⟨6, nm, de, d⟩ = (0, sync6 s) := by
  rw [DoP, if_neg (by rw [stB_iff.2 h]; decide)]
  have : doP s ⟨6, nm, de, d⟩ = (0, sync6 s) := by
    unfold doP
    dsimp only
    rw [if_neg (by decide), if_neg (by decide), if_pos rfl]
    rfl
  rw [this]
  dsimp only
  rw [if_pos rfl]
theorem sync6_good {s : St} (h : Good s) : Good (sync6 s) ∧ usedF (sync6 s).files ≤ usedF s.files := by
  have hp : Pre { s with safe := s.names } := ⟨⟨h.hd.c0, h.hd.c1, h.hd.lf, h.hd.n0, h.hd.n1, h.hd.us, h.hd.ln, h.hd.ln⟩, h.fl, h.nm, h.nm⟩
  exact ⟨hp.sweep, usedF_filter _ _⟩
/-- what a crash keeps of a name's file -/
theorem last_read {t : St} (h : Good t) (hs : t.safe = t.names) (keep : List Int) {n : Nm} (hn : n ∈ t.names) :
    ∃ (j : Nat) (f : Fl) (k : Nat), t.files[j]? = some f ∧ f.id = n.id ∧ dataOf t n.id = f.data ∧ dataOf (crashP t keep).1 n.id = f.data.take k ∧ f.sync ≤ (k : Int) ∧ k ≤ f.data.length := by
  obtain ⟨j, f, hj, hf⟩ := find_id h.pre hn
  have hfl := h.fl.each f (List.mem_of_getElem? hj)
  have hk := keptOf_between keep[j]? hfl.2.1 hfl.2.2
  refine ⟨j, f, (keptOf f keep[j]?).toNat, hj, hf, dataOf_at h.fl.asc hj hf, ?_, by omega, by omega⟩
  have hc : crashP t keep = (sweepP { t with files := cutAt keep 0 t.files, names := t.safe }, 0) := by rw [crashP, if_neg (by rw [stB_iff.2 h]; decide)]
  have hg := (crashP_good h keep).2.1
  rw [hc] at hg ⊢
  have h1 : (cutAt keep 0 t.files)[j]? = some (cutF f keep[j]?) := by rw [cutAt_get, hj, Nat.zero_add]; rfl
  have h2 : cutF f keep[j]? ∈ (sweepP { t with files := cutAt keep 0 t.files, names := t.safe }).files := by
    refine List.mem_filter.2 ⟨List.mem_of_getElem? h1, ?_⟩
    show (stands t.safe f.id || stands t.safe f.id) = true
    rw [hs, hf, stands_of hn]; rfl
  obtain ⟨i, hi⟩ := List.mem_iff_getElem?.1 h2
  exact dataOf_at hg.fl.asc hi hf
end Go.Proofs.Ytfakfgblaakgdaa.Files

/- FilesLast: the law's function walked: it returns true. -/
namespace Go.Proofs.Ytfakfgblaakgdaa.Files
set_option linter.unusedVariables false
set_option linter.unusedSimpArgs false
open Go.RowKit Go.Proofs.YtfakfgblaakgdaaW.PrintWords Go.Proofs.YtfakfgblaakgdaaW.PrintLast Go.Proofs.Ytfakfgblaakgdaa.Base Go.Proofs.Ytfakfgblaakgdaa.Cells Go.Proofs.Ytfakfgblaakgdaa.Ints Go.Proofs.Ytfakfgblaakgdaa.Var Go.Proofs.Ytfakfgblaakgdaa.EditPure Go.Proofs.Ytfakfgblaakgdaa.Edit Go.Proofs.Ytfakfgblaakgdaa.Sets Go.Proofs.Ytfakfgblaakgdaa.Wide Go.Proofs.Ytfakfgblaakgdaa.RowsC Go.Proofs.Ytfakfgblaakgdaa.StrRows

theorem readP_at {s : St} (h : Good s) {i : Nat} {n : Nm} (hi : s.names[i]? = some n) : readP s n.name = (dataOf s n.id, 0) := by
  have hf : findN s.names n.name = some n := by
    rw [findN, List.find?_eq_some_iff_getElem]
    obtain ⟨hl, he⟩ := List.getElem?_eq_some_iff.1 hi
    refine ⟨sameB_iff.2 rfl, i, hl, he, fun j hj => ?_⟩
    have := sLt_ne (h.nm.asc.lt hj (List.getElem?_eq_getElem (by omega)) hi)
    simp [sameB_not.2 this]
  rw [readP, if_neg (by rw [stB_iff.2 h]; decide), hf]
/-- where the rows of a state's value lie -/
theorem Rs.rows {w : World} {base : Nat} {n m : Int} {F N S : Option Addr} {lf fc ln nc ls sc : Nat} {s : St} (h : Rs w base (.agg #[.int .i64 n, .slice F lf fc, .slice N ln nc, .slice S ls sc, .int .i64 m]) s) : kFl.C w F lf s.files ∧ kNm.C w N ln s.names := by
  obtain ⟨F', fc', N', nc', S', sc', h1, h2⟩ := h.forms
  simp only [Value.agg.injEq, Array.mk.injEq, List.cons.injEq, Value.slice.injEq] at h1
  obtain ⟨_, ⟨e1, e2, _⟩, ⟨e3, e4, _⟩, _⟩ := h1
  subst e1 e2 e3 e4
  exact ⟨h2.hF, h2.hN⟩
theorem asc_same {l : List Fl} (h : Asc l) {i j : Nat} {a b : Fl} (ha : l[i]? = some a) (hb : l[j]? = some b) (he : a.id = b.id) : a = b := by
  rcases Nat.lt_trichotomy i j with h1 | rfl | h1
  · have := h.lt h1 ha hb; omega
  · rw [ha] at hb; injection hb
  · have := h.lt h1 hb ha; omega
theorem infoBy : ∃ i0, Try.prog.info? 5 = some i0 ∧ i0.size = 1 := infoBz
theorem small_z : Small zSt := ⟨by decide, by decide, by decide, fun f hf => by simp [zSt] at hf⟩
theorem wf_z : Wf zSt := ⟨fun f hf => by simp [zSt] at hf, fun f hf => by simp [zSt] at hf⟩

set_option maxRecDepth 100000 in
set_option maxHeartbeats 8000000 in
theorem last_walk (s : St) (keep : List Int) (F N S K : Option Addr) (fc nc sc kc : Nat) (w : World) (h : Hd w s F fc N nc S sc) (hs : Small s) (hw : Wf s) (hu : usedF s.files ≤ 1048576)
    (hk : ReadsInt w .i64 K keep.length keep) (hkl : keep.length ≤ 1048576) (hki : ∀ x ∈ keep, inI64 x) :
    Calls Try.prog 9 #[.agg #[.int .i64 s.cap, .slice F s.files.length fc, .slice N s.names.length nc, .slice S s.safe.length sc, .int .i64 s.next], .slice K keep.length kc] w fun e w' => e = .returned (.bool true) ∧ Below w.heap.size w w' := by
  have HA := Aside0.mk h.at_
  have HS := Aside0.mk hs
  have HW := Aside0.mk hw
  have HK := Aside0.mk hk
  have HKI := Aside0.mk hki
  have HU := Aside0.mk hu
  obtain ⟨lk, hlk⟩ : ∃ n, keep.length = n := ⟨_, rfl⟩
  have LK := Aside0.mk hlk
  rw [hlk] at HK hkl ⊢
  obtain ⟨n0, F0, lf0, fc0, N0, ln0, nc0, S0, ls0, sc0, m0, hv0⟩ := HA.out.show_
  rw [hv0] at HA ⊢
  clear h hs hw hk hki hu hlk hv0
  go_enter Try.func9, Try.ntmps9
  go_upto_region 1 with (fail)
  obtain ⟨W0, hW0⟩ : ∃ W, W = w.alloc (.cells #[.int .i64 n0, .slice F0 lf0 fc0, .slice N0 ln0 nc0, .slice S0 ls0 sc0, .int .i64 m0] 25) := ⟨_, rfl⟩
  have hk2 : W0.heap[w.heap.size]? = some (.cells #[.int .i64 n0, .slice F0 lf0 fc0, .slice N0 ln0 nc0, .slice S0 ls0 sc0, .int .i64 m0] 25 (0, 0)) := by rw [hW0]; exact blk_new _ _
  have HB0 : Aside0 (Below w.heap.size w W0) := ⟨by rw [hW0]; exact below_alloc (Below.refl _ _) _⟩
  rw [← hW0]
  clear hW0
  have HK2 := Aside0.mk hk2
  clear hk2
  go_wp2_with fail
  refine (alive_any W0).mono ?_
  rintro e w1 ⟨rfl, hb1⟩
  have HB1 := Aside0.mk (bthen HB0.out hb1)
  have HK21 := Aside0.mk (blk_keep HK2.out hb1)
  obtain ⟨x0, x1, x2, x3, x4, _, _, _, _, _⟩ := all5 HK21.out
  clear hb1
  go_wp2_with fail
  refine (of_at (HA.out.below HB1.out) HS.out).mono ?_
  rintro e w2 ⟨v2, rfl, hA2, hb2⟩
  have HB2 := Aside0.mk (bthen HB1.out hb2)
  have HK22 := Aside0.mk (blk_keep HK21.out hb2)
  obtain ⟨n2, F2, lf2, fc2, N2, ln2, nc2, S2, ls2, sc2, m2, rfl⟩ := hA2.show_
  clear hb2 x0 x1 x2 x3 x4
  go_wp2_with fail
  refine (do_at (a := ⟨6, ⟨#[]⟩, ⟨#[]⟩, []⟩) hA2 HS.out HW.out (ReadsInt.nil _ _) (by decide) rfl rfl rfl).mono ?_
  obtain ⟨dp, hdp⟩ := named (DoP s ⟨6, ⟨#[]⟩, ⟨#[]⟩, []⟩)
  rw [← hdp.out]
  rintro e w3 ⟨v3, rfl, hv3, hb3⟩
  have HB3 := Aside0.mk (bthen HB2.out hb3)
  have HK23 := Aside0.mk (blk_keep HK22.out hb3)
  obtain ⟨n3, F3, lf3, fc3, N3, ln3, nc3, S3, ls3, sc3, m3, rfl⟩ := hv3.show_
  obtain ⟨de, hde⟩ := named dp.1
  rw [← hde.out]
  have HV3 := Aside0.mk hv3
  clear hA2 hb3 hv3
  go_upto_region 4 with (fail)
  obtain ⟨W4, hW4⟩ : ∃ W, W = w3.alloc (.cells #[.int .i64 n3, .slice F3 lf3 fc3, .slice N3 ln3 nc3, .slice S3 ls3 sc3, .int .i64 m3] 33) := ⟨_, rfl⟩
  obtain ⟨g5, hg5⟩ : ∃ g, g = w3.heap.size := ⟨_, rfl⟩
  have HX : Aside0 (Box W4 g5 dp.2 (.int .i64 n3) (.slice F3 lf3 fc3) (.slice N3 ln3 nc3) (.slice S3 ls3 sc3) (.int .i64 m3) ∧ Below w.heap.size w W4) := ⟨by rw [hW4, hg5]; exact box_new HV3.out HB3.out⟩
  have HK24 : Aside0 (W4.heap[w.heap.size]? = some (.cells #[.int .i64 n0, .slice F0 lf0 fc0, .slice N0 ln0 nc0, .slice S0 ls0 sc0, .int .i64 m0] 25 (0, 0))) := ⟨by rw [hW4]; exact blk_keep HK23.out (below_alloc (Below.refl _ _) _)⟩
  rw [← hW4, ← hg5]
  clear hW4 hg5
  obtain ⟨x0, x1, x2, x3, x4, _, _, _, _, _⟩ := all5 HX.out.1.1
  cases hst : stB s with
  | false =>
    have hp : dp = (9, zSt) := by rw [hdp.out, DoP, if_pos hst]
    obtain rfl : de = 9 := by rw [hde.out, hp]
    have HST : Aside0 (stE s = 9) := ⟨by rw [stE, hst]; rfl⟩
    have HDZ : Aside0 (dp.2 = zSt) := ⟨by rw [hp]⟩
    rw [HDZ.out] at HX
    clear hst hp
    go_wp2_with fail
    refine (crash_at (keep := keep) HX.out.1.2.at_ small_z wf_z (HK.out.below HX.out.2) hkl HKI.out).mono ?_
    obtain ⟨cp, hcp⟩ := named (crashP zSt keep)
    rw [← hcp.out]
    rintro e w5 ⟨v5, rfl, hv5, hb5⟩
    obtain ⟨n5, F5, lf5, fc5, N5, ln5, nc5, S5, ls5, sc5, m5, rfl⟩ := hv5.show_
    obtain ⟨ce, hce⟩ := named cp.2
    rw [← hce.out]
    have HB5 := Aside0.mk (bthen HX.out.2 hb5)
    have HK25 := Aside0.mk (blk_keep HK24.out hb5)
    clear hv5 hb5 x0 x1 x2 x3 x4
    go_upto_region 5 with (fail)
    obtain ⟨W6, hW6⟩ : ∃ W, W = w5.alloc (.cells #[.int .i64 n5, .slice F5 lf5 fc5, .slice N5 ln5 nc5, .slice S5 ls5 sc5, .int .i64 m5] 33) := ⟨_, rfl⟩
    have HB6 : Aside0 (Below w.heap.size w W6) := ⟨by rw [hW6]; exact below_alloc HB5.out _⟩
    have HK26 : Aside0 (W6.heap[w.heap.size]? = some (.cells #[.int .i64 n0, .slice F0 lf0 fc0, .slice N0 ln0 nc0, .slice S0 ls0 sc0, .int .i64 m0] 25 (0, 0))) := ⟨by rw [hW6]; exact blk_keep HK25.out (below_alloc (Below.refl _ _) _)⟩
    rw [← hW6]
    clear hW6
    obtain ⟨x0, x1, x2, x3, x4, _, _, _, _, _⟩ := all5 HK26.out
    go_wp2_with (go_at_call 20; refine (num_any _ _).mono ?_; rintro e wz ⟨rfl, rfl⟩)
    refine (rcheck_at (HA.out.below HB6.out) HS.out).mono ?_
    rw [HST.out]
    rintro e w7 ⟨rfl, hb7⟩
    have HB7 := Aside0.mk (bthen HB6.out hb7)
    clear hb7
    go_wp2
    go_ret
    exact ⟨rfl, HB7.out⟩
  | true =>
    have hg0 := stB_iff.1 hst
    have hp : dp = (0, sync6 s) := by rw [hdp.out, do_six hg0]
    obtain rfl : de = 0 := by rw [hde.out, hp]
    obtain ⟨t, ht⟩ := named (sync6 s)
    have HDZ : Aside0 (dp.2 = t) := ⟨by rw [hp, ht.out]⟩
    rw [HDZ.out] at HX
    have hgt := sync6_good hg0
    rw [← ht.out] at hgt
    have HG := Aside0.mk hgt.1
    have HUT : Aside0 (usedF t.files ≤ 1048576) := ⟨Int.le_trans hgt.2 HU.out⟩
    have HSN : Aside0 (t.safe = t.names) := ⟨by rw [ht.out]; rfl⟩
    have HSM : Aside0 (Small t) := ⟨HG.out.small HUT.out⟩
    clear hst hp hg0 hgt
    obtain ⟨c1, c2, c3, c4, c5⟩ := crashP_good HG.out keep
    obtain ⟨u, hu⟩ := named (crashP t keep).1
    rw [← hu.out] at c2 c3 c4 c5
    have HGU := Aside0.mk c2
    have HUN : Aside0 (u.names = t.names) := ⟨by rw [c3, HSN.out]⟩
    have HSU : Aside0 (Small u) := ⟨c2.small (Int.le_trans c5 HUT.out)⟩
    have HC := Aside0.mk c1
    clear c1 c2 c3 c4 c5
    go_wp2_with fail
    refine (crash_at (keep := keep) HX.out.1.2.at_ HSM.out HG.out.wf (HK.out.below HX.out.2) hkl HKI.out).mono ?_
    rw [HC.out, ← hu.out]
    rintro e w5 ⟨v5, rfl, hv5, hb5⟩
    obtain ⟨n5, F5, lf5, fc5, N5, ln5, nc5, S5, ls5, sc5, m5, rfl⟩ := hv5.show_
    have HV5 := Aside0.mk hv5
    have HB5 := Aside0.mk (bthen HX.out.2 hb5)
    have HX5 := Aside0.mk (HX.out.1.below hb5)
    clear hv5 hb5 x0 x1 x2 x3 x4
    go_upto_region 5 with (fail)
    obtain ⟨W6, hW6⟩ : ∃ W, W = w5.alloc (.cells #[.int .i64 n5, .slice F5 lf5 fc5, .slice N5 ln5 nc5, .slice S5 ls5 sc5, .int .i64 m5] 33) := ⟨_, rfl⟩
    obtain ⟨g7, hg7⟩ : ∃ g, g = w5.heap.size := ⟨_, rfl⟩
    have HY : Aside0 (Box W6 g7 u (.int .i64 n5) (.slice F5 lf5 fc5) (.slice N5 ln5 nc5) (.slice S5 ls5 sc5) (.int .i64 m5) ∧ Below w.heap.size w W6) := ⟨by rw [hW6, hg7]; exact box_new HV5.out HB5.out⟩
    have HX6 : Aside0 (Box W6 g5 t (.int .i64 n3) (.slice F3 lf3 fc3) (.slice N3 ln3 nc3) (.slice S3 ls3 sc3) (.int .i64 m3)) := ⟨by rw [hW6]; exact HX5.out.below (below_alloc (Below.refl _ _) _)⟩
    rw [← hW6, ← hg7]
    clear hW6 hg7
    obtain ⟨x0, x1, x2, x3, x4, _, _, _, _, _⟩ := all5 HX6.out.1
    obtain ⟨k, hk⟩ : ∃ k, (nmsL t.names).length = k := ⟨_, rfl⟩
    have hkn : t.names.length = k := by rw [← hk, nmsL, List.length_map]
    have hk1 : k ≤ 256 := by have := HG.out.hd.ln; omega
    have KN := Aside0.mk hkn
    have KL := Aside0.mk hk
    go_wp2_with (go_at_call 20; refine (num_any _ _).mono ?_; rintro e wz ⟨rfl, rfl⟩)
    refine (list_at HX6.out.2.at_ HSM.out HG.out.wf).mono ?_
    rw [stE_good HG.out]
    rintro e w7 ⟨v7, rfl, hr7, hb7⟩
    obtain ⟨A7, c7, rfl, _, hC7⟩ := RS_reads hr7
    rw [show listL t = nmsL t.names by rw [listL, stB_iff.2 HG.out]; rfl, hk] at hC7 ⊢
    have HC7 := Aside0.mk hC7
    have HB7 := Aside0.mk hb7
    obtain ⟨y0, y1, y2, y3, y4, _, _, _, _, _⟩ := all5 (HY.out.1.below hb7).1
    clear hr7 hC7 hb7 x0 x1 x2 x3 x4
    go_wp2_with fail
    refine (list_at (HY.out.1.below HB7.out).2.at_ HSU.out HGU.out.wf).mono ?_
    rw [stE_good HGU.out]
    rintro e w8 ⟨v8, rfl, hr8, hb8⟩
    obtain ⟨A8, c8, rfl, _, hC8⟩ := RS_reads hr8
    rw [show listL u = nmsL t.names by rw [listL, stB_iff.2 HGU.out, HUN.out]; rfl, hk] at hC8 ⊢
    have HC8 := Aside0.mk hC8
    have HB8 := Aside0.mk hb8
    clear hr8 hC8 hb8 y0 y1 y2 y3 y4
    go_wp2_with (go_at_call 20; refine (num_any _ _).mono ?_; rintro e wz ⟨rfl, rfl⟩)
    refine (sameStr_any A7 A8 k c7 c8 (nmsL t.names) w8 (Kd.C_below HC7.out HB8.out) HC8.out (by omega)).mono ?_
    rintro e w9 ⟨rfl, hb9⟩
    have HB9 := Aside0.mk (bthen HB7.out (bthen HB8.out hb9))
    have HC9 := Aside0.mk (Kd.C_below HC7.out (bthen HB8.out hb9))
    have HX9 := Aside0.mk (HX6.out.below HB9.out)
    have HY9 := Aside0.mk (HY.out.1.below HB9.out)
    have HBw9 := Aside0.mk (bthen HY.out.2 HB9.out)
    obtain ⟨lx1, lx2, lx3⟩ := HX9.out.2.lens
    obtain rfl : ln3 = k := by rw [lx2, KN.out]
    have LX1 := Aside0.mk lx1
    clear hb9 lx1 lx2 lx3 hkn hk
    obtain ⟨x0, x1, x2, x3, x4, _, _, _, _, _⟩ := all5 HX9.out.1
    go_upto_region 11 with (fail)
    go_wp2
    go_loopg [13] ln3 (fun gk v13 wr => ∃ i : Nat, v13 = .int .i64 i ∧ gk + i = ln3 ∧ Aside0 (Below w9.heap.size w9 wr))
    case atStart => exact ⟨0, rfl, by omega, ⟨Below.refl _ _⟩⟩
    case round =>
      obtain ⟨i, rfl, hgk, HBr⟩ := hrel
      have HBw := Aside0.mk (bthen HBw9.out HBr.out)
      by_cases hlt : i < ln3
      · have hlt' : (i : Int) < (ln3 : Int) := by omega
        obtain ⟨n, hn⟩ : ∃ n, t.names[i]? = some n := ⟨_, List.getElem?_eq_getElem (by rw [KN.out]; exact hlt)⟩
        obtain ⟨nm, hnm⟩ : ∃ x, n.name = x := ⟨_, rfl⟩
        obtain ⟨ad, hAs, a0⟩ := atS (Kd.C_below HC9.out HBr.out) i nm (by rw [nmsL, List.getElem?_map, hn, ← hnm]; rfl)
        subst hAs
        rw [Nat.mul_one] at a0
        obtain ⟨j, f, k2, hj, hfid, hd1, hd2, hs1, hs2⟩ := last_read HG.out HSN.out keep (List.mem_of_getElem? hn)
        rw [← hu.out] at hd2
        have hr1 : readP t nm = (f.data, 0) := by rw [← hnm, readP_at HG.out hn, hd1]
        have hr2 : readP u nm = (f.data.take k2, 0) := by rw [← hnm, readP_at HGU.out (by rw [HUN.out]; exact hn), hd2]
        obtain ⟨lx, hlx⟩ : ∃ x, f.data.length = x := ⟨_, rfl⟩
        rw [hlx] at hs2
        have LX := Aside0.mk hlx
        have HJ := Aside0.mk hj
        have HFI := Aside0.mk hfid
        have HN := Aside0.mk hn
        have A0 := Aside0.mk a0
        have HS1 := Aside0.mk hs1
        have C1 : Aside0 (∀ W, Below wr.heap.size wr W → Calls Try.prog 24 #[.agg #[.int .i64 n3, .slice F3 lf3 fc3, .slice N3 ln3 nc3, .slice S3 ls3 sc3, .int .i64 m3], .string nm] W fun e w' => ∃ A c, e = .returned (.tuple #[.slice A lx c, .int .i64 0]) ∧ lx ≤ c ∧ ReadsInt w' .u8 A lx f.data ∧ Below W.heap.size W w') := ⟨fun W hW => by
          refine (read_at nm ((HX9.out.below HBr.out).below hW).2.at_ HSM.out HG.out.wf).mono ?_
          rw [hr1]
          rintro e w' ⟨v, rfl, hv, hb⟩
          obtain ⟨A, c, rfl, hr⟩ := RB_reads hv
          have := own_le hv
          rw [LX.out] at this hr ⊢
          exact ⟨A, c, rfl, this, hr, hb⟩⟩
        have hk2l : (f.data.take k2).length = k2 := by rw [List.length_take, LX.out]; omega
        have C2 : Aside0 (∀ W, Below wr.heap.size wr W → Calls Try.prog 24 #[.agg #[.int .i64 n5, .slice F5 lf5 fc5, .slice N5 ln5 nc5, .slice S5 ls5 sc5, .int .i64 m5], .string nm] W fun e w' => ∃ A c, e = .returned (.tuple #[.slice A k2 c, .int .i64 0]) ∧ ReadsInt w' .u8 A k2 (f.data.take k2) ∧ Below W.heap.size W w') := ⟨fun W hW => by
          refine (read_at nm ((HY9.out.below HBr.out).below hW).2.at_ HSU.out HGU.out.wf).mono ?_
          rw [hr2]
          rintro e w' ⟨v, rfl, hv, hb⟩
          obtain ⟨A, c, rfl, hr⟩ := RB_reads hv
          rw [hk2l] at hr ⊢
          exact ⟨A, c, rfl, hr, hb⟩⟩
        clear hn hnm hj hfid hd1 hd2 hs1 hr1 hr2 hlx hk2l a0 x0 x1 x2 x3 x4
        go_upto_region 14 with (fail)
        go_cut [14, 15] (fun v14 v15 wc => v15 = .int .i64 0 ∧ ∃ A c, v14 = .slice A lx c ∧ lx ≤ c ∧ Aside0 (ReadsInt wc .u8 A lx f.data) ∧ Aside0 (Below wr.heap.size wr wc))
        case first =>
          have HD : Aside0 (Below wr.heap.size wr wr.drew) := ⟨below_drew (Below.refl _ _)⟩
          obtain ⟨y0, y1, y2, y3, y4, _, _, _, _, _⟩ := all5 ((HX9.out.below HBr.out).below HD.out).1
          have a0 : wr.drew.cell? (ad.add i) = some (.string nm) := A0.out
          go_region_law (go_simp; go_wp2_with (go_at_call 24; refine (C1.out _ HD.out).mono ?_; rintro e w6 ⟨A6, c6, rfl, hl6, hr6, hb6⟩; have HR6 := Aside0.mk hr6; have HB6 := Aside0.mk (bthen HD.out hb6); clear hr6 hb6))
          all_goals go_wp2_with fail
          all_goals go_meet
          all_goals exact ⟨rfl, A6, c6, rfl, hl6, HR6, HB6⟩
        case rest =>
          obtain ⟨rfl, A14, c14, rfl, hl14, HR14, HB14⟩ := hcut
          obtain ⟨wd, hwd⟩ : ∃ wd, wd = wc := ⟨_, rfl⟩
          rw [← hwd] at HR14 HB14 ⊢
          clear hwd
          go_upto_region 15 with (fail)
          go_cut [16, 17] (fun v16 v17 we => v17 = .int .i64 0 ∧ ∃ A c, v16 = .slice A k2 c ∧ Aside0 (ReadsInt we .u8 A k2 (f.data.take k2)) ∧ Aside0 (Below wd.heap.size wd we))
          case first =>
            have HD : Aside0 (Below wd.heap.size wd wd.drew) := ⟨below_drew (Below.refl _ _)⟩
            have HDr := Aside0.mk (bthen HB14.out HD.out)
            obtain ⟨y0, y1, y2, y3, y4, _, _, _, _, _⟩ := all5 ((HY9.out.below HBr.out).below HDr.out).1
            have a0 : wd.drew.cell? (ad.add i) = some (.string nm) := pw_cell_below HDr.out A0.out
            go_region_law (go_simp; go_wp2_with (go_at_call 24; refine (C2.out _ HDr.out).mono ?_; rintro e w6 ⟨A6, c6, rfl, hr6, hb6⟩; have HR6 := Aside0.mk hr6; have HB6 := Aside0.mk (bthen HD.out hb6); clear hr6 hb6))
            all_goals go_wp2_with fail
            all_goals go_meet
            all_goals exact ⟨rfl, A6, c6, rfl, HR6, HB6⟩
          case rest =>
            obtain ⟨rfl, A16, c16, rfl, HR16, HB16⟩ := hcut
            obtain ⟨we, hwe⟩ : ∃ we, we = wc := ⟨_, rfl⟩
            rw [← hwe] at HR16 HB16 ⊢
            clear hwe
            obtain ⟨i0, hi0, _⟩ := infoBy
            have hct : ∀ W, (Instr.slice 62 (.slice A14 lx c14) none (some (.int .i64 (k2 : Int))) none).run Try.prog W = .ok (.slice A14 k2 c14) W := fun W => cut_to (P := Try.prog) 62 5 .i64 Try.underlying62 hi0 A14 lx c14 (k2 : Int) (by omega) (by omega) hl14 W
            have hnx : ¬ (lx < k2) := by omega
            have hnd : decide (lx < k2) = false := decide_eq_false hnx
            clear hi0
            go_wp2_with (first
              | (go_at_call 20; refine (num_any _ _).mono ?_; rintro e wz ⟨rfl, rfl⟩)
              | (go_at_call 25; refine (same_any A16 A14 k2 k2 c16 c14 (f.data.take k2) (f.data.take k2) we HR16.out ((HR14.out.below HB16.out).take_ k2 hs2) rfl).mono ?_; rintro e wz ⟨rfl, rfl⟩))
            have HR3 := Aside0.mk HX9.out.2.rows
            have hlf3 : lf3 ≤ 256 := by have := HG.out.hd.lf; rw [LX1.out]; exact this
            have HB9e := Aside0.mk (bthen HBr.out (bthen HB14.out HB16.out))
            have HBwe := Aside0.mk (bthen HBw9.out HB9e.out)
            clear hct
            go_loopg [18] lf3 (fun gk2 v18 wi => ∃ m : Nat, v18 = .int .i64 m ∧ gk2 + m = lf3 ∧ Aside0 (Below we.heap.size we wi))
            case atStart => exact ⟨0, rfl, by omega, ⟨Below.refl _ _⟩⟩
            case round =>
              obtain ⟨m, rfl, hg2, HBi⟩ := hrel
              have HBi9 := Aside0.mk (bthen HB9e.out HBi.out)
              obtain ⟨x0, x1, x2, x3, x4, _, _, _, _, _⟩ := all5 (HX9.out.below HBi9.out).1
              by_cases hm : m < lf3
              · have hm' : (m : Int) < (lf3 : Int) := by omega
                obtain ⟨fm, hfm⟩ : ∃ fm, t.files[m]? = some fm := ⟨_, List.getElem?_eq_getElem (by rw [← LX1.out]; exact hm)⟩
                obtain ⟨ad3, D3, dc3, hF3, d0, _, d2, _, _⟩ := atFl (Kd.C_below HR3.out.1 HBi9.out) m fm hfm
                obtain ⟨ad4, hN3, _, c1⟩ := atNm (Kd.C_below HR3.out.2 HBi9.out) i n HN.out
                subst hF3 hN3
                have HFM := Aside0.mk hfm
                clear hfm
                by_cases he : fm.id = n.id
                · have hns : fm.sync ≤ (k2 : Int) := by
                    have := asc_same HG.out.fl.asc HFM.out HJ.out (by rw [he, HFI.out])
                    rw [this]; exact HS1.out
                  go_wp2_with fail
                  go_quiet (fail)
                  go_wp2
                  go_roundg (lf3 - (m + 1))
                  case measure => omega
                  case rel => exact ⟨m + 1, by go_num, by omega, ⟨pw_below_drewN HBi.out nq⟩⟩
                · go_wp2_with fail
                  go_quiet (fail)
                  go_wp2
                  go_roundg (lf3 - (m + 1))
                  case measure => omega
                  case rel => exact ⟨m + 1, by go_num, by omega, ⟨pw_below_drewN HBi.out nq⟩⟩
              · have hm' : ¬ ((m : Int) < (lf3 : Int)) := by omega
                go_wp2
                go_roundg (ln3 - (i + 1))
                case measure => omega
                case rel => exact ⟨i + 1, by go_num, by omega, HBi9⟩
      · have hlt' : ¬ ((i : Int) < (ln3 : Int)) := by omega
        go_wp2
        go_ret
        exact ⟨rfl, HBw.out⟩
end Go.Proofs.Ytfakfgblaakgdaa.Files

/- FilesLast: for all files and numbers of bulk at most 1048576 the law returns true, and what it is given stays. (Printed by wip/gen_rows.py.) -/
namespace Go.Proofs.Ytfakfgblaakgdaa.rowLast
open Go.ChangeShapes Go.WideShapes Go.ChangeAt Go.RowKit Go.Proofs.Ytfakfgblaakgdaa.Lift
set_option linter.unusedVariables false
set_option linter.unusedSimpArgs false
theorem own : ownKnob Try.prog.godebug = none := by kernel_rfl
theorem laidOut : laidOutB Try.prog = true := by kernel_rfl

set_option maxRecDepth 100000 in
set_option maxHeartbeats 4000000 in
theorem lifted (os : Os) (started : os.Started) (H : Type) (enc : TypeId × Value → H) (F : Stop.Interp) :
    ReturnsInHanded {} Try.checked os 9 .any ((Rows.OpenSpec.upto Rows.filesLastSpec).pre6 enc Try.prog Try.f9 Rows.filesLastUptoRow.domain false) (((Rows.OpenSpec.upto Rows.filesLastSpec).at F).post enc Try.prog Try.f9 false true false false) := by
  refine returnsInHanded_of_cond (C := Try.checked) (s := Rows.OpenSpec.upto Rows.filesLastSpec) (k := Rows.uptoSmall) rfl own started (by kernel_rfl) Try.func9
    (OpenSpec.witness (enc := enc) (C := Try.checked) (s := Rows.OpenSpec.upto Rows.filesLastSpec) (k := Rows.uptoSmall) rfl false ⟨#[], #[.agg #[.int .i64 0, .slice none 0 0, .slice none 0 0, .slice none 0 0, .int .i64 0], .slice none 0 0], []⟩ 8 (by kernel_rfl) (by kernel_rfl) (by kernel_rfl)
      (x := ([.agg [.lit (.int .i64 0), .nil, .nil, .nil, .lit (.int .i64 0)], .nil], [], [])) (by kernel_rfl) rfl (by kernel_rfl)) ?_
  intro W base args ds gs before hval hW _ hk _
  have hW' := hW
  obtain ⟨p, q, hA0, hV, rfl, hfz, hnd⟩ := hW
  have hA : DataW.TrodAll enc Try.prog W 0 (fun _ => true) true Try.f9.params.toList args.toList ds p := hA0
  rw [Try.params9] at hA hval
  obtain ⟨v0, vs0, d0, ds0, p0, q0, hargs, rfl, rfl, h0, r0⟩ := trodAll_cons hA
  obtain ⟨v1, vs1, d1, ds1, p1, q1, rfl, rfl, rfl, h1, r1⟩ := trodAll_cons r0
  obtain ⟨rfl, rfl, rfl⟩ := trodAll_nil r1
  obtain rfl : args = #[v0, v1] := by cases args; simp_all
  obtain ⟨rfl, rfl⟩ := trodVars_none hV
  have k0 := h0
  have lt0 : ∀ x ∈ p0, x.block < W.heap.size := by obtain ⟨m, hm⟩ := k0; exact DataW.trod_lt m _ _ _ hm
  have k1 := h1
  have lt1 : ∀ x ∈ p1, x.block < W.heap.size := by obtain ⟨m, hm⟩ := k1; exact DataW.trod_lt m _ _ _ hm
  obtain ⟨cs0, hcs0, _⟩ := okWide_struct Try.underlying25 (hval 0 25 v0 rfl rfl)
  obtain ⟨fu0, hf0⟩ := h0
  obtain ⟨s0, F0, N0, S0, fc0, nc0, sc0, rfl, hd0, wf0, in0, us0, sm0⟩ := trod_state2 ⟨cs0, hcs0⟩ hf0
  obtain ⟨A1, sn1, c1, rfl⟩ := okWide_slice Try.underlying69 (hval 1 69 v1 rfl rfl)
  obtain ⟨fu1, hf1⟩ := h1
  obtain ⟨B1, l1, b1, hv1, lc1, hC1, fx1, hb1⟩ := trod_ints (v := .slice A1 sn1 c1) hf1
  injection hv1 with e1 e2 e3
  subst e1 e2 e3
  have hb : Rows.uptoBulk d0 + Rows.uptoBulk d1 ≤ 1048576 := by
    have h := of_decide_eq_true hk
    simp only [List.append_nil, Rows.uptoBulkAll] at h
    omega
  clear hA0 hk
  refine (Files.last_walk s0 l1 F0 N0 S0 A1 fc0 nc0 sc0 c1 W hd0 (sm0 (by omega)).1 wf0 (by omega) hC1 (by omega) fx1).mono fun e W' ⟨he, bel⟩ => ?_
  subst he
  exact ⟨_, rfl, _, _, _, [], _, [], hW', trodAll_mk1 (shut_bool Try.underlying4 _), (trodAll_cons_mk (Below.trod laidOut (by kernel_rfl) (of_decide_eq_true (by kernel_rfl)) k0 bel lt0) (trodAll_cons_mk (Below.trod laidOut (by kernel_rfl) (of_decide_eq_true (by kernel_rfl)) k1 bel lt1) trodAll_mk0)), rfl, bel.frame _, fun h => by cases h⟩

theorem proved : Rows.FilesLastUptoSaid :=
  OpenClaim.holds_of_cond 9 Try.f9 rfl rfl rfl rfl rfl rfl rfl ⟨rfl, rfl, rfl, rfl, rfl⟩ rfl rfl rfl rfl rfl (by kernel_rfl) Try.func9 (by kernel_rfl)
    (of_decide_eq_true (by kernel_rfl)) (by unfold Func.isWrapper; first | (rw [if_pos (by decide +kernel)]; kernel_rfl) | (rw [if_neg (by decide +kernel)]; exact ⟨rfl, rfl⟩))
    (fun os started H enc _ F => lifted os started H enc F)
end Go.Proofs.Ytfakfgblaakgdaa.rowLast
namespace Go.Proofs.Ytfakfgblaakgdaa
theorem filesLast_holds : Rows.FilesLastUptoSaid := rowLast.proved
#print axioms filesLast_holds
end Go.Proofs.Ytfakfgblaakgdaa
