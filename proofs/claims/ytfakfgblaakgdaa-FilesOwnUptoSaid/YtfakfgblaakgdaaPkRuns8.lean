/- A part of the proof: The document's Check of files: walked. (Printed by wip/gen_refc.py.) -/
import Derived.Test.YtfakfgblaakgdaaPkRuns7

/- The document's Check of files: walked. (Printed by wip/gen_refc.py.) -/
namespace Go.Proofs.Ytfakfgblaakgdaa.Files.Ref
set_option linter.unusedVariables false
set_option linter.unusedSimpArgs false
open Go.RowKit Go.Proofs.YtfakfgblaakgdaaW.PrintWords Go.Proofs.YtfakfgblaakgdaaW.PrintLast Go.Proofs.Ytfakfgblaakgdaa.Base Go.Proofs.Ytfakfgblaakgdaa.Cells Go.Proofs.Ytfakfgblaakgdaa.Ints Go.Proofs.Ytfakfgblaakgdaa.Var Go.Proofs.Ytfakfgblaakgdaa.EditPure Go.Proofs.Ytfakfgblaakgdaa.Edit Go.Proofs.Ytfakfgblaakgdaa.Sets Go.Proofs.Ytfakfgblaakgdaa.Wide Go.Proofs.Ytfakfgblaakgdaa.RowsC

theorem hdB_false {s : St} (h : ¬ HdOk s) : hdB s = false := by cases hq : hdB s with | false => rfl | true => exact absurd (hdB_iff.1 hq) h
theorem flOkR_iff {s : St} {i : Nat} {f : Fl} : flOkR s i f = true ↔ 1 ≤ f.id ∧ f.id < s.next ∧ (i = 0 ∨ (s.files.getD (i - 1) zFl).id < f.id) ∧ 0 ≤ f.sync ∧ f.sync ≤ f.data.length ∧ (stands s.names f.id = true ∨ stands s.safe f.id = true) := by
  simp only [flOkR, Bool.and_eq_true, Bool.or_eq_true, decide_eq_true_eq, beq_iff_eq]
theorem flOkR_false {s : St} {i : Nat} {f : Fl} (h : ¬ (1 ≤ f.id ∧ f.id < s.next ∧ (i = 0 ∨ (s.files.getD (i - 1) zFl).id < f.id) ∧ 0 ≤ f.sync ∧ f.sync ≤ f.data.length ∧ (stands s.names f.id = true ∨ stands s.safe f.id = true))) : flOkR s i f = false := by
  cases hq : flOkR s i f with | false => rfl | true => exact absurd (flOkR_iff.1 hq) h

set_option maxRecDepth 100000 in
set_option maxHeartbeats 8000000 in
theorem check_any (s : St) (F N S : Option Addr) (lf fc ln nc ls sc : Nat) (w : World) (h : Hd w s F fc N nc S sc) (hs : Small s) (hlf : s.files.length = lf) (hln : s.names.length = ln) (hls : s.safe.length = ls) :
    Calls Try.prog 26 #[.agg #[.int .i64 s.cap, .slice F lf fc, .slice N ln nc, .slice S ls sc, .int .i64 s.next]] w fun e w' => e = .returned (.int .i64 (stE s)) ∧ Below w.heap.size w w' := by
  have HF0 := Aside0.mk (hlf ▸ h.hF : kFl.C w F lf s.files)
  have HN0 := Aside0.mk (hln ▸ h.hN : kNm.C w N ln s.names)
  have HS0 := Aside0.mk (hls ▸ h.hS : kNm.C w S ls s.safe)
  have HS := Aside0.mk hs
  have LF := Aside0.mk hlf
  have LN := Aside0.mk hln
  have LS := Aside0.mk hls
  have hlf1 : lf ≤ 1048576 := by rw [← hlf]; exact hs.lf
  have hln1 : ln ≤ 1048576 := by rw [← hln]; exact hs.ln
  have hls1 : ls ≤ 1048576 := by rw [← hls]; exact hs.ls
  obtain ⟨q, hq⟩ := named (stE s)
  rw [← hq.out]
  have HQ : Aside0 (q = if stR' s then 0 else 9) := ⟨by rw [hq.out, stE, stR_eq]⟩
  obtain ⟨cap, hcap⟩ : ∃ c, s.cap = c := ⟨_, rfl⟩
  obtain ⟨next, hnext⟩ : ∃ c, s.next = c := ⟨_, rfl⟩
  have CAP := Aside0.mk hcap
  have NEXT := Aside0.mk hnext
  rw [hcap, hnext]
  clear h hs hlf hln hls hcap hnext
  go_enter Try.func26, Try.ntmps26
  go_upto_region 1 with (fail)
  obtain ⟨W0, hW0⟩ : ∃ W, W = w.alloc (.cells #[.int .i64 cap, .slice F lf fc, .slice N ln nc, .slice S ls sc, .int .i64 next] 25) := ⟨_, rfl⟩
  have hk2 : W0.heap[w.heap.size]? = some (.cells #[.int .i64 cap, .slice F lf fc, .slice N ln nc, .slice S ls sc, .int .i64 next] 25 (0, 0)) := by rw [hW0]; exact blk_new _ _
  have HB0 : Aside0 (Below w.heap.size w W0) := ⟨by rw [hW0]; exact below_alloc (Below.refl _ _) _⟩
  rw [← hW0]
  clear hW0
  have HK2 := Aside0.mk hk2
  clear hk2
  obtain ⟨hd, hhd⟩ := named (hdB s)
  go_cut [47] (fun v47 wc => v47 = .bool (!hd) ∧ Aside0 (Below W0.heap.size W0 wc))
  case first =>
    obtain ⟨us, hus⟩ := named (usedF s.files)
    have CU : ∀ x : Later W0, Calls Try.prog 52 #[.agg #[.int .i64 cap, .slice F lf fc, .slice N ln nc, .slice S ls sc, .int .i64 next]] (wb W0 x) fun e w' => e = .returned (.int .i64 us) ∧ Below (wb W0 x).heap.size (wb W0 x) w' := fun x => by
      rw [hus.out]
      exact used_any s.files cap next F N S lf fc ln nc ls sc _ (Kd.C_below HF0.out (bthen HB0.out (wb_below _ x))) hlf1 HS.out.ld
    obtain ⟨x0, x1, x2, x3, x4, _, _, _, _, _⟩ := all5 HK2.out
    have X0 := wb_cell x0
    have X1 := wb_cell x1
    have X2 := wb_cell x2
    have X3 := wb_cell x3
    have X4 := wb_cell x4
    clear x0 x1 x2 x3 x4
    by_cases g0 : cap < 0
    · have HV : Aside0 (hd = false) := ⟨by rw [hhd.out]; exact hdB_false (fun k => by have := k.c0; have := LF.out; have := LN.out; have := LS.out; have := CAP.out; have := NEXT.out; have := hus.out; omega)⟩
      refine wp_region_wide (by kernel_rfl) (by kernel_rfl) ?_
      repeat (go_big_quiet_step ((go_at_call 52; exact wide_of (CU _))))
      refine wpQuiet_nil ?_
      rintro w' ⟨x, rfl⟩
      go_wp2
      go_meet
      exact ⟨by rw [HV.out]; rfl, ⟨wb_below _ x⟩⟩
    · skip
      by_cases g1 : 16777216 < cap
      · have HV : Aside0 (hd = false) := ⟨by rw [hhd.out]; exact hdB_false (fun k => by have := k.c1; have := LF.out; have := LN.out; have := LS.out; have := CAP.out; have := NEXT.out; have := hus.out; omega)⟩
        refine wp_region_wide (by kernel_rfl) (by kernel_rfl) ?_
        repeat (go_big_quiet_step ((go_at_call 52; exact wide_of (CU _))))
        refine wpQuiet_nil ?_
        rintro w' ⟨x, rfl⟩
        go_wp2
        go_meet
        exact ⟨by rw [HV.out]; rfl, ⟨wb_below _ x⟩⟩
      · skip
        by_cases g2 : (256 : Int) < (lf : Int)
        · have HV : Aside0 (hd = false) := ⟨by rw [hhd.out]; exact hdB_false (fun k => by have := k.lf; have := LF.out; have := LN.out; have := LS.out; have := CAP.out; have := NEXT.out; have := hus.out; omega)⟩
          have e2 : decide ((256 : Int) < (lf : Int)) = true := decide_eq_true g2
          refine wp_region_wide (by kernel_rfl) (by kernel_rfl) ?_
          repeat (go_big_quiet_step ((go_at_call 52; exact wide_of (CU _))))
          refine wpQuiet_nil ?_
          rintro w' ⟨x, rfl⟩
          go_wp2
          go_meet
          exact ⟨by rw [HV.out]; rfl, ⟨wb_below _ x⟩⟩
        · skip
          have e2 : decide ((256 : Int) < (lf : Int)) = false := decide_eq_false g2
          by_cases g3 : next < 1
          · have HV : Aside0 (hd = false) := ⟨by rw [hhd.out]; exact hdB_false (fun k => by have := k.n0; have := LF.out; have := LN.out; have := LS.out; have := CAP.out; have := NEXT.out; have := hus.out; omega)⟩
            refine wp_region_wide (by kernel_rfl) (by kernel_rfl) ?_
            repeat (go_big_quiet_step ((go_at_call 52; exact wide_of (CU _))))
            refine wpQuiet_nil ?_
            rintro w' ⟨x, rfl⟩
            go_wp2
            go_meet
            exact ⟨by rw [HV.out]; rfl, ⟨wb_below _ x⟩⟩
          · skip
            by_cases g4 : 2147483647 < next
            · have HV : Aside0 (hd = false) := ⟨by rw [hhd.out]; exact hdB_false (fun k => by have := k.n1; have := LF.out; have := LN.out; have := LS.out; have := CAP.out; have := NEXT.out; have := hus.out; omega)⟩
              refine wp_region_wide (by kernel_rfl) (by kernel_rfl) ?_
              repeat (go_big_quiet_step ((go_at_call 52; exact wide_of (CU _))))
              refine wpQuiet_nil ?_
              rintro w' ⟨x, rfl⟩
              go_wp2
              go_meet
              exact ⟨by rw [HV.out]; rfl, ⟨wb_below _ x⟩⟩
            · skip
              by_cases g5 : cap < us
              · have HV : Aside0 (hd = false) := ⟨by rw [hhd.out]; exact hdB_false (fun k => by have := k.us; have := LF.out; have := LN.out; have := LS.out; have := CAP.out; have := NEXT.out; have := hus.out; omega)⟩
                refine wp_region_wide (by kernel_rfl) (by kernel_rfl) ?_
                repeat (go_big_quiet_step ((go_at_call 52; exact wide_of (CU _))))
                refine wpQuiet_nil ?_
                rintro w' ⟨x, rfl⟩
                go_wp2
                go_meet
                exact ⟨by rw [HV.out]; rfl, ⟨wb_below _ x⟩⟩
              · skip
                by_cases g6 : (256 : Int) < (ln : Int)
                · have HV : Aside0 (hd = false) := ⟨by rw [hhd.out]; exact hdB_false (fun k => by have := k.ln; have := LF.out; have := LN.out; have := LS.out; have := CAP.out; have := NEXT.out; have := hus.out; omega)⟩
                  have e6 : decide ((256 : Int) < (ln : Int)) = true := decide_eq_true g6
                  refine wp_region_wide (by kernel_rfl) (by kernel_rfl) ?_
                  repeat (go_big_quiet_step ((go_at_call 52; exact wide_of (CU _))))
                  refine wpQuiet_nil ?_
                  rintro w' ⟨x, rfl⟩
                  go_wp2
                  go_meet
                  exact ⟨by rw [HV.out]; rfl, ⟨wb_below _ x⟩⟩
                · skip
                  have e6 : decide ((256 : Int) < (ln : Int)) = false := decide_eq_false g6
                  by_cases g7 : (256 : Int) < (ls : Int)
                  · have HV : Aside0 (hd = false) := ⟨by rw [hhd.out]; exact hdB_false (fun k => by have := k.ls; have := LF.out; have := LN.out; have := LS.out; have := CAP.out; have := NEXT.out; have := hus.out; omega)⟩
                    have e7 : decide ((256 : Int) < (ls : Int)) = true := decide_eq_true g7
                    refine wp_region_wide (by kernel_rfl) (by kernel_rfl) ?_
                    repeat (go_big_quiet_step ((go_at_call 52; exact wide_of (CU _))))
                    refine wpQuiet_nil ?_
                    rintro w' ⟨x, rfl⟩
                    go_wp2
                    go_meet
                    exact ⟨by rw [HV.out]; rfl, ⟨wb_below _ x⟩⟩
                  · skip
                    have e7 : decide ((256 : Int) < (ls : Int)) = false := decide_eq_false g7
                    have HV : Aside0 (hd = true) := ⟨by rw [hhd.out]; exact hdB_iff.2 ⟨by rw [CAP.out]; omega, by rw [CAP.out]; omega, by rw [LF.out]; omega, by rw [NEXT.out]; omega, by rw [NEXT.out]; omega, by rw [CAP.out, ← hus.out]; omega, by rw [LN.out]; omega, by rw [LS.out]; omega⟩⟩
                    refine wp_region_wide (by kernel_rfl) (by kernel_rfl) ?_
                    repeat (go_big_quiet_step ((go_at_call 52; exact wide_of (CU _))))
                    refine wpQuiet_nil ?_
                    rintro w' ⟨x, rfl⟩
                    go_wp2
                    go_meet
                    exact ⟨by rw [HV.out]; rfl, ⟨wb_below _ x⟩⟩
  case rest =>
    obtain ⟨rfl, HBc⟩ := hcut
    obtain ⟨wd, hwd⟩ : ∃ wd, wd = wc := ⟨_, rfl⟩
    rw [← hwd] at HBc ⊢
    clear hwd
    cases hdv : hd with
    | false =>
      have HQ2 : Aside0 (q = 9) := ⟨by rw [HQ.out, stR', ← hhd.out, hdv]; rfl⟩
      clear hdv
      go_wp2
      go_ret
      exact ⟨by rw [HQ2.out]; rfl, bthen HB0.out HBc.out⟩
    | true =>
      have HQ1 : Aside0 (q = if flToR s lf && (namesOk s.files s.names && namesOk s.files s.safe) then 0 else 9) := ⟨by rw [HQ.out, stR', ← hhd.out, hdv, LF.out]; rfl⟩
      clear hdv
      have HK := Aside0.mk (blk_keep HK2.out HBc.out)
      have HBw0 := Aside0.mk (bthen HB0.out HBc.out)
      obtain ⟨x0, x1, x2, x3, x4, _, _, _, _, _⟩ := all5 HK.out
      go_wp2
      go_loopg [3] lf (fun g v3 wr => ∃ i : Nat, v3 = .int .i64 i ∧ g + i = lf ∧ Aside0 (flToR s i = true) ∧ Aside0 (Below wd.heap.size wd wr))
      case atStart => exact ⟨0, rfl, by omega, ⟨rfl⟩, ⟨Below.refl _ _⟩⟩
      case round =>
        obtain ⟨i, rfl, hg, HT, HBr⟩ := hrel
        have HBw : Aside0 (Below w.heap.size w wr) := ⟨bthen HBw0.out HBr.out⟩
        have HKr := Aside0.mk (blk_keep HK.out HBr.out)
        clear x0 x1 x2 x3 x4
        obtain ⟨_, y1, _, _, _, _, _, _, _, _⟩ := all5 HKr.out
        by_cases hlt : i < lf
        · have hlt' : (i : Int) < (lf : Int) := by omega
          obtain ⟨f, hf⟩ : ∃ f, s.files[i]? = some f := ⟨_, List.getElem?_eq_getElem (by rw [LF.out]; omega)⟩
          obtain ⟨ad, D, dc, hFs, d0, d1, d2, _, _⟩ := atFl (Kd.C_below HF0.out HBw.out) i f hf
          subst hFs
          have hgd : s.files.getD i zFl = f := by rw [List.getD_eq_getElem?_getD, hf]; rfl
          obtain ⟨ok, hok⟩ := named (flOkR s i f)
          have HTO : Aside0 (flToR s (i + 1) = ok) := ⟨by rw [flToR, HT.out, hgd, ← hok.out]; rfl⟩
          obtain ⟨fid, hfid⟩ : ∃ n, f.id = n := ⟨_, rfl⟩
          obtain ⟨fsy, hfsy⟩ : ∃ n, f.sync = n := ⟨_, rfl⟩
          obtain ⟨ld, hld⟩ : ∃ n, f.data.length = n := ⟨_, rfl⟩
          have FID := Aside0.mk hfid
          have FSY := Aside0.mk hfsy
          have FLD := Aside0.mk hld
          rw [hfid] at d0
          rw [hld] at d1
          rw [hfsy] at d2
          clear hf hgd hfid hfsy hld
          go_upto_region 7 with (fail)
          obtain ⟨W4, hW4⟩ : ∃ W, W = wr.alloc (.cells #[.int .i64 fid, .slice D ld dc, .int .i64 fsy] 106) := ⟨_, rfl⟩
          have hk4 : W4.heap[wr.heap.size]? = some (.cells #[.int .i64 fid, .slice D ld dc, .int .i64 fsy] 106 (0, 0)) := by rw [hW4]; exact blk_new _ _
          have HB4 : Aside0 (Below wr.heap.size wr W4) := ⟨by rw [hW4]; exact below_alloc (Below.refl _ _) _⟩
          rw [← hW4]
          clear hW4 d0 d1 d2 y1
          have HK4 := Aside0.mk hk4
          have HBw4 : Aside0 (Below w.heap.size w W4) := ⟨bthen HBw.out HB4.out⟩
          clear hk4
          go_cut [114] (fun v114 wc2 => v114 = .bool (!ok) ∧ Aside0 (Below W4.heap.size W4 wc2))
          case first =>
            obtain ⟨s1, hs1⟩ := named (stands s.names fid)
            obtain ⟨s2, hs2⟩ := named (stands s.safe fid)
            have CS1 : ∀ x : Later W4, Calls Try.prog 53 #[.slice N ln nc, .int .i64 fid] (wb W4 x) fun e w' => e = .returned (.bool s1) ∧ wb W4 x = w' := fun x => by
              rw [hs1.out]; exact stands_any s.names fid N ln nc _ (Kd.C_below HN0.out (bthen HBw4.out (wb_below _ x))) hln1
            have CS2 : ∀ x : Later W4, Calls Try.prog 53 #[.slice S ls sc, .int .i64 fid] (wb W4 x) fun e w' => e = .returned (.bool s2) ∧ wb W4 x = w' := fun x => by
              rw [hs2.out]; exact stands_any s.safe fid S ls sc _ (Kd.C_below HS0.out (bthen HBw4.out (wb_below _ x))) hls1
            obtain ⟨z0, z1, z2, _, _, _⟩ := all3 HK4.out
            obtain ⟨y0, y1, y2, y3, y4, _, _, _, _, _⟩ := all5 (blk_keep HKr.out HB4.out)
            have Z0 := wb_cell z0
            have Z1 := wb_cell z1
            have Z2 := wb_cell z2
            have Y0 := wb_cell y0
            have Y1 := wb_cell y1
            have Y2 := wb_cell y2
            have Y3 := wb_cell y3
            have Y4 := wb_cell y4
            clear z0 z1 z2 y0 y1 y2 y3 y4
            by_cases hi0 : i = 0
            · have hi1 : decide (0 < i) = false := by simp [hi0]
              have hi2 : ¬ (0 < i) := by omega
              have I0 := Aside0.mk hi0
              clear hi0
              by_cases g0 : fid < 1
              · have HV : Aside0 (ok = false) := ⟨by rw [hok.out]; exact flOkR_false (fun k => by obtain ⟨k1, k2, k3, k4, k5, k6⟩ := k; have := FID.out; have := FSY.out; have := FLD.out; have := NEXT.out; omega)⟩
                refine wp_region_wide (by kernel_rfl) (by kernel_rfl) ?_
                repeat (go_big_quiet_step ((first | (go_at_call 53; with_reducible exact wide_same (CS1 _)) | (go_at_call 53; with_reducible exact wide_same (CS2 _)))))
                refine wpQuiet_nil ?_
                rintro w' ⟨x, rfl⟩
                go_wp2
                go_meet
                exact ⟨by rw [HV.out]; rfl, ⟨wb_below _ x⟩⟩
              · skip
                by_cases g1 : next ≤ fid
                · have HV : Aside0 (ok = false) := ⟨by rw [hok.out]; exact flOkR_false (fun k => by obtain ⟨k1, k2, k3, k4, k5, k6⟩ := k; have := FID.out; have := FSY.out; have := FLD.out; have := NEXT.out; omega)⟩
                  refine wp_region_wide (by kernel_rfl) (by kernel_rfl) ?_
                  repeat (go_big_quiet_step ((first | (go_at_call 53; with_reducible exact wide_same (CS1 _)) | (go_at_call 53; with_reducible exact wide_same (CS2 _)))))
                  refine wpQuiet_nil ?_
                  rintro w' ⟨x, rfl⟩
                  go_wp2
                  go_meet
                  exact ⟨by rw [HV.out]; rfl, ⟨wb_below _ x⟩⟩
                · skip
                  by_cases g2 : fsy < 0
                  · have HV : Aside0 (ok = false) := ⟨by rw [hok.out]; exact flOkR_false (fun k => by obtain ⟨k1, k2, k3, k4, k5, k6⟩ := k; have := FID.out; have := FSY.out; have := FLD.out; have := NEXT.out; omega)⟩
                    refine wp_region_wide (by kernel_rfl) (by kernel_rfl) ?_
                    repeat (go_big_quiet_step ((first | (go_at_call 53; with_reducible exact wide_same (CS1 _)) | (go_at_call 53; with_reducible exact wide_same (CS2 _)))))
                    refine wpQuiet_nil ?_
                    rintro w' ⟨x, rfl⟩
                    go_wp2
                    go_meet
                    exact ⟨by rw [HV.out]; rfl, ⟨wb_below _ x⟩⟩
                  · skip
                    by_cases g3 : (ld : Int) < fsy
                    · have HV : Aside0 (ok = false) := ⟨by rw [hok.out]; exact flOkR_false (fun k => by obtain ⟨k1, k2, k3, k4, k5, k6⟩ := k; have := FID.out; have := FSY.out; have := FLD.out; have := NEXT.out; omega)⟩
                      refine wp_region_wide (by kernel_rfl) (by kernel_rfl) ?_
                      repeat (go_big_quiet_step ((first | (go_at_call 53; with_reducible exact wide_same (CS1 _)) | (go_at_call 53; with_reducible exact wide_same (CS2 _)))))
                      refine wpQuiet_nil ?_
                      rintro w' ⟨x, rfl⟩
                      go_wp2
                      go_meet
                      exact ⟨by rw [HV.out]; rfl, ⟨wb_below _ x⟩⟩
                    · skip
                      have hal : (1 ≤ f.id ∧ f.id < s.next ∧ (i = 0 ∨ (s.files.getD (i - 1) zFl).id < fid) ∧ 0 ≤ f.sync ∧ f.sync ≤ f.data.length) := by rw [FID.out, FSY.out, FLD.out, NEXT.out]; exact ⟨by omega, by omega, .inl I0.out, by omega, by omega⟩
                      have HAL := Aside0.mk hal
                      clear hal
                      cases hv1 : s1 with
                      | true =>
                        rw [hv1] at CS1
                        have HV : Aside0 (ok = true) := ⟨by rw [hok.out]; refine flOkR_iff.2 ⟨HAL.out.1, HAL.out.2.1, by rw [FID.out]; exact HAL.out.2.2.1, HAL.out.2.2.2.1, HAL.out.2.2.2.2, .inl (by rw [FID.out, ← hs1.out]; exact hv1)⟩⟩
                        clear hv1
                        refine wp_region_wide (by kernel_rfl) (by kernel_rfl) ?_
                        repeat (go_big_quiet_step ((first | (go_at_call 53; with_reducible exact wide_same (CS1 _)) | (go_at_call 53; with_reducible exact wide_same (CS2 _)))))
                        refine wpQuiet_nil ?_
                        rintro w' ⟨x, rfl⟩
                        go_wp2
                        go_meet
                        exact ⟨by rw [HV.out]; rfl, ⟨wb_below _ x⟩⟩
                      | false =>
                        rw [hv1] at CS1
                        have HV1 := Aside0.mk hv1
                        clear hv1
                        cases hv2 : s2 with
                        | true =>
                          rw [hv2] at CS2
                          have HV : Aside0 (ok = true) := ⟨by rw [hok.out]; refine flOkR_iff.2 ⟨HAL.out.1, HAL.out.2.1, by rw [FID.out]; exact HAL.out.2.2.1, HAL.out.2.2.2.1, HAL.out.2.2.2.2, .inr (by rw [FID.out, ← hs2.out]; exact hv2)⟩⟩
                          clear hv2
                          refine wp_region_wide (by kernel_rfl) (by kernel_rfl) ?_
                          repeat (go_big_quiet_step ((first | (go_at_call 53; with_reducible exact wide_same (CS1 _)) | (go_at_call 53; with_reducible exact wide_same (CS2 _)))))
                          refine wpQuiet_nil ?_
                          rintro w' ⟨x, rfl⟩
                          go_wp2
                          go_meet
                          exact ⟨by rw [HV.out]; rfl, ⟨wb_below _ x⟩⟩
                        | false =>
                          rw [hv2] at CS2
                          have HV : Aside0 (ok = false) := ⟨by rw [hok.out]; exact flOkR_false (fun k => by obtain ⟨k1, k2, k3, k4, k5, k6⟩ := k; rw [FID.out, ← hs1.out, ← hs2.out, HV1.out, hv2] at k6; rcases k6 with k6 | k6 <;> cases k6)⟩
                          clear hv2
                          refine wp_region_wide (by kernel_rfl) (by kernel_rfl) ?_
                          repeat (go_big_quiet_step ((first | (go_at_call 53; with_reducible exact wide_same (CS1 _)) | (go_at_call 53; with_reducible exact wide_same (CS2 _)))))
                          refine wpQuiet_nil ?_
                          rintro w' ⟨x, rfl⟩
                          go_wp2
                          go_meet
                          exact ⟨by rw [HV.out]; rfl, ⟨wb_below _ x⟩⟩
            · obtain ⟨k, rfl⟩ : ∃ k, i = k + 1 := ⟨i - 1, by omega⟩
              clear hi0
              obtain ⟨p, hp⟩ : ∃ p, s.files[k]? = some p := ⟨_, List.getElem?_eq_getElem (by rw [LF.out]; omega)⟩
              obtain ⟨ad', D', dc', had, e0, _, _, _, _⟩ := atFl (Kd.C_below HF0.out HBw4.out) k p hp
              obtain rfl : ad = ad' := by injection had
              obtain ⟨pid, hpid⟩ : ∃ n, p.id = n := ⟨_, rfl⟩
              rw [hpid] at e0
              have E0 := wb_cell e0
              have PID := Aside0.mk hpid
              have PRV : Aside0 (s.files.getD (k + 1 - 1) zFl = p) := ⟨by rw [Nat.add_sub_cancel, List.getD_eq_getElem?_getD, hp]; rfl⟩
              clear hp had e0 hpid
              by_cases g0 : fid < 1
              · have HV : Aside0 (ok = false) := ⟨by rw [hok.out]; exact flOkR_false (fun k => by obtain ⟨k1, k2, k3, k4, k5, k6⟩ := k; have := FID.out; have := FSY.out; have := FLD.out; have := NEXT.out; omega)⟩
                refine wp_region_wide (by kernel_rfl) (by kernel_rfl) ?_
                repeat (go_big_quiet_step ((first | (go_at_call 53; with_reducible exact wide_same (CS1 _)) | (go_at_call 53; with_reducible exact wide_same (CS2 _)))))
                refine wpQuiet_nil ?_
                rintro w' ⟨x, rfl⟩
                go_wp2
                go_meet
                exact ⟨by rw [HV.out]; rfl, ⟨wb_below _ x⟩⟩
              · skip
                by_cases g1 : next ≤ fid
                · have HV : Aside0 (ok = false) := ⟨by rw [hok.out]; exact flOkR_false (fun k => by obtain ⟨k1, k2, k3, k4, k5, k6⟩ := k; have := FID.out; have := FSY.out; have := FLD.out; have := NEXT.out; omega)⟩
                  refine wp_region_wide (by kernel_rfl) (by kernel_rfl) ?_
                  repeat (go_big_quiet_step ((first | (go_at_call 53; with_reducible exact wide_same (CS1 _)) | (go_at_call 53; with_reducible exact wide_same (CS2 _)))))
                  refine wpQuiet_nil ?_
                  rintro w' ⟨x, rfl⟩
                  go_wp2
                  go_meet
                  exact ⟨by rw [HV.out]; rfl, ⟨wb_below _ x⟩⟩
                · skip
                  by_cases g2 : fid ≤ pid
                  · have HV : Aside0 (ok = false) := ⟨by rw [hok.out]; exact flOkR_false (fun k => by obtain ⟨k1, k2, k3, k4, k5, k6⟩ := k; have := FID.out; have := FSY.out; have := FLD.out; have := NEXT.out; rw [PRV.out, PID.out] at k3; omega)⟩
                    refine wp_region_wide (by kernel_rfl) (by kernel_rfl) ?_
                    repeat (go_big_quiet_step ((first | (go_at_call 53; with_reducible exact wide_same (CS1 _)) | (go_at_call 53; with_reducible exact wide_same (CS2 _)))))
                    refine wpQuiet_nil ?_
                    rintro w' ⟨x, rfl⟩
                    go_wp2
                    go_meet
                    exact ⟨by rw [HV.out]; rfl, ⟨wb_below _ x⟩⟩
                  · skip
                    by_cases g3 : fsy < 0
                    · have HV : Aside0 (ok = false) := ⟨by rw [hok.out]; exact flOkR_false (fun k => by obtain ⟨k1, k2, k3, k4, k5, k6⟩ := k; have := FID.out; have := FSY.out; have := FLD.out; have := NEXT.out; omega)⟩
                      refine wp_region_wide (by kernel_rfl) (by kernel_rfl) ?_
                      repeat (go_big_quiet_step ((first | (go_at_call 53; with_reducible exact wide_same (CS1 _)) | (go_at_call 53; with_reducible exact wide_same (CS2 _)))))
                      refine wpQuiet_nil ?_
                      rintro w' ⟨x, rfl⟩
                      go_wp2
                      go_meet
                      exact ⟨by rw [HV.out]; rfl, ⟨wb_below _ x⟩⟩
                    · skip
                      by_cases g4 : (ld : Int) < fsy
                      · have HV : Aside0 (ok = false) := ⟨by rw [hok.out]; exact flOkR_false (fun k => by obtain ⟨k1, k2, k3, k4, k5, k6⟩ := k; have := FID.out; have := FSY.out; have := FLD.out; have := NEXT.out; omega)⟩
                        refine wp_region_wide (by kernel_rfl) (by kernel_rfl) ?_
                        repeat (go_big_quiet_step ((first | (go_at_call 53; with_reducible exact wide_same (CS1 _)) | (go_at_call 53; with_reducible exact wide_same (CS2 _)))))
                        refine wpQuiet_nil ?_
                        rintro w' ⟨x, rfl⟩
                        go_wp2
                        go_meet
                        exact ⟨by rw [HV.out]; rfl, ⟨wb_below _ x⟩⟩
                      · skip
                        have hal : (1 ≤ f.id ∧ f.id < s.next ∧ (k + 1 = 0 ∨ (s.files.getD (k + 1 - 1) zFl).id < fid) ∧ 0 ≤ f.sync ∧ f.sync ≤ f.data.length) := by rw [FID.out, FSY.out, FLD.out, NEXT.out]; exact ⟨by omega, by omega, .inr (by have := PRV.out; rw [this, PID.out]; omega), by omega, by omega⟩
                        have HAL := Aside0.mk hal
                        clear hal
                        cases hv1 : s1 with
                        | true =>
                          rw [hv1] at CS1
                          have HV : Aside0 (ok = true) := ⟨by rw [hok.out]; refine flOkR_iff.2 ⟨HAL.out.1, HAL.out.2.1, by rw [FID.out]; exact HAL.out.2.2.1, HAL.out.2.2.2.1, HAL.out.2.2.2.2, .inl (by rw [FID.out, ← hs1.out]; exact hv1)⟩⟩
                          clear hv1
                          refine wp_region_wide (by kernel_rfl) (by kernel_rfl) ?_
                          repeat (go_big_quiet_step ((first | (go_at_call 53; with_reducible exact wide_same (CS1 _)) | (go_at_call 53; with_reducible exact wide_same (CS2 _)))))
                          refine wpQuiet_nil ?_
                          rintro w' ⟨x, rfl⟩
                          go_wp2
                          go_meet
                          exact ⟨by rw [HV.out]; rfl, ⟨wb_below _ x⟩⟩
                        | false =>
                          rw [hv1] at CS1
                          have HV1 := Aside0.mk hv1
                          clear hv1
                          cases hv2 : s2 with
                          | true =>
                            rw [hv2] at CS2
                            have HV : Aside0 (ok = true) := ⟨by rw [hok.out]; refine flOkR_iff.2 ⟨HAL.out.1, HAL.out.2.1, by rw [FID.out]; exact HAL.out.2.2.1, HAL.out.2.2.2.1, HAL.out.2.2.2.2, .inr (by rw [FID.out, ← hs2.out]; exact hv2)⟩⟩
                            clear hv2
                            refine wp_region_wide (by kernel_rfl) (by kernel_rfl) ?_
                            repeat (go_big_quiet_step ((first | (go_at_call 53; with_reducible exact wide_same (CS1 _)) | (go_at_call 53; with_reducible exact wide_same (CS2 _)))))
                            refine wpQuiet_nil ?_
                            rintro w' ⟨x, rfl⟩
                            go_wp2
                            go_meet
                            exact ⟨by rw [HV.out]; rfl, ⟨wb_below _ x⟩⟩
                          | false =>
                            rw [hv2] at CS2
                            have HV : Aside0 (ok = false) := ⟨by rw [hok.out]; exact flOkR_false (fun k => by obtain ⟨k1, k2, k3, k4, k5, k6⟩ := k; rw [FID.out, ← hs1.out, ← hs2.out, HV1.out, hv2] at k6; rcases k6 with k6 | k6 <;> cases k6)⟩
                            clear hv2
                            refine wp_region_wide (by kernel_rfl) (by kernel_rfl) ?_
                            repeat (go_big_quiet_step ((first | (go_at_call 53; with_reducible exact wide_same (CS1 _)) | (go_at_call 53; with_reducible exact wide_same (CS2 _)))))
                            refine wpQuiet_nil ?_
                            rintro w' ⟨x, rfl⟩
                            go_wp2
                            go_meet
                            exact ⟨by rw [HV.out]; rfl, ⟨wb_below _ x⟩⟩
          case rest =>
            obtain ⟨rfl, HBc2⟩ := hcut
            cases hov : ok with
            | false =>
              have HQ2 : Aside0 (q = 9) := ⟨by rw [HQ1.out, flToR_false (s := s) (i := i + 1) (by rw [HTO.out]; exact hov) (by omega)]; rfl⟩
              clear hov
              go_wp2
              go_ret
              exact ⟨by rw [HQ2.out]; rfl, bthen HBw4.out HBc2.out⟩
            | true =>
              have HT2 : Aside0 (flToR s (i + 1) = true) := ⟨by rw [HTO.out]; exact hov⟩
              clear hov
              go_wp2
              go_roundg (lf - (i + 1))
              case measure => omega
              case rel => exact ⟨i + 1, by go_num, by omega, HT2, ⟨bthen HBr.out (bthen HB4.out HBc2.out)⟩⟩
        · have hnf : ¬ ((i : Int) < (lf : Int)) := by omega
          have HQ3 : Aside0 (q = if namesOk s.files s.names && namesOk s.files s.safe then 0 else 9) := ⟨by
            obtain rfl : i = lf := by omega
            rw [HQ1.out, HT.out]; rfl⟩
          obtain ⟨n1, hn1⟩ := named (namesOk s.files s.names)
          obtain ⟨n2, hn2⟩ := named (namesOk s.files s.safe)
          obtain ⟨z0, _, z2, z3, z4, _, _, _, _, _⟩ := all5 HKr.out
          go_upto_region 9 with (fail)
          go_wp2_with fail
          refine (names_any s.files s.names cap next F N S N lf fc ln nc ls sc ln nc wr (Kd.C_below HF0.out HBw.out) (Kd.C_below HN0.out HBw.out) hlf1 hln1).mono ?_
          rw [← hn1.out]
          rintro e w1 ⟨rfl, hb1⟩
          have HB1 := Aside0.mk (bthen HBw.out hb1)
          obtain ⟨u0, u1, u2, u3, u4, _, _, _, _, _⟩ := all5 (blk_keep HKr.out hb1)
          clear y1 z0 z2 z3 z4 hb1
          cases hv1 : n1 with
          | false =>
            have HQ4 : Aside0 (q = 9) := ⟨by rw [HQ3.out, ← hn1.out, hv1]; rfl⟩
            clear hv1
            go_wp2
            go_ret
            exact ⟨by rw [HQ4.out]; rfl, HB1.out⟩
          | true =>
            have HQ4 : Aside0 (q = if n2 then 0 else 9) := ⟨by rw [HQ3.out, ← hn1.out, hv1, ← hn2.out]; rfl⟩
            clear hv1
            go_wp2_with fail
            refine (names_any s.files s.safe cap next F N S S lf fc ln nc ls sc ls sc w1 (Kd.C_below HF0.out HB1.out) (Kd.C_below HS0.out HB1.out) hlf1 hls1).mono ?_
            rw [← hn2.out]
            rintro e w2 ⟨rfl, hb2⟩
            have HB2 := Aside0.mk (bthen HB1.out hb2)
            clear hb2
            cases hv2 : n2 with
            | false =>
              have HQ5 : Aside0 (q = 9) := ⟨by rw [HQ4.out, hv2]; rfl⟩
              clear hv2
              go_wp2
              go_ret
              exact ⟨by rw [HQ5.out]; rfl, HB2.out⟩
            | true =>
              have HQ5 : Aside0 (q = 0) := ⟨by rw [HQ4.out, hv2]; rfl⟩
              clear hv2
              go_wp2
              go_ret
              exact ⟨by rw [HQ5.out]; rfl, HB2.out⟩
end Go.Proofs.Ytfakfgblaakgdaa.Files.Ref

/- Of, Check, List of a state that is there; the document's Check: contracts in short. -/
namespace Go.Proofs.Ytfakfgblaakgdaa.Files
set_option linter.unusedVariables false
set_option linter.unusedSimpArgs false
open Go.RowKit Go.Proofs.YtfakfgblaakgdaaW.PrintWords Go.Proofs.YtfakfgblaakgdaaW.PrintLast Go.Proofs.Ytfakfgblaakgdaa.Base Go.Proofs.Ytfakfgblaakgdaa.Cells Go.Proofs.Ytfakfgblaakgdaa.Ints Go.Proofs.Ytfakfgblaakgdaa.Var Go.Proofs.Ytfakfgblaakgdaa.EditPure Go.Proofs.Ytfakfgblaakgdaa.Edit Go.Proofs.Ytfakfgblaakgdaa.Sets Go.Proofs.Ytfakfgblaakgdaa.Wide Go.Proofs.Ytfakfgblaakgdaa.RowsC

theorem At.show_ {w : World} {v : Value} {s : St} (h : At w v s) : ∃ n F lf fc N ln nc S ls sc m, v = .agg #[.int .i64 n, .slice F lf fc, .slice N ln nc, .slice S ls sc, .int .i64 m] := by
  obtain ⟨F, fc, N, nc, S, sc, h1, _⟩ := h
  exact ⟨_, _, _, _, _, _, _, _, _, _, _, h1⟩
theorem Hd.at_ {w : World} {s : St} {F N S : Option Addr} {fc nc sc : Nat} (h : Hd w s F fc N nc S sc) : At w (.agg #[.int .i64 s.cap, .slice F s.files.length fc, .slice N s.names.length nc, .slice S s.safe.length sc, .int .i64 s.next]) s := ⟨F, fc, N, nc, S, sc, rfl, h⟩
theorem of_at {s : St} {v : Value} {w : World} (h : At w v s) (hs : Small s) :
    Calls Try.prog 11 #[v] w fun e w' => ∃ v', e = .returned v' ∧ At w' v' s ∧ Below w.heap.size w w' := by
  obtain ⟨F, fc, N, nc, S, sc, rfl, h2⟩ := h
  refine (of_any s F N S fc nc sc w h2 hs).mono ?_
  rintro e w' ⟨vF, vN, vS, rfl, h1, h3, h4, hb⟩
  obtain ⟨F', fc', rfl, a1, a2⟩ := Kd.R_reads h1
  obtain ⟨N', nc', rfl, b1, b2⟩ := Kd.R_reads h3
  obtain ⟨S', sc', rfl, c1, c2⟩ := Kd.R_reads h4
  exact ⟨_, rfl, ⟨F', fc', N', nc', S', sc', rfl, ⟨a2, b2, c2, a1, b1, c1⟩⟩, hb⟩
theorem check_at {s : St} {v : Value} {w : World} (h : At w v s) (hs : Small s) (hw : Wf s) :
    Calls Try.prog 28 #[v] w fun e w' => e = .returned (.int .i64 (stE s)) ∧ Below w.heap.size w w' := by
  obtain ⟨F, fc, N, nc, S, sc, rfl, h2⟩ := h
  exact check_any s F N S fc nc sc w h2 hs hw
theorem rcheck_at {s : St} {v : Value} {w : World} (h : At w v s) (hs : Small s) :
    Calls Try.prog 26 #[v] w fun e w' => e = .returned (.int .i64 (stE s)) ∧ Below w.heap.size w w' := by
  obtain ⟨F, fc, N, nc, S, sc, rfl, h2⟩ := h
  exact Ref.check_any s F N S _ fc _ nc _ sc w h2 hs rfl rfl rfl
/-- a state's value in a new variable -/
theorem box_new {w0 w : World} {base : Nat} {a b c d e : Value} {s : St} (h : Rs w base (.agg #[a, b, c, d, e]) s) (hb : Below w0.heap.size w0 w) :
    Box (w.alloc (.cells #[a, b, c, d, e] 33)) w.heap.size s a b c d e ∧ Below w0.heap.size w0 (w.alloc (.cells #[a, b, c, d, e] 33)) :=
  ⟨⟨blk_new _ _, (h.lower (Nat.zero_le _)).below (below_alloc (Below.refl _ _) _)⟩, below_alloc hb _⟩
theorem stE_good {s : St} (h : Good s) : stE s = 0 := by rw [stE, stB_iff.2 h]; rfl
/-- how long the rows of a state's value are -/
theorem Rs.lens {w : World} {base : Nat} {n m : Int} {F N S : Option Addr} {lf fc ln nc ls sc : Nat} {s : St} (h : Rs w base (.agg #[.int .i64 n, .slice F lf fc, .slice N ln nc, .slice S ls sc, .int .i64 m]) s) : lf = s.files.length ∧ ln = s.names.length ∧ ls = s.safe.length := by
  obtain ⟨F', fc', N', nc', S', sc', h1, _⟩ := h.forms
  simp only [Value.agg.injEq, Array.mk.injEq, List.cons.injEq, Value.slice.injEq] at h1
  exact ⟨h1.2.1.2.1, h1.2.2.1.2.1, h1.2.2.2.1.2.1⟩
end Go.Proofs.Ytfakfgblaakgdaa.Files

/- The document's files: ownNames, without, with: walked. -/
namespace Go.Proofs.Ytfakfgblaakgdaa.Files.Ref
set_option linter.unusedVariables false
set_option linter.unusedSimpArgs false
open Go.RowKit Go.Proofs.YtfakfgblaakgdaaW.PrintWords Go.Proofs.YtfakfgblaakgdaaW.PrintLast Go.Proofs.Ytfakfgblaakgdaa.Base Go.Proofs.Ytfakfgblaakgdaa.Cells Go.Proofs.Ytfakfgblaakgdaa.Ints Go.Proofs.Ytfakfgblaakgdaa.Var Go.Proofs.Ytfakfgblaakgdaa.EditPure Go.Proofs.Ytfakfgblaakgdaa.Edit Go.Proofs.Ytfakfgblaakgdaa.Sets Go.Proofs.Ytfakfgblaakgdaa.Wide Go.Proofs.Ytfakfgblaakgdaa.RowsC

set_option maxRecDepth 100000 in
set_option maxHeartbeats 1000000 in
theorem ownNames_any (A : Option Addr) (n c : Nat) (l : List Nm) (w : World) (hr : kNm.C w A n l) (hb : n ≤ 1048576) :
    Calls Try.prog 62 #[.slice A n c] w fun e w' => ∃ v, e = .returned v ∧ RN w' w.heap.size v l ∧ Below w.heap.size w w' := by
  have hn := Kd.C_len hr
  subst hn
  have HR := Aside0.mk hr
  clear hr
  go_enter Try.func62, Try.ntmps62
  go_wp2_with (at_builtin; refine Kd.R_append_rows kNm (Rr := kNm.K w) (w0 := w) w.heap.size rfl (.tmp 4) (.tmp 5) 23 120 (.agg #[.string ⟨#[]⟩, .int .i64 0]) 24 rfl Try.underlying23 infoNm rfl (by decide) (by omega) (.slice none 0 0) [] l A l.length c (fun _ => True) (fun _ => False) rfl rfl ?aO ?aR ?aK (fun _ hk => hk.elim) (fun _ _ => trivial) ?aB ?aS ?c1 ?_; (case aO => exact Kd.R_nil kNm _ _ _ _); (case aR => exact HR.out); (case aK => intro x cs hx; rw [kNm_open hx]; exact kNm_mkM _ _ _ x); (case aB => exact Below.refl _ _); (case aS => exact Nat.le_refl _); (case c1 => simp only [List.length_nil]; omega); intro v1 w1 hown hB1 hg1 hat; have HO1 := Aside0.mk hown; have HB1 := Aside0.mk hB1; clear hown hB1 hg1 hat)
  go_ret
  exact ⟨_, rfl, by have := HO1.out; rwa [List.nil_append] at this, HB1.out⟩

set_option maxRecDepth 100000 in
set_option maxHeartbeats 1000000 in
theorem without_any (A : Option Addr) (n c : Nat) (l : List Nm) (s : ByteArray) (w : World) (hr : kNm.C w A n l) (hb : n ≤ 1048576) :
    Calls Try.prog 65 #[.slice A n c, .string s] w fun e w' => ∃ v, e = .returned v ∧ RN w' w.heap.size v (withoutN l s) ∧ Below w.heap.size w w' := by
  have hn := Kd.C_len hr
  subst hn
  have HR := Aside0.mk hr
  clear hr
  go_enter Try.func65, Try.ntmps65
  go_wp2
  go_loopg [5, 6] l.length (fun g v5 v6 wr => ∃ i : Nat, v6 = .int .i64 i ∧ g + i = l.length ∧ Aside0 (RN wr w.heap.size v5 (withoutN (l.take i) s)) ∧ Aside0 (Below w.heap.size w wr))
  case atStart => exact ⟨0, rfl, by omega, ⟨Kd.R_nil kNm _ _ _ _⟩, ⟨Below.refl _ _⟩⟩
  case round =>
    obtain ⟨i, rfl, hg, HO, HB⟩ := hrel
    by_cases hlt : i < l.length
    · obtain ⟨m, hm⟩ : ∃ m, l[i]? = some m := ⟨_, List.getElem?_eq_getElem hlt⟩
      obtain ⟨ad, rfl, c0, c1⟩ := atNm (Kd.C_below HR.out HB.out) i m hm
      have ht : l.take (i + 1) = l.take i ++ [m] := by rw [List.take_add_one, hm]; rfl
      have HL : Aside0 ((withoutN (l.take i) s).length ≤ 1048576) := ⟨by
        have h1 : (withoutN (l.take i) s).length ≤ (l.take i).length := List.length_filter_le _ _
        rw [List.length_take] at h1; omega⟩
      cases he : sameB m.name s with
      | true =>
        have HT : Aside0 (withoutN (l.take (i + 1)) s = withoutN (l.take i) s) := ⟨by rw [ht, withoutN, List.filter_append, withoutN]; simp [he]⟩
        have he2 : (m.name.toList == s.toList) = true := by rw [sameB_list]; exact he
        clear hm ht he
        go_wp2
        go_roundg (l.length - (i + 1))
        case measure => omega
        case rel => exact ⟨i + 1, by go_num, by omega, ⟨by rw [HT.out]; exact HO.out⟩, HB⟩
      | false =>
        have HT : Aside0 (withoutN (l.take (i + 1)) s = withoutN (l.take i) s ++ [m]) := ⟨by rw [ht, withoutN, List.filter_append, withoutN]; simp [he]⟩
        have he2 : (m.name.toList == s.toList) = false := by rw [sameB_list]; exact he
        clear hm ht he
        go_wp2_with (first | (at_builtin; refine Kd.R_append kNm (w0 := w) w.heap.size rfl (.tmp 20) (.tmp 25) 23 120 (.agg #[.string ⟨#[]⟩, .int .i64 0]) 24 rfl Try.underlying23 infoNm rfl (by decide) (by omega) u5 (withoutN (l.take i) s) m m.cs (fun _ => True) (fun _ => False) rfl rfl ?aP (fun _ hk => hk.elim) (fun _ _ => trivial) ?aO ?aB ?aS ?c1 ?_; (case aP => exact kNm_mkM _ _ _ m); (case aO => exact HO.out); (case aB => exact HB.out); (case aS => exact HB.out.size); (case c1 => have := HL.out; omega); intro v1 w1 hown hB1 hg1 hat; have HO1 := Aside0.mk hown; have HB1 := Aside0.mk hB1; clear hown hB1 hg1 hat))
        go_roundg (l.length - (i + 1))
        case measure => omega
        case rel => exact ⟨i + 1, by go_num, by omega, ⟨by rw [HT.out]; exact HO1.out⟩, HB1⟩
    · have hi : Aside0 (l.take i = l) := ⟨List.take_of_length_le (by omega)⟩
      go_wp2
      go_ret
      exact ⟨_, rfl, by rw [← hi.out]; exact HO.out, HB.out⟩

/-- what with has laid: x is not there yet, or it is -/
structure LaidN (l : List Nm) (x : Nm) (b : Bool) (out : List Nm) : Prop where
  no : b = false → out = l ∧ ∀ n ∈ l, sLt n.name x.name = true
  yes : b = true → out = giveN l x ∧ ∃ n ∈ l, sLt x.name n.name = true
  few : out.length ≤ l.length + 1

set_option maxRecDepth 100000 in
set_option maxHeartbeats 2000000 in
theorem with_any (A : Option Addr) (n c : Nat) (l : List Nm) (nm : ByteArray) (id : Int) (w : World) (hr : kNm.C w A n l) (hb : n ≤ 524288) (ha : AscN l) (hx : hasN l nm = false) :
    Calls Try.prog 61 #[.slice A n c, .agg #[.string nm, .int .i64 id]] w fun e w' => ∃ v, e = .returned v ∧ RN w' w.heap.size v (giveN l ⟨nm, id⟩) ∧ Below w.heap.size w w' := by
  have hn := Kd.C_len hr
  subst hn
  have HR := Aside0.mk hr
  have HA := Aside0.mk ha
  have HX := Aside0.mk hx
  clear hr ha hx
  go_enter Try.func61, Try.ntmps61
  go_upto_region 1 with (fail)
  obtain ⟨W0, hW0⟩ : ∃ W, W = w.alloc (.cells #[.string nm, .int .i64 id] 120) := ⟨_, rfl⟩
  have k0 : W0.cell? ⟨w.heap.size, 0, none⟩ = some (.string nm) := by rw [hW0]; exact new_cell _ _ _ 0 _ rfl
  have k1 : W0.cell? ⟨w.heap.size, 1, none⟩ = some (.int .i64 id) := by rw [hW0]; exact new_cell _ _ _ 1 _ rfl
  have HB0 : Aside0 (Below w.heap.size w W0) := ⟨by rw [hW0]; exact below_alloc (Below.refl _ _) _⟩
  rw [← hW0]
  clear hW0
  have HK0 := Aside0.mk k0
  have HK1 := Aside0.mk k1
  clear k0 k1
  go_wp2
  go_loopg [5, 6, 7] l.length (fun g v5 v6 v7 wr => ∃ (i : Nat) (b : Bool) (out : List Nm), v7 = .int .i64 i ∧ v6 = .bool b ∧ g + i = l.length ∧ Aside0 (RN wr W0.heap.size v5 out) ∧ Aside0 (LaidN (l.take i) ⟨nm, id⟩ b out) ∧ Aside0 (Below W0.heap.size W0 wr))
  case atStart => exact ⟨0, false, [], rfl, rfl, by omega, ⟨Kd.R_nil kNm _ _ _ _⟩, ⟨⟨fun _ => ⟨rfl, fun n hn => by simp at hn⟩, fun h => (by cases h), by simp⟩⟩, ⟨Below.refl _ _⟩⟩
  case round =>
    obtain ⟨i, b, out, rfl, rfl, hg, HO, HL, HBr⟩ := hrel
    have HB := Aside0.mk (bthen HB0.out HBr.out)
    have hsz : W0.heap.size ≤ wr.heap.size := HBr.out.size
    have hol : out.length ≤ 524290 := by have := HL.out.few; rw [List.length_take] at this; omega
    have k0 := pw_cell_below HBr.out HK0.out
    have k1 := pw_cell_below HBr.out HK1.out
    by_cases hlt : i < l.length
    · obtain ⟨m, hm⟩ : ∃ m, l[i]? = some m := ⟨_, List.getElem?_eq_getElem hlt⟩
      obtain ⟨ad, rfl, c0, c1⟩ := atNm (Kd.C_below HR.out HB.out) i m hm
      have ht : Aside0 (l.take (i + 1) = l.take i ++ [m]) := ⟨by rw [List.take_add_one, hm]; rfl⟩
      have HM := Aside0.mk hm
      have C0 := Aside0.mk c0
      have C1 := Aside0.mk c1
      clear hm
      have hstep : ∀ (b' : Bool) (out' : List Nm), (b' = false → b = false ∧ sLt m.name nm = true ∧ out' = out ++ [m]) → (b' = true → (b = false ∧ sLt nm m.name = true ∧ out' = out ++ [⟨nm, id⟩] ++ [m]) ∨ (b = true ∧ out' = out ++ [m])) → LaidN (l.take (i + 1)) ⟨nm, id⟩ b' out' := by
        intro b' out' h1 h2
        rw [ht.out]
        have hf := HL.out.few
        refine ⟨fun e => ?_, fun e => ?_, ?_⟩
        · obtain ⟨e1, e2, e3⟩ := h1 e
          obtain ⟨q1, q2⟩ := HL.out.no e1
          refine ⟨by rw [e3, q1], fun n hn => ?_⟩
          rcases List.mem_append.1 hn with hn | hn
          · exact q2 n hn
          · rw [List.mem_singleton.1 hn]; exact e2
        · rcases h2 e with ⟨e1, e2, e3⟩ | ⟨e1, e3⟩
          · obtain ⟨q1, q2⟩ := HL.out.no e1
            exact ⟨by rw [e3, q1]; exact (give_lay q2 e2).symm, m, by simp, e2⟩
          · obtain ⟨q1, p, q2, q3⟩ := HL.out.yes e1
            have hpm : sLt nm m.name = true := by
              obtain ⟨j, hj⟩ := List.mem_iff_getElem?.1 q2
              rw [List.getElem?_take] at hj
              split at hj
              · rename_i hji
                exact sLt_trans q3 (HA.out.lt hji hj HM.out)
              · cases hj
            exact ⟨by rw [e3, q1]; exact (give_more hpm).symm, m, by simp, hpm⟩
        · rw [List.length_append, List.length_singleton]
          cases b' with
          | false => obtain ⟨_, _, e3⟩ := h1 rfl; rw [e3, List.length_append, List.length_singleton]; omega
          | true =>
            rcases h2 rfl with ⟨e1, _, e3⟩ | ⟨_, e3⟩
            · obtain ⟨q1, _⟩ := HL.out.no e1
              rw [e3, q1, List.length_append, List.length_append, List.length_singleton, List.length_singleton]
              try omega
            · rw [e3, List.length_append, List.length_singleton]; omega
      have HSt := Aside0.mk hstep
      clear hstep
      cases b with
      | true =>
        go_wp2_with fail
        go_quiet (fail)
        go_wp2_with (at_builtin; refine Kd.R_append kNm (w0 := W0) W0.heap.size rfl (.tmp 30) (.tmp 35) 23 120 (.agg #[.string ⟨#[]⟩, .int .i64 0]) 24 rfl Try.underlying23 infoNm rfl (by decide) (by omega) u5 out m m.cs (fun _ => True) (fun _ => False) rfl rfl ?aP (fun _ hk => hk.elim) (fun _ _ => trivial) ?aO ?aB ?aS ?c1 ?_; (case aP => exact kNm_mkM _ _ _ m); (case aO => exact Kd.R_below HO.out (pw_below_drewN (Below.refl _ _) nq)); (case aB => exact pw_below_drewN HBr.out nq); (case aS => exact hsz); (case c1 => omega); intro v1 w1 hown hB1 hg1 hat; have HO1 := Aside0.mk hown; have HB1 := Aside0.mk hB1; clear hown hB1 hg1 hat)
        go_roundg (l.length - (i + 1))
        case measure => omega
        case rel => exact ⟨i + 1, true, out ++ [m], by go_num, rfl, by omega, HO1, ⟨HSt.out true _ (fun h => by cases h) (fun _ => .inr ⟨(by trivial), rfl⟩)⟩, HB1⟩
      | false =>
        cases hgt : sLt nm m.name with
        | true =>
          have HGT := Aside0.mk hgt
          have hg2 : Op.bytesLess m.name.toList nm.toList = false := sLt_asymm hgt
          have hg3 : (m.name.toList == nm.toList) = false := by rw [sameB_list]; exact sameB_not.2 (sLt_ne hgt).symm
          clear hgt
          go_wp2_with fail
          go_quiet (fail)
          go_wp2_with (first | (at_builtin; refine Kd.R_append kNm (w0 := W0) W0.heap.size rfl (.tmp 26) (.tmp 28) 23 120 (.agg #[.string ⟨#[]⟩, .int .i64 0]) 24 rfl Try.underlying23 infoNm rfl (by decide) (by omega) u5 out (⟨nm, id⟩ : Nm) (⟨nm, id⟩ : Nm).cs (fun _ => True) (fun _ => False) rfl rfl ?aP (fun _ hk => hk.elim) (fun _ _ => trivial) ?aO ?aB ?aS ?c1 ?_; (case aP => exact kNm_mkM _ _ _ (⟨nm, id⟩ : Nm)); (case aO => exact Kd.R_below HO.out (pw_below_drewN (Below.refl _ _) nq)); (case aB => exact pw_below_drewN HBr.out nq); (case aS => exact hsz); (case c1 => omega); intro v1 w1 hown hB1 hg1 hat; have HO1 := Aside0.mk hown; have HB1 := Aside0.mk hB1; have hs1 : W0.heap.size ≤ w1.heap.size := hB1.size; obtain ⟨ad2, hadd, c0', c1'⟩ := atNm (Kd.C_below HR.out (bthen HB0.out hB1)) i m HM.out; injection hadd with hadd; subst hadd; clear hown hB1 hg1 hat) | (at_builtin; refine Kd.R_append kNm (w0 := W0) W0.heap.size rfl (.tmp 30) (.tmp 35) 23 120 (.agg #[.string ⟨#[]⟩, .int .i64 0]) 24 rfl Try.underlying23 infoNm rfl (by decide) (by omega) v1 (out ++ [(⟨nm, id⟩ : Nm)]) m m.cs (fun _ => True) (fun _ => False) rfl rfl ?aP (fun _ hk => hk.elim) (fun _ _ => trivial) ?aO ?aB ?aS ?c1 ?_; (case aP => exact kNm_mkM _ _ _ m); (case aO => exact HO1.out); (case aB => exact HB1.out); (case aS => exact hs1); (case c1 => rw [List.length_append, List.length_singleton]; omega); intro v2 w2 hown hB1 hg1 hat; have HO2 := Aside0.mk hown; have HB2 := Aside0.mk hB1; clear hown hB1 hg1 hat))
          go_roundg (l.length - (i + 1))
          case measure => omega
          case rel => exact ⟨i + 1, true, out ++ [⟨nm, id⟩] ++ [m], by go_num, rfl, by omega, HO2, ⟨HSt.out true _ (fun h => by cases h) (fun _ => .inl ⟨(by trivial), HGT.out, rfl⟩)⟩, HB2⟩
        | false =>
          have HLT : Aside0 (sLt m.name nm = true) := ⟨by
            cases h : sLt m.name nm with
            | true => rfl
            | false =>
              have he := sLt_total h hgt
              have : hasN l nm = true := List.any_eq_true.2 ⟨m, List.mem_of_getElem? HM.out, sameB_iff.2 he⟩
              rw [HX.out] at this; cases this⟩
          have hg2 : Op.bytesLess m.name.toList nm.toList = true := HLT.out
          clear hgt
          go_wp2_with fail
          go_quiet (fail)
          go_wp2_with (at_builtin; refine Kd.R_append kNm (w0 := W0) W0.heap.size rfl (.tmp 30) (.tmp 35) 23 120 (.agg #[.string ⟨#[]⟩, .int .i64 0]) 24 rfl Try.underlying23 infoNm rfl (by decide) (by omega) u5 out m m.cs (fun _ => True) (fun _ => False) rfl rfl ?aP (fun _ hk => hk.elim) (fun _ _ => trivial) ?aO ?aB ?aS ?c1 ?_; (case aP => exact kNm_mkM _ _ _ m); (case aO => exact Kd.R_below HO.out (pw_below_drewN (Below.refl _ _) nq)); (case aB => exact pw_below_drewN HBr.out nq); (case aS => exact hsz); (case c1 => omega); intro v1 w1 hown hB1 hg1 hat; have HO1 := Aside0.mk hown; have HB1 := Aside0.mk hB1; clear hown hB1 hg1 hat)
          go_roundg (l.length - (i + 1))
          case measure => omega
          case rel => exact ⟨i + 1, false, out ++ [m], by go_num, rfl, by omega, HO1, ⟨HSt.out false _ (fun _ => ⟨(by trivial), HLT.out, rfl⟩) (fun h => by cases h)⟩, HB1⟩
    · have hi : Aside0 (l.take i = l) := ⟨List.take_of_length_le (by omega)⟩
      cases b with
      | true =>
        have HE : Aside0 (out = giveN l ⟨nm, id⟩) := ⟨by have := (HL.out.yes rfl).1; rwa [hi.out] at this⟩
        go_wp2
        go_ret
        exact ⟨_, rfl, by rw [← HE.out]; exact Kd.R_lower HO.out HB0.out.size, HB.out⟩
      | false =>
        have HE : Aside0 (out ++ [⟨nm, id⟩] = giveN l ⟨nm, id⟩) := ⟨by
          obtain ⟨q1, q2⟩ := HL.out.no rfl
          rw [hi.out] at q1 q2
          rw [q1]; exact (give_last q2).symm⟩
        go_wp2_with (at_builtin; refine Kd.R_append kNm (w0 := W0) W0.heap.size rfl (.tmp 39) (.tmp 41) 23 120 (.agg #[.string ⟨#[]⟩, .int .i64 0]) 24 rfl Try.underlying23 infoNm rfl (by decide) (by omega) u5 out (⟨nm, id⟩ : Nm) (⟨nm, id⟩ : Nm).cs (fun _ => True) (fun _ => False) rfl rfl ?aP (fun _ hk => hk.elim) (fun _ _ => trivial) ?aO ?aB ?aS ?c1 ?_; (case aP => exact kNm_mkM _ _ _ (⟨nm, id⟩ : Nm)); (case aO => exact HO.out); (case aB => exact HBr.out); (case aS => exact hsz); (case c1 => omega); intro v1 w1 hown hB1 hg1 hat; have HO1 := Aside0.mk hown; have HB1 := Aside0.mk hB1; clear hown hB1 hg1 hat)
        go_ret
        exact ⟨_, rfl, by rw [← HE.out]; exact Kd.R_lower HO1.out HB0.out.size, bthen HB0.out HB1.out⟩
end Go.Proofs.Ytfakfgblaakgdaa.Files.Ref

/- The document's files: Copied, Own: walked. -/
namespace Go.Proofs.Ytfakfgblaakgdaa.Files.Ref
set_option linter.unusedVariables false
set_option linter.unusedSimpArgs false
open Go.RowKit Go.Proofs.YtfakfgblaakgdaaW.PrintWords Go.Proofs.YtfakfgblaakgdaaW.PrintLast Go.Proofs.Ytfakfgblaakgdaa.Base Go.Proofs.Ytfakfgblaakgdaa.Cells Go.Proofs.Ytfakfgblaakgdaa.Ints Go.Proofs.Ytfakfgblaakgdaa.Var Go.Proofs.Ytfakfgblaakgdaa.EditPure Go.Proofs.Ytfakfgblaakgdaa.Edit Go.Proofs.Ytfakfgblaakgdaa.Sets Go.Proofs.Ytfakfgblaakgdaa.Wide Go.Proofs.Ytfakfgblaakgdaa.RowsC

set_option maxRecDepth 100000 in
set_option maxHeartbeats 1000000 in
theorem copied_any (A : Option Addr) (n c : Nat) (l : List Int) (w : World) (hr : ReadsInt w .u8 A n l) (hb : n ≤ 1048576) :
    Calls Try.prog 66 #[.slice A n c] w fun e w' => ∃ v, e = .returned v ∧ RB w' w.heap.size v l ∧ Below w.heap.size w w' := by
  have hn : l.length = n := hr.1
  subst hn
  have HR := Aside0.mk hr
  clear hr
  go_enter Try.func66, Try.ntmps66
  go_wp2_with (at_builtin; refine print_append_row (w0 := w) w.heap.size (by rfl) (.tmp 4) (.tmp 5) 62 5 .u8 1 (by rfl) Try.underlying62 infoB (by decide) (.slice none 0 0) [] l A l.length c (by rfl) (by rfl) ?aO ?aR ?aB ?aS ?c1 ?_; (case aO => exact own_nil _ _ _ _); (case aR => exact HR.out); (case aB => exact Below.refl _ _); (case aS => exact Nat.le_refl _); (case c1 => simp only [List.length_nil]; omega); intro v1 w1 hown hB1 hg1 hat; have HO1 := Aside0.mk hown; have HB1 := Aside0.mk hB1; clear hown hB1 hg1 hat)
  go_ret
  exact ⟨_, rfl, by have := HO1.out; rwa [List.nil_append] at this, HB1.out⟩

theorem alloc_cell5 {w : World} {a : Addr} {v : Value} {o : Obj} (h : w.cell? a = some v) : (w.alloc o).cell? a = some v := pw_cell_below (below_alloc (Below.refl _ _) o) h
theorem drew_cell5 {w : World} {a : Addr} {v : Value} (h : w.cell? a = some v) : w.drew.cell? a = some v := h
theorem set5_cell {w : World} {g : Nat} {x y z u t v : Value} {a : Addr} (h : w.cell? a = some v) (hne : a.block < g) : (((((w.setCell ⟨g, 0, none⟩ x).setCell ⟨g, 1, none⟩ y).setCell ⟨g, 2, none⟩ z).setCell ⟨g, 3, none⟩ u).setCell ⟨g, 4, none⟩ t).cell? a = some v := by
  rw [World.cell?_setCell_far _ _ _ _ (by show g ≠ a.block; omega), World.cell?_setCell_far _ _ _ _ (by show g ≠ a.block; omega), World.cell?_setCell_far _ _ _ _ (by show g ≠ a.block; omega), World.cell?_setCell_far _ _ _ _ (by show g ≠ a.block; omega), World.cell?_setCell_far _ _ _ _ (by show g ≠ a.block; omega)]
  exact h
theorem far_cell {w : World} {p a : Addr} {u v : Value} (h : w.cell? a = some v) (hne : p.block ≠ a.block) : (w.setCell p u).cell? a = some v := by
  rw [World.cell?_setCell_far _ _ _ _ hne]; exact h
/-- what Own's head leaves in its variable -/
structure OwnHd (W : World) (s : St) (n m : Int) (g : Nat) (A2 A3 : Option Addr) (l2 c2 l3 c3 : Nat) (w : World) : Prop where
  low : W.heap.size ≤ g
  blk : w.heap[g]? = some (.cells #[.int .i64 n, .slice none 0 0, .slice A2 l2 c2, .slice A3 l3 c3, .int .i64 m] 25 (0, 0))
  rN : RN w W.heap.size (.slice A2 l2 c2) s.names
  rS : RN w W.heap.size (.slice A3 l3 c3) s.safe
  bel : Below W.heap.size W w
theorem ownHd_set {W wf : World} {s : St} {n m : Int} {g : Nat} {A2 A3 : Option Addr} {l2 c2 l3 c3 : Nat} (hl : W.heap.size ≤ g) {a b c d e : Value} (hk : wf.heap[g]? = some (.cells #[a, b, c, d, e] 25 (0, 0)))
    (h2 : RN wf W.heap.size (.slice A2 l2 c2) s.names) (h3 : RN wf W.heap.size (.slice A3 l3 c3) s.safe) (hb : Below W.heap.size W wf) :
    OwnHd W s n m g A2 A3 l2 c2 l3 c3 (((((wf.setCell ⟨g, 0, none⟩ (.int .i64 n)).setCell ⟨g, 1, none⟩ (.slice none 0 0)).setCell ⟨g, 2, none⟩ (.slice A2 l2 c2)).setCell ⟨g, 3, none⟩ (.slice A3 l3 c3)).setCell ⟨g, 4, none⟩ (.int .i64 m)) :=
  ⟨hl, blk5 hk, Rset5 h2 (apart_of hk RN_types) _ _ _ _ _, Rset5 h3 (apart_of hk RN_types) _ _ _ _ _, below_set5 hb hl _ _ _ _ _⟩
theorem ownHd_new {W wf : World} {s : St} {n m : Int} {A2 A3 : Option Addr} {l2 c2 l3 c3 : Nat} (h2 : RN wf W.heap.size (.slice A2 l2 c2) s.names) (h3 : RN wf W.heap.size (.slice A3 l3 c3) s.safe) (hb : Below W.heap.size W wf) :
    OwnHd W s n m wf.heap.size A2 A3 l2 c2 l3 c3 (wf.alloc (.cells #[.int .i64 n, .slice none 0 0, .slice A2 l2 c2, .slice A3 l3 c3, .int .i64 m] 25)) :=
  ⟨hb.size, blk_new _ _, Kd.R_below h2 (below_alloc (Below.refl _ _) _), Kd.R_below h3 (below_alloc (Below.refl _ _) _), below_alloc hb _⟩

set_option maxRecDepth 100000 in
set_option maxHeartbeats 8000000 in
theorem own_any (s : St) (F N S : Option Addr) (lf fc ln nc ls sc : Nat) (w : World) (h : Hd w s F fc N nc S sc) (hs : Small s) (hlf : s.files.length = lf) (hln : s.names.length = ln) (hls : s.safe.length = ls) :
    Calls Try.prog 46 #[.agg #[.int .i64 s.cap, .slice F lf fc, .slice N ln nc, .slice S ls sc, .int .i64 s.next]] w fun e w' => ∃ v, e = .returned v ∧ Rs w' w.heap.size v s ∧ Below w.heap.size w w' := by
  have HF0 := Aside0.mk (hlf ▸ h.hF : kFl.C w F lf s.files)
  have XN : SrcN w N ln nc s.names := ⟨hln, h.hN, hs.ln⟩
  have XS : SrcN w S ls sc s.safe := ⟨hls, h.hS, hs.ls⟩
  have HD0 := Aside0.mk hs.ld
  have LF := Aside0.mk hlf
  have LN := Aside0.mk hln
  have LS := Aside0.mk hls
  have hlf1 : lf ≤ 1048576 := by rw [← hlf]; exact hs.lf
  obtain ⟨cap, hcap⟩ : ∃ c, s.cap = c := ⟨_, rfl⟩
  obtain ⟨next, hnext⟩ : ∃ c, s.next = c := ⟨_, rfl⟩
  have CAP := Aside0.mk hcap
  have NEXT := Aside0.mk hnext
  rw [hcap, hnext]
  clear h hs hlf hln hls hcap hnext
  go_enter Try.func46, Try.ntmps46
  go_upto_region 1 with (fail)
  obtain ⟨W, hW⟩ : ∃ W, W = ((w.alloc (Obj.cells #[.int .i64 cap, .slice F lf fc, .slice N ln nc, .slice S ls sc, .int .i64 next] 25)).alloc
      (Obj.cells #[.int .i64 0, .slice none 0 0, .slice none 0 0, .slice none 0 0, .int .i64 0] 25)) := ⟨_, rfl⟩
  have hj : W.heap[w.heap.size]? = some (.cells #[.int .i64 cap, .slice F lf fc, .slice N ln nc, .slice S ls sc, .int .i64 next] 25 (0, 0)) := by rw [hW]; exact blk_alloc (blk_new _ _) _
  have hk : W.heap[w.heap.size + 1]? = some (.cells #[.int .i64 0, .slice none 0 0, .slice none 0 0, .slice none 0 0, .int .i64 0] 25 (0, 0)) := by rw [hW]; exact blk_new1 _ _ _ _
  have HB : Aside0 (Below w.heap.size w W) := ⟨by rw [hW]; exact below_alloc (below_alloc (Below.refl _ _) _) _⟩
  have HZ : Aside0 (w.heap.size + 2 = W.heap.size) := ⟨by rw [hW]; simp⟩
  rw [← hW]
  clear hW
  have HJ := Aside0.mk hj
  have HK := Aside0.mk hk
  have FJ := Aside0.mk (fun (w' : World) (b : Below W.heap.size W w') => all5 (blk_keep hj b))
  clear hj hk
  go_cut [3] (fun v3 wc => ∃ g3, v3 = .pointer (some ⟨g3, 0, none⟩) ∧ ∃ A2 c2 A3 c3, Aside0 (OwnHd W s cap next g3 A2 A3 ln c2 ls c3 wc))
  case first =>
    have CN : Aside0 (∀ W' A n c l, SrcN w A n c l → Below W.heap.size W W' → Calls Try.prog 62 #[.slice A n c] W' fun e w' => ∃ A c, e = .returned (.slice A n c) ∧ RN w' W.heap.size (.slice A n c) l ∧ Below W'.heap.size W' w') := ⟨by
      rintro W' A n c l ⟨hn, hC, hl⟩ hW
      subst hn
      refine (ownNames_any A l.length c l W' (Kd.C_below hC (bthen HB.out hW)) hl).mono ?_
      rintro e w' ⟨v, rfl, hv, hb⟩
      obtain ⟨A, c, rfl, _⟩ := Kd.R_reads hv
      exact ⟨A, c, rfl, Kd.R_lower hv hW.size, hb⟩⟩
    have HD : Aside0 (Below W.heap.size W W.drew) := ⟨below_drew (Below.refl _ _)⟩
    obtain ⟨d0, d1, d2, d3, d4, _, _, _, _, _⟩ := FJ.out W.drew HD.out
    obtain ⟨p0, p1, p2, p3, p4, _, _, _, _, _⟩ := all5 HJ.out
    have hq0 := World.new_ne W _ p0
    have hl2 : w.heap.size < W.heap.size := blk_lt HJ.out
    go_region_held3 (fun w' => w'.cell? ⟨w.heap.size, 0, none⟩ = some (.int .i64 cap) ∧ w'.cell? ⟨w.heap.size, 1, none⟩ = some (.slice F lf fc) ∧ w'.cell? ⟨w.heap.size, 2, none⟩ = some (.slice N ln nc) ∧ w'.cell? ⟨w.heap.size, 3, none⟩ = some (.slice S ls sc) ∧ w'.cell? ⟨w.heap.size, 4, none⟩ = some (.int .i64 next)) (first | with_reducible exact ⟨d0, d1, d2, d3, d4⟩ | with_reducible exact ⟨m0, m1, m2, m3, m4⟩ | with_reducible exact ⟨n0, n1, n2, n3, n4⟩ | go_keep | (refine ⟨?_, ?_, ?_, ?_, ?_⟩ <;> (repeat (first | with_reducible exact d0 | with_reducible exact d1 | with_reducible exact d2 | with_reducible exact d3 | with_reducible exact d4 | with_reducible exact m0 | with_reducible exact m1 | with_reducible exact m2 | with_reducible exact m3 | with_reducible exact m4 | with_reducible exact n0 | with_reducible exact n1 | with_reducible exact n2 | with_reducible exact n3 | with_reducible exact n4 | with_reducible exact p0 | with_reducible exact p1 | with_reducible exact p2 | with_reducible exact p3 | with_reducible exact p4 | with_reducible apply drew_cell5 | with_reducible apply alloc_cell5 | with_reducible apply set5_cell | (dsimp only; omega) | omega)))) (first | (go_at_call 62; refine Calls.mono (CN.out _ _ _ _ s.names ?src ?bel) ?_; (case src => exact XN); (case bel => (repeat (first | with_reducible exact Below.refl _ _ | with_reducible exact hwm | with_reducible exact hwn | with_reducible apply below_drew | with_reducible apply below_alloc | with_reducible apply below_set5 | omega))); rintro e wm ⟨Am, cm, rfl, hm, bm⟩; (have hwm : Below W.heap.size W wm := bthen (by (repeat (first | with_reducible exact Below.refl _ _ | with_reducible exact hwm | with_reducible exact hwn | with_reducible apply below_drew | with_reducible apply below_alloc | with_reducible apply below_set5 | omega))) bm); (have hzm := hwm.size); (have hsm := bm.size); (try simp only [World.size_alloc, World.size_drew, World.size_setCell] at hsm); (first | (have k5 := blk_keep (t := 25) (by (repeat (first | with_reducible exact blk_new _ _ | with_reducible exact k5 | with_reducible apply blk_drew | with_reducible apply blk_alloc | omega | (simp only [World.size_alloc, World.size_drew, World.size_setCell]; omega)))) bm; (try simp only [World.size_alloc, World.size_drew, World.size_setCell] at k5); (have l5 := blk_lt k5); (have kc5 := all5 k5); obtain ⟨p50, p51, p52, p53, p54, f50, f51, f52, f53, f54⟩ := kc5) | skip); obtain ⟨m0, m1, m2, m3, m4, _, _, _, _, _⟩ := FJ.out _ hwm) | (go_at_call 62; refine Calls.mono (CN.out _ _ _ _ s.safe ?src ?bel) ?_; (case src => exact XS); (case bel => (repeat (first | with_reducible exact Below.refl _ _ | with_reducible exact hwm | with_reducible exact hwn | with_reducible apply below_drew | with_reducible apply below_alloc | with_reducible apply below_set5 | omega))); rintro e wn ⟨An, cn, rfl, hn, bn⟩; (have hwn : Below W.heap.size W wn := bthen (by (repeat (first | with_reducible exact Below.refl _ _ | with_reducible exact hwm | with_reducible exact hwn | with_reducible apply below_drew | with_reducible apply below_alloc | with_reducible apply below_set5 | omega))) bn); (have hzn := hwn.size); (have hsn := bn.size); (try simp only [World.size_alloc, World.size_drew, World.size_setCell] at hsn); (first | (have k5 := blk_keep (t := 25) (by (repeat (first | with_reducible exact blk_new _ _ | with_reducible exact k5 | with_reducible apply blk_drew | with_reducible apply blk_alloc | omega | (simp only [World.size_alloc, World.size_drew, World.size_setCell]; omega)))) bn; (try simp only [World.size_alloc, World.size_drew, World.size_setCell] at k5); (have l5 := blk_lt k5); (have kc5 := all5 k5); obtain ⟨p50, p51, p52, p53, p54, f50, f51, f52, f53, f54⟩ := kc5) | skip); obtain ⟨n0, n1, n2, n3, n4, _, _, _, _, _⟩ := FJ.out _ hwn))
    all_goals go_wp2
    all_goals go_meet
    all_goals first
      | (refine ⟨_, rfl, Am, cm, An, cn, ⟨ownHd_new ?_ ?_ ?_⟩⟩ <;> first | ((repeat (first | with_reducible exact Below.refl _ _ | with_reducible exact hwm | with_reducible exact hwn | with_reducible apply below_drew | with_reducible apply below_alloc | with_reducible apply below_set5 | omega)); done) | ((repeat (first | with_reducible exact hm | with_reducible exact hn | with_reducible refine Kd.R_below ?_ bm | with_reducible refine Kd.R_below ?_ bn | with_reducible refine Kd.R_below ?_ (below_alloc (Below.refl _ _) _) | with_reducible refine Kd.R_below ?_ (below_drew (Below.refl _ _)))); done))
      | (refine ⟨_, rfl, Am, cm, An, cn, ⟨ownHd_set ?_ k5 ?_ ?_ ?_⟩⟩ <;> first | ((repeat (first | with_reducible exact Below.refl _ _ | with_reducible exact hwm | with_reducible exact hwn | with_reducible apply below_drew | with_reducible apply below_alloc | with_reducible apply below_set5 | omega)); done) | ((repeat (first | with_reducible exact hm | with_reducible exact hn | with_reducible refine Kd.R_below ?_ bm | with_reducible refine Kd.R_below ?_ bn | with_reducible refine Kd.R_below ?_ (below_alloc (Below.refl _ _) _) | with_reducible refine Kd.R_below ?_ (below_drew (Below.refl _ _)))); done) | omega)
  case rest =>
    obtain ⟨g3, rfl, A2, c2, A3, c3, HO⟩ := hcut
    obtain ⟨wd, hwd⟩ : ∃ wd, wd = wc := ⟨_, rfl⟩
    rw [← hwd] at HO ⊢
    clear hwd
    have HO0 : Aside0 (Own wd W.heap.size g3 ⟨cap, s.files.take 0, s.names, s.safe, next⟩ (.slice none 0 0) (.slice A2 ln c2) (.slice A3 ls c3) []) := ⟨⟨HO.out.blk, ⟨CR.nil, fun x hx => by simp at hx, by simp⟩, by simp, HO.out.rN, HO.out.rS⟩⟩
    have hlow := HO.out.low
    have HBd := Aside0.mk HO.out.bel
    clear HO
    go_wp2
    go_loopg [4] lf (fun g v4 wr => ∃ (i : Nat) (AF : Option Addr) (cF : Nat) (L : List (Fl × Value)), v4 = .int .i64 i ∧ g + i = lf ∧ Aside0 (Own wr W.heap.size g3 ⟨cap, s.files.take i, s.names, s.safe, next⟩ (.slice AF i cF) (.slice A2 ln c2) (.slice A3 ls c3) L) ∧ Aside0 (Below W.heap.size W wr))
    case atStart => exact ⟨0, none, 0, [], rfl, by omega, HO0, HBd⟩
    case round =>
      obtain ⟨i, AF, cF, L, rfl, hg, HOr, HBr⟩ := hrel
      obtain ⟨_, x1, _, _, _, _, _, _, _, _⟩ := FJ.out _ HBr.out
      by_cases hlt : i < lf
      · have hlt' : (i : Int) < (lf : Int) := by omega
        obtain ⟨m, hm⟩ : ∃ m, s.files[i]? = some m := ⟨_, List.getElem?_eq_getElem (by rw [LF.out]; exact hlt)⟩
        obtain ⟨ad, D, dc, hFs, d0, d1, d2, hdl, hrd⟩ := atFl (Kd.C_below HF0.out (bthen HB.out HBr.out)) i m hm
        subst hFs
        have ht : Aside0 (s.files.take (i + 1) = s.files.take i ++ [m]) := ⟨by rw [List.take_add_one, hm]; rfl⟩
        have hmd := HD0.out m (List.mem_of_getElem? hm)
        obtain ⟨ld, hld⟩ : ∃ n, m.data.length = n := ⟨_, rfl⟩
        rw [hld] at d1 hmd
        have LD := Aside0.mk hld
        have HRD : Aside0 (ReadsInt wr .u8 D ld m.data) := ⟨by rw [← hld]; exact hrd⟩
        have HLL : Aside0 (L.length = i) := ⟨by have := congrArg List.length HOr.out.fs; rw [List.length_map] at this; rw [this]; show (s.files.take i).length = i; rw [List.length_take, LF.out]; omega⟩
        clear hm hld hrd hdl
        go_upto_region 6 with (fail)
        obtain ⟨W4, hW4⟩ : ∃ W, W = wr.alloc (.cells #[.int .i64 m.id, .slice D ld dc, .int .i64 m.sync] 106) := ⟨_, rfl⟩
        have hk4 : W4.heap[wr.heap.size]? = some (.cells #[.int .i64 m.id, .slice D ld dc, .int .i64 m.sync] 106 (0, 0)) := by rw [hW4]; exact blk_new _ _
        have HB4 : Aside0 (Below wr.heap.size wr W4) := ⟨by rw [hW4]; exact below_alloc (Below.refl _ _) _⟩
        rw [← hW4]
        clear hW4 d0 d1 d2 x1
        have HK4 := Aside0.mk hk4
        have HO4 := Aside0.mk (HOr.out.below HB4.out)
        have HBW4 := Aside0.mk (bthen HBr.out HB4.out)
        have CC : Aside0 (Calls Try.prog 66 #[.slice D ld dc] W4.drew fun e w' => ∃ A5 c5, e = .returned (.slice A5 ld c5) ∧ RB w' W4.heap.size (.slice A5 ld c5) m.data ∧ Below W4.heap.size W4 w') := ⟨by
          refine (copied_any D ld dc m.data W4.drew (HRD.out.below (bthen HB4.out (below_drew (Below.refl _ _)))) hmd).mono ?_
          rintro e w' ⟨v, rfl, hv, hb⟩
          obtain ⟨A, c, rfl, _⟩ := RB_reads hv
          rw [LD.out] at hv ⊢
          exact ⟨A, c, rfl, hv, bthen (below_drew (Below.refl _ _)) hb⟩⟩
        have HD : Aside0 (Below W4.heap.size W4 W4.drew) := ⟨below_drew (Below.refl _ _)⟩
        obtain ⟨e0, e1, e2, _, _, _⟩ := all3 (blk_keep hk4 HD.out)
        obtain ⟨_, y1, _, _, _, _, _, _, _, _⟩ := all5 (HO4.out.below HD.out).blk
        clear hk4
        have hg3l : g3 < wr.heap.size := blk_lt HOr.out.blk
        go_region_law (first
          | (refine Kd.R_append_step kFd (w0 := W) W.heap.size (by rfl) (.tmp 30) (.tmp 39) 22 106 (.agg #[.int .i64 0, .slice none 0 0, .int .i64 0]) 40 rfl Try.underlying22 infoFl rfl (by decide) (by omega) (.slice AF i cF) L (m, .slice A5 ld c5) [.int .i64 m.id, .slice A5 ld c5, .int .i64 m.sync] (fun _ => True) (fun _ => False) rfl rfl ?aP (fun _ hk => hk.elim) (fun _ _ => trivial) ?aO ?aB ?aS ?c1 ?_; (case aP => exact ⟨rfl, rfl⟩); (case aO => have h9 := RFd_of_OF HO5.out.oF; rw [← HLL.out] at h9 ⊢; exact h9); (case aB => exact HB5.out); (case aS => exact HB5.out.size); (case c1 => rw [HLL.out]; omega); intro v1 w1 hown hB1 hg1 hat; obtain ⟨A6, c6, hv1⟩ := Kd.R_slice hown; rw [List.length_append, HLL.out, List.length_singleton] at hv1; subst hv1; obtain ⟨e60, e61, e62, _, _, _⟩ := all3 (HFB.out _ hg1); have HO6 := Aside0.mk hown; have HG6 := Aside0.mk hg1; have HB6 := Aside0.mk hB1; obtain ⟨_, b1, _, _, _, _, fb1, _, _, _⟩ := all5 (HST.out _ hg1); clear hown hB1 hg1 hat)
          | (go_simp; go_wp2_with (go_at_call 66; refine CC.out.mono ?_; rintro e w5 ⟨A5, c5, rfl, hv5, hb5⟩; have HV5 := Aside0.mk hv5; have HB5 := Aside0.mk (bthen HBW4.out hb5); have HO5 := Aside0.mk (HO4.out.below hb5); have HS5 := Aside0.mk hb5.size; obtain ⟨e50, e51, e52, _, _, _⟩ := all3 (blk_keep HK4.out hb5); have HK5 := Aside0.mk (blk_keep HK4.out hb5); obtain ⟨_, y1, _, _, _, _, _, _, _, _⟩ := all5 HO5.out.blk; (have y1a : ∀ o, (w5.alloc o).cell? ⟨g3, 1, none⟩ = some (.slice AF i cF) := fun o => pw_cell_below (below_alloc (Below.refl _ _) o) y1); have HFB : Aside0 (∀ W1, w5.grownBy W1 (Value.slice AF i cF).ownBlock → W1.heap[wr.heap.size]? = some (.cells #[.int .i64 m.id, .slice D ld dc, .int .i64 m.sync] 106 (0, 0))) := ⟨fun W1 hg => (hg.block _ (blk_lt HK5.out) (fun e => by have h9 := (HOr.out.oF.row.block wr.heap.size e.symm).2.1; omega)).trans HK5.out⟩; have HST : Aside0 (∀ W1, w5.grownBy W1 (Value.slice AF i cF).ownBlock → W1.heap[g3]? = some (.cells #[.int .i64 cap, .slice AF i cF, .slice A2 ln c2, .slice A3 ls c3, .int .i64 next] 25 (0, 0))) := ⟨fun W1 hg => (hg.block g3 (blk_lt HO5.out.blk) (fun e => by obtain ⟨_, _, cs, h3⟩ := HO5.out.oF.row.block g3 e.symm; exact type_ne HO5.out.blk h3 (by decide) rfl)).trans HO5.out.blk⟩; clear hv5 hb5)))
        all_goals go_wp2
        all_goals go_roundg (lf - (i + 1))
        all_goals first
          | (guard_target =~ (_ : Nat) < _; omega)
          | skip
        all_goals
          have hown := Own.setFiles (vF' := _) (L' := L ++ [(m, .slice A5 ld c5)]) HO5.out HG6.out (CR_of_RFd HO6.out) (fun x hx => by
            rcases List.mem_append.1 hx with hx | hx
            · exact RB_step (HO5.out.oF.own x hx) (fun k hk => HG6.out.block k (own_lt (HO5.out.oF.own x hx) k hk) (fun e => by
                obtain ⟨_, _, cs, h3⟩ := HO5.out.oF.row.block k e.symm
                obtain ⟨cs', h4⟩ := own_typed (HO5.out.oF.own x hx) k hk
                exact type_ne h4 h3 (by decide) rfl))
            · rw [List.mem_singleton.1 hx]
              have h5 : RB w5 W.heap.size (.slice A5 ld c5) m.data := own_weaken HV5.out HBW4.out.size
              exact RB_step h5 (fun k hk => HG6.out.block k (own_lt h5 k hk) (fun e => by
                obtain ⟨_, _, cs, h3⟩ := HO5.out.oF.row.block k e.symm
                obtain ⟨cs', h4⟩ := own_typed h5 k hk
                exact type_ne h4 h3 (by decide) rfl))) (by
            rw [List.filterMap_append, List.nodup_append]
            refine ⟨HO5.out.oF.apart, ?_, fun a ha b hb => ?_⟩
            · rw [List.filterMap_cons]; dsimp only; split <;> simp
            · obtain ⟨y, hy, hya⟩ := List.mem_filterMap.1 ha
              obtain ⟨z, hz, hzb⟩ := List.mem_filterMap.1 hb
              rw [List.mem_singleton.1 hz] at hzb
              have h1 := own_lt (HO4.out.oF.own y hy) a hya
              have h2 := own_base HV5.out b hzb
              omega)
          have he : (L ++ [(m, Value.slice A5 ld c5)]).map (·.1) = s.files.take (i + 1) := by rw [List.map_append, HO5.out.fs, ht.out]; rfl
          rw [he] at hown
          have hlen : (L ++ [(m, Value.slice A5 ld c5)]).length = i + 1 := by rw [List.length_append, HLL.out]; rfl
          exact ⟨i + 1, A6, c6, L ++ [(m, .slice A5 ld c5)], by go_num, by omega, ⟨hown⟩, ⟨(below_of_grown HB5.out HG6.out (fun k hk => (HO5.out.oF.row.block k hk).1)).setCell hlow _⟩⟩
      · have hnf : ¬ ((i : Int) < (lf : Int)) := by omega
        have hi : s.files.take i = s.files := List.take_of_length_le (by rw [LF.out]; omega)
        rw [hi] at HOr
        have HE : Aside0 ((⟨cap, s.files, s.names, s.safe, next⟩ : St) = s) := ⟨by rw [← CAP.out, ← NEXT.out]⟩
        have hz := HZ.out
        have hk := blk_keep HK.out HBr.out
        obtain ⟨z0, z1, z2, z3, z4, f0, f1, f2, f3, f4⟩ := all5 hk
        obtain ⟨y0, y1, y2, y3, y4, _, _, _, _, _⟩ := all5 HOr.out.blk
        have HKr := Aside0.mk hk
        clear hk hi
        go_wp2
        refine bodyPost_ret (results_cell_row rfl _ _ (w.heap.size + 1) 25 #[.int .i64 cap, .slice AF i cF, .slice A2 ln c2, .slice A3 ls c3, .int .i64 next] (0, 0) _ rfl (blk5 HKr.out) Try.underlying25 rfl (by kernel_rfl)) rfl ?_
        refine ⟨_, rfl, ?_, below_set5 (bthen HB.out HBr.out) (Nat.le_succ _) _ _ _ _ _⟩
        have h9 := HOr.out.rs
        rw [← HE.out]
        exact (h9.far5 HKr.out _ _ _ _ _).lower HB.out.size
end Go.Proofs.Ytfakfgblaakgdaa.Files.Ref

/- The document's swept: walked. -/
namespace Go.Proofs.Ytfakfgblaakgdaa.Files.Ref
set_option linter.unusedVariables false
set_option linter.unusedSimpArgs false
open Go.RowKit Go.Proofs.YtfakfgblaakgdaaW.PrintWords Go.Proofs.YtfakfgblaakgdaaW.PrintLast Go.Proofs.Ytfakfgblaakgdaa.Base Go.Proofs.Ytfakfgblaakgdaa.Cells Go.Proofs.Ytfakfgblaakgdaa.Ints Go.Proofs.Ytfakfgblaakgdaa.Var Go.Proofs.Ytfakfgblaakgdaa.EditPure Go.Proofs.Ytfakfgblaakgdaa.Edit Go.Proofs.Ytfakfgblaakgdaa.Sets Go.Proofs.Ytfakfgblaakgdaa.Wide Go.Proofs.Ytfakfgblaakgdaa.RowsC

/-- the cells of file i of a row of files, its octets' slice told -/
theorem atFd {w : World} {A : Option Addr} {n : Nat} {xs : List (Fl × Value)} (h : kFd.C w A n xs) (i : Nat) (x : Fl × Value) (hi : xs[i]? = some x) :
    ∃ ad, A = some ad ∧ w.cell? (ad.add (i * 3)) = some (.int .i64 x.1.id) ∧ w.cell? ⟨(ad.add (i * 3)).block, (ad.add (i * 3)).off + 1, none⟩ = some x.2 ∧ w.cell? ⟨(ad.add (i * 3)).block, (ad.add (i * 3)).off + 2, none⟩ = some (.int .i64 x.1.sync) := by
  have hlt : i < xs.length := (List.getElem?_eq_some_iff.1 hi).1
  have hn := Kd.C_len h
  obtain ⟨ad, c, e, _, hK, hc0⟩ := Kd.C_get h (zFl, Value.bool true) (i : Int) (by omega) (by omega)
  have hg : xs.getD (i : Int).toNat (zFl, Value.bool true) = x := by rw [Int.toNat_natCast, List.getD_eq_getElem?_getD, hi]; rfl
  rw [hg] at hK
  rw [Int.toNat_natCast] at hc0
  have hc : ∀ j u, c[j]? = some u → w.cell? (ad.add (i * 3 + j)) = some u := hc0
  obtain ⟨rfl, _⟩ := hK
  exact ⟨ad, e, hc 0 _ rfl, by rw [← add_field _ _ 1 (by omega)]; exact hc 1 _ rfl, by rw [← add_field _ _ 2 (by omega)]; exact hc 2 _ rfl⟩

theorem RFd_types : ∀ q ∈ (106 :: kFd.E : List Nat), q ≠ 25 := by decide
theorem RFd_set {w : World} {base g o : Nat} {v u : Value} {l : List (Fl × Value)} {cs : Array Value} (h : RFd w base v l) (hg : w.heap[g]? = some (.cells cs 25 (0, 0))) : RFd (w.setCell ⟨g, o, none⟩ u) base v l := by
  have h0 : kFd.R 106 w base (fun b => b ≠ g) v l := Kd.R_mono (Kd.R_bound h) (fun b hb => apart_of hg RFd_types b hb.2.2.2)
  exact Kd.R_mono (Kd.R_far (p := ⟨g, o, none⟩) h0 (fun _ h => h) u) (fun _ _ => trivial)

set_option maxRecDepth 100000 in
set_option maxHeartbeats 8000000 in
theorem swept_any (s : St) (v : Value) (base : Nat) (w : World) (h : Rs w base v s) (hbw : base ≤ w.heap.size) (hlf : s.files.length ≤ 1048576) (hln : s.names.length ≤ 1048576) (hls : s.safe.length ≤ 1048576) :
    Calls Try.prog 63 #[v] w fun e w' => ∃ v', e = .returned v' ∧ Rs w' base v' (sweepP s) ∧ Below w.heap.size w w' := by
  obtain ⟨vF, vN, vS, L, rfl, hOF, hfs, hRN, hRS⟩ := h
  have hRd := RFd_of_OF hOF
  obtain ⟨F, fc, rfl, _, hCF⟩ := Kd.R_reads hRd
  obtain ⟨N, nc, rfl, _, hCN⟩ := Kd.R_reads hRN
  obtain ⟨S, sc, rfl, _, hCS⟩ := Kd.R_reads hRS
  obtain ⟨lf, hlf'⟩ : ∃ n, L.length = n := ⟨_, rfl⟩
  obtain ⟨ln, hln'⟩ : ∃ n, s.names.length = n := ⟨_, rfl⟩
  obtain ⟨ls, hls'⟩ : ∃ n, s.safe.length = n := ⟨_, rfl⟩
  have hlf1 : lf ≤ 1048576 := by rw [← hlf']; have := congrArg List.length hfs; rw [List.length_map] at this; omega
  rw [hln'] at hln hCN hRN
  rw [hls'] at hls hCS hRS
  rw [hlf'] at hCF hOF
  rw [hlf', hln', hls']
  have HOF := Aside0.mk hOF
  have HFS := Aside0.mk hfs
  have HRN := Aside0.mk hRN
  have HRS := Aside0.mk hRS
  have HCF := Aside0.mk hCF
  have HCN := Aside0.mk hCN
  have HCS := Aside0.mk hCS
  have LF := Aside0.mk hlf'
  obtain ⟨p, hp⟩ := named (fun x : Fl × Value => stands s.names x.1.id || stands s.safe x.1.id)
  clear hOF hfs hRN hRS hCF hCN hCS hlf' hln' hls' hRd hlf
  go_enter Try.func63, Try.ntmps63
  go_upto_region 1 with (fail)
  obtain ⟨W, hW⟩ : ∃ W, W = ((w.alloc (Obj.cells #[.int .i64 s.cap, .slice F lf fc, .slice N ln nc, .slice S ls sc, .int .i64 s.next] 25)).alloc
      (Obj.cells #[.int .i64 0, .slice none 0 0, .slice none 0 0, .slice none 0 0, .int .i64 0] 25)) := ⟨_, rfl⟩
  have hj : W.heap[w.heap.size]? = some (.cells #[.int .i64 s.cap, .slice F lf fc, .slice N ln nc, .slice S ls sc, .int .i64 s.next] 25 (0, 0)) := by rw [hW]; exact blk_alloc (blk_new _ _) _
  have hk : W.heap[w.heap.size + 1]? = some (.cells #[.int .i64 0, .slice none 0 0, .slice none 0 0, .slice none 0 0, .int .i64 0] 25 (0, 0)) := by rw [hW]; exact blk_new1 _ _ _ _
  have HB : Aside0 (Below w.heap.size w W) := ⟨by rw [hW]; exact below_alloc (below_alloc (Below.refl _ _) _) _⟩
  rw [← hW]
  clear hW
  have HJ := Aside0.mk hj
  have HK := Aside0.mk hk
  obtain ⟨x0, x1, x2, x3, x4, _, _, _, _, _⟩ := all5 hj
  clear hj hk
  go_upto_region 3 with (fail)
  obtain ⟨g3, hg3⟩ : ∃ g, g = W.heap.size := ⟨_, rfl⟩
  rw [← hg3]
  obtain ⟨W3, hW3⟩ : ∃ W3, W3 = W.alloc (.cells #[.int .i64 s.cap, .slice none 0 0, .slice N ln nc, .slice S ls sc, .int .i64 s.next] 25) := ⟨_, rfl⟩
  have HG0 : Aside0 (W3.heap[g3]? = some (.cells #[.int .i64 s.cap, .slice none 0 0, .slice N ln nc, .slice S ls sc, .int .i64 s.next] 25 (0, 0))) := ⟨by rw [hW3, hg3]; exact blk_new _ _⟩
  have HB3 : Aside0 (Below W.heap.size W W3) := ⟨by rw [hW3]; exact below_alloc (Below.refl _ _) _⟩
  rw [← hW3]
  have hlow : W.heap.size ≤ g3 := by omega
  clear hW3 hg3 x0 x1 x2 x3 x4
  go_wp2
  go_loopg [4] lf (fun g v4 wr => ∃ (i : Nat) (A : Option Addr) (l c : Nat), v4 = .int .i64 i ∧ g + i = lf ∧ Aside0 (RFd wr W.heap.size (.slice A l c) ((L.take i).filter p)) ∧ Aside0 (wr.heap[g3]? = some (.cells #[.int .i64 s.cap, .slice A l c, .slice N ln nc, .slice S ls sc, .int .i64 s.next] 25 (0, 0))) ∧ Aside0 (Below W.heap.size W wr))
  case atStart => exact ⟨0, none, 0, 0, rfl, by omega, ⟨Kd.R_nil kFd _ _ _ _⟩, HG0, HB3⟩
  case round =>
    obtain ⟨i, A, l, c, rfl, hg, HO, HG, HBr⟩ := hrel
    have HBw := Aside0.mk (bthen HB.out HBr.out)
    have HJr := Aside0.mk (blk_keep HJ.out HBr.out)
    obtain ⟨_, x1, _, _, _, _, _, _, _, _⟩ := all5 HJr.out
    by_cases hlt : i < lf
    · have hlt' : (i : Int) < (lf : Int) := by omega
      obtain ⟨m, hm⟩ : ∃ m, L[i]? = some m := ⟨_, List.getElem?_eq_getElem (by rw [LF.out]; exact hlt)⟩
      obtain ⟨ad, hFs, a0, a1, a2⟩ := atFd (by have := Kd.C_below HCF.out HBw.out; exact this) i m hm
      subst hFs
      obtain ⟨D, dc, hmv⟩ := own_slice (HOF.out.own m (List.mem_of_getElem? hm))
      obtain ⟨ld, hld⟩ : ∃ n, m.1.data.length = n := ⟨_, rfl⟩
      rw [hld] at hmv
      rw [hmv] at a1
      have HMV := Aside0.mk hmv
      have ht : L.take (i + 1) = L.take i ++ [m] := by rw [List.take_add_one, hm]; rfl
      have HT : Aside0 ((L.take (i + 1)).filter p = (L.take i).filter p ++ (if p m then [m] else [])) := ⟨by rw [ht, List.filter_append]; cases hpm : p m <;> simp [hpm]⟩
      have hfl : ((L.take i).filter p).length ≤ 1048576 := by
        have h1 := List.length_filter_le p (L.take i)
        rw [List.length_take] at h1; omega
      have HA1 := Aside0.mk (And.intro a0 (And.intro a1 a2))
      obtain ⟨pm, hpm⟩ := named (p m)
      rw [← hpm.out] at HT
      clear hm hld hmv ht
      go_upto_region 6 with (fail)
      go_cut [33] (fun v33 wc => v33 = .bool pm ∧ Aside0 (Below wr.heap.size wr wc))
      case first =>
        obtain ⟨s1, hs1⟩ := named (stands s.names m.1.id)
        obtain ⟨s2, hs2⟩ := named (stands s.safe m.1.id)
        have HPM : Aside0 (pm = (s1 || s2)) := ⟨by rw [hpm.out, hp.out, hs1.out, hs2.out]⟩
        have CS1 : ∀ x : Later wr, Calls Try.prog 53 #[.slice N ln nc, .int .i64 m.1.id] (wb wr x) fun e w' => e = .returned (.bool s1) ∧ wb wr x = w' := fun x => by
          rw [hs1.out]; exact stands_any s.names m.1.id N ln nc _ (Kd.C_below HCN.out (bthen HBw.out (wb_below _ x))) hln
        have CS2 : ∀ x : Later wr, Calls Try.prog 53 #[.slice S ls sc, .int .i64 m.1.id] (wb wr x) fun e w' => e = .returned (.bool s2) ∧ wb wr x = w' := fun x => by
          rw [hs2.out]; exact stands_any s.safe m.1.id S ls sc _ (Kd.C_below HCS.out (bthen HBw.out (wb_below _ x))) hls
        obtain ⟨y0, y1, y2, y3, y4, _, _, _, _, _⟩ := all5 HJr.out
        have Y1 := wb_cell y1
        have Y2 := wb_cell y2
        have Y3 := wb_cell y3
        have Z0 := wb_cell a0
        clear y0 y1 y2 y3 y4 a0 a1 a2 x1
        cases hv1 : s1 with
        | true =>
          rw [hv1] at CS1
          have HV : Aside0 (pm = true) := ⟨by rw [HPM.out, hv1]; rfl⟩
          clear hv1
          refine wp_region_wide (by kernel_rfl) (by kernel_rfl) ?_
          repeat (go_big_quiet_step ((first | (go_at_call 53; with_reducible exact wide_same (CS1 _)) | (go_at_call 53; with_reducible exact wide_same (CS2 _)))))
          refine wpQuiet_nil ?_
          rintro w' ⟨x, rfl⟩
          go_wp2
          go_meet
          exact ⟨by rw [HV.out], ⟨wb_below _ x⟩⟩
        | false =>
          rw [hv1] at CS1
          have HV : Aside0 (pm = s2) := ⟨by rw [HPM.out, hv1]; rfl⟩
          clear hv1
          refine wp_region_wide (by kernel_rfl) (by kernel_rfl) ?_
          repeat (go_big_quiet_step ((first | (go_at_call 53; with_reducible exact wide_same (CS1 _)) | (go_at_call 53; with_reducible exact wide_same (CS2 _)))))
          refine wpQuiet_nil ?_
          rintro w' ⟨x, rfl⟩
          go_wp2
          go_meet
          exact ⟨by rw [HV.out], ⟨wb_below _ x⟩⟩
      case rest =>
        obtain ⟨rfl, HBc⟩ := hcut
        obtain ⟨wd, hwd⟩ : ∃ wd, wd = wc := ⟨_, rfl⟩
        rw [← hwd] at HBc ⊢
        clear hwd a0 a1 a2 x1
        have HBd := Aside0.mk (bthen HBr.out HBc.out)
        have HGd := Aside0.mk (blk_keep HG.out HBc.out)
        have HOd := Aside0.mk (Kd.R_below HO.out HBc.out)
        cases hpv : pm with
        | false =>
          have HT2 : Aside0 ((L.take (i + 1)).filter p = (L.take i).filter p) := ⟨by rw [HT.out, hpv]; simp⟩
          clear hpv
          go_wp2
          go_roundg (lf - (i + 1))
          case measure => omega
          case rel => exact ⟨i + 1, A, l, c, by go_num, by omega, ⟨by rw [HT2.out]; exact HOd.out⟩, HGd, HBd⟩
        | true =>
          have HT2 : Aside0 ((L.take (i + 1)).filter p = (L.take i).filter p ++ [m]) := ⟨by rw [HT.out, hpv]; rfl⟩
          clear hpv
          have a0 := pw_cell_below HBc.out HA1.out.1
          have a1 := pw_cell_below HBc.out HA1.out.2.1
          have a2 := pw_cell_below HBc.out HA1.out.2.2
          obtain ⟨_, x1, _, _, _, _, _, _, _, _⟩ := all5 (blk_keep HJr.out HBc.out)
          obtain ⟨_, y1, _, _, _, _, _, _, _, _⟩ := all5 HGd.out
          have y1a : ∀ o, (wd.alloc o).cell? ⟨g3, 1, none⟩ = some (.slice A l c) := fun o => pw_cell_below (below_alloc (Below.refl _ _) o) y1
          have HST : Aside0 (∀ W1, wd.grownBy W1 (Value.slice A l c).ownBlock → W1.heap[g3]? = some (.cells #[.int .i64 s.cap, .slice A l c, .slice N ln nc, .slice S ls sc, .int .i64 s.next] 25 (0, 0))) := ⟨fun W1 hg => (hg.block g3 (blk_lt HGd.out) (fun e => by obtain ⟨_, _, cs, h3⟩ := (CR_of_RFd HOd.out).block g3 e.symm; exact type_ne HGd.out h3 (by decide) rfl)).trans HGd.out⟩
          go_upto_region 7 with (fail)
          go_region_law (refine Kd.R_append_step kFd (w0 := W) (W := wd.drew) W.heap.size (by rfl) (.tmp 35) (.tmp 41) 22 106 (.agg #[.int .i64 0, .slice none 0 0, .int .i64 0]) 40 rfl Try.underlying22 infoFl rfl (by decide) (by omega) (.slice A l c) ((L.take i).filter p) m [.int .i64 m.1.id, .slice D ld dc, .int .i64 m.1.sync] (fun _ => True) (fun _ => False) rfl rfl ?aP (fun _ hk => hk.elim) (fun _ _ => trivial) ?aO ?aB ?aS ?c1 ?_; (case aP => exact ⟨by rw [rowF, HMV.out], by rw [HMV.out]; rfl⟩); (case aO => exact Kd.R_below HOd.out (below_drew (Below.refl _ _))); (case aB => exact bthen HBd.out (below_drew (Below.refl _ _))); (case aS => exact HBd.out.size); (case c1 => omega); intro v1 w1 hown hB1 hg1 hat; obtain ⟨A6, c6, hv1⟩ := Kd.R_slice hown; rw [List.length_append, List.length_singleton] at hv1; subst hv1; obtain ⟨_, b1, _, _, _, _, fb1, _, _, _⟩ := all5 (HST.out _ (grown_trans (grown_drew (grown_refl wd _)) hg1)); have HO6 := Aside0.mk hown; have HG6 := Aside0.mk (grown_trans (grown_drew (grown_refl wd (Value.slice A l c).ownBlock)) hg1); have HB6 := Aside0.mk hB1; clear hown hB1 hg1 hat)
          all_goals go_wp2
          all_goals go_roundg (lf - (i + 1))
          all_goals first
            | (guard_target =~ (_ : Nat) < _; omega)
            | skip
          all_goals exact ⟨i + 1, A6, _, c6, by go_num, by omega, ⟨by rw [HT2.out]; exact RFd_set HO6.out (HST.out _ HG6.out)⟩, ⟨blk_put (HST.out _ HG6.out) 1 _ rfl⟩, ⟨HB6.out.setCell hlow _⟩⟩
    · have hnf : ¬ ((i : Int) < (lf : Int)) := by omega
      have hi : L.take i = L := List.take_of_length_le (by rw [LF.out]; omega)
      rw [hi] at HO
      have hk := blk_keep HK.out HBr.out
      have hsz := HB.out.size
      obtain ⟨z0, z1, z2, z3, z4, f0, f1, f2, f3, f4⟩ := all5 hk
      obtain ⟨y0, y1, y2, y3, y4, _, _, _, _, _⟩ := all5 HG.out
      have HKr := Aside0.mk hk
      have hz : w.heap.size ≤ w.heap.size + 1 := Nat.le_succ _
      clear hk hi
      have HRes : Aside0 (Rs wr base (.agg #[.int .i64 s.cap, .slice A l c, .slice N ln nc, .slice S ls sc, .int .i64 s.next]) (sweepP s)) := ⟨⟨.slice A l c, .slice N ln nc, .slice S ls sc, L.filter p, rfl, ⟨(CR_of_RFd HO.out).lower (by omega), fun x hx => RB_below (HOF.out.own x (List.mem_filter.1 hx).1) HBw.out, filter_nodup p HOF.out.apart⟩, by
        show (L.filter p).map (·.1) = s.files.filter _
        rw [← HFS.out, List.filter_map, hp.out]
        rfl, Kd.R_below HRN.out HBw.out, Kd.R_below HRS.out HBw.out⟩⟩
      go_wp2
      refine bodyPost_ret (results_cell_row rfl _ _ (w.heap.size + 1) 25 #[.int .i64 s.cap, .slice A l c, .slice N ln nc, .slice S ls sc, .int .i64 s.next] (0, 0) _ rfl (blk5 HKr.out) Try.underlying25 rfl (by kernel_rfl)) rfl ?_
      exact ⟨_, rfl, HRes.out.far5 HKr.out _ _ _ _ _, below_set5 HBw.out hz _ _ _ _ _⟩
end Go.Proofs.Ytfakfgblaakgdaa.Files.Ref

/- The document's Do: walked. (Printed by wip/gen_refg.py.) -/
namespace Go.Proofs.Ytfakfgblaakgdaa.Files.Ref
set_option linter.unusedVariables false
set_option linter.unusedSimpArgs false
open Go.RowKit Go.Proofs.YtfakfgblaakgdaaW.PrintWords Go.Proofs.YtfakfgblaakgdaaW.PrintLast Go.Proofs.Ytfakfgblaakgdaa.Base Go.Proofs.Ytfakfgblaakgdaa.Cells Go.Proofs.Ytfakfgblaakgdaa.Ints Go.Proofs.Ytfakfgblaakgdaa.Var Go.Proofs.Ytfakfgblaakgdaa.EditPure Go.Proofs.Ytfakfgblaakgdaa.Edit Go.Proofs.Ytfakfgblaakgdaa.Sets Go.Proofs.Ytfakfgblaakgdaa.Wide Go.Proofs.Ytfakfgblaakgdaa.RowsC

theorem show_ {w : World} {base : Nat} {v : Value} {s : St} (h : Rs w base v s) : ∃ n F lf fc N ln nc S ls sc m, v = .agg #[.int .i64 n, .slice F lf fc, .slice N ln nc, .slice S ls sc, .int .i64 m] := by
  obtain ⟨F, fc, N, nc, S, sc, h1, _⟩ := h.forms
  exact ⟨_, _, _, _, _, _, _, _, _, _, _, h1⟩
theorem DoP_err {s : St} {a : Ac} {c : Int} (h : stB s = true) (hd : (doP s a).1 = c) (hc : c ≠ 0) : DoP s a = (c, zSt) := by
  rw [DoP, if_neg (by rw [h]; decide), if_neg (by rw [hd]; exact hc), hd]
theorem DoP_ok {s s' : St} {a : Ac} (h : stB s = true) (hd : doP s a = (0, s')) : DoP s a = (0, s') := by
  rw [DoP, if_neg (by rw [h]; decide), hd, if_pos rfl]
theorem doP_act {s s' : St} {a : Ac} (h1 : 2 ≤ a.what) (h2 : a.what ≤ 5) (h : actP s a = (0, s')) : doP s a = (0, sweepP s') := by
  unfold doP
  rw [if_neg (by omega), if_neg (by omega), if_neg (by omega), h]
  rfl
theorem doP_actE {s : St} {a : Ac} {c : Int} (h1 : 2 ≤ a.what) (h2 : a.what ≤ 5) (h : (actP s a).1 = c) : (doP s a).1 = c := by
  unfold doP
  rw [if_neg (by omega), if_neg (by omega), if_neg (by omega)]
  exact h
/-- a state's value of one's own in a new variable -/
theorem Rs.own {w : World} {base : Nat} {s : St} {c n : Int} {F N S : Value} (h : Rs w base (.agg #[.int .i64 c, F, N, S, .int .i64 n]) s) : ∃ L, Own (w.alloc (.cells #[.int .i64 c, F, N, S, .int .i64 n] 25)) base w.heap.size s F N S L := by
  obtain ⟨vF, vN, vS, L, h1, h2, h3, h4, h5⟩ := h
  simp only [Value.agg.injEq, Array.mk.injEq, List.cons.injEq, Value.int.injEq] at h1
  obtain ⟨⟨_, e0⟩, e1, e2, e3, ⟨_, e4⟩, _⟩ := h1
  subst e0 e1 e2 e3 e4
  have hb := below_alloc (Below.refl w.heap.size w) (.cells #[.int .i64 s.cap, F, N, S, .int .i64 s.next] 25)
  exact ⟨L, blk_new _ _, h2.below hb, h3, Kd.R_below h4 hb, Kd.R_below h5 hb⟩
theorem act_what {s : St} {a : Ac} {n : Nm} (h : findN s.names a.name = some n) : actP s a = (if a.what = 2 then (if s.cap - usedF s.files < a.data.length then (51, s) else (0, { s with files := updF s.files n.id fun f => { f with data := f.data ++ a.data } }))
    else if a.what = 3 then (0, { s with files := updF s.files n.id fun f => { f with sync := f.data.length } })
    else if a.what = 4 then (if mayF a.dest = false then (31, s) else (0, { s with names := giveN (withoutN s.names a.name) ⟨a.dest, n.id⟩ }))
    else (0, { s with names := withoutN s.names a.name })) := by
  unfold actP
  rw [h]

end Go.Proofs.Ytfakfgblaakgdaa.Files.Ref

/- The document's Do, walked: an act of no kind. (Split by wip/split_refg.py.) -/
namespace Go.Proofs.Ytfakfgblaakgdaa.Files.Ref
set_option linter.unusedVariables false
set_option linter.unusedSimpArgs false
open Go.RowKit Go.Proofs.YtfakfgblaakgdaaW.PrintWords Go.Proofs.YtfakfgblaakgdaaW.PrintLast Go.Proofs.Ytfakfgblaakgdaa.Base Go.Proofs.Ytfakfgblaakgdaa.Cells Go.Proofs.Ytfakfgblaakgdaa.Ints Go.Proofs.Ytfakfgblaakgdaa.Var Go.Proofs.Ytfakfgblaakgdaa.EditPure Go.Proofs.Ytfakfgblaakgdaa.Edit Go.Proofs.Ytfakfgblaakgdaa.Sets Go.Proofs.Ytfakfgblaakgdaa.Wide Go.Proofs.Ytfakfgblaakgdaa.RowsC

set_option maxRecDepth 100000 in
set_option maxHeartbeats 40000000 in
theorem do_0 (s : St) (a : Ac) (F N S D : Option Addr) (fc nc sc dc : Nat) (w : World) (h : Hd w s F fc N nc S sc) (hs : Small s) (hr : ReadsInt w .u8 D a.data.length a.data) (hda : a.data.length ≤ 1048576) (hx : a.what < 1 ∨ 6 < a.what) :
    Calls Try.prog 30 #[.agg #[.int .i64 s.cap, .slice F s.files.length fc, .slice N s.names.length nc, .slice S s.safe.length sc, .int .i64 s.next], acV a D dc] w fun e w' => ∃ v, e = .returned (.tuple #[v, .int .i64 (DoP s a).1]) ∧ Rs w' w.heap.size v (DoP s a).2 ∧ Below w.heap.size w w' := by
  have HH := Aside0.mk h
  have HS := Aside0.mk hs
  have HR := Aside0.mk hr
  obtain ⟨dp, hdp⟩ := named (DoP s a)
  rw [← hdp.out]
  obtain ⟨lf, hlf⟩ : ∃ n, s.files.length = n := ⟨_, rfl⟩
  obtain ⟨ln, hln⟩ : ∃ n, s.names.length = n := ⟨_, rfl⟩
  obtain ⟨ls, hls⟩ : ∃ n, s.safe.length = n := ⟨_, rfl⟩
  obtain ⟨ld, hld⟩ : ∃ n, a.data.length = n := ⟨_, rfl⟩
  have LF := Aside0.mk hlf
  have LN := Aside0.mk hln
  have LS := Aside0.mk hls
  have LD := Aside0.mk hld
  obtain ⟨wh, hwh⟩ : ∃ n, a.what = n := ⟨_, rfl⟩
  have WH := Aside0.mk hwh
  have CA : Aside0 (acV a D dc = .agg #[.int .i64 wh, .string a.name, .string a.dest, .slice D ld dc]) := ⟨by rw [acV, hwh, hld]⟩
  rw [CA.out, hlf, hln, hls]
  rw [hld] at hda
  have hlf1 : lf ≤ 1048576 := by rw [← hlf]; exact hs.lf
  have hln1 : ln ≤ 1048576 := by rw [← hln]; exact hs.ln
  have hls1 : ls ≤ 1048576 := by rw [← hls]; exact hs.ls
  have HXW : Aside0 (wh < 1 ∨ 6 < wh) := ⟨by rw [← hwh]; exact hx⟩
  clear h hs hr hlf hln hls hld hwh hx
  go_enter Try.func30, Try.ntmps30
  go_upto_region 1 with (fail)
  obtain ⟨W, hW⟩ : ∃ W, W = ((w.alloc (.cells #[.int .i64 s.cap, .slice F lf fc, .slice N ln nc, .slice S ls sc, .int .i64 s.next] 25)).alloc (.cells #[.int .i64 wh, .string a.name, .string a.dest, .slice D ld dc] 64)).alloc (.cells #[.int .i64 0, .slice none 0 0, .slice none 0 0, .slice none 0 0, .int .i64 0] 25) := ⟨_, rfl⟩
  have hk2 : W.heap[w.heap.size]? = some (.cells #[.int .i64 s.cap, .slice F lf fc, .slice N ln nc, .slice S ls sc, .int .i64 s.next] 25 (0, 0)) := by rw [hW]; exact blk_alloc (blk_alloc (blk_new _ _) _) _
  have hk3 : W.heap[w.heap.size + 1]? = some (.cells #[.int .i64 wh, .string a.name, .string a.dest, .slice D ld dc] 64 (0, 0)) := by rw [hW]; exact blk_alloc (blk_new1 _ _ _ _) _
  have hk4 : W.heap[w.heap.size + 2]? = some (.cells #[.int .i64 0, .slice none 0 0, .slice none 0 0, .slice none 0 0, .int .i64 0] 25 (0, 0)) := by
    rw [hW]
    have := blk_new1 (w.alloc (.cells #[.int .i64 s.cap, .slice F lf fc, .slice N ln nc, .slice S ls sc, .int .i64 s.next] 25)) (.cells #[.int .i64 wh, .string a.name, .string a.dest, .slice D ld dc] 64) #[.int .i64 0, .slice none 0 0, .slice none 0 0, .slice none 0 0, .int .i64 0] 25
    rw [show (w.alloc (.cells #[.int .i64 s.cap, .slice F lf fc, .slice N ln nc, .slice S ls sc, .int .i64 s.next] 25)).heap.size = w.heap.size + 1 by simp] at this
    exact this
  have HB : Aside0 (Below w.heap.size w W) := ⟨by rw [hW]; exact below_alloc (below_alloc (below_alloc (Below.refl _ _) _) _) _⟩
  have HZ : Aside0 (W.heap.size = w.heap.size + 3) := ⟨by rw [hW]; simp⟩
  rw [← hW]
  clear hW
  have HJ := Aside0.mk hk2
  have HA := Aside0.mk hk3
  have HK := Aside0.mk hk4
  obtain ⟨x0, x1, x2, x3, x4, _, _, _, _, _⟩ := all5 hk2
  clear hk2 hk3 hk4
  go_wp2_with fail
  refine (check_any s F N S lf fc ln nc ls sc W (HH.out.below HB.out) HS.out LF.out LN.out LS.out).mono ?_
  obtain ⟨E, hE⟩ := named (stE s)
  rw [← hE.out]
  rintro e w1 ⟨rfl, hb1⟩
  have HB1 := Aside0.mk hb1
  have HBw1 := Aside0.mk (bthen HB.out hb1)
  have HK1 := Aside0.mk (blk_keep HK.out hb1)
  have HA1 := Aside0.mk (blk_keep HA.out hb1)
  have HJ1 := Aside0.mk (blk_keep HJ.out hb1)
  clear hb1 x0 x1 x2 x3 x4
  cases hst : stB s with
  | false =>
    obtain rfl : E = 9 := by rw [hE.out, stE, hst]; rfl
    have HDP : Aside0 (dp = (9, zSt)) := ⟨by rw [hdp.out, DoP, if_pos hst]⟩
    clear hst
    obtain ⟨z0, z1, z2, z3, z4, f0, f1, f2, f3, f4⟩ := all5 HK1.out
    go_wp2
    refine bodyPost_ret (results_ct rfl _ _ (w.heap.size + 2) 25 #[.int .i64 0, .slice none 0 0, .slice none 0 0, .slice none 0 0, .int .i64 0] (0, 0) _ rfl (blk5 HK1.out) Try.underlying25 rfl (by kernel_rfl)) rfl ?_
    exact ⟨.agg #[.int .i64 0, .slice none 0 0, .slice none 0 0, .slice none 0 0, .int .i64 0], by rw [HDP.out]; rfl, by rw [HDP.out]; exact Rs_zero _ _, below_set5 HBw1.out (by omega) _ _ _ _ _⟩
  | true =>
    obtain rfl : E = 0 := by rw [hE.out, stE, hst]; rfl
    have HST := Aside0.mk hst
    have HGD : Aside0 (Good s) := ⟨stB_iff.1 hst⟩
    clear hst
    obtain ⟨p0, p1, p2, p3, _, _, _, _⟩ := all4 HA1.out
    by_cases hw1 : wh < 1
    · have HDP : Aside0 (dp = (22, zSt)) := ⟨by rw [hdp.out]; exact DoP_err HST.out (by rw [doP, if_pos (.inl (by rw [WH.out]; exact hw1))]) (by decide)⟩
      obtain ⟨z0, z1, z2, z3, z4, f0, f1, f2, f3, f4⟩ := all5 HK1.out
      go_wp2
      refine bodyPost_ret (results_ct rfl _ _ (w.heap.size + 2) 25 #[.int .i64 0, .slice none 0 0, .slice none 0 0, .slice none 0 0, .int .i64 0] (0, 0) _ rfl (blk5 HK1.out) Try.underlying25 rfl (by kernel_rfl)) rfl ?_
      exact ⟨.agg #[.int .i64 0, .slice none 0 0, .slice none 0 0, .slice none 0 0, .int .i64 0], by rw [HDP.out]; rfl, by rw [HDP.out]; exact Rs_zero _ _, below_set5 HBw1.out (by omega) _ _ _ _ _⟩
    · by_cases hw6 : 6 < wh
      · have HDP : Aside0 (dp = (22, zSt)) := ⟨by rw [hdp.out]; exact DoP_err HST.out (by rw [doP, if_pos (.inr (by rw [WH.out]; exact hw6))]) (by decide)⟩
        obtain ⟨z0, z1, z2, z3, z4, f0, f1, f2, f3, f4⟩ := all5 HK1.out
        go_wp2
        refine bodyPost_ret (results_ct rfl _ _ (w.heap.size + 2) 25 #[.int .i64 0, .slice none 0 0, .slice none 0 0, .slice none 0 0, .int .i64 0] (0, 0) _ rfl (blk5 HK1.out) Try.underlying25 rfl (by kernel_rfl)) rfl ?_
        exact ⟨.agg #[.int .i64 0, .slice none 0 0, .slice none 0 0, .slice none 0 0, .int .i64 0], by rw [HDP.out]; rfl, by rw [HDP.out]; exact Rs_zero _ _, below_set5 HBw1.out (by omega) _ _ _ _ _⟩
      · exfalso; have := HXW.out; omega
end Go.Proofs.Ytfakfgblaakgdaa.Files.Ref
