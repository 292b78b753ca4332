/- FilesTells: for all files, acts, numbers and texts of bulk at most 1048576 the law returns true, and what it is given stays. (Printed by wip/gen_rows.py.) -/
import Derived.Test.YtfakfgblaakgdaaPkRuns10
import Derived.Test.YtfakfgblaakgdaaPkRuns9
import Derived.Test.YtfakfgblaakgdaaPkRuns8
import Derived.Test.YtfakfgblaakgdaaPkRuns7
import Derived.Test.YtfakfgblaakgdaaPkRuns6
import Derived.Test.YtfakfgblaakgdaaPkRuns5
import Derived.Test.YtfakfgblaakgdaaPkRuns4
import Derived.Test.YtfakfgblaakgdaaPkRuns3
import Derived.Test.YtfakfgblaakgdaaPkRuns2
import Derived.Test.YtfakfgblaakgdaaPkRuns1
import Derived.Laws.Small
import Derived.JoinedCond

/- The document's Read and List: walked. -/
namespace Go.Proofs.Ytfakfgblaakgdaa.Files.Ref
set_option linter.unusedVariables false
set_option linter.unusedSimpArgs false
open Go.RowKit Go.Proofs.YtfakfgblaakgdaaW.PrintWords Go.Proofs.YtfakfgblaakgdaaW.PrintLast Go.Proofs.Ytfakfgblaakgdaa.Base Go.Proofs.Ytfakfgblaakgdaa.Cells Go.Proofs.Ytfakfgblaakgdaa.Ints Go.Proofs.Ytfakfgblaakgdaa.Var Go.Proofs.Ytfakfgblaakgdaa.EditPure Go.Proofs.Ytfakfgblaakgdaa.Edit Go.Proofs.Ytfakfgblaakgdaa.Sets Go.Proofs.Ytfakfgblaakgdaa.Wide Go.Proofs.Ytfakfgblaakgdaa.RowsC Go.Proofs.Ytfakfgblaakgdaa.StrRows

set_option maxRecDepth 100000 in
set_option maxHeartbeats 8000000 in
theorem read_any (s : St) (q : ByteArray) (F N S : Option Addr) (lf fc ln nc ls sc : Nat) (w : World) (h : Hd w s F fc N nc S sc) (hs : Small s) (hlf : s.files.length = lf) (hln : s.names.length = ln) (hls : s.safe.length = ls) :
    Calls Try.prog 33 #[.agg #[.int .i64 s.cap, .slice F lf fc, .slice N ln nc, .slice S ls sc, .int .i64 s.next], .string q] w fun e w' => ∃ v, e = .returned (.tuple #[v, .int .i64 (readP s q).2]) ∧ RB w' w.heap.size v (readP s q).1 ∧ Below w.heap.size w w' := by
  have HH := Aside0.mk h
  have HS := Aside0.mk hs
  have HF0 := Aside0.mk (hlf ▸ h.hF : kFl.C w F lf s.files)
  have HN0 := Aside0.mk (hln ▸ h.hN : kNm.C w N ln s.names)
  have LF := Aside0.mk hlf
  have LN := Aside0.mk hln
  have LS := Aside0.mk hls
  have hlf1 : lf ≤ 1048576 := by rw [← hlf]; exact hs.lf
  have hln1 : ln ≤ 1048576 := by rw [← hln]; exact hs.ln
  obtain ⟨dp, hdp⟩ := named (readP s q)
  rw [← hdp.out]
  clear h hs hlf hln hls
  go_enter Try.func33, Try.ntmps33
  go_upto_region 1 with (fail)
  obtain ⟨W, hW⟩ : ∃ W, W = w.alloc (.cells #[.int .i64 s.cap, .slice F lf fc, .slice N ln nc, .slice S ls sc, .int .i64 s.next] 25) := ⟨_, rfl⟩
  have hk2 : W.heap[w.heap.size]? = some (.cells #[.int .i64 s.cap, .slice F lf fc, .slice N ln nc, .slice S ls sc, .int .i64 s.next] 25 (0, 0)) := by rw [hW]; exact blk_new _ _
  have HB : Aside0 (Below w.heap.size w W) := ⟨by rw [hW]; exact below_alloc (Below.refl _ _) _⟩
  rw [← hW]
  clear hW
  have HJ := Aside0.mk hk2
  obtain ⟨x0, x1, x2, x3, x4, _, _, _, _, _⟩ := all5 hk2
  clear hk2
  go_wp2_with fail
  refine (check_any s F N S lf fc ln nc ls sc W (HH.out.below HB.out) HS.out LF.out LN.out LS.out).mono ?_
  obtain ⟨E, hE⟩ := named (stE s)
  rw [← hE.out]
  rintro e w1 ⟨rfl, hb1⟩
  have HB1 := Aside0.mk (bthen HB.out hb1)
  have HJ1 := Aside0.mk (blk_keep HJ.out hb1)
  clear hb1 x0 x1 x2 x3 x4
  cases hst : stB s with
  | false =>
    obtain rfl : E = 9 := by rw [hE.out, stE, hst]; rfl
    have HDP : Aside0 (dp = ([], 9)) := ⟨by rw [hdp.out, readP, if_pos hst]⟩
    clear hst
    go_wp2
    refine bodyPost_ret (results_tmp2 rfl _ _ _) rfl ?_
    exact ⟨.slice none 0 0, by rw [HDP.out]; rfl, by rw [HDP.out]; exact own_nil _ _ _ _, HB1.out⟩
  | true =>
    obtain rfl : E = 0 := by rw [hE.out, stE, hst]; rfl
    have HGD : Aside0 (Good s) := ⟨stB_iff.1 hst⟩
    have HNF : Aside0 (stB s = true) := ⟨hst⟩
    clear hst
    obtain ⟨x0, x1, x2, x3, x4, _, _, _, _, _⟩ := all5 HJ1.out
    go_wp2_with fail
    refine (find_any s.names q N ln nc w1 (Kd.C_below HN0.out HB1.out) hln1).mono ?_
    obtain ⟨ix, hix⟩ := named (findIx s.names q)
    rw [← hix.out]
    rintro e wz ⟨rfl, rfl⟩
    rcases findIx_cases s.names q with ⟨q1, q2, q3⟩ | ⟨k, n, q1, q2, q3, q4, q5⟩
    · obtain rfl : ix = -1 := by rw [hix.out, q1]
      have HDP : Aside0 (dp = ([], 71)) := ⟨by rw [hdp.out, readP, if_neg (by rw [HNF.out]; decide), q3]⟩
      clear q1 q2 q3
      go_wp2
      refine bodyPost_ret (results_tmp2 rfl _ _ _) rfl ?_
      exact ⟨.slice none 0 0, by rw [HDP.out]; rfl, by rw [HDP.out]; exact own_nil _ _ _ _, HB1.out⟩
    · obtain rfl : ix = (k : Int) := by rw [hix.out, q1]
      obtain ⟨kf, f, r1, r2, r3⟩ := fileIx_some (HGD.out.nm.each n (List.mem_of_getElem? q2)).2
      have HDP : Aside0 (dp = (f.data, 0)) := ⟨by rw [hdp.out, readP, if_neg (by rw [HNF.out]; decide), q5]; show (dataOf s n.id, (0 : Int)) = _; rw [dataOf_at HGD.out.fl.asc r2 r3]⟩
      have hkl' : (k : Int) < (ln : Int) := by have := (List.getElem?_eq_some_iff.1 q2).1; have := LN.out; omega
      have hkf' : (kf : Int) < (lf : Int) := by have := (List.getElem?_eq_some_iff.1 r2).1; have := LF.out; omega
      obtain ⟨ad, hNs, _, c1⟩ := atNm (Kd.C_below HN0.out HB1.out) k n q2
      obtain ⟨adF, D, dc, hFs, _, d1, _, _, hrd⟩ := atFl (Kd.C_below HF0.out HB1.out) kf f r2
      subst hNs hFs
      have hdl := HS.out.ld f (List.mem_of_getElem? r2)
      obtain ⟨nid, hnid⟩ : ∃ x, n.id = x := ⟨_, rfl⟩
      obtain ⟨ld, hld⟩ : ∃ x, f.data.length = x := ⟨_, rfl⟩
      rw [hnid] at c1 r1
      rw [hld] at d1 hrd hdl
      have HRD := Aside0.mk hrd
      have HR1 := Aside0.mk r1
      have HLD := Aside0.mk hld
      have CF : Aside0 (∀ W', Below w1.heap.size w1 W' → Calls Try.prog 64 #[.agg #[.int .i64 s.cap, .slice (some adF) lf fc, .slice (some ad) ln nc, .slice S ls sc, .int .i64 s.next], .int .i64 nid] W' fun e w' => e = .returned (.int .i64 (kf : Int)) ∧ Below W'.heap.size W' w') := ⟨fun W' hW => by
        have h1 := file_any s.files nid s.cap s.next (some adF) (some ad) S lf fc ln nc ls sc W' (Kd.C_below HF0.out (bthen HB1.out hW)) hlf1
        rw [HR1.out] at h1
        exact h1⟩
      clear q1 q2 q3 q4 q5 r1 r2 r3 hnid hld hrd
      go_upto_region 6 with (fail)
      have HD : Aside0 (Below w1.heap.size w1 w1.drew) := ⟨below_drew (Below.refl _ _)⟩
      have D0 := Aside0.mk (And.intro c1 d1)
      have FJ := Aside0.mk (fun (w' : World) (b : Below w1.heap.size w1 w') => all5 (blk_keep HJ1.out b))
      clear x0 x1 x2 x3 x4 c1 d1
      obtain ⟨x0, x1, x2, x3, x4, _, _, _, _, _⟩ := FJ.out _ HD.out
      have c1 := pw_cell_below HD.out D0.out.1
      have d1 := pw_cell_below HD.out D0.out.2
      go_region_held3 (fun w' => w'.cell? ⟨w.heap.size, 0, none⟩ = some (.int .i64 s.cap) ∧ w'.cell? ⟨w.heap.size, 1, none⟩ = some (.slice (some adF) lf fc) ∧ w'.cell? ⟨w.heap.size, 2, none⟩ = some (.slice (some ad) ln nc) ∧ w'.cell? ⟨w.heap.size, 3, none⟩ = some (.slice S ls sc) ∧ w'.cell? ⟨w.heap.size, 4, none⟩ = some (.int .i64 s.next) ∧ w'.cell? ⟨(ad.add (k * 2)).block, (ad.add (k * 2)).off + 1, none⟩ = some (.int .i64 nid) ∧ w'.cell? ⟨(adF.add (kf * 3)).block, (adF.add (kf * 3)).off + 1, none⟩ = some (.slice D ld dc)) (first | with_reducible exact ⟨x0, x1, x2, x3, x4, c1, d1⟩ | with_reducible exact ⟨m0, m1, m2, m3, m4, m5, m6⟩ | with_reducible exact ⟨p0, p1, p2, p3, p4, p5, p6⟩ | go_keep) (first
        | (go_at_call 64; refine (CF.out _ HD.out).mono ?_; rintro e w2 ⟨rfl, hb2⟩; (have HB2 := Aside0.mk (bthen HD.out hb2)); obtain ⟨m0, m1, m2, m3, m4, _, _, _, _, _⟩ := FJ.out _ HB2.out; (have m5 := pw_cell_below HB2.out D0.out.1); (have m6 := pw_cell_below HB2.out D0.out.2); clear hb2)
        | (go_at_call 66; refine (copied_any D ld dc f.data w2 (HRD.out.below HB2.out) hdl).mono ?_; rintro e w3 ⟨v3, rfl, hv3, hb3⟩; obtain ⟨A3, c3, rfl, _⟩ := RB_reads hv3; (have HV3 := Aside0.mk (own_weaken hv3 (Nat.le_trans HB1.out.size HB2.out.size))); (have HB3 := Aside0.mk (bthen HB2.out hb3)); obtain ⟨p0, p1, p2, p3, p4, _, _, _, _, _⟩ := FJ.out _ HB3.out; (have p5 := pw_cell_below HB3.out D0.out.1); (have p6 := pw_cell_below HB3.out D0.out.2); clear hv3 hb3))
      all_goals go_wp2
      all_goals refine bodyPost_ret (results_tmp2 rfl _ _ _) rfl ?_
      all_goals exact ⟨.slice A3 f.data.length c3, by rw [HDP.out]; rfl, by rw [HDP.out]; exact HV3.out, bthen HB1.out HB3.out⟩

set_option maxRecDepth 100000 in
set_option maxHeartbeats 2000000 in
theorem list_any (s : St) (F N S : Option Addr) (lf fc ln nc ls sc : Nat) (w : World) (h : Hd w s F fc N nc S sc) (hs : Small s) (hlf : s.files.length = lf) (hln : s.names.length = ln) (hls : s.safe.length = ls) :
    Calls Try.prog 34 #[.agg #[.int .i64 s.cap, .slice F lf fc, .slice N ln nc, .slice S ls sc, .int .i64 s.next]] w fun e w' => ∃ v, e = .returned (.tuple #[v, .int .i64 (stE s)]) ∧ RS w' w.heap.size v (listL s) ∧ Below w.heap.size w w' := by
  have HH := Aside0.mk h
  have HS := Aside0.mk hs
  have HN0 := Aside0.mk (hln ▸ h.hN : kNm.C w N ln s.names)
  have LF := Aside0.mk hlf
  have LN := Aside0.mk hln
  have LS := Aside0.mk hls
  have hln1 : ln ≤ 1048576 := by rw [← hln]; exact hs.ln
  obtain ⟨E, hE⟩ := named (stE s)
  rw [← hE.out]
  clear h hs hlf hln hls
  go_enter Try.func34, Try.ntmps34
  go_upto_region 1 with (fail)
  obtain ⟨W, hW⟩ : ∃ W, W = w.alloc (.cells #[.int .i64 s.cap, .slice F lf fc, .slice N ln nc, .slice S ls sc, .int .i64 s.next] 25) := ⟨_, rfl⟩
  have hk2 : W.heap[w.heap.size]? = some (.cells #[.int .i64 s.cap, .slice F lf fc, .slice N ln nc, .slice S ls sc, .int .i64 s.next] 25 (0, 0)) := by rw [hW]; exact blk_new _ _
  have HB : Aside0 (Below w.heap.size w W) := ⟨by rw [hW]; exact below_alloc (Below.refl _ _) _⟩
  rw [← hW]
  clear hW
  have HJ := Aside0.mk hk2
  obtain ⟨x0, x1, x2, x3, x4, _, _, _, _, _⟩ := all5 hk2
  clear hk2
  go_wp2_with fail
  refine (check_any s F N S lf fc ln nc ls sc W (HH.out.below HB.out) HS.out LF.out LN.out LS.out).mono ?_
  rw [← hE.out]
  rintro e w1 ⟨rfl, hb1⟩
  have HB1 := Aside0.mk (bthen HB.out hb1)
  have HJ1 := Aside0.mk (blk_keep HJ.out hb1)
  clear hb1 x0 x1 x2 x3 x4
  cases hst : stB s with
  | false =>
    have HE : Aside0 (E = 9) := ⟨by rw [hE.out, stE, hst]; rfl⟩
    have HL : Aside0 (listL s = []) := ⟨by rw [listL, hst]; rfl⟩
    rw [HE.out]
    clear hst
    go_wp2
    refine bodyPost_ret (results_tmp2 rfl _ _ _) rfl ?_
    exact ⟨.slice none 0 0, by rw [HE.out]; rfl, by rw [HL.out]; exact Kd.R_nil _ _ _ _ _, HB1.out⟩
  | true =>
    have HE : Aside0 (E = 0) := ⟨by rw [hE.out, stE, hst]; rfl⟩
    have HL : Aside0 (listL s = nmsL s.names) := ⟨by rw [listL, hst]; rfl⟩
    rw [HE.out]
    clear hst
    obtain ⟨_, _, y2, _, _, _, _, _, _, _⟩ := all5 HJ1.out
    have HY2 := Aside0.mk y2
    go_wp2
    go_loopg [4, 5] ln (fun g v4 v5 wr => ∃ i : Nat, v5 = .int .i64 i ∧ g + i = ln ∧ Aside0 (RS wr w1.heap.size v4 (nmsL (s.names.take i))) ∧ Aside0 (Below w1.heap.size w1 wr))
    case atStart => exact ⟨0, rfl, by omega, ⟨Kd.R_nil Kd.string _ _ _ _⟩, ⟨Below.refl _ _⟩⟩
    case round =>
      obtain ⟨i, rfl, hg, HO, HBr⟩ := hrel
      clear y2
      have y2 := pw_cell_below HBr.out HY2.out
      by_cases hlt : i < ln
      · have hlt' : (i : Int) < (ln : Int) := by omega
        obtain ⟨m, hm⟩ : ∃ m, s.names[i]? = some m := ⟨_, List.getElem?_eq_getElem (by rw [LN.out]; exact hlt)⟩
        obtain ⟨ad, hN, c0, c1⟩ := atNm (Kd.C_below HN0.out (bthen HB1.out HBr.out)) i m hm
        have ht : Aside0 (nmsL (s.names.take (i + 1)) = nmsL (s.names.take i) ++ [m.name]) := ⟨by rw [List.take_add_one, hm]; simp [nmsL]⟩
        have hl : Aside0 ((nmsL (s.names.take i)).length = i) := ⟨by rw [nmsL, List.length_map, List.length_take, LN.out]; omega⟩
        subst hN
        clear hm
        go_wp2_with (first | (at_builtin; refine Kd.R_append Kd.string (w0 := w1) w1.heap.size rfl (.tmp 16) (.tmp 23) 35 9 (.string ⟨#[]⟩) 16 rfl Try.underlying35 infoS3 rfl (by decide) (by omega) u4 (nmsL (s.names.take i)) m.name [.string m.name] (fun _ => True) (fun _ => False) rfl rfl ?aP (fun _ hk => hk.elim) (fun _ _ => trivial) ?aO ?aB ?aS ?c1 ?_; (case aP => exact rfl); (case aO => exact HO.out); (case aB => exact HBr.out); (case aS => exact HBr.out.size); (case c1 => rw [hl.out]; omega); intro v1 w2 hown hB1 hg1 hat; have HO1 := Aside0.mk hown; have HB2 := Aside0.mk hB1; clear hown hB1 hg1 hat))
        go_roundg (ln - (i + 1))
        case measure => omega
        case rel => exact ⟨i + 1, by go_num, by omega, ⟨by rw [ht.out]; exact HO1.out⟩, HB2⟩
      · have hi : Aside0 (s.names.take i = s.names) := ⟨List.take_of_length_le (by rw [LN.out]; omega)⟩
        have hnf : ¬ ((i : Int) < (ln : Int)) := by omega
        go_wp2
        refine bodyPost_ret (results_tmp2 rfl _ _ _) rfl ?_
        exact ⟨u4, by rw [HE.out]; rfl, by rw [HL.out, ← hi.out]; exact Kd.R_lower HO.out HB1.out.size, bthen HB1.out HBr.out⟩
end Go.Proofs.Ytfakfgblaakgdaa.Files.Ref

/- The document's Crash: walked. -/
namespace Go.Proofs.Ytfakfgblaakgdaa.Files.Ref
set_option linter.unusedVariables false
set_option linter.unusedSimpArgs false
open Go.RowKit Go.Proofs.YtfakfgblaakgdaaW.PrintWords Go.Proofs.YtfakfgblaakgdaaW.PrintLast Go.Proofs.Ytfakfgblaakgdaa.Base Go.Proofs.Ytfakfgblaakgdaa.Cells Go.Proofs.Ytfakfgblaakgdaa.Ints Go.Proofs.Ytfakfgblaakgdaa.Var Go.Proofs.Ytfakfgblaakgdaa.EditPure Go.Proofs.Ytfakfgblaakgdaa.Edit Go.Proofs.Ytfakfgblaakgdaa.Sets Go.Proofs.Ytfakfgblaakgdaa.Wide Go.Proofs.Ytfakfgblaakgdaa.RowsC

theorem show_J {w : World} {base : Nat} {v : Value} {s : St} (h : Rs w base v s) : ∃ n F lf fc N ln nc S ls sc m, v = .agg #[.int .i64 n, .slice F lf fc, .slice N ln nc, .slice S ls sc, .int .i64 m] := by
  obtain ⟨F, fc, N, nc, S, sc, h1, _⟩ := h.forms
  exact ⟨_, _, _, _, _, _, _, _, _, _, _, h1⟩
theorem Rs.own_J {w : World} {base : Nat} {s : St} {c n : Int} {F N S : Value} (h : Rs w base (.agg #[.int .i64 c, F, N, S, .int .i64 n]) s) : ∃ L, Own (w.alloc (.cells #[.int .i64 c, F, N, S, .int .i64 n] 25)) base w.heap.size s F N S L := by
  obtain ⟨vF, vN, vS, L, h1, h2, h3, h4, h5⟩ := h
  simp only [Value.agg.injEq, Array.mk.injEq, List.cons.injEq, Value.int.injEq] at h1
  obtain ⟨⟨_, e0⟩, e1, e2, e3, ⟨_, e4⟩, _⟩ := h1
  subst e0 e1 e2 e3 e4
  have hb := below_alloc (Below.refl w.heap.size w) (.cells #[.int .i64 s.cap, F, N, S, .int .i64 s.next] 25)
  exact ⟨L, blk_new _ _, h2.below hb, h3, Kd.R_below h4 hb, Kd.R_below h5 hb⟩
theorem set_set {l : List Fl} {i : Nat} {a b : Fl} : (l.set i a).set i b = l.set i b := List.set_set ..

set_option maxRecDepth 100000 in
set_option maxHeartbeats 16000000 in
theorem crash_any (s : St) (keep : List Int) (F N S A : Option Addr) (lf fc ln nc ls sc la ac : Nat) (w : World) (h : Hd w s F fc N nc S sc) (hs : Small s) (hlf : s.files.length = lf) (hln : s.names.length = ln) (hls : s.safe.length = ls) (hr : ReadsInt w .i64 A la keep) (hkl : la ≤ 1048576) (hki : ∀ x ∈ keep, inI64 x) :
    Calls Try.prog 32 #[.agg #[.int .i64 s.cap, .slice F lf fc, .slice N ln nc, .slice S ls sc, .int .i64 s.next], .slice A la ac] w fun e w' => ∃ v, e = .returned (.tuple #[v, .int .i64 (crashP s keep).2]) ∧ Rs w' w.heap.size v (crashP s keep).1 ∧ Below w.heap.size w w' := by
  have HH := Aside0.mk h
  have HS := Aside0.mk hs
  have HR := Aside0.mk hr
  have HKI := Aside0.mk hki
  have LF := Aside0.mk hlf
  have LN := Aside0.mk hln
  have LS := Aside0.mk hls
  have LA : Aside0 (keep.length = la) := ⟨hr.1⟩
  have hlf1 : lf ≤ 1048576 := by rw [← hlf]; exact hs.lf
  have hln1 : ln ≤ 1048576 := by rw [← hln]; exact hs.ln
  have hls1 : ls ≤ 1048576 := by rw [← hls]; exact hs.ls
  obtain ⟨dp, hdp⟩ := named (crashP s keep)
  rw [← hdp.out]
  clear h hs hr hki hlf hln hls
  go_enter Try.func32, Try.ntmps32
  go_upto_region 1 with (fail)
  obtain ⟨W, hW⟩ : ∃ W, W = (w.alloc (.cells #[.int .i64 s.cap, .slice F lf fc, .slice N ln nc, .slice S ls sc, .int .i64 s.next] 25)).alloc (.cells #[.int .i64 0, .slice none 0 0, .slice none 0 0, .slice none 0 0, .int .i64 0] 25) := ⟨_, rfl⟩
  have hk2 : W.heap[w.heap.size]? = some (.cells #[.int .i64 s.cap, .slice F lf fc, .slice N ln nc, .slice S ls sc, .int .i64 s.next] 25 (0, 0)) := by rw [hW]; exact blk_alloc (blk_new _ _) _
  have hk4 : W.heap[w.heap.size + 1]? = some (.cells #[.int .i64 0, .slice none 0 0, .slice none 0 0, .slice none 0 0, .int .i64 0] 25 (0, 0)) := by rw [hW]; exact blk_new1 _ _ _ _
  have HB : Aside0 (Below w.heap.size w W) := ⟨by rw [hW]; exact below_alloc (below_alloc (Below.refl _ _) _) _⟩
  have HZ : Aside0 (W.heap.size = w.heap.size + 2) := ⟨by rw [hW]; simp⟩
  rw [← hW]
  clear hW
  have HJ := Aside0.mk hk2
  have HK := Aside0.mk hk4
  obtain ⟨x0, x1, x2, x3, x4, _, _, _, _, _⟩ := all5 hk2
  clear hk2 hk4
  go_wp2_with fail
  refine (check_any s F N S lf fc ln nc ls sc W (HH.out.below HB.out) HS.out LF.out LN.out LS.out).mono ?_
  obtain ⟨E, hE⟩ := named (stE s)
  rw [← hE.out]
  rintro e w1 ⟨rfl, hb1⟩
  have HB1 := Aside0.mk hb1
  have HBw1 := Aside0.mk (bthen HB.out hb1)
  have HK1 := Aside0.mk (blk_keep HK.out hb1)
  have HJ1 := Aside0.mk (blk_keep HJ.out hb1)
  clear hb1 x0 x1 x2 x3 x4
  cases hst : stB s with
  | false =>
    obtain rfl : E = 9 := by rw [hE.out, stE, hst]; rfl
    have HDP : Aside0 (dp = (zSt, 9)) := ⟨by rw [hdp.out, crashP, if_pos hst]⟩
    obtain ⟨z0, z1, z2, z3, z4, f0, f1, f2, f3, f4⟩ := all5 HK1.out
    clear hst
    go_wp2
    refine bodyPost_ret (results_ct rfl _ _ (w.heap.size + 1) 25 #[.int .i64 0, .slice none 0 0, .slice none 0 0, .slice none 0 0, .int .i64 0] (0, 0) _ rfl (blk5 HK1.out) Try.underlying25 rfl (by kernel_rfl)) rfl ?_
    exact ⟨.agg #[.int .i64 0, .slice none 0 0, .slice none 0 0, .slice none 0 0, .int .i64 0], by rw [HDP.out]; rfl, by rw [HDP.out]; exact Rs_zero _ _, below_set5 HBw1.out (by omega) _ _ _ _ _⟩
  | true =>
    obtain rfl : E = 0 := by rw [hE.out, stE, hst]; rfl
    have HGD : Aside0 (Good s) := ⟨stB_iff.1 hst⟩
    have HDP : Aside0 (dp = (sweepP { s with files := cutAt keep 0 s.files, names := s.safe }, 0)) := ⟨by rw [hdp.out, crashP, if_neg (by rw [hst]; decide)]⟩
    clear hst
    obtain ⟨x0, x1, x2, x3, x4, _, _, _, _, _⟩ := all5 HJ1.out
    go_wp2_with fail
    refine (own_any s F N S lf fc ln nc ls sc w1 (HH.out.below HBw1.out) HS.out LF.out LN.out LS.out).mono ?_
    rintro e w2 ⟨v2, rfl, hv2, hb2⟩
    obtain ⟨n2, F2, lf2, fc2, N2, ln2, nc2, S2, ls2, sc2, m2, rfl⟩ := show_J hv2
    have HV2 := Aside0.mk (hv2.lower HB1.out.size)
    have HB2 := Aside0.mk (bthen HB1.out hb2)
    clear hv2 hb2 x0 x1 x2 x3 x4
    go_upto_region 4 with (fail)
    obtain ⟨w3, hw3⟩ : ∃ w3, w3 = w2.alloc (.cells #[.int .i64 n2, .slice F2 lf2 fc2, .slice N2 ln2 nc2, .slice S2 ls2 sc2, .int .i64 m2] 25) := ⟨_, rfl⟩
    obtain ⟨g6, hg6⟩ : ∃ g, g = w2.heap.size := ⟨_, rfl⟩
    obtain ⟨L, hL⟩ := HV2.out.own_J
    have HO : Aside0 (Own w3 W.heap.size g6 s (.slice F2 lf2 fc2) (.slice N2 ln2 nc2) (.slice S2 ls2 sc2) L) := ⟨by rw [hw3, hg6]; exact hL⟩
    have HB3 : Aside0 (Below W.heap.size W w3) := ⟨by rw [hw3]; exact below_alloc HB2.out _⟩
    have hlow : W.heap.size ≤ g6 := by rw [hg6]; exact HB2.out.size
    rw [← hw3, ← hg6]
    clear hw3 hL HV2 hg6
    obtain ⟨Fx, fcx, Nx, ncx, Sx, scx, e1, e2, e3, hhd⟩ := HO.out.forms
    rw [LF.out] at e1
    rw [LN.out] at e2
    rw [LS.out] at e3
    simp only [Value.slice.injEq] at e1 e2 e3
    obtain ⟨rfl, rfl, rfl⟩ := e1
    obtain ⟨rfl, rfl, rfl⟩ := e2
    obtain ⟨rfl, rfl, rfl⟩ := e3
    clear hhd
    go_wp2
    go_loopg [7] lf2 (fun gk v7 wr => ∃ (i : Nat) (L' : List (Fl × Value)), v7 = .int .i64 i ∧ gk + i = lf2 ∧ Aside0 (Own wr W.heap.size g6 { s with files := cutTo keep s.files i } (.slice F2 lf2 fc2) (.slice N2 ln2 nc2) (.slice S2 ls2 sc2) L') ∧ Aside0 (Below W.heap.size W wr))
    case atStart => exact ⟨0, L, rfl, by omega, ⟨by rw [cutTo_zero]; exact HO.out⟩, HB3⟩
    case round =>
      obtain ⟨i, L', rfl, hg, HOr, HBr⟩ := hrel
      have HBw := Aside0.mk (bthen HB.out HBr.out)
      obtain ⟨_, x1, _, x3, _, _, _, _, _, _⟩ := all5 HOr.out.blk
      by_cases hlt : i < lf2
      · have hlt' : (i : Int) < (lf2 : Int) := by omega
        obtain ⟨f, hf⟩ : ∃ f, s.files[i]? = some f := ⟨_, List.getElem?_eq_getElem (by have := LF.out; omega)⟩
        have hfl := HGD.out.fl.each f (List.mem_of_getElem? hf)
        have hfd := HS.out.ld f (List.mem_of_getElem? hf)
        obtain ⟨x, hx, hxf⟩ : ∃ x, L'[i]? = some x ∧ x.1 = f := by
          have h1 := cutTo_get keep s.files i f hf
          have h2 := HOr.out.fs
          change L'.map (·.1) = cutTo keep s.files i at h2
          rw [← h2, List.getElem?_map] at h1
          exact Option.map_eq_some_iff.1 h1
        have hrb := HOr.out.oF.own x (List.mem_of_getElem? hx)
        obtain ⟨D, dc, hxv, _⟩ := RB_reads hrb
        have hdl : x.1.data.length ≤ dc := by rw [hxv] at hrb; exact own_le hrb
        rw [hxf] at hxv hdl
        obtain ⟨gF, cap', hA, hbg, hcm, hrow⟩ : ∃ g cap, Value.slice F2 lf2 fc2 = .slice (some ⟨g, 0, none⟩) (L'.map rowF).length cap ∧ W.heap.size ≤ g ∧ cap ≤ 9223372036854775807 ∧ CRow 106 3 wr g cap (L'.map rowF) := by
          rcases HOr.out.oF.row with ⟨_, h2⟩ | h
          · rw [List.map_eq_nil_iff] at h2; rw [h2] at hx; simp at hx
          · exact h
        injection hA with hA1 hA2 hA3
        subst hA1 hA3
        have hrx : (L'.map rowF)[i]? = some (rowF x) := by rw [List.getElem?_map, hx]; rfl
        have d0 : wr.cell? ⟨gF, i * 3, none⟩ = some (.int .i64 f.id) := by have := hrow.cell i _ hrx 0 (by omega); rw [rowF, hxf] at this; exact this
        have d1 : wr.cell? ⟨gF, i * 3 + 1, none⟩ = some (.slice D f.data.length dc) := by have := hrow.cell i _ hrx 1 (by omega); rw [rowF, hxv] at this; exact this
        have d2 : wr.cell? ⟨gF, i * 3 + 2, none⟩ = some (.int .i64 f.sync) := by have := hrow.cell i _ hrx 2 (by omega); rw [rowF, hxf] at this; exact this
        have HROW := Aside0.mk hrow
        obtain ⟨sy, hsy⟩ : ∃ n, f.sync = n := ⟨_, rfl⟩
        obtain ⟨ld, hld⟩ : ∃ n, f.data.length = n := ⟨_, rfl⟩
        rw [hsy, hld] at hfl
        rw [hld] at d1 hfd hxv hdl
        rw [hsy] at d2
        have HF := Aside0.mk (And.intro hf (And.intro hsy hld))
        have HX := Aside0.mk (And.intro hx (And.intro hxf hxv))
        obtain ⟨kp, hkp⟩ := named (keptOf f keep[i]?)
        have hkb := keptOf_between keep[i]? (f := f) (by rw [hsy]; exact hfl.2.1) (by rw [hsy, hld]; exact hfl.2.2)
        rw [← hkp.out, hsy, hld] at hkb
        obtain ⟨kb0, kb1⟩ := hkb
        have hs0 := hfl.2.1
        have hs1 := hfl.2.2
        have HDL := Aside0.mk hdl
        have HRB := Aside0.mk hrb
        clear hf hfl hx hxf hxv hrb hA2 hrx hsy hld hrow hdl
        go_upto_region 8 with (fail)
        obtain ⟨W4, hW4⟩ : ∃ W4, W4 = wr.alloc (.cells #[.int .i64 f.id, .slice D ld dc, .int .i64 sy] 106) := ⟨_, rfl⟩
        have HK4 : Aside0 (W4.heap[wr.heap.size]? = some (.cells #[.int .i64 f.id, .slice D ld dc, .int .i64 sy] 106 (0, 0))) := ⟨by rw [hW4]; exact blk_new _ _⟩
        have HB4 : Aside0 (Below wr.heap.size wr W4) := ⟨by rw [hW4]; exact below_alloc (Below.refl _ _) _⟩
        rw [← hW4]
        clear hW4 d0 d1 d2 x1 x3
        obtain ⟨_, k1, k2, _, _, _⟩ := all3 HK4.out
        go_upto_if 33 with (fail)
        go_cut [9] (fun v9 wc => v9 = .int .i64 kp ∧ Aside0 (Below W4.heap.size W4 wc))
        case first =>
          by_cases hik : i < la
          · have hik' : (i : Int) < (la : Int) := by omega
            obtain ⟨adk, hAk, ck⟩ := (HR.out.below (bthen HBw.out HB4.out)).at_ (i : Int) (by omega) (by omega)
            subst hAk
            rw [Int.toNat_natCast] at ck
            obtain ⟨kx, hkx⟩ : ∃ n, rd keep (i : Int) = n := ⟨_, rfl⟩
            rw [hkx] at ck
            have hki : keep[i]? = some kx := by
              have h1 : i < keep.length := by have := LA.out; omega
              rw [List.getElem?_eq_getElem h1, ← hkx]
              simp [rd, List.getElem?_eq_getElem h1]
            obtain ⟨ds, hds⟩ : ∃ m, (ld : Int) - sy = m := ⟨_, rfl⟩
            obtain ⟨mn, hmn⟩ : ∃ m, (if ds < kx then ds else kx) = m := ⟨_, rfl⟩
            obtain ⟨mx, hmx⟩ : ∃ m, (if mn > (0 : Int) then mn else 0) = m := ⟨_, rfl⟩
            have hkk : sy + mx = kp := by
              rw [hkp.out, hki, keptOf, HF.out.2.1, HF.out.2.2, hds, ← hmx, ← hmn]
              have hds0 : 0 ≤ ds := by omega
              split <;> split <;> (try split) <;> (try split) <;> omega
            have e1 : ∀ ts t W, (Builtin.min_ ts t #[.int .i64 kx, .int .i64 ds]).run Try.prog W = .ok (.int .i64 mn) W := fun ts t W => by rw [Go.run_min_int2, hmn]
            have e2 : ∀ ts t W, (Builtin.max_ ts t #[.int .i64 0, .int .i64 mn]).run Try.prog W = .ok (.int .i64 mx) W := fun ts t W => by rw [Go.run_max_int2, hmx]
            have e3 : IntKind.i64.wrap ((ld : Int) - sy) = ds := by rw [hds]; exact Go.wrap_small _ (by omega) (by omega)
            have e4 : IntKind.i64.wrap (sy + mx) = kp := by rw [hkk]; exact Go.wrap_small _ (by omega) (by omega)
            clear hkx hki hmx hds hmn hkk
            go_wp2_with fail
            go_quiet (fail)
            go_wp2
            go_meet
            exact ⟨rfl, ⟨pw_below_drewN (Below.refl _ _) nq⟩⟩
          · have hik' : ¬ ((i : Int) < (la : Int)) := by omega
            have hki : keep[i]? = none := by rw [List.getElem?_eq_none_iff]; have := LA.out; omega
            have hkk : sy = kp := by rw [hkp.out, hki, ← HF.out.2.1]; rfl
            subst hkk
            go_wp2_with fail
            all_goals go_meet
            exact ⟨rfl, ⟨Below.refl _ _⟩⟩
        case rest =>
          obtain ⟨rfl, HBc⟩ := hcut
          obtain ⟨w5, hw5⟩ : ∃ w5, w5 = wc := ⟨_, rfl⟩
          rw [← hw5] at HBc ⊢
          clear hw5 k1 k2
          have HB45 := Aside0.mk (bthen HB4.out HBc.out)
          have HO5 := Aside0.mk (HOr.out.below HB45.out)
          have HB5 := Aside0.mk (bthen HBr.out HB45.out)
          have HROW5 := Aside0.mk (HROW.out.keep HB45.out)
          have hrx : (L'.map rowF)[i]? = some (rowF x) := by rw [List.getElem?_map, HX.out.1]; rfl
          have d1 : w5.cell? ⟨gF, i * 3 + 1, none⟩ = some (.slice D ld dc) := by have := HROW5.out.cell i _ hrx 1 (by omega); rw [rowF, HX.out.2.2] at this; exact this
          have d2 : w5.cell? ⟨gF, i * 3 + 2, none⟩ = some (.int .i64 sy) := by have := HROW5.out.cell i _ hrx 2 (by omega); rw [rowF, HX.out.2.1, HF.out.2.1] at this; exact this
          have fd1 := HROW5.out.froz (i * 3 + 1)
          have fd2 := HROW5.out.froz (i * 3 + 2)
          have hg6F : gF ≠ g6 := by
            obtain ⟨cs, h3, _⟩ := HROW5.out
            exact type_ne h3 HO5.out.blk (by decide)
          have hgFl : gF < wr.heap.size := HROW.out.lt
          obtain ⟨_, x1, _, _, _, _, _, _, _, _⟩ := all5 HO5.out.blk
          obtain ⟨_, k1, _, _, _, _⟩ := all3 (blk_keep HK4.out HBc.out)
          obtain ⟨i0, hi0, hz1⟩ := infoBz
          have hct := cut_to (P := Try.prog) 62 5 .i64 Try.underlying62 hi0 D ld dc kp (by omega) kb1 HDL.out
          clear hrx hi0 hz1
          go_upto_region 11 with (fail)
          have x1' : w5.drew.cell? ⟨g6, 1, none⟩ = some (.slice (some ⟨gF, 0, none⟩) lf2 fc2) := x1
          have k1' : w5.drew.cell? ⟨wr.heap.size, 1, none⟩ = some (.slice D ld dc) := k1
          go_region_held3 (fun w' => w'.cell? ⟨g6, 1, none⟩ = some (.slice (some ⟨gF, 0, none⟩) lf2 fc2) ∧ w'.cell? ⟨wr.heap.size, 1, none⟩ = some (.slice D ld dc)) (first | with_reducible exact ⟨x1, k1⟩ | with_reducible exact ⟨x1', k1'⟩ | (refine ⟨?_, ?_⟩ <;> (repeat (first | with_reducible exact x1 | with_reducible exact k1 | with_reducible exact x1' | with_reducible exact k1' | with_reducible apply drew_cell5 | with_reducible apply far_cell | (dsimp only; omega))))) (fail)
          all_goals go_wp2
          all_goals go_roundg (lf2 - (i + 1))
          all_goals first
            | (guard_target =~ (_ : Nat) < _; omega)
            | skip
          all_goals
            have hrb5 : RB w5 W.heap.size (.slice D ld dc) f.data := by
              have h1 := RB_below HRB.out HB45.out
              rw [HX.out.2.1, HX.out.2.2] at h1
              exact h1
            have hbl : (Value.slice D kp.toNat dc).ownBlock = x.2.ownBlock := by rw [HX.out.2.2]; exact own_cut D _ _ dc
            have h1 := HO5.out.setData (v' := .slice D kp.toNat dc) (d' := f.data.take kp.toNat) HX.out.1 (grown_refl w5 _) (RB_take hrb5 HF.out.2.2 (by omega)) (.inl hbl)
            have h2 := h1.setSync kp (List.getElem?_set_self (List.getElem?_eq_some_iff.1 HX.out.1).1)
            have h3 : ((cutTo keep s.files i).set i { x.1 with data := f.data.take kp.toNat }).set i { id := x.1.id, data := f.data.take kp.toNat, sync := kp } = cutTo keep s.files (i + 1) := by
              rw [List.set_set, cutTo_succ keep s.files i f HF.out.1, HX.out.2.1, hkp.out]; rfl
            obtain ⟨L4, h4⟩ : ∃ L4, Own ((w5.setCell ⟨gF, i * 3 + 1, none⟩ (.slice D kp.toNat dc)).setCell ⟨gF, i * 3 + 2, none⟩ (.int .i64 kp)) W.heap.size g6 { s with files := cutTo keep s.files (i + 1) } (.slice (some ⟨gF, 0, none⟩) lf2 fc2) (.slice N2 ln2 nc2) (.slice S2 ls2 sc2) L4 := ⟨_, by rw [← h3]; exact h2⟩
            exact ⟨i + 1, _, by go_num, by omega, ⟨h4.below (below_drew (Below.refl _ _))⟩, ⟨below_drew ((HB5.out.setCell hbg _).setCell hbg _)⟩⟩
      · have hie : cutTo keep s.files i = cutAt keep 0 s.files := cutTo_all keep s.files i (by have := LF.out; omega)
        have hnf : ¬ ((i : Int) < (lf2 : Int)) := by omega
        rw [hie] at HOr
        have hSr : kNm.C wr S2 ls2 s.safe := by
          obtain ⟨A9, c9, e9, _, hC9⟩ := Kd.R_reads HOr.out.rS
          injection e9 with e1 e2 e3
          subst e1
          have h4 : s.safe.length = ls2 := LS.out
          rw [h4] at hC9
          exact hC9
        have CO := Aside0.mk (ownNames_any S2 ls2 sc2 s.safe wr hSr hls1)
        clear hie hSr
        go_wp2_with fail
        refine CO.out.mono ?_
        rintro e w4 ⟨v4, rfl, hv4, hb4⟩
        obtain ⟨A4, c4, rfl, _⟩ := Kd.R_reads hv4
        have HV4 := Aside0.mk (Kd.R_lower hv4 HBr.out.size)
        have HB4 := Aside0.mk (bthen HBr.out hb4)
        have HO4 := Aside0.mk (HOr.out.below hb4)
        obtain ⟨y0, y1, y2, y3, y4, _, _, f2, _, _⟩ := all5 HO4.out.blk
        clear hv4 hb4 x1 x3 CO
        go_upto_region 13 with (fail)
        obtain ⟨wx, hwx⟩ : ∃ wx, wx = w4.setCell ⟨g6, 2, none⟩ (.slice A4 s.safe.length c4) := ⟨_, rfl⟩
        have HX : Aside0 (Own wx W.heap.size g6 { s with files := cutAt keep 0 s.files, names := s.safe } (.slice F2 lf2 fc2) (.slice A4 s.safe.length c4) (.slice S2 ls2 sc2) L') := ⟨by rw [hwx]; exact HO4.out.putNames HV4.out⟩
        have HBX : Aside0 (Below W.heap.size W wx) := ⟨by rw [hwx]; exact HB4.out.setCell hlow _⟩
        have HSZ : Aside0 ((cutAt keep 0 s.files).length ≤ 1048576 ∧ s.safe.length ≤ 1048576) := ⟨⟨by rw [cutAt_len, LF.out]; exact hlf1, by rw [LS.out]; exact hls1⟩⟩
        rw [← hwx]
        clear hwx y0 y1 y2 y3 y4 f2
        obtain ⟨y0, y1, y2, y3, y4, _, _, _, _, _⟩ := all5 HX.out.blk
        have hbx := HBX.out.size
        go_wp2_with fail
        refine (swept_any { s with files := cutAt keep 0 s.files, names := s.safe } _ W.heap.size wx HX.out.rs hbx HSZ.out.1 HSZ.out.2 HSZ.out.2).mono ?_
        obtain ⟨sw, hsw⟩ := named (sweepP { s with files := cutAt keep 0 s.files, names := s.safe })
        rw [← hsw.out]
        rintro e wy ⟨vy, rfl, hvy, hby⟩
        obtain ⟨n9, F9, lf9, fc9, N9, ln9, nc9, S9, ls9, sc9, m9, rfl⟩ := show_J hvy
        have HV := Aside0.mk hvy
        have HKy := Aside0.mk (blk_keep (blk_keep HK.out HBX.out) hby)
        have HBy := Aside0.mk (bthen HB.out (bthen HBX.out hby))
        have HDP2 : Aside0 (dp = (sw, 0)) := ⟨by rw [HDP.out, hsw.out]⟩
        obtain ⟨z0, z1, z2, z3, z4, f0, f1, f2, f3, f4⟩ := all5 HKy.out
        clear hvy hby y0 y1 y2 y3 y4
        go_wp2
        refine bodyPost_ret (results_ct rfl _ _ (w.heap.size + 1) 25 #[.int .i64 n9, .slice F9 lf9 fc9, .slice N9 ln9 nc9, .slice S9 ls9 sc9, .int .i64 m9] (0, 0) _ rfl (blk5 HKy.out) Try.underlying25 rfl (by kernel_rfl)) rfl ?_
        exact ⟨.agg #[.int .i64 n9, .slice F9 lf9 fc9, .slice N9 ln9 nc9, .slice S9 ls9 sc9, .int .i64 m9], by rw [HDP2.out]; rfl, by rw [HDP2.out]; exact (HV.out.far5 HKy.out _ _ _ _ _).lower (by have := HZ.out; omega), below_set5 HBy.out (by omega) _ _ _ _ _⟩
end Go.Proofs.Ytfakfgblaakgdaa.Files.Ref

/- SameStrings; List of a state that is there: walked. -/
namespace Go.Proofs.Ytfakfgblaakgdaa.Files
set_option linter.unusedVariables false
set_option linter.unusedSimpArgs false
open Go.RowKit Go.Proofs.YtfakfgblaakgdaaW.PrintWords Go.Proofs.YtfakfgblaakgdaaW.PrintLast Go.Proofs.Ytfakfgblaakgdaa.Base Go.Proofs.Ytfakfgblaakgdaa.Cells Go.Proofs.Ytfakfgblaakgdaa.Ints Go.Proofs.Ytfakfgblaakgdaa.Var Go.Proofs.Ytfakfgblaakgdaa.EditPure Go.Proofs.Ytfakfgblaakgdaa.Edit Go.Proofs.Ytfakfgblaakgdaa.Sets Go.Proofs.Ytfakfgblaakgdaa.Wide Go.Proofs.Ytfakfgblaakgdaa.RowsC Go.Proofs.Ytfakfgblaakgdaa.StrRows

theorem list_at {s : St} {v : Value} {w : World} (h : At w v s) (hs : Small s) (hw : Wf s) :
    Calls Try.prog 14 #[v] w fun e w' => ∃ v', e = .returned (.tuple #[v', .int .i64 (stE s)]) ∧ RS w' w.heap.size v' (listL s) ∧ Below w.heap.size w w' := by
  obtain ⟨F, fc, N, nc, S, sc, rfl, h2⟩ := h
  exact list_any s F N S fc nc sc w h2 hs hw

set_option maxRecDepth 100000 in
set_option maxHeartbeats 1000000 in
/-- the same texts -/
theorem sameStr_any (A B : Option Addr) (n c d : Nat) (l : List ByteArray) (w : World) (hA : Kd.string.C w A n l) (hB : Kd.string.C w B n l) (hb : n ≤ 1048576) :
    Calls Try.prog 35 #[.slice A n c, .slice B n d] w fun e w' => e = .returned (.bool true) ∧ Below w.heap.size w w' := by
  have HA := Aside0.mk hA
  have HB := Aside0.mk hB
  have HL : Aside0 (l.length = n) := ⟨Kd.C_len hA⟩
  clear hA hB
  go_enter Try.func35, Try.ntmps35
  go_wp2
  go_loopg [5] n (fun g v5 wr => ∃ i : Nat, v5 = .int .i64 i ∧ g + i = n ∧ Aside0 (Below w.heap.size w wr))
  case atStart => exact ⟨0, rfl, by omega, ⟨Below.refl _ _⟩⟩
  case round =>
    obtain ⟨i, rfl, hg, HW⟩ := hrel
    by_cases hlt : i < n
    · have hlt' : (i : Int) < (n : Int) := by omega
      obtain ⟨m, hm⟩ : ∃ m, l[i]? = some m := ⟨_, List.getElem?_eq_getElem (by rw [HL.out]; exact hlt)⟩
      obtain ⟨ad, rfl, a0⟩ := atS (Kd.C_below HA.out HW.out) i m hm
      obtain ⟨bd, rfl, b0⟩ := atS (Kd.C_below HB.out HW.out) i m hm
      rw [Nat.mul_one] at a0 b0
      clear hm
      go_wp2_with fail
      go_quiet (fail)
      go_wp2
      go_roundg (n - (i + 1))
      case measure => omega
      case rel => exact ⟨i + 1, by go_num, by omega, ⟨pw_below_drewN HW.out nq⟩⟩
    · go_wp2
      go_ret
      exact ⟨rfl, HW.out⟩
end Go.Proofs.Ytfakfgblaakgdaa.Files

/- FilesTells: the law's function walked: it returns true. (Printed by wip/gen_tells.py.) -/
namespace Go.Proofs.Ytfakfgblaakgdaa.Files
set_option linter.unusedVariables false
set_option linter.unusedSimpArgs false
open Go.RowKit Go.Proofs.YtfakfgblaakgdaaW.PrintWords Go.Proofs.YtfakfgblaakgdaaW.PrintLast Go.Proofs.Ytfakfgblaakgdaa.Base Go.Proofs.Ytfakfgblaakgdaa.Cells Go.Proofs.Ytfakfgblaakgdaa.Ints Go.Proofs.Ytfakfgblaakgdaa.Var Go.Proofs.Ytfakfgblaakgdaa.EditPure Go.Proofs.Ytfakfgblaakgdaa.Edit Go.Proofs.Ytfakfgblaakgdaa.Sets Go.Proofs.Ytfakfgblaakgdaa.Wide Go.Proofs.Ytfakfgblaakgdaa.RowsC Go.Proofs.Ytfakfgblaakgdaa.StrRows

/-- a state in a variable -/
def Bx (t : TypeId) (w : World) (g : Nat) (a b c d e : Value) (s : St) : Prop := w.heap[g]? = some (.cells #[a, b, c, d, e] t (0, 0)) ∧ At w (.agg #[a, b, c, d, e]) s
theorem Bx.below {t : TypeId} {w w1 : World} {g : Nat} {a b c d e : Value} {s : St} (h : Bx t w g a b c d e s) (hb : Below w.heap.size w w1) : Bx t w1 g a b c d e s := ⟨blk_keep h.1 hb, h.2.below hb⟩
theorem Bx.new {t : TypeId} {w : World} {a b c d e : Value} {s : St} (h : At w (.agg #[a, b, c, d, e]) s) : Bx t (w.alloc (.cells #[a, b, c, d, e] t)) w.heap.size a b c d e s := ⟨blk_new _ _, h.below (below_alloc (Below.refl _ _) _)⟩
/-- an act in a variable -/
def Ax (w : World) (g : Nat) (wh : Int) (nm de : ByteArray) (D : Option Addr) (n c : Nat) (l : List Int) : Prop := w.heap[g]? = some (.cells #[.int .i64 wh, .string nm, .string de, .slice D n c] 64 (0, 0)) ∧ ReadsInt w .u8 D n l
theorem Ax.below {w w1 : World} {g : Nat} {wh : Int} {nm de : ByteArray} {D : Option Addr} {n c : Nat} {l : List Int} (h : Ax w g wh nm de D n c l) (hb : Below w.heap.size w w1) : Ax w1 g wh nm de D n c l := ⟨blk_keep h.1 hb, h.2.below hb⟩
theorem smallz : Small zSt := ⟨by decide, by decide, by decide, fun f hf => by simp [zSt] at hf⟩
theorem DoP_small (s : St) (a : Ac) (hu : usedF s.files + a.data.length ≤ 1048576) : Small (DoP s a).2 := by
  cases hst : stB s with
  | false => rw [DoP, if_pos hst]; exact smallz
  | true =>
    have hg := stB_iff.1 hst
    rw [DoP, if_neg (by rw [hst]; decide)]
    by_cases h0 : (doP s a).1 = 0
    · rw [if_pos h0]
      obtain ⟨g1, g2⟩ := doP_good hg a h0
      exact g1.small (by omega)
    · rw [if_neg h0]; exact smallz
theorem crashP_small (s : St) (keep : List Int) (hu : usedF s.files ≤ 1048576) : Small (crashP s keep).1 := by
  cases hst : stB s with
  | false => rw [crashP, if_pos hst]; exact smallz
  | true =>
    obtain ⟨_, g1, _, _, g2⟩ := crashP_good (stB_iff.1 hst) keep
    exact g1.small (by omega)
theorem rcrash_at {s : St} {v : Value} {w : World} {keep : List Int} {A : Option Addr} {n ac : Nat} (h : At w v s) (hs : Small s) (hr : ReadsInt w .i64 A n keep) (hkl : n ≤ 1048576) (hki : ∀ x ∈ keep, inI64 x) :
    Calls Try.prog 32 #[v, .slice A n ac] w fun e w' => ∃ v', e = .returned (.tuple #[v', .int .i64 (crashP s keep).2]) ∧ At w' v' (crashP s keep).1 ∧ Below w.heap.size w w' := by
  obtain ⟨F, fc, N, nc, S, sc, rfl, h2⟩ := h
  exact (Ref.crash_any s keep F N S A _ fc _ nc _ sc n ac w h2 hs rfl rfl rfl hr hkl hki).mono fun e w' ⟨v', h1, h3, h4⟩ => ⟨v', h1, h3.forms, h4⟩
theorem rread_at {s : St} {v : Value} {w : World} (q : ByteArray) (h : At w v s) (hs : Small s) :
    Calls Try.prog 33 #[v, .string q] w fun e w' => ∃ v', e = .returned (.tuple #[v', .int .i64 (readP s q).2]) ∧ RB w' w.heap.size v' (readP s q).1 ∧ Below w.heap.size w w' := by
  obtain ⟨F, fc, N, nc, S, sc, rfl, h2⟩ := h
  exact Ref.read_any s q F N S _ fc _ nc _ sc w h2 hs rfl rfl rfl
theorem rlist_at {s : St} {v : Value} {w : World} (h : At w v s) (hs : Small s) :
    Calls Try.prog 34 #[v] w fun e w' => ∃ v', e = .returned (.tuple #[v', .int .i64 (stE s)]) ∧ RS w' w.heap.size v' (listL s) ∧ Below w.heap.size w w' := by
  obtain ⟨F, fc, N, nc, S, sc, rfl, h2⟩ := h
  exact Ref.list_any s F N S _ fc _ nc _ sc w h2 hs rfl rfl rfl

set_option maxRecDepth 100000 in
set_option maxHeartbeats 16000000 in
theorem tells_walk (s : St) (a : Ac) (keep : List Int) (q : ByteArray) (F N S D K : Option Addr) (fc nc sc dc kc : Nat) (w : World) (h : Hd w s F fc N nc S sc) (hs : Small s) (hw : Wf s) (hr : ReadsInt w .u8 D a.data.length a.data) (hu : usedF s.files + a.data.length ≤ 1048576)
    (hk : ReadsInt w .i64 K keep.length keep) (hkl : keep.length ≤ 1048576) (hki : ∀ x ∈ keep, inI64 x) :
    Calls Try.prog 8 #[.agg #[.int .i64 s.cap, .slice F s.files.length fc, .slice N s.names.length nc, .slice S s.safe.length sc, .int .i64 s.next], acV a D dc, .slice K keep.length kc, .string q] w fun e w' => e = .returned (.bool true) ∧ Below w.heap.size w w' := by
  have HA := Aside0.mk h.at_
  have HS := Aside0.mk hs
  have HW := Aside0.mk hw
  have HR := Aside0.mk hr
  have HK := Aside0.mk hk
  have HKI := Aside0.mk hki
  have HU := Aside0.mk hu
  obtain ⟨lk, hlk⟩ : ∃ n, keep.length = n := ⟨_, rfl⟩
  obtain ⟨ld, hld⟩ : ∃ n, a.data.length = n := ⟨_, rfl⟩
  obtain ⟨wh, hwh⟩ : ∃ n, a.what = n := ⟨_, rfl⟩
  have LD := Aside0.mk hld
  have WH := Aside0.mk hwh
  have CA : Aside0 (acV a D dc = .agg #[.int .i64 wh, .string a.name, .string a.dest, .slice D ld dc]) := ⟨by rw [acV, hwh, hld]⟩
  rw [hlk] at HK hkl ⊢
  rw [hld] at HR
  rw [CA.out]
  have hda : ld ≤ 1048576 := by have := usedF_nonneg s.files; omega
  obtain ⟨n0, F0, lf0, fc0, N0, ln0, nc0, S0, ls0, sc0, m0, hv0⟩ := HA.out.show_
  rw [hv0] at HA ⊢
  clear h hs hw hr hk hki hu hlk hld hwh hv0
  go_enter Try.func8, Try.ntmps8
  go_upto_region 1 with (fail)
  obtain ⟨c0, hc0⟩ : ∃ W, W = (w.alloc (.cells #[.int .i64 n0, .slice F0 lf0 fc0, .slice N0 ln0 nc0, .slice S0 ls0 sc0, .int .i64 m0] 25)).alloc (.cells #[.int .i64 wh, .string a.name, .string a.dest, .slice D ld dc] 64) := ⟨_, rfl⟩
  have HB0 : Aside0 (Below w.heap.size w c0) := ⟨by rw [hc0]; exact below_alloc (below_alloc (Below.refl _ _) _) _⟩
  have HJ0 : Aside0 (Bx 25 c0 w.heap.size (.int .i64 n0) (.slice F0 lf0 fc0) (.slice N0 ln0 nc0) (.slice S0 ls0 sc0) (.int .i64 m0) s) := ⟨by rw [hc0]; exact ⟨blk_alloc (blk_new _ _) _, HA.out.below (below_alloc (below_alloc (Below.refl _ _) _) _)⟩⟩
  have HT0 : Aside0 (Ax c0 (w.heap.size + 1) wh a.name a.dest D ld dc a.data) := ⟨by rw [hc0]; exact ⟨blk_new1 _ _ _ _, HR.out.below (below_alloc (below_alloc (Below.refl _ _) _) _)⟩⟩
  have HK0 : Aside0 (ReadsInt c0 .i64 K lk keep) := ⟨HK.out.below HB0.out⟩
  rw [← hc0]
  clear hc0
  obtain ⟨x0, x1, x2, x3, x4, _, _, _, _, _⟩ := all5 HJ0.out.1
  go_wp2_with fail
  refine (of_at HJ0.out.2 HS.out).mono ?_
  rintro e v1 ⟨y1, rfl, hy1, hb1⟩
  obtain ⟨n1, F1, lf1, fc1, N1, ln1, nc1, S1, ls1, sc1, m1, rfl⟩ := At.show_ hy1
  have HY1 := Aside0.mk hy1
  have HC1 := Aside0.mk hb1
  clear hy1 hb1 x0 x1 x2 x3 x4
  go_upto_region 2 with (fail)
  obtain ⟨c1, hc1⟩ : ∃ W, W = v1.alloc (.cells #[.int .i64 n1, .slice F1 lf1 fc1, .slice N1 ln1 nc1, .slice S1 ls1 sc1, .int .i64 m1] 33) := ⟨_, rfl⟩
  obtain ⟨g1, hg1⟩ : ∃ g, g = v1.heap.size := ⟨_, rfl⟩
  have HD1 : Aside0 (Below c0.heap.size c0 c1) := ⟨by rw [hc1]; exact below_alloc HC1.out _⟩
  have HJ1 := Aside0.mk (HJ0.out.below HD1.out)
  have HT1 := Aside0.mk (HT0.out.below HD1.out)
  have HK1 := Aside0.mk (HK0.out.below HD1.out)
  have HB1 := Aside0.mk (bthen HB0.out HD1.out)
  have HX1 : Aside0 (Bx 33 c1 g1 (.int .i64 n1) (.slice F1 lf1 fc1) (.slice N1 ln1 nc1) (.slice S1 ls1 sc1) (.int .i64 m1) s) := ⟨by rw [hc1, hg1]; exact Bx.new HY1.out⟩
  rw [← hc1, ← hg1]
  clear hc1 hg1
  obtain ⟨t0, t1, t2, t3, _, _, _, _⟩ := all4 HT1.out.1
  go_upto_region 3 with (fail)
  obtain ⟨v2, hv2⟩ : ∃ W, W = c1.alloc (.cells #[.int .i64 wh, .string a.name, .string a.dest, .slice D ld dc] 64) := ⟨_, rfl⟩
  obtain ⟨g2, hg2⟩ : ∃ g, g = c1.heap.size := ⟨_, rfl⟩
  have hk2 : v2.heap[g2]? = some (.cells #[.int .i64 wh, .string a.name, .string a.dest, .slice D ld dc] 64 (0, 0)) := by rw [hv2, hg2]; exact blk_new _ _
  have HV2 : Aside0 (Below c1.heap.size c1 v2) := ⟨by rw [hv2]; exact below_alloc (Below.refl _ _) _⟩
  have hgl : c1.heap.size ≤ g2 := by omega
  rw [← hv2, ← hg2]
  clear hv2 hg2 t0 t1 t2 t3
  have HKg := Aside0.mk hk2
  obtain ⟨_, _, _, t3, _, _, _, _⟩ := all4 (HT1.out.below HV2.out).1
  clear hk2
  go_wp2_with fail
  have hcb := copyBytes_any D dc a.data v2 (by rw [LD.out]; exact (HT1.out.below HV2.out).2) (by rw [LD.out]; exact hda)
  rw [LD.out] at hcb
  refine hcb.mono ?_
  rintro e v3 ⟨y3, rfl, hy3, hb3⟩
  obtain ⟨D3, d3, rfl, hr3⟩ := RB_reads hy3
  rw [LD.out] at hr3 hy3 ⊢
  have hk3 := blk_keep HKg.out hb3
  obtain ⟨_, _, _, p3, _, _, _, q3⟩ := all4 hk3
  have HY3 := Aside0.mk (And.intro hk3 (And.intro hr3 (bthen HV2.out hb3)))
  have HO3 := Aside0.mk hy3
  clear hcb hy3 hb3 hr3 hk3 t3
  go_upto_region 4 with (fail)
  obtain ⟨c3, hc3⟩ : ∃ W, W = v3.setCell ⟨g2, 3, none⟩ (.slice D3 ld d3) := ⟨_, rfl⟩
  have HD3 : Aside0 (Below c1.heap.size c1 c3) := ⟨by rw [hc3]; exact HY3.out.2.2.setCell hgl _⟩
  have HOx : Aside0 (Ax c3 g2 wh a.name a.dest D3 ld d3 a.data) := ⟨by
    rw [hc3]
    refine ⟨blk_put HY3.out.1 3 _ rfl, ?_⟩
    have h9 := RB_set HO3.out HY3.out.1 (by decide : 5 ≠ 64) (o := 3) (u := .slice D3 ld d3)
    obtain ⟨A9, c9, e9, hr9⟩ := RB_reads h9
    injection e9 with e1 e2 e3
    subst e1
    rw [LD.out] at hr9
    exact hr9⟩
  rw [← hc3]
  clear hc3 p3 q3
  have HJ3 := Aside0.mk (HJ1.out.below HD3.out)
  have HT3 := Aside0.mk (HT1.out.below HD3.out)
  have HK3 := Aside0.mk (HK1.out.below HD3.out)
  have HX3 := Aside0.mk (HX1.out.below HD3.out)
  have HB3 := Aside0.mk (bthen HB1.out HD3.out)
  have HO3 := HOx
  obtain ⟨dp, hdp⟩ := named (DoP s a)
  obtain ⟨de, hde⟩ := named dp.1
  obtain ⟨x0, x1, x2, x3, x4, _, _, _, _, _⟩ := all5 HX3.out.1
  obtain ⟨t0, t1, t2, t3, _, _, _, _⟩ := all4 HO3.out.1
  go_wp2_with fail
  refine (do_at (a := a) HX3.out.2 HS.out HW.out HO3.out.2 hda WH.out.symm rfl rfl).mono ?_
  rw [← hdp.out, ← hde.out]
  rintro e v4 ⟨y4, rfl, hy4, hb4⟩
  obtain ⟨n4, F4, lf4, fc4, N4, ln4, nc4, S4, ls4, sc4, m4, rfl⟩ := Rs.show_ hy4
  have HY4 := Aside0.mk hy4.forms
  have HC4 := Aside0.mk hb4
  clear hy4 hb4 x0 x1 x2 x3 x4 t0 t1 t2 t3
  go_upto_region 5 with (fail)
  obtain ⟨c4, hc4⟩ : ∃ W, W = v4.alloc (.cells #[.int .i64 n4, .slice F4 lf4 fc4, .slice N4 ln4 nc4, .slice S4 ls4 sc4, .int .i64 m4] 33) := ⟨_, rfl⟩
  obtain ⟨g4, hg4⟩ : ∃ g, g = v4.heap.size := ⟨_, rfl⟩
  have HD4 : Aside0 (Below c3.heap.size c3 c4) := ⟨by rw [hc4]; exact below_alloc HC4.out _⟩
  have HJ4 := Aside0.mk (HJ3.out.below HD4.out)
  have HT4 := Aside0.mk (HT3.out.below HD4.out)
  have HK4 := Aside0.mk (HK3.out.below HD4.out)
  have HX4 := Aside0.mk (HX3.out.below HD4.out)
  have HO4 := Aside0.mk (HO3.out.below HD4.out)
  have HB4 := Aside0.mk (bthen HB3.out HD4.out)
  have HP4 : Aside0 (Bx 33 c4 g4 (.int .i64 n4) (.slice F4 lf4 fc4) (.slice N4 ln4 nc4) (.slice S4 ls4 sc4) (.int .i64 m4) dp.2) := ⟨by rw [hc4, hg4]; exact Bx.new HY4.out⟩
  rw [← hc4, ← hg4]
  clear hc4 hg4
  obtain ⟨x0, x1, x2, x3, x4, _, _, _, _, _⟩ := all5 HJ4.out.1
  obtain ⟨t0, t1, t2, t3, _, _, _, _⟩ := all4 HT4.out.1
  go_wp2_with fail
  refine (Ref.do_at (a := a) HJ4.out.2 HS.out HT4.out.2 hda WH.out.symm rfl rfl).mono ?_
  rw [← hdp.out, ← hde.out]
  rintro e v5 ⟨y5, rfl, hy5, hb5⟩
  obtain ⟨n5, F5, lf5, fc5, N5, ln5, nc5, S5, ls5, sc5, m5, rfl⟩ := Ref.show_ hy5
  have HY5 := Aside0.mk hy5.forms
  have HC5 := Aside0.mk hb5
  clear hy5 hb5 x0 x1 x2 x3 x4 t0 t1 t2 t3
  go_upto_region 6 with (fail)
  obtain ⟨c5, hc5⟩ : ∃ W, W = v5.alloc (.cells #[.int .i64 n5, .slice F5 lf5 fc5, .slice N5 ln5 nc5, .slice S5 ls5 sc5, .int .i64 m5] 25) := ⟨_, rfl⟩
  obtain ⟨g5, hg5⟩ : ∃ g, g = v5.heap.size := ⟨_, rfl⟩
  have HD5 : Aside0 (Below c4.heap.size c4 c5) := ⟨by rw [hc5]; exact below_alloc HC5.out _⟩
  have HJ5 := Aside0.mk (HJ4.out.below HD5.out)
  have HT5 := Aside0.mk (HT4.out.below HD5.out)
  have HK5 := Aside0.mk (HK4.out.below HD5.out)
  have HX5 := Aside0.mk (HX4.out.below HD5.out)
  have HO5 := Aside0.mk (HO4.out.below HD5.out)
  have HP5 := Aside0.mk (HP4.out.below HD5.out)
  have HB5 := Aside0.mk (bthen HB4.out HD5.out)
  have HQ5 : Aside0 (Bx 25 c5 g5 (.int .i64 n5) (.slice F5 lf5 fc5) (.slice N5 ln5 nc5) (.slice S5 ls5 sc5) (.int .i64 m5) dp.2) := ⟨by rw [hc5, hg5]; exact Bx.new HY5.out⟩
  rw [← hc5, ← hg5]
  clear hc5 hg5
  obtain ⟨cp, hcp⟩ := named (crashP s keep)
  obtain ⟨ce, hce⟩ := named cp.2
  obtain ⟨x0, x1, x2, x3, x4, _, _, _, _, _⟩ := all5 HX5.out.1
  go_wp2_with fail
  refine (crash_at (keep := keep) HX5.out.2 HS.out HW.out HK5.out hkl HKI.out).mono ?_
  rw [← hcp.out, ← hce.out]
  rintro e v6 ⟨y6, rfl, hy6, hb6⟩
  obtain ⟨n6, F6, lf6, fc6, N6, ln6, nc6, S6, ls6, sc6, m6, rfl⟩ := Rs.show_ hy6
  have HY6 := Aside0.mk hy6.forms
  have HC6 := Aside0.mk hb6
  clear hy6 hb6 x0 x1 x2 x3 x4
  go_upto_region 7 with (fail)
  obtain ⟨c6, hc6⟩ : ∃ W, W = v6.alloc (.cells #[.int .i64 n6, .slice F6 lf6 fc6, .slice N6 ln6 nc6, .slice S6 ls6 sc6, .int .i64 m6] 33) := ⟨_, rfl⟩
  obtain ⟨g6, hg6⟩ : ∃ g, g = v6.heap.size := ⟨_, rfl⟩
  have HD6 : Aside0 (Below c5.heap.size c5 c6) := ⟨by rw [hc6]; exact below_alloc HC6.out _⟩
  have HJ6 := Aside0.mk (HJ5.out.below HD6.out)
  have HT6 := Aside0.mk (HT5.out.below HD6.out)
  have HK6 := Aside0.mk (HK5.out.below HD6.out)
  have HX6 := Aside0.mk (HX5.out.below HD6.out)
  have HO6 := Aside0.mk (HO5.out.below HD6.out)
  have HP6 := Aside0.mk (HP5.out.below HD6.out)
  have HQ6 := Aside0.mk (HQ5.out.below HD6.out)
  have HB6 := Aside0.mk (bthen HB5.out HD6.out)
  have HG6 : Aside0 (Bx 33 c6 g6 (.int .i64 n6) (.slice F6 lf6 fc6) (.slice N6 ln6 nc6) (.slice S6 ls6 sc6) (.int .i64 m6) cp.1) := ⟨by rw [hc6, hg6]; exact Bx.new HY6.out⟩
  rw [← hc6, ← hg6]
  clear hc6 hg6
  obtain ⟨x0, x1, x2, x3, x4, _, _, _, _, _⟩ := all5 HJ6.out.1
  go_wp2_with fail
  refine (rcrash_at (keep := keep) HJ6.out.2 HS.out HK6.out hkl HKI.out).mono ?_
  rw [← hcp.out, ← hce.out]
  rintro e v7 ⟨y7, rfl, hy7, hb7⟩
  obtain ⟨n7, F7, lf7, fc7, N7, ln7, nc7, S7, ls7, sc7, m7, rfl⟩ := At.show_ hy7
  have HY7 := Aside0.mk hy7
  have HC7 := Aside0.mk hb7
  clear hy7 hb7 x0 x1 x2 x3 x4
  go_upto_region 8 with (fail)
  obtain ⟨c7, hc7⟩ : ∃ W, W = v7.alloc (.cells #[.int .i64 n7, .slice F7 lf7 fc7, .slice N7 ln7 nc7, .slice S7 ls7 sc7, .int .i64 m7] 25) := ⟨_, rfl⟩
  obtain ⟨g7, hg7⟩ : ∃ g, g = v7.heap.size := ⟨_, rfl⟩
  have HD7 : Aside0 (Below c6.heap.size c6 c7) := ⟨by rw [hc7]; exact below_alloc HC7.out _⟩
  have HJ7 := Aside0.mk (HJ6.out.below HD7.out)
  have HT7 := Aside0.mk (HT6.out.below HD7.out)
  have HK7 := Aside0.mk (HK6.out.below HD7.out)
  have HX7 := Aside0.mk (HX6.out.below HD7.out)
  have HO7 := Aside0.mk (HO6.out.below HD7.out)
  have HP7 := Aside0.mk (HP6.out.below HD7.out)
  have HQ7 := Aside0.mk (HQ6.out.below HD7.out)
  have HG7 := Aside0.mk (HG6.out.below HD7.out)
  have HB7 := Aside0.mk (bthen HB6.out HD7.out)
  have HH7 : Aside0 (Bx 25 c7 g7 (.int .i64 n7) (.slice F7 lf7 fc7) (.slice N7 ln7 nc7) (.slice S7 ls7 sc7) (.int .i64 m7) cp.1) := ⟨by rw [hc7, hg7]; exact Bx.new HY7.out⟩
  rw [← hc7, ← hg7]
  clear hc7 hg7
  obtain ⟨rp, hrp⟩ := named (readP s q)
  obtain ⟨re, hre⟩ := named rp.2
  obtain ⟨rl, hrl⟩ : ∃ n, rp.1.length = n := ⟨_, rfl⟩
  have RL := Aside0.mk hrl
  obtain ⟨E, hE⟩ := named (stE s)
  obtain ⟨ll, hll⟩ : ∃ n, (listL s).length = n := ⟨_, rfl⟩
  have LL := Aside0.mk hll
  have hll2 : ll ≤ 1048576 := by
    rw [← hll, listL]
    split
    · rw [nmsL, List.length_map]; exact HS.out.ln
    · simp
  clear hrl hll
  obtain ⟨x0, x1, x2, x3, x4, _, _, _, _, _⟩ := all5 HX7.out.1
  go_wp2_with fail
  refine (read_at q HX7.out.2 HS.out HW.out).mono ?_
  rw [← hrp.out, ← hre.out]
  rintro e c8 ⟨y8, rfl, hy8, hb8⟩
  obtain ⟨A8, k8, rfl, hr8⟩ := RB_reads hy8
  rw [RL.out] at hr8 ⊢
  have HU18 := Aside0.mk hr8
  have HD8 := Aside0.mk hb8
  clear hy8 hr8 hb8 x0 x1 x2 x3 x4
  have HJ8 := Aside0.mk (HJ7.out.below HD8.out)
  have HT8 := Aside0.mk (HT7.out.below HD8.out)
  have HK8 := Aside0.mk (HK7.out.below HD8.out)
  have HX8 := Aside0.mk (HX7.out.below HD8.out)
  have HO8 := Aside0.mk (HO7.out.below HD8.out)
  have HP8 := Aside0.mk (HP7.out.below HD8.out)
  have HQ8 := Aside0.mk (HQ7.out.below HD8.out)
  have HG8 := Aside0.mk (HG7.out.below HD8.out)
  have HH8 := Aside0.mk (HH7.out.below HD8.out)
  have HB8 := Aside0.mk (bthen HB7.out HD8.out)
  obtain ⟨x0, x1, x2, x3, x4, _, _, _, _, _⟩ := all5 HJ8.out.1
  go_wp2_with fail
  refine (rread_at q HJ8.out.2 HS.out).mono ?_
  rw [← hrp.out, ← hre.out]
  rintro e c9 ⟨y9, rfl, hy9, hb9⟩
  obtain ⟨A9, k9, rfl, hr9⟩ := RB_reads hy9
  rw [RL.out] at hr9 ⊢
  have HU29 := Aside0.mk hr9
  have HD9 := Aside0.mk hb9
  clear hy9 hr9 hb9 x0 x1 x2 x3 x4
  have HJ9 := Aside0.mk (HJ8.out.below HD9.out)
  have HT9 := Aside0.mk (HT8.out.below HD9.out)
  have HK9 := Aside0.mk (HK8.out.below HD9.out)
  have HX9 := Aside0.mk (HX8.out.below HD9.out)
  have HO9 := Aside0.mk (HO8.out.below HD9.out)
  have HP9 := Aside0.mk (HP8.out.below HD9.out)
  have HQ9 := Aside0.mk (HQ8.out.below HD9.out)
  have HG9 := Aside0.mk (HG8.out.below HD9.out)
  have HH9 := Aside0.mk (HH8.out.below HD9.out)
  have HU19 := Aside0.mk (HU18.out.below HD9.out)
  have HB9 := Aside0.mk (bthen HB8.out HD9.out)
  obtain ⟨x0, x1, x2, x3, x4, _, _, _, _, _⟩ := all5 HX9.out.1
  go_wp2_with fail
  refine (list_at HX9.out.2 HS.out HW.out).mono ?_
  rw [← hE.out]
  rintro e c10 ⟨y10, rfl, hy10, hb10⟩
  obtain ⟨A10, k10, rfl, _, hr10⟩ := RS_reads hy10
  rw [LL.out] at hr10 ⊢
  have HL110 := Aside0.mk hr10
  have HD10 := Aside0.mk hb10
  clear hy10 hr10 hb10 x0 x1 x2 x3 x4
  have HJ10 := Aside0.mk (HJ9.out.below HD10.out)
  have HT10 := Aside0.mk (HT9.out.below HD10.out)
  have HK10 := Aside0.mk (HK9.out.below HD10.out)
  have HX10 := Aside0.mk (HX9.out.below HD10.out)
  have HO10 := Aside0.mk (HO9.out.below HD10.out)
  have HP10 := Aside0.mk (HP9.out.below HD10.out)
  have HQ10 := Aside0.mk (HQ9.out.below HD10.out)
  have HG10 := Aside0.mk (HG9.out.below HD10.out)
  have HH10 := Aside0.mk (HH9.out.below HD10.out)
  have HU110 := Aside0.mk (HU19.out.below HD10.out)
  have HU210 := Aside0.mk (HU29.out.below HD10.out)
  have HB10 := Aside0.mk (bthen HB9.out HD10.out)
  obtain ⟨x0, x1, x2, x3, x4, _, _, _, _, _⟩ := all5 HJ10.out.1
  go_wp2_with fail
  refine (rlist_at HJ10.out.2 HS.out).mono ?_
  rw [← hE.out]
  rintro e c11 ⟨y11, rfl, hy11, hb11⟩
  obtain ⟨A11, k11, rfl, _, hr11⟩ := RS_reads hy11
  rw [LL.out] at hr11 ⊢
  have HL211 := Aside0.mk hr11
  have HD11 := Aside0.mk hb11
  clear hy11 hr11 hb11 x0 x1 x2 x3 x4
  have HJ11 := Aside0.mk (HJ10.out.below HD11.out)
  have HT11 := Aside0.mk (HT10.out.below HD11.out)
  have HK11 := Aside0.mk (HK10.out.below HD11.out)
  have HX11 := Aside0.mk (HX10.out.below HD11.out)
  have HO11 := Aside0.mk (HO10.out.below HD11.out)
  have HP11 := Aside0.mk (HP10.out.below HD11.out)
  have HQ11 := Aside0.mk (HQ10.out.below HD11.out)
  have HG11 := Aside0.mk (HG10.out.below HD11.out)
  have HH11 := Aside0.mk (HH10.out.below HD11.out)
  have HU111 := Aside0.mk (HU110.out.below HD11.out)
  have HU211 := Aside0.mk (HU210.out.below HD11.out)
  have HL111 := Aside0.mk (Kd.C_below HL110.out HD11.out)
  have HB11 := Aside0.mk (bthen HB10.out HD11.out)
  have HSD : Aside0 (Small dp.2) := ⟨by rw [hdp.out]; exact DoP_small s a HU.out⟩
  have HSC : Aside0 (Small cp.1) := ⟨by rw [hcp.out]; exact crashP_small s keep (by have := HU.out; omega)⟩
  obtain ⟨x0, x1, x2, x3, x4, _, _, _, _, _⟩ := all5 HP11.out.1
  obtain ⟨y0, y1, y2, y3, y4, _, _, _, _, _⟩ := all5 HQ11.out.1
  go_wp2_with fail
  refine (alike_at HP11.out.2 HQ11.out.2 HSD.out).mono ?_
  rintro e c12 ⟨rfl, hb12⟩
  have HD12 := Aside0.mk hb12
  clear hb12 x0 x1 x2 x3 x4 y0 y1 y2 y3 y4
  have HJ12 := Aside0.mk (HJ11.out.below HD12.out)
  have HT12 := Aside0.mk (HT11.out.below HD12.out)
  have HK12 := Aside0.mk (HK11.out.below HD12.out)
  have HX12 := Aside0.mk (HX11.out.below HD12.out)
  have HO12 := Aside0.mk (HO11.out.below HD12.out)
  have HP12 := Aside0.mk (HP11.out.below HD12.out)
  have HQ12 := Aside0.mk (HQ11.out.below HD12.out)
  have HG12 := Aside0.mk (HG11.out.below HD12.out)
  have HH12 := Aside0.mk (HH11.out.below HD12.out)
  have HU112 := Aside0.mk (HU111.out.below HD12.out)
  have HU212 := Aside0.mk (HU211.out.below HD12.out)
  have HL112 := Aside0.mk (Kd.C_below HL111.out HD12.out)
  have HL212 := Aside0.mk (Kd.C_below HL211.out HD12.out)
  have HB12 := Aside0.mk (bthen HB11.out HD12.out)
  obtain ⟨x0, x1, x2, x3, x4, _, _, _, _, _⟩ := all5 HG12.out.1
  obtain ⟨y0, y1, y2, y3, y4, _, _, _, _, _⟩ := all5 HH12.out.1
  go_wp2_with (go_at_call 20; refine (num_any _ _).mono ?_; rintro e wz ⟨rfl, rfl⟩)
  refine (alike_at HG12.out.2 HH12.out.2 HSC.out).mono ?_
  rintro e c13 ⟨rfl, hb13⟩
  have HD13 := Aside0.mk hb13
  clear hb13 x0 x1 x2 x3 x4 y0 y1 y2 y3 y4
  have HJ13 := Aside0.mk (HJ12.out.below HD13.out)
  have HT13 := Aside0.mk (HT12.out.below HD13.out)
  have HK13 := Aside0.mk (HK12.out.below HD13.out)
  have HX13 := Aside0.mk (HX12.out.below HD13.out)
  have HO13 := Aside0.mk (HO12.out.below HD13.out)
  have HP13 := Aside0.mk (HP12.out.below HD13.out)
  have HQ13 := Aside0.mk (HQ12.out.below HD13.out)
  have HG13 := Aside0.mk (HG12.out.below HD13.out)
  have HH13 := Aside0.mk (HH12.out.below HD13.out)
  have HU113 := Aside0.mk (HU112.out.below HD13.out)
  have HU213 := Aside0.mk (HU212.out.below HD13.out)
  have HL113 := Aside0.mk (Kd.C_below HL112.out HD13.out)
  have HL213 := Aside0.mk (Kd.C_below HL212.out HD13.out)
  have HB13 := Aside0.mk (bthen HB12.out HD13.out)
  go_wp2_with (go_at_call 20; refine (num_any _ _).mono ?_; rintro e wz ⟨rfl, rfl⟩)
  refine (same_any A8 A9 rl rl k8 k9 rp.1 rp.1 c13 HU113.out HU213.out rfl).mono ?_
  rintro e wz ⟨rfl, rfl⟩
  go_wp2_with (go_at_call 20; refine (num_any _ _).mono ?_; rintro e wz ⟨rfl, rfl⟩)
  refine (sameStr_any A10 A11 ll k10 k11 (listL s) c13 HL113.out HL213.out hll2).mono ?_
  rintro e c14 ⟨rfl, hb14⟩
  have HD14 := Aside0.mk hb14
  clear hb14
  have HJ14 := Aside0.mk (HJ13.out.below HD14.out)
  have HT14 := Aside0.mk (HT13.out.below HD14.out)
  have HK14 := Aside0.mk (HK13.out.below HD14.out)
  have HX14 := Aside0.mk (HX13.out.below HD14.out)
  have HO14 := Aside0.mk (HO13.out.below HD14.out)
  have HP14 := Aside0.mk (HP13.out.below HD14.out)
  have HQ14 := Aside0.mk (HQ13.out.below HD14.out)
  have HG14 := Aside0.mk (HG13.out.below HD14.out)
  have HH14 := Aside0.mk (HH13.out.below HD14.out)
  have HU114 := Aside0.mk (HU113.out.below HD14.out)
  have HU214 := Aside0.mk (HU213.out.below HD14.out)
  have HL114 := Aside0.mk (Kd.C_below HL113.out HD14.out)
  have HL214 := Aside0.mk (Kd.C_below HL213.out HD14.out)
  have HB14 := Aside0.mk (bthen HB13.out HD14.out)
  go_upto_region 14 with (go_at_call 20; refine (num_any _ _).mono ?_; rintro e wz ⟨rfl, rfl⟩)
  have hEE : (E == E) = true := by simp
  have C1 : ∀ x : Later c14, Calls Try.prog 28 #[.agg #[.int .i64 n1, .slice F1 lf1 fc1, .slice N1 ln1 nc1, .slice S1 ls1 sc1, .int .i64 m1]] (wb c14 x) fun e w' => e = .returned (.int .i64 E) ∧ Below (wb c14 x).heap.size (wb c14 x) w' := fun x => by rw [hE.out]; exact check_at (HX14.out.2.below (wb_below _ x)) HS.out HW.out
  have C2 : ∀ x : Later c14, Calls Try.prog 26 #[.agg #[.int .i64 n0, .slice F0 lf0 fc0, .slice N0 ln0 nc0, .slice S0 ls0 sc0, .int .i64 m0]] (wb c14 x) fun e w' => e = .returned (.int .i64 E) ∧ Below (wb c14 x).heap.size (wb c14 x) w' := fun x => by rw [hE.out]; exact rcheck_at (HJ14.out.2.below (wb_below _ x)) HS.out
  have C3 : ∀ x : Later c14, Calls Try.prog 19 #[.agg #[.int .i64 n1, .slice F1 lf1 fc1, .slice N1 ln1 nc1, .slice S1 ls1 sc1, .int .i64 m1], .agg #[.int .i64 n0, .slice F0 lf0 fc0, .slice N0 ln0 nc0, .slice S0 ls0 sc0, .int .i64 m0]] (wb c14 x) fun e w' => e = .returned (.int .i64 0) ∧ Below (wb c14 x).heap.size (wb c14 x) w' := fun x => alike_at (HX14.out.2.below (wb_below _ x)) (HJ14.out.2.below (wb_below _ x)) HS.out
  have C4 : ∀ x : Later c14, Calls Try.prog 25 #[.slice D3 ld d3, .slice D ld dc] (wb c14 x) fun e w' => e = .returned (.bool true) ∧ wb c14 x = w' := fun x => same_any D3 D ld ld d3 dc a.data a.data _ (HO14.out.2.below (wb_below _ x)) (HT14.out.2.below (wb_below _ x)) rfl
  have C5 : ∀ x : Later c14, Calls Try.prog 21 #[] (wb c14 x) fun e w' => e = .returned (.bool true) ∧ Below (wb c14 x).heap.size (wb c14 x) w' := fun x => alive_any _
  have C6 : ∀ x : Later c14, Calls Try.prog 20 #[.int .i64 E] (wb c14 x) fun e w' => e = .returned (.int .i64 E) ∧ wb c14 x = w' := fun x => num_any E _
  obtain ⟨x0, x1, x2, x3, x4, _, _, _, _, _⟩ := all5 HX14.out.1
  obtain ⟨y0, y1, y2, y3, y4, _, _, _, _, _⟩ := all5 HJ14.out.1
  obtain ⟨_, _, _, t3, _, _, _, _⟩ := all4 HT14.out.1
  obtain ⟨_, _, _, u3', _, _, _, _⟩ := all4 HO14.out.1
  have X0 := wb_cell x0
  have X1 := wb_cell x1
  have X2 := wb_cell x2
  have X3 := wb_cell x3
  have X4 := wb_cell x4
  have Y0 := wb_cell y0
  have Y1 := wb_cell y1
  have Y2 := wb_cell y2
  have Y3 := wb_cell y3
  have Y4 := wb_cell y4
  have T3 := wb_cell t3
  have U3 := wb_cell u3'
  clear x0 x1 x2 x3 x4 y0 y1 y2 y3 y4 t3 u3'
  refine wp_region_wide (by kernel_rfl) (by kernel_rfl) ?_
  repeat (go_big_quiet_step ((first | (go_at_call 28; exact wide_of (C1 _)) | (go_at_call 26; exact wide_of (C2 _)) | (go_at_call 19; exact wide_of (C3 _)) | (go_at_call 25; exact wide_same (C4 _)) | (go_at_call 21; exact wide_of (C5 _)) | (go_at_call 20; exact wide_same (C6 _)))))
  refine wpQuiet_nil ?_
  rintro w' ⟨x, rfl⟩
  go_wp2
  go_ret
  exact ⟨rfl, bthen HB14.out (wb_below _ x)⟩
end Go.Proofs.Ytfakfgblaakgdaa.Files

/- FilesTells: for all files, acts, numbers and texts of bulk at most 1048576 the law returns true, and what it is given stays. (Printed by wip/gen_rows.py.) -/
namespace Go.Proofs.Ytfakfgblaakgdaa.rowTells
open Go.ChangeShapes Go.WideShapes Go.ChangeAt Go.RowKit Go.Proofs.Ytfakfgblaakgdaa.Lift
set_option linter.unusedVariables false
set_option linter.unusedSimpArgs false
theorem own : ownKnob Try.prog.godebug = none := by kernel_rfl
theorem laidOut : laidOutB Try.prog = true := by kernel_rfl

set_option maxRecDepth 100000 in
set_option maxHeartbeats 4000000 in
theorem lifted (os : Os) (started : os.Started) (H : Type) (enc : TypeId × Value → H) (F : Stop.Interp) :
    ReturnsInHanded {} Try.checked os 8 .any ((Rows.OpenSpec.upto Rows.filesTellsSpec).pre6 enc Try.prog Try.f8 Rows.filesTellsUptoRow.domain false) (((Rows.OpenSpec.upto Rows.filesTellsSpec).at F).post enc Try.prog Try.f8 false true false false) := by
  refine returnsInHanded_of_cond (C := Try.checked) (s := Rows.OpenSpec.upto Rows.filesTellsSpec) (k := Rows.uptoSmall) rfl own started (by kernel_rfl) Try.func8
    (OpenSpec.witness (enc := enc) (C := Try.checked) (s := Rows.OpenSpec.upto Rows.filesTellsSpec) (k := Rows.uptoSmall) rfl false ⟨#[], #[.agg #[.int .i64 0, .slice none 0 0, .slice none 0 0, .slice none 0 0, .int .i64 0], .agg #[.int .i64 0, .string ⟨#[]⟩, .string ⟨#[]⟩, .slice none 0 0], .slice none 0 0, .string ByteArray.empty], []⟩ 8 (by kernel_rfl) (by kernel_rfl) (by kernel_rfl)
      (x := ([.agg [.lit (.int .i64 0), .nil, .nil, .nil, .lit (.int .i64 0)], .agg [.lit (.int .i64 0), .lit (.string []), .lit (.string []), .nil], .nil, .lit (.string [])], [], [])) (by kernel_rfl) rfl (by kernel_rfl)) ?_
  intro W base args ds gs before hval hW _ hk _
  have hW' := hW
  obtain ⟨p, q, hA0, hV, rfl, hfz, hnd⟩ := hW
  have hA : DataW.TrodAll enc Try.prog W 0 (fun _ => true) true Try.f8.params.toList args.toList ds p := hA0
  rw [Try.params8] at hA hval
  obtain ⟨v0, vs0, d0, ds0, p0, q0, hargs, rfl, rfl, h0, r0⟩ := trodAll_cons hA
  obtain ⟨v1, vs1, d1, ds1, p1, q1, rfl, rfl, rfl, h1, r1⟩ := trodAll_cons r0
  obtain ⟨v2, vs2, d2, ds2, p2, q2, rfl, rfl, rfl, h2, r2⟩ := trodAll_cons r1
  obtain ⟨v3, vs3, d3, ds3, p3, q3, rfl, rfl, rfl, h3, r3⟩ := trodAll_cons r2
  obtain ⟨rfl, rfl, rfl⟩ := trodAll_nil r3
  obtain rfl : args = #[v0, v1, v2, v3] := by cases args; simp_all
  obtain ⟨rfl, rfl⟩ := trodVars_none hV
  have k0 := h0
  have lt0 : ∀ x ∈ p0, x.block < W.heap.size := by obtain ⟨m, hm⟩ := k0; exact DataW.trod_lt m _ _ _ hm
  have k1 := h1
  have lt1 : ∀ x ∈ p1, x.block < W.heap.size := by obtain ⟨m, hm⟩ := k1; exact DataW.trod_lt m _ _ _ hm
  have k2 := h2
  have lt2 : ∀ x ∈ p2, x.block < W.heap.size := by obtain ⟨m, hm⟩ := k2; exact DataW.trod_lt m _ _ _ hm
  obtain ⟨cs0, hcs0, _⟩ := okWide_struct Try.underlying25 (hval 0 25 v0 rfl rfl)
  obtain ⟨fu0, hf0⟩ := h0
  obtain ⟨s0, F0, N0, S0, fc0, nc0, sc0, rfl, hd0, wf0, in0, us0, sm0⟩ := trod_state2 ⟨cs0, hcs0⟩ hf0
  obtain ⟨cs1, hcs1, _⟩ := okWide_struct Try.underlying64 (hval 1 64 v1 rfl rfl)
  obtain ⟨fu1, hf1⟩ := h1
  obtain ⟨a1, D1, dc1, rfl, hr1, iw1, hb1⟩ := trod_actv ⟨cs1, hcs1⟩ hf1
  obtain ⟨A2, sn2, c2, rfl⟩ := okWide_slice Try.underlying69 (hval 2 69 v2 rfl rfl)
  obtain ⟨fu2, hf2⟩ := h2
  obtain ⟨B2, l2, b2, hv2, lc2, hC2, fx2, hb2⟩ := trod_ints (v := .slice A2 sn2 c2) hf2
  injection hv2 with e1 e2 e3
  subst e1 e2 e3
  obtain ⟨a3, rfl, rfl, rfl, y3⟩ := Go.ChangeMaps.open_string Try.underlying9 (hval 3 9 v3 rfl rfl) h3
  have hb : Rows.uptoBulk d0 + Rows.uptoBulk d1 + Rows.uptoBulk d2 ≤ 1048576 := by
    have h := of_decide_eq_true hk
    simp only [List.append_nil, Rows.uptoBulkAll] at h
    omega
  clear hA0 hk
  refine (Files.tells_walk s0 a1 l2 a3 F0 N0 S0 D1 A2 fc0 nc0 sc0 dc1 c2 W hd0 (sm0 (by omega)).1 wf0 hr1 (by omega) hC2 (by omega) fx2).mono fun e W' ⟨he, bel⟩ => ?_
  subst he
  exact ⟨_, rfl, _, _, _, [], _, [], hW', trodAll_mk1 (shut_bool Try.underlying4 _), (trodAll_cons_mk (Below.trod laidOut (by kernel_rfl) (of_decide_eq_true (by kernel_rfl)) k0 bel lt0) (trodAll_cons_mk (Below.trod laidOut (by kernel_rfl) (of_decide_eq_true (by kernel_rfl)) k1 bel lt1) (trodAll_cons_mk (Below.trod laidOut (by kernel_rfl) (of_decide_eq_true (by kernel_rfl)) k2 bel lt2) (trodAll_cons_mk (Go.ChangeMaps.shut_string Try.underlying9 y3) trodAll_mk0)))), rfl, bel.frame _, fun h => by cases h⟩

theorem proved : Rows.FilesTellsUptoSaid :=
  OpenClaim.holds_of_cond 8 Try.f8 rfl rfl rfl rfl rfl rfl rfl ⟨rfl, rfl, rfl, rfl, rfl⟩ rfl rfl rfl rfl rfl (by kernel_rfl) Try.func8 (by kernel_rfl)
    (of_decide_eq_true (by kernel_rfl)) (by unfold Func.isWrapper; first | (rw [if_pos (by decide +kernel)]; kernel_rfl) | (rw [if_neg (by decide +kernel)]; exact ⟨rfl, rfl⟩))
    (fun os started H enc _ F => lifted os started H enc F)
end Go.Proofs.Ytfakfgblaakgdaa.rowTells
namespace Go.Proofs.Ytfakfgblaakgdaa
theorem filesTells_holds : Rows.FilesTellsUptoSaid := rowTells.proved
#print axioms filesTells_holds
end Go.Proofs.Ytfakfgblaakgdaa
