/- A part of the proof: files.Check: may a state be: walked. -/
import Derived.Test.YtfakfgblaakgdaaPkRuns4
import Derived.Test.YtfakfgblaakgdaaPkRuns3

/- files.Check: may a state be: walked. -/
namespace Go.Proofs.Ytfakfgblaakgdaa.Files
set_option linter.unusedVariables false
set_option linter.unusedSimpArgs false
open Go.RowKit Go.Proofs.YtfakfgblaakgdaaW.PrintWords Go.Proofs.YtfakfgblaakgdaaW.PrintLast Go.Proofs.Ytfakfgblaakgdaa.Base Go.Proofs.Ytfakfgblaakgdaa.Cells Go.Proofs.Ytfakfgblaakgdaa.Ints Go.Proofs.Ytfakfgblaakgdaa.Var Go.Proofs.Ytfakfgblaakgdaa.EditPure Go.Proofs.Ytfakfgblaakgdaa.Edit Go.Proofs.Ytfakfgblaakgdaa.Sets Go.Proofs.Ytfakfgblaakgdaa.Wide

def lastI (pre : List Fl) : Int := match pre.getLast? with | none => 0 | some p => p.id
/-- of a file behind others: what a state that may be asks of it -/
def flOk (next : Int) (pre : List Fl) (f : Fl) : Bool := decide (lastI pre < f.id) && (decide (f.id < next) && (decide (0 ≤ f.sync) && decide (f.sync ≤ f.data.length)))
def flTo (next : Int) (l : List Fl) : Nat → Bool
  | 0 => true
  | i + 1 => flTo next l i && flOk next (l.take i) (l.getD i zFl)
def hdB (s : St) : Bool := decide (0 ≤ s.cap) && (decide (s.cap ≤ 16777216) && (decide ((s.files.length : Int) ≤ 256) && (decide (1 ≤ s.next) && (decide (s.next ≤ 2147483647) && (decide (usedF s.files ≤ s.cap) && (decide ((s.names.length : Int) ≤ 256) && decide ((s.safe.length : Int) ≤ 256)))))))
/-- how many different ones there are -/
def many (l : List Int) : Nat := ((ilits l).foldl Maps.addKey []).length
/-- may a state be -/
def stB (s : St) : Bool := hdB s && (flTo s.next s.files s.files.length && (namesOk s.files s.names && (namesOk s.files s.safe && many (idsN s.names ++ idsN s.safe) == s.files.length)))
def stE (s : St) : Int := if stB s then 0 else 9

theorem flTo_asc {next : Int} {l : List Fl} : ∀ n, n ≤ l.length → flTo next l n = true → Asc (l.take n) ∧ ∀ f ∈ l.take n, 1 ≤ f.id ∧ f.id ≤ lastI (l.take n)
  | 0, _, _ => ⟨by simp [Asc], by simp⟩
  | n + 1, hn, h => by
    rw [flTo, Bool.and_eq_true] at h
    obtain ⟨h1, h2⟩ := flTo_asc n (by omega) h.1
    have hf : l[n]? = some (l[n]'(by omega)) := List.getElem?_eq_getElem (by omega)
    have hg : l.getD n zFl = l[n]'(by omega) := by rw [List.getD_eq_getElem?_getD, hf]; rfl
    rw [hg] at h
    have h3 : lastI (l.take n) < (l[n]'(by omega)).id := by have := h.2; simp [flOk] at this; exact this.1
    have ht : l.take (n + 1) = l.take n ++ [l[n]'(by omega)] := by rw [List.take_add_one, hf]; rfl
    have hl : lastI (l.take (n + 1)) = (l[n]'(by omega)).id := by rw [ht, lastI, List.getLast?_concat]
    have h0 : 0 ≤ lastI (l.take n) := by
      unfold lastI
      cases hq : (l.take n).getLast? with
      | none => exact Int.le_refl _
      | some p => have := (h2 p (List.mem_of_getLast? hq)).1; show 0 ≤ p.id; omega
    rw [ht]
    refine ⟨List.pairwise_append.2 ⟨h1, by simp, fun a ha b hb => ?_⟩, fun f hf => ?_⟩
    · rw [List.mem_singleton.1 hb]; have := (h2 a ha).2; omega
    · rw [← ht, hl]
      rcases List.mem_append.1 hf with hf | hf
      · have := h2 f hf; omega
      · rw [List.mem_singleton.1 hf]; omega
theorem flTo_false {next : Int} (l : List Fl) {i : Nat} (h : flTo next l i = false) {n : Nat} (hn : i ≤ n) : flTo next l n = false := by
  induction n with
  | zero => obtain rfl : i = 0 := by omega
            exact h
  | succ n ih =>
    by_cases e : i = n + 1
    · subst e; exact h
    · rw [flTo, ih (by omega), Bool.false_and]
theorem asc_of_flTo {next : Int} {l : List Fl} (h : flTo next l l.length = true) : Asc l := by
  have := (flTo_asc l.length (Nat.le_refl _) h).1
  rwa [List.take_length] at this

theorem SetL.run_len {P : Program} {w : World} {k e t ty : TypeId} {b : Nat} {l : List Lit} (ht : P.underlying t = some (.map k e)) (h : SetL P k e w b l) :
    (Builtin.len_ #[t] ty #[.map (some b)]).run P w = .ok (.int .i64 ((l.foldl Maps.addKey []).length : Nat)) w := by
  have hrun := h.1.len ht ty
  unfold setD at hrun
  rw [Maps.size_setOf _ _ h.2] at hrun
  exact hrun

set_option maxRecDepth 100000 in
set_option maxHeartbeats 4000000 in
theorem check_any (s : St) (F N S : Option Addr) (fc nc sc : Nat) (w : World) (h : Hd w s F fc N nc S sc) (hs : Small s) (hw : Wf s) :
    Calls Try.prog 28 #[.agg #[.int .i64 s.cap, .slice F s.files.length fc, .slice N s.names.length nc, .slice S s.safe.length sc, .int .i64 s.next]] w fun e w' => e = .returned (.int .i64 (stE s)) ∧ Below w.heap.size w w' := by
  have HH := Aside0.mk h
  have HS := Aside0.mk hs
  have HW := Aside0.mk hw
  obtain ⟨cap, files, names, safe, next⟩ := s
  obtain ⟨E, hE⟩ := named (stE ⟨cap, files, names, safe, next⟩)
  rw [← hE.out]
  obtain ⟨hd, hhd⟩ := named (hdB ⟨cap, files, names, safe, next⟩)
  obtain ⟨u, hu⟩ := named (usedF files)
  have HD : Aside0 (hd = (decide (0 ≤ cap) && (decide (cap ≤ 16777216) && (decide ((files.length : Int) ≤ 256) && (decide (1 ≤ next) && (decide (next ≤ 2147483647) && (decide (u ≤ cap) && (decide ((names.length : Int) ≤ 256) && decide ((safe.length : Int) ≤ 256))))))))) := ⟨by rw [hhd.out, hdB, hu.out]⟩
  have hlf : files.length ≤ 1048576 := hs.lf
  have hln : names.length ≤ 1048576 := hs.ln
  have hls : safe.length ≤ 1048576 := hs.ls
  clear h hs hw
  have hmm := @run_makeMap Try.prog
  go_enter Try.func28, Try.ntmps28
  go_upto_region 1 with (fail)
  obtain ⟨W, hW⟩ : ∃ W, W = w.alloc (.cells #[.int .i64 cap, .slice F files.length fc, .slice N names.length nc, .slice S safe.length sc, .int .i64 next] 33) := ⟨_, rfl⟩
  have hk : W.heap[w.heap.size]? = some (.cells #[.int .i64 cap, .slice F files.length fc, .slice N names.length nc, .slice S safe.length sc, .int .i64 next] 33 (0, 0)) := by rw [hW]; exact blk_new _ _
  have HB : Aside0 (Below w.heap.size w W) := ⟨by rw [hW]; exact below_alloc (Below.refl _ _) _⟩
  have HZ : Aside0 (W.heap.size = w.heap.size + 1) := ⟨by rw [hW]; simp⟩
  rw [← hW]
  clear hW
  have HK := Aside0.mk hk
  obtain ⟨x0, x1, x2, x3, x4, _, _, _, _, _⟩ := all5 hk
  have X0 := wb_cell x0
  have X1 := wb_cell x1
  have X2 := wb_cell x2
  have X3 := wb_cell x3
  have X4 := wb_cell x4
  have CU : ∀ x : Later W, Calls Try.prog 57 #[.pointer (some ⟨w.heap.size, 0, none⟩)] (wb W x) fun e w' => e = .returned (.int .i64 u) ∧ Below (wb W x).heap.size (wb W x) w' := fun x => by
    rw [hu.out]
    exact used_any w.heap.size F fc files _ (X1 x) (Kd.C_below HH.out.hF (bthen HB.out (wb_below _ x))) hlf HS.out.ld
  clear x0 x1 x2 x3 x4 hk
  go_cut [3] (fun v3 wc => v3 = .bool hd ∧ Aside0 (Below W.heap.size W wc))
  case first =>
    by_cases c0 : 0 ≤ cap
    · by_cases c1 : cap ≤ 16777216
      · by_cases c2 : (files.length : Int) ≤ 256
        · by_cases c3 : 1 ≤ next
          · by_cases c4 : next ≤ 2147483647
            · by_cases c5 : u ≤ cap
              · by_cases c6 : (names.length : Int) ≤ 256
                · by_cases c7 : (safe.length : Int) ≤ 256
                  · have HV : Aside0 (hd = true) := ⟨by rw [HD.out]; simp only [*, decide_true, decide_false, Bool.true_and, Bool.false_and, Bool.and_true]⟩
                    refine wp_region_wide (by kernel_rfl) (by kernel_rfl) ?_
                    repeat (go_big_quiet_step ((go_at_call 57; exact wide_of (CU _))))
                    refine wpQuiet_nil ?_
                    rintro w' ⟨x, rfl⟩
                    go_wp2
                    go_meet
                    exact ⟨by rw [HV.out], ⟨wb_below _ x⟩⟩
                  · have HV : Aside0 (hd = false) := ⟨by rw [HD.out]; simp only [*, decide_true, decide_false, Bool.true_and, Bool.false_and, Bool.and_true]⟩
                    refine wp_region_wide (by kernel_rfl) (by kernel_rfl) ?_
                    repeat (go_big_quiet_step ((go_at_call 57; exact wide_of (CU _))))
                    refine wpQuiet_nil ?_
                    rintro w' ⟨x, rfl⟩
                    go_wp2
                    go_meet
                    exact ⟨by rw [HV.out], ⟨wb_below _ x⟩⟩
                · have HV : Aside0 (hd = false) := ⟨by rw [HD.out]; simp only [*, decide_true, decide_false, Bool.true_and, Bool.false_and, Bool.and_true]⟩
                  refine wp_region_wide (by kernel_rfl) (by kernel_rfl) ?_
                  repeat (go_big_quiet_step ((go_at_call 57; exact wide_of (CU _))))
                  refine wpQuiet_nil ?_
                  rintro w' ⟨x, rfl⟩
                  go_wp2
                  go_meet
                  exact ⟨by rw [HV.out], ⟨wb_below _ x⟩⟩
              · have HV : Aside0 (hd = false) := ⟨by rw [HD.out]; simp only [*, decide_true, decide_false, Bool.true_and, Bool.false_and, Bool.and_true]⟩
                refine wp_region_wide (by kernel_rfl) (by kernel_rfl) ?_
                repeat (go_big_quiet_step ((go_at_call 57; exact wide_of (CU _))))
                refine wpQuiet_nil ?_
                rintro w' ⟨x, rfl⟩
                go_wp2
                go_meet
                exact ⟨by rw [HV.out], ⟨wb_below _ x⟩⟩
            · have HV : Aside0 (hd = false) := ⟨by rw [HD.out]; simp only [*, decide_true, decide_false, Bool.true_and, Bool.false_and, Bool.and_true]⟩
              refine wp_region_wide (by kernel_rfl) (by kernel_rfl) ?_
              repeat (go_big_quiet_step ((go_at_call 57; exact wide_of (CU _))))
              refine wpQuiet_nil ?_
              rintro w' ⟨x, rfl⟩
              go_wp2
              go_meet
              exact ⟨by rw [HV.out], ⟨wb_below _ x⟩⟩
          · have HV : Aside0 (hd = false) := ⟨by rw [HD.out]; simp only [*, decide_true, decide_false, Bool.true_and, Bool.false_and, Bool.and_true]⟩
            refine wp_region_wide (by kernel_rfl) (by kernel_rfl) ?_
            repeat (go_big_quiet_step ((go_at_call 57; exact wide_of (CU _))))
            refine wpQuiet_nil ?_
            rintro w' ⟨x, rfl⟩
            go_wp2
            go_meet
            exact ⟨by rw [HV.out], ⟨wb_below _ x⟩⟩
        · have HV : Aside0 (hd = false) := ⟨by rw [HD.out]; simp only [*, decide_true, decide_false, Bool.true_and, Bool.false_and, Bool.and_true]⟩
          refine wp_region_wide (by kernel_rfl) (by kernel_rfl) ?_
          repeat (go_big_quiet_step ((go_at_call 57; exact wide_of (CU _))))
          refine wpQuiet_nil ?_
          rintro w' ⟨x, rfl⟩
          go_wp2
          go_meet
          exact ⟨by rw [HV.out], ⟨wb_below _ x⟩⟩
      · have HV : Aside0 (hd = false) := ⟨by rw [HD.out]; simp only [*, decide_true, decide_false, Bool.true_and, Bool.false_and, Bool.and_true]⟩
        refine wp_region_wide (by kernel_rfl) (by kernel_rfl) ?_
        repeat (go_big_quiet_step ((go_at_call 57; exact wide_of (CU _))))
        refine wpQuiet_nil ?_
        rintro w' ⟨x, rfl⟩
        go_wp2
        go_meet
        exact ⟨by rw [HV.out], ⟨wb_below _ x⟩⟩
    · have HV : Aside0 (hd = false) := ⟨by rw [HD.out]; simp only [*, decide_true, decide_false, Bool.true_and, Bool.false_and, Bool.and_true]⟩
      refine wp_region_wide (by kernel_rfl) (by kernel_rfl) ?_
      repeat (go_big_quiet_step ((go_at_call 57; exact wide_of (CU _))))
      refine wpQuiet_nil ?_
      rintro w' ⟨x, rfl⟩
      go_wp2
      go_meet
      exact ⟨by rw [HV.out], ⟨wb_below _ x⟩⟩
  case rest =>
    obtain ⟨rfl, HB2⟩ := hcut
    have HB3 := Aside0.mk (bthen HB.out HB2.out)
    obtain ⟨y0, y1, y2, y3, y4, _, _, _, _, _⟩ := all5 (blk_keep HK.out HB2.out)
    have HY1 := Aside0.mk y1
    have HY2 := Aside0.mk y2
    have HY3 := Aside0.mk y3
    have HY4 := Aside0.mk y4
    clear X0 X1 X2 X3 X4 CU y0 y2 y3 y4
    have hsz : w.heap.size < wc.heap.size := by have := HB2.out.size; have := HZ.out; omega
    obtain ⟨q0, hq0⟩ := named (hd && flTo next files 0)
    go_wp2
    go_loopg [3, 4, 53] files.length (fun gk v3 v4 v53 wr => ∃ i : Nat, v53 = .int .i64 i ∧ gk + i = files.length ∧ v3 = .bool (hd && flTo next files i) ∧ v4 = .int .i64 (lastI (files.take i)) ∧ Aside0 (Below wc.heap.size wc wr))
    case atStart => exact ⟨0, rfl, by omega, by simp [flTo], rfl, ⟨Below.refl _ _⟩⟩
    case round =>
      obtain ⟨i, rfl, hg, rfl, rfl, HL⟩ := hrel
      obtain ⟨ok1, hok1⟩ := named (hd && flTo next files i)
      rw [← hok1.out]
      have hlsz := HL.out.size
      by_cases hlt : i < files.length
      · obtain ⟨m, hm⟩ : ∃ m, files[i]? = some m := ⟨_, List.getElem?_eq_getElem hlt⟩
        obtain ⟨ad, D, dc, rfl, c0, c1, c2, _, _⟩ := atFl (Kd.C_below HH.out.hF (bthen HB3.out HL.out)) i m hm
        have hgd : files.getD i zFl = m := by rw [List.getD_eq_getElem?_getD, hm]; rfl
        obtain ⟨okn, hokn⟩ := named (hd && flTo next files (i + 1))
        obtain ⟨la, hla⟩ := named (lastI (files.take i))
        have HN : Aside0 (okn = (ok1 && (decide (la < m.id) && (decide (m.id < next) && (decide (0 ≤ m.sync) && decide (m.sync ≤ (m.data.length : Int))))))) := ⟨by rw [hokn.out, flTo, hgd, ← Bool.and_assoc, ← hok1.out, flOk, ← hla.out]⟩
        have HLA : Aside0 (lastI (files.take (i + 1)) = m.id) := ⟨by rw [List.take_add_one, hm, lastI, Option.toList, List.getLast?_concat]⟩
        have y4 := (HL.out.cell (World.block_lt_of_cell? wc _ HY4.out)).trans HY4.out
        rw [← hla.out]
        clear hm hgd
        go_upto_region 6 with (fail)
        obtain ⟨W6, hW6⟩ : ∃ W6, W6 = wr.alloc (.cells #[.int .i64 m.id, .slice D m.data.length dc, .int .i64 m.sync] 79) := ⟨_, rfl⟩
        have HB6 : Aside0 (Below wr.heap.size wr W6) := ⟨by rw [hW6]; exact below_alloc (Below.refl _ _) _⟩
        have HZ6 : Aside0 (W6.heap.size = wr.heap.size + 1) := ⟨by rw [hW6]; simp⟩
        have k0 : W6.cell? ⟨wr.heap.size, 0, none⟩ = some (.int .i64 m.id) := by rw [hW6]; exact new_cell _ _ _ 0 _ rfl
        have k1 : W6.cell? ⟨wr.heap.size, 1, none⟩ = some (.slice D m.data.length dc) := by rw [hW6]; exact new_cell _ _ _ 1 _ rfl
        have k2 : W6.cell? ⟨wr.heap.size, 2, none⟩ = some (.int .i64 m.sync) := by rw [hW6]; exact new_cell _ _ _ 2 _ rfl
        have z4 := (HB6.out.cell (World.block_lt_of_cell? wr _ y4)).trans y4
        rw [← hW6]
        clear hW6 c0 c1 c2 y4
        go_cut [3] (fun v3 wd => v3 = .bool okn ∧ wd = W6)
        case first =>
          go_wp2
          all_goals go_meet
          all_goals refine ⟨?_, rfl⟩
          all_goals rw [HN.out]
          all_goals first | (simp [*]; done) | (simp [*]; omega)
        case rest =>
          obtain ⟨rfl, rfl⟩ := hcut
          go_wp2
          go_roundg (files.length - (i + 1))
          case measure => omega
          case rel => exact ⟨i + 1, by go_num, by omega, by rw [hokn.out], by rw [HLA.out], ⟨bthen HL.out HB6.out⟩⟩
      · have hie : i = files.length := by omega
        have hok : Aside0 (ok1 = (hd && flTo next files files.length)) := ⟨by rw [hok1.out, hie]⟩
        clear hie
        obtain ⟨n1, hn1⟩ := named (namesOk files names)
        obtain ⟨n2, hn2⟩ := named (namesOk files safe)
        have HE : Aside0 (E = if (ok1 && (n1 && (n2 && many (idsN names ++ idsN safe) == files.length))) = true then 0 else 9) := ⟨by rw [hE.out, stE, stB, ← hhd.out, ← hn1.out, ← hn2.out, hok.out, Bool.and_assoc]⟩
        cases hk1 : ok1 with
        | false =>
          rw [hk1] at HE
          clear hk1
          go_wp2
          go_ret
          exact ⟨by rw [HE.out]; rfl, bthen HB3.out (bthen HL.out (below_alloc (Below.refl _ _) _))⟩
        | true =>
          have ha : Asc files := asc_of_flTo (by have := hok.out; rw [hk1] at this; revert this; cases hd <;> cases flTo next files files.length <;> simp)
          have HA := Aside0.mk ha
          rw [hk1] at HE
          clear ha hk1
          go_upto_region 10 with (fail)
          obtain ⟨Wm, hWm⟩ : ∃ W, W = wr.alloc (.map #[] 0) := ⟨_, rfl⟩
          have HSM : Aside0 (SetL Try.prog 3 4 Wm wr.heap.size (ilits [])) := ⟨by rw [hWm]; exact SetL.made wr _ _ _⟩
          have HBM : Aside0 (Below wr.heap.size wr Wm) := ⟨by rw [hWm]; exact below_alloc (Below.refl _ _) _⟩
          have HBL := Aside0.mk (bthen HL.out HBM.out)
          have y1 := (HBL.out.cell (World.block_lt_of_cell? wc _ HY1.out)).trans HY1.out
          have y2 := (HBL.out.cell (World.block_lt_of_cell? wc _ HY2.out)).trans HY2.out
          have y3 := (HBL.out.cell (World.block_lt_of_cell? wc _ HY3.out)).trans HY3.out
          have HZ1 := Aside0.mk y1
          have HZ3 := Aside0.mk y3
          rw [← hWm]
          clear hWm
          go_wp2_with fail
          refine (namesF_any w.heap.size wr.heap.size F N fc nc files names [] Wm HZ1.out (Kd.C_below HH.out.hF (bthen HB3.out HBL.out)) HS.out.lf HA.out (Kd.C_below HH.out.hN (bthen HB3.out HBL.out)) HS.out.ln (fun n hn => HW.out.wn n hn) HSM.out (by simp)).mono ?_
          rw [← hn1.out]
          rintro e w1 ⟨rfl, hs1, hg1⟩
          have HS1 := Aside0.mk hs1
          have HG1 := Aside0.mk hg1
          have hbb : w.heap.size < wr.heap.size := by omega
          clear hs1 hg1 y1 y2
          have hfin : ∀ w', Wm.grownBy w' (some wr.heap.size) → Below w.heap.size w w' := fun w' hg => (bthen HB3.out HBL.out).grown hg (by have := HBM.out.size; omega) (fun k hk => by injection hk with hk; omega)
          have HF := Aside0.mk hfin
          clear hfin
          cases hn1v : n1 with
          | false =>
            rw [hn1v] at HE
            clear hn1v
            go_wp2
            go_ret
            exact ⟨by rw [HE.out]; rfl, HF.out _ HG1.out⟩
          | true =>
            rw [hn1v] at HE HS1
            clear hn1v
            obtain ⟨es, k, hmap⟩ := SetL.isMapBlock HSM.out
            have HC1 := Aside0.mk (Cell.of_map hmap HG1.out)
            clear hmap
            have y3 := HC1.out _ _ HZ3.out
            have y1 := HC1.out _ _ HZ1.out
            have HZ4 := Aside0.mk y1
            go_wp2_with fail
            refine (namesF_any w.heap.size wr.heap.size F S fc sc files safe (idsN names) w1 HZ4.out (kFl_cell (Kd.C_below HH.out.hF (bthen HB3.out HBL.out)) HC1.out) HS.out.lf HA.out (kNm_cell (Kd.C_below HH.out.hS (bthen HB3.out HBL.out)) HC1.out) HS.out.ls (fun n hn => HW.out.ws n hn) (HS1.out trivial) (by rw [idsN, List.length_map]; exact HS.out.ln)).mono ?_
            rw [← hn2.out]
            rintro e w2 ⟨rfl, hs2, hg2⟩
            have HS2 := Aside0.mk hs2
            have HG2 := Aside0.mk (grown_trans HG1.out hg2)
            obtain ⟨es, k, hmap⟩ := SetL.isMapBlock (HS1.out trivial)
            have HC2 := Aside0.mk (HC1.out.trans (Cell.of_map hmap hg2))
            clear hs2 hg2 y1 y3 hmap
            cases hn2v : n2 with
            | false =>
              rw [hn2v] at HE
              clear hn2v
              go_wp2
              go_ret
              exact ⟨by rw [HE.out]; rfl, HF.out _ HG2.out⟩
            | true =>
              rw [hn2v] at HE HS2
              clear hn2v
              have y1 := HC2.out _ _ HZ1.out
              obtain ⟨mn, hmn⟩ := named (many (idsN names ++ idsN safe))
              rw [← hmn.out] at HE
              have HSL := Aside0.mk (HS2.out rfl)
              have hlen : (Builtin.len_ #[116] 3 #[.map (some wr.heap.size)]).run Try.prog w2 = .ok (.int .i64 (mn : Int)) w2 := by rw [SetL.run_len (h := HSL.out) Try.underlying116, hmn.out]; rfl
              by_cases hq : mn = files.length
              · have HV : Aside0 (E = 0) := ⟨by rw [HE.out, hq]; simp⟩
                have hq' : ((mn : Int) != (files.length : Int)) = false := by rw [hq]; simp
                clear HE hq
                go_wp2
                go_ret
                exact ⟨by rw [HV.out]; rfl, HF.out _ HG2.out⟩
              · have HV : Aside0 (E = 9) := ⟨by rw [HE.out]; simp [hq]⟩
                have hq' : ((mn : Int) != (files.length : Int)) = true := by simp; omega
                clear HE hq
                go_wp2
                go_ret
                exact ⟨by rw [HV.out]; rfl, HF.out _ HG2.out⟩
end Go.Proofs.Ytfakfgblaakgdaa.Files

/- (*files.State).create: walked. -/
namespace Go.Proofs.Ytfakfgblaakgdaa.Files
set_option linter.unusedVariables false
set_option linter.unusedSimpArgs false
open Go.RowKit Go.Proofs.YtfakfgblaakgdaaW.PrintWords Go.Proofs.YtfakfgblaakgdaaW.PrintLast Go.Proofs.Ytfakfgblaakgdaa.Base Go.Proofs.Ytfakfgblaakgdaa.Cells Go.Proofs.Ytfakfgblaakgdaa.Ints Go.Proofs.Ytfakfgblaakgdaa.Var Go.Proofs.Ytfakfgblaakgdaa.EditPure Go.Proofs.Ytfakfgblaakgdaa.Edit Go.Proofs.Ytfakfgblaakgdaa.Sets Go.Proofs.Ytfakfgblaakgdaa.RowsC

/-- what a walk over a state asks of it -/
structure Fit (s : St) : Prop where
  lf : s.files.length ≤ 256
  ln : s.names.length ≤ 256
  ls : s.safe.length ≤ 256
  an : AscN s.names
  af : Asc s.files
  n0 : 1 ≤ s.next
  n1 : s.next ≤ 2147483647
  c0 : 0 ≤ s.cap
  c1 : s.cap ≤ 16777216
  wf : Wf s
  wi : ∀ f ∈ s.files, inI64 f.id
  hd : ∀ f ∈ s.files, f.data.length ≤ 1048576
/-- an act's value -/
def acV (a : Ac) (D : Option Addr) (dc : Nat) : Value := .agg #[.int .i64 a.what, .string a.name, .string a.dest, .slice D a.data.length dc]
theorem RFd_of_OF {w : World} {base : Nat} {v : Value} {L : List (Fl × Value)} (h : OF 79 w base v L) : RFd w base v L :=
  R_of_CR (d := kFd) (fun x hx => ⟨rfl, by obtain ⟨D, n, c, e⟩ := h.vals x hx; rw [e]; rfl⟩) (fun _ => rfl) h.row
/-- the files' row has been written, and stored -/
theorem Own.setFiles {w w1 : World} {base g : Nat} {s : St} {vF vF' vN vS : Value} {L L' : List (Fl × Value)} (h : Own w base g s vF vN vS L) (hg : w.grownBy w1 vF.ownBlock) (hr : CR 79 3 w1 base vF' (L'.map rowF))
    (ho : ∀ x ∈ L', RB w1 base x.2 x.1.data) (ha : (L'.filterMap fun x => x.2.ownBlock).Nodup) : Own (w1.setCell ⟨g, 1, none⟩ vF') base g { s with files := L'.map (·.1) } vF' vN vS L' := by
  have hF := h.oF.row.block
  have hk : w1.heap[g]? = some (.cells #[.int .i64 s.cap, vF, vN, vS, .int .i64 s.next] 33 (0, 0)) :=
    (hg.block g (blk_lt h.blk) (fun e => by obtain ⟨_, _, cs, h3⟩ := hF g e.symm; exact type_ne h.blk h3 (by decide) rfl)).trans h.blk
  refine ⟨blk_put hk 1 _ rfl, ⟨hr.step (fun k hk' => Below.heap_setCell _ _ _ _ ?_), fun x hx => RB_step (ho x hx) (fun k hk' => Below.heap_setCell _ _ _ _ ?_), ha⟩, rfl, RN_step h.rN (fun k hk' => ?_), RN_step h.rS (fun k hk' => ?_), h.ap⟩
  · obtain ⟨_, _, cs, h3⟩ := hr.block k hk'; exact type_ne h3 hk (by decide)
  · obtain ⟨cs, h3⟩ := own_typed (ho x hx) k hk'; exact type_ne h3 hk (by decide)
  · obtain ⟨_, h4, cs, h3⟩ := RN_block h.rN k hk'
    exact (Below.heap_setCell _ _ _ _ (type_ne h3 h.blk (by decide))).trans (hg.block k h4 (fun e => by obtain ⟨_, _, cs', h5⟩ := hF k e.symm; exact type_ne h3 h5 (by decide) rfl))
  · obtain ⟨_, h4, cs, h3⟩ := RN_block h.rS k hk'
    exact (Below.heap_setCell _ _ _ _ (type_ne h3 h.blk (by decide))).trans (hg.block k h4 (fun e => by obtain ⟨_, _, cs', h5⟩ := hF k e.symm; exact type_ne h3 h5 (by decide) rfl))
theorem below_setFiles {w0 w w1 : World} {base g : Nat} {s : St} {vF vN vS : Value} {L : List (Fl × Value)} (u : Value) (h : Own w base g s vF vN vS L) (hb : Bel g base w0 w) (hbw : base ≤ w.heap.size) (hg : w.grownBy w1 vF.ownBlock) : Bel g base w0 (w1.setCell ⟨g, 1, none⟩ u) :=
  (hb.grown hg hbw (fun k hk => (h.oF.row.block k hk).1)).setG u
theorem Own.setNext {w : World} {base g : Nat} {s : St} {vF vN vS : Value} {L : List (Fl × Value)} (h : Own w base g s vF vN vS L) (n : Int) : Own (w.setCell ⟨g, 4, none⟩ (.int .i64 n)) base g { s with next := n } vF vN vS L :=
  ⟨blk_put h.blk 4 _ rfl, h.oF.step (fun k hk => Below.heap_setCell _ _ _ _ (by obtain ⟨_, _, cs, h3⟩ := h.oF.row.block k hk; exact type_ne h3 h.blk (by decide))) (fun x hx k hk => Below.heap_setCell _ _ _ _ (by obtain ⟨cs, h3⟩ := own_typed (h.oF.own x hx) k hk; exact type_ne h3 h.blk (by decide))), h.fs,
    RN_step h.rN (fun k hk => Below.heap_setCell _ _ _ _ (by obtain ⟨_, _, cs, h3⟩ := RN_block h.rN k hk; exact type_ne h3 h.blk (by decide))), RN_step h.rS (fun k hk => Below.heap_setCell _ _ _ _ (by obtain ⟨_, _, cs, h3⟩ := RN_block h.rS k hk; exact type_ne h3 h.blk (by decide))), h.ap⟩

set_option maxRecDepth 100000 in
set_option maxHeartbeats 4000000 in
theorem create_own (s : St) (a : Ac) (D : Option Addr) (dc base g : Nat) (vF vN vS : Value) (L : List (Fl × Value)) (w : World) (h : Own w base g s vF vN vS L) (hbw : base ≤ w.heap.size) (hf : Fit s) :
    Calls Try.prog 72 #[.pointer (some ⟨g, 0, none⟩), acV a D dc] w fun e w' => e = .returned (.int .i64 (createP s a).1) ∧ Mine w' base g (createP s a).2 ∧ Bel g base w w' := by
  obtain ⟨F, fc, N, nc, S, sc, rfl, rfl, rfl, hhd⟩ := h.forms
  have HO := Aside0.mk h
  have HH := Aside0.mk hhd
  have HF := Aside0.mk hf
  have hn0 := hf.n0
  have hn1 := hf.n1
  obtain ⟨ln, hlnn⟩ : ∃ n, s.names.length = n := ⟨_, rfl⟩
  obtain ⟨lf, hlff⟩ : ∃ n, s.files.length = n := ⟨_, rfl⟩
  obtain ⟨ls, hlss⟩ : ∃ n, s.safe.length = n := ⟨_, rfl⟩
  have LN := Aside0.mk hlnn
  have LF := Aside0.mk hlff
  have LS := Aside0.mk hlss
  have hlf := hf.lf
  have hln := hf.ln
  rw [hlff] at hlf
  rw [hlnn] at hln
  obtain ⟨cp, hcp⟩ := named (createP s a)
  rw [← hcp.out]
  clear h hhd hf hlnn hlff hlss
  unfold acV
  go_enter Try.func72, Try.ntmps72
  go_upto_region 1 with (fail)
  obtain ⟨W0, hW0⟩ : ∃ W, W = w.alloc (.cells #[.int .i64 a.what, .string a.name, .string a.dest, .slice D a.data.length dc] 64) := ⟨_, rfl⟩
  have hk3 : W0.heap[w.heap.size]? = some (.cells #[.int .i64 a.what, .string a.name, .string a.dest, .slice D a.data.length dc] 64 (0, 0)) := by rw [hW0]; exact blk_new _ _
  have HB0 : Aside0 (Below w.heap.size w W0) := ⟨by rw [hW0]; exact below_alloc (Below.refl _ _) _⟩
  rw [← hW0]
  clear hW0
  have HK3 := Aside0.mk hk3
  have HO0 := Aside0.mk (HO.out.below HB0.out)
  clear hk3
  have FJ := Aside0.mk (fun (w' : World) (b : Below W0.heap.size W0 w') => all5 (blk_keep HO0.out.blk b))
  have FK := Aside0.mk (fun (w' : World) (b : Below W0.heap.size W0 w') => all4 (blk_keep HK3.out b))
  obtain ⟨has, hhas⟩ := named (hasN s.names a.name)
  go_cut [6] (fun v6 wc => v6 = .bool has ∧ Aside0 (Below W0.heap.size W0 wc))
  case first =>
    have HD : Aside0 (Below W0.heap.size W0 W0.drew) := ⟨below_drew (Below.refl _ _)⟩
    obtain ⟨_, _, d2, _, _, _, _, _, _, _⟩ := FJ.out W0.drew HD.out
    obtain ⟨_, q1, _, _, _, _, _, _⟩ := FK.out W0.drew HD.out
    rw [LN.out] at d2
    have CC : Aside0 (Calls Try.prog 49 #[.slice N ln nc, .string a.name] W0.drew fun e w' => ∃ r : Int, e = .returned (.tuple #[.int .i64 r, .bool has]) ∧ Below W0.heap.size W0 w') := ⟨by
      have := find_any N nc s.names a.name W0.drew (Kd.C_below HH.out.hN (bthen HB0.out HD.out)) (by rw [LN.out]; omega) HF.out.an
      rw [LN.out, ← hhas.out] at this
      exact this.mono fun e w' ⟨⟨r, h1, _, _⟩, h2⟩ => ⟨r, h1, bthen HD.out h2⟩⟩
    go_region_law (go_simp; go_wp2_with (go_at_call 49; refine CC.out.mono ?_; rintro e w5 ⟨r5, rfl, hB5⟩; have HB5 := Aside0.mk hB5; clear hB5))
    all_goals go_wp2_with fail
    all_goals go_meet
    all_goals exact ⟨rfl, HB5⟩
  case rest =>
    obtain ⟨rfl, HC⟩ := hcut
    obtain ⟨_, p1, _, _, _, _, _, _⟩ := FK.out wc HC.out
    obtain ⟨my, hmy⟩ := named (mayF a.name)
    have CM : ∀ W, Calls Try.prog 82 #[.string a.name] W fun e w' => e = .returned (.bool my) ∧ Below W.heap.size W w' := fun W => by rw [hmy.out]; exact may_any a.name W
    have HBw := Aside0.mk (bthen HB0.out HC.out)
    cases hm : my with
    | false =>
      have HCP : Aside0 (cp = (31, s)) := ⟨by rw [hcp.out, createP, if_pos (by rw [← hmy.out]; exact hm)]⟩
      rw [hm] at CM
      clear hm
      go_wp2_with (go_at_call 82; refine (CM _).mono ?_; rintro e w6 ⟨rfl, hb6⟩; have HB6 := Aside0.mk (bthen HBw.out hb6); clear hb6)
      go_ret
      exact ⟨by rw [HCP.out]; rfl, by rw [HCP.out]; exact ⟨_, _, _, L, HO.out.below HB6.out⟩, bel HB6.out hbw⟩
    | true =>
      rw [hm] at CM
      have HMY : Aside0 (¬ mayF a.name = false) := ⟨by rw [← hmy.out, hm]; decide⟩
      clear hm
      go_wp2_with fail
      refine (CM _).mono ?_
      rintro e w6 ⟨rfl, hb6⟩
      have HB6 := Aside0.mk (bthen HC.out hb6)
      have HBw6 := Aside0.mk (bthen HBw.out hb6)
      obtain ⟨_, y1, _, _, y4, _, _, _, _, _⟩ := FJ.out w6 HB6.out
      obtain ⟨_, z1, _, _, _, _, _, _⟩ := FK.out w6 HB6.out
      rw [LF.out] at y1
      have HO6 := Aside0.mk (HO.out.below HBw6.out)
      clear hb6 p1 CM
      cases hh : has with
      | true =>
        have HCP : Aside0 (cp = (6, s)) := ⟨by rw [hcp.out, createP, if_neg HMY.out, if_pos (by rw [← hhas.out]; exact hh)]⟩
        clear hh
        go_wp2
        go_ret
        exact ⟨by rw [HCP.out]; rfl, by rw [HCP.out]; exact ⟨_, _, _, L, HO6.out⟩, bel HBw6.out hbw⟩
      | false =>
        have HHF : Aside0 (hasN s.names a.name = false) := ⟨by rw [← hhas.out]; exact hh⟩
        clear hh
        by_cases hfull : 256 ≤ lf ∨ 2147483647 ≤ s.next
        · have HCP : Aside0 (cp = (51, s)) := ⟨by rw [hcp.out, createP, if_neg HMY.out, if_neg (by rw [HHF.out]; decide), if_pos (by rw [LF.out]; omega)]⟩
          rcases hfull with hq | hq
          · have hq' : (256 : Int) ≤ (lf : Int) := by omega
            go_wp2
            go_ret
            exact ⟨by rw [HCP.out]; rfl, by rw [HCP.out]; exact ⟨_, _, _, L, HO6.out⟩, bel HBw6.out hbw⟩
          · go_wp2
            all_goals go_ret
            all_goals exact ⟨by rw [HCP.out]; rfl, by rw [HCP.out]; exact ⟨_, _, _, L, HO6.out⟩, bel HBw6.out hbw⟩
        · have hq1 : ¬ ((256 : Int) ≤ (lf : Int)) := by omega
          have hq2 : ¬ (2147483647 ≤ s.next) := by omega
          have hq3 : s.next ≤ 2147483646 := by omega
          have HCP : Aside0 (cp = (0, { s with names := giveN s.names ⟨a.name, s.next⟩, files := s.files ++ [⟨s.next, [], 0⟩], next := s.next + 1 })) := ⟨by rw [hcp.out, createP, if_neg HMY.out, if_neg (by rw [HHF.out]; decide), if_neg (by rw [LF.out]; omega)]⟩
          clear hfull
          go_upto_region 8 with (fail)
          go_cut [4] (fun v4 wd => v4 = .int .i64 0 ∧ Aside0 (Mine wd base g { s with names := giveN s.names ⟨a.name, s.next⟩ } ∧ Bel g base w wd))
          case first =>
            have HD : Aside0 (Below w6.heap.size w6 w6.drew) := ⟨below_drew (Below.refl _ _)⟩
            have e1 : w6.drew.cell? ⟨w.heap.size, 1, none⟩ = some (.string a.name) := z1
            have e4 : w6.drew.cell? ⟨g, 4, none⟩ = some (.int .i64 s.next) := y4
            have CG : Aside0 (Calls Try.prog 84 #[.pointer (some ⟨g, 0, none⟩), .string a.name, .int .i64 s.next] w6.drew fun e w' => e = .returned (.tuple #[]) ∧ Mine w' base g { s with names := giveN s.names ⟨a.name, s.next⟩ } ∧ Bel g base w6 w') := ⟨by
              refine (give_own s base g a.name s.next _ _ _ L w6.drew (HO6.out.below HD.out) (by have := HBw6.out.size; show base ≤ w6.heap.size; omega) (by rw [LN.out]; omega) HF.out.an).mono fun e w' ⟨h1, h2, h3⟩ => ⟨h1, h2, (bel HD.out ?_).trans h3⟩
              have := HBw6.out.size; omega⟩
            go_region_law (go_simp; go_wp2_with (go_at_call 84; refine CG.out.mono ?_; rintro e w7 ⟨rfl, hM7, hB7⟩; have HM7 := Aside0.mk (And.intro hM7 hB7); clear hM7 hB7))
            all_goals go_wp2_with fail
            all_goals go_meet
            all_goals exact ⟨rfl, ⟨HM7.out.1, (bel HBw6.out hbw).trans HM7.out.2⟩⟩
          case rest =>
            obtain ⟨rfl, HM⟩ := hcut
            obtain ⟨wd, hwd⟩ : ∃ wd, wd = wc := ⟨_, rfl⟩
            rw [← hwd] at HM ⊢
            clear hwd
            obtain ⟨vF1, vN1, vS1, L1, hO1⟩ := HM.out.1
            obtain ⟨F1, fc1, N1, nc1, S1, sc1, rfl, rfl, rfl, hh1⟩ := hO1.forms
            have HO1 := Aside0.mk hO1
            have hL1 : L1.length = lf := by have := congrArg List.length hO1.fs; rw [List.length_map] at this; rw [this]; exact LF.out
            have HL1 := Aside0.mk hL1
            obtain ⟨_, x1, _, _, x4, _, _, _, _, _⟩ := all5 hO1.blk
            change wd.cell? ⟨g, 1, none⟩ = some (.slice F1 s.files.length fc1) at x1
            rw [LF.out] at x1
            have hbd : base ≤ wd.heap.size := by have := HM.out.2.size; omega
            have HX1 := Aside0.mk x1
            have HRd : Aside0 (RFd wd.drew base (.slice F1 lf fc1) L1) := ⟨by have := RFd_of_OF (hO1.oF.below (below_drew (Below.refl wd.heap.size wd))); rwa [show ({ s with names := giveN s.names ⟨a.name, s.next⟩ } : St).files.length = lf from LF.out] at this⟩
            have d1 : wd.drew.cell? ⟨g, 1, none⟩ = some (.slice F1 lf fc1) := x1
            have d4 : wd.drew.cell? ⟨g, 4, none⟩ = some (.int .i64 s.next) := x4
            have a1 : ∀ o, (wd.alloc o).cell? ⟨g, 1, none⟩ = some (.slice F1 lf fc1) := fun o => pw_cell_below (below_alloc (Below.refl _ _) o) x1
            have a4 : ∀ o, (wd.alloc o).cell? ⟨g, 4, none⟩ = some (.int .i64 s.next) := fun o => pw_cell_below (below_alloc (Below.refl _ _) o) x4
            have HST : Aside0 (∀ W1, wd.drew.grownBy W1 (Value.slice F1 lf fc1).ownBlock → W1.heap[g]? = some (.cells #[.int .i64 s.cap, .slice F1 lf fc1, .slice N1 (giveN s.names ⟨a.name, s.next⟩).length nc1, .slice S1 s.safe.length sc1, .int .i64 s.next] 33 (0, 0))) := ⟨fun W1 hg => by
              have hb := hO1.blk
              have hr := hO1.oF.row.block
              change wd.heap[g]? = some (.cells #[.int .i64 s.cap, .slice F1 s.files.length fc1, .slice N1 (giveN s.names ⟨a.name, s.next⟩).length nc1, .slice S1 s.safe.length sc1, .int .i64 s.next] 33 (0, 0)) at hb
              change ∀ k, (Value.slice F1 s.files.length fc1).ownBlock = some k → _ at hr
              rw [LF.out] at hb hr
              exact (hg.block g (blk_lt hb) (fun e => by obtain ⟨_, _, cs, h3⟩ := hr g e.symm; exact type_ne hb h3 (by decide) rfl)).trans hb⟩
            clear hO1 hh1 hL1 x1 x4 y1 y4 z1
            go_upto_region 9 with (fail)
            go_region_law (refine Kd.R_append_step kFd (w0 := wd.drew) (W := wd.drew) base (by rfl) (.tmp 50) (.tmp 56) 30 79 (.agg #[.int .i64 0, .slice none 0 0, .int .i64 0]) 40 rfl Try.underlying30 infoFl rfl (by decide) (by omega) (.slice F1 lf fc1) L1 (⟨s.next, [], 0⟩, .slice none 0 0) [.int .i64 s.next, .slice none 0 0, .int .i64 0] (fun _ => True) (fun _ => False) rfl rfl ?aP (fun _ hk => hk.elim) (fun _ _ => trivial) ?aO ?aB ?aS ?c1 ?_; (case aP => exact ⟨rfl, rfl⟩); (case aO => exact HRd.out); (case aB => exact Below.refl _ _); (case aS => exact hbd); (case c1 => rw [HL1.out]; omega); intro v1 w1 hown hB1 hg1 hat; obtain ⟨A2, c2, hv1⟩ := Kd.R_slice hown; subst hv1; obtain ⟨_, b1, _, _, b4, _, fb1, _, _, fb4⟩ := all5 (HST.out _ hg1); have HO2 := Aside0.mk hown; have HG2 := Aside0.mk hg1; clear hown hB1 hg1 hat)
            all_goals go_wp2
            all_goals go_ret
            all_goals
              have hgg := grown_trans (grown_drew (grown_refl wd (Value.slice F1 lf fc1).ownBlock)) HG2.out
              have hg : wd.grownBy w1 (Value.slice F1 s.files.length fc1).ownBlock := by rw [LF.out]; exact hgg
              have HO3 : RFd w1 base (.slice A2 (L1.length + 1) c2) (L1 ++ [(⟨s.next, [], 0⟩, .slice none 0 0)]) := by have := HO2.out; rwa [show (L1 ++ [((⟨s.next, [], 0⟩ : Fl), Value.slice none 0 0)]).length = L1.length + 1 by simp] at this
              have hown := Own.setFiles (vF' := _) (L' := L1 ++ [(⟨s.next, [], 0⟩, .slice none 0 0)]) HO1.out hg (CR_of_RFd HO3) (fun x hx => by
                rcases List.mem_append.1 hx with hx | hx
                · exact RB_step (HO1.out.oF.own x hx) (fun k hk => hg.block k (own_lt (HO1.out.oF.own x hx) k hk) (fun e => by
                    obtain ⟨_, _, cs, h3⟩ := HO1.out.oF.row.block k e.symm
                    obtain ⟨cs', h4⟩ := own_typed (HO1.out.oF.own x hx) k hk
                    exact type_ne h4 h3 (by decide) rfl))
                · rw [List.mem_singleton.1 hx]; exact own_nil _ _ _ _) (by
                rw [List.filterMap_append]
                have : ([((⟨s.next, [], 0⟩ : Fl), Value.slice none 0 0)].filterMap fun x => x.2.ownBlock) = [] := rfl
                rw [this, List.append_nil]
                exact HO1.out.oF.apart)
              have he : (L1 ++ [((⟨s.next, [], 0⟩ : Fl), Value.slice none 0 0)]).map (·.1) = s.files ++ [⟨s.next, [], 0⟩] := by rw [List.map_append, HO1.out.fs]; rfl
              rw [he] at hown
              exact ⟨by rw [HCP.out]; rfl, by rw [HCP.out]; exact ⟨_, _, _, _, hown.setNext (s.next + 1)⟩, (below_setFiles _ HO1.out HM.out.2 hbd hg).setG _⟩
end Go.Proofs.Ytfakfgblaakgdaa.Files

/- A file's octets, its mark, and names taken out: what the writes leave. -/
namespace Go.Proofs.Ytfakfgblaakgdaa.Files
set_option linter.unusedVariables false
set_option linter.unusedSimpArgs false
open Go.RowKit Go.Proofs.YtfakfgblaakgdaaW.PrintWords Go.Proofs.YtfakfgblaakgdaaW.PrintLast Go.Proofs.Ytfakfgblaakgdaa.Base Go.Proofs.Ytfakfgblaakgdaa.Cells Go.Proofs.Ytfakfgblaakgdaa.Ints Go.Proofs.Ytfakfgblaakgdaa.Var Go.Proofs.Ytfakfgblaakgdaa.EditPure Go.Proofs.Ytfakfgblaakgdaa.Edit Go.Proofs.Ytfakfgblaakgdaa.Sets Go.Proofs.Ytfakfgblaakgdaa.RowsC

theorem fileP_at {F : Option Addr} {l : List Fl} {x : Int} (h : hasId l x = true) : ∃ k f, l[k]? = some f ∧ f.id = x ∧ fileP F l x = F.map (fun a => a.add (k * 3)) := by
  obtain ⟨f, hf, hx⟩ := List.any_eq_true.1 h
  cases hq : l.findIdx? (fun f => f.id == x) with
  | none =>
    rw [List.findIdx?_eq_none_iff] at hq
    have := hq f hf
    rw [this] at hx; cases hx
  | some k =>
    have hq' := hq
    rw [List.findIdx?_eq_some_iff_getElem] at hq
    obtain ⟨hk, h1, _⟩ := hq
    exact ⟨k, l[k], List.getElem?_eq_getElem hk, by simpa using h1, by rw [fileP, hq']; rfl⟩
theorem updF_set {l : List Fl} {k : Nat} {f : Fl} {id : Int} (g : Fl → Fl) (ha : Asc l) (hk : l[k]? = some f) (hi : f.id = id) : updF l id g = l.set k (g f) := by
  apply List.ext_getElem?
  intro j
  rw [updF, List.getElem?_map, List.getElem?_set]
  by_cases e : k = j
  · subst e
    rw [if_pos rfl, hk, if_pos (List.getElem?_eq_some_iff.1 hk).1]
    simp [hi]
  · rw [if_neg e]
    cases hj : l[j]? with
    | none => rfl
    | some y =>
      have hne : ¬ (y.id = id) := by
        intro h2
        rcases Nat.lt_or_gt_of_ne e with h | h
        · have := ha.lt h hk hj; omega
        · have := ha.lt h hj hk; omega
      simp [hne]
theorem nodup_set {L : List (Fl × Value)} {k : Nat} {x y : Fl × Value} {B : Nat} (h : (L.filterMap fun x => x.2.ownBlock).Nodup) (hk : L[k]? = some x) (hb : y.2.ownBlock = x.2.ownBlock ∨ ∃ b, y.2.ownBlock = some b ∧ B ≤ b) (hlt : ∀ z ∈ L, ∀ b, z.2.ownBlock = some b → b < B) : ((L.set k y).filterMap fun x => x.2.ownBlock).Nodup := by
  have hl := (List.getElem?_eq_some_iff.1 hk).1
  have hs : L = L.take k ++ x :: L.drop (k + 1) := by
    have : L.drop k = x :: L.drop (k + 1) := by
      obtain ⟨hl', he⟩ := List.getElem?_eq_some_iff.1 hk
      rw [List.drop_eq_getElem_cons hl', he]
    rw [← this, List.take_append_drop]
  rw [List.set_eq_take_append_cons_drop, if_pos hl, List.filterMap_append, List.filterMap_cons]
  rw [hs, List.filterMap_append, List.filterMap_cons] at h
  rcases hb with hb | ⟨b, hb, hB⟩
  · rw [hb]; exact h
  · rw [hb]
    have h0 : ((L.take k).filterMap (fun x => x.2.ownBlock) ++ (L.drop (k + 1)).filterMap (fun x => x.2.ownBlock)).Nodup := by
      cases hx : x.2.ownBlock with
      | none => rw [hx] at h; exact h
      | some c =>
        rw [hx] at h
        exact h.sublist (List.Sublist.append_left (List.sublist_cons_self _ _) _)
    have hfr : ∀ l : List (Fl × Value), (∀ z ∈ l, z ∈ L) → ∀ c ∈ l.filterMap (fun x => x.2.ownBlock), c < B := fun l hl c hc => by
      obtain ⟨z, hz, hzc⟩ := List.mem_filterMap.1 hc
      exact hlt z (hl z hz) c hzc
    have h1 := hfr (L.take k) (fun z hz => List.mem_of_mem_take hz)
    have h2 := hfr (L.drop (k + 1)) (fun z hz => List.mem_of_mem_drop hz)
    rw [List.nodup_append] at h0 ⊢
    refine ⟨h0.1, List.nodup_cons.2 ⟨fun hm => ?_, h0.2.1⟩, fun a ha c hc => ?_⟩
    · have := h2 b hm; omega
    · rcases List.mem_cons.1 hc with rfl | hc
      · intro e; have := h1 a ha; omega
      · exact h0.2.2 a ha c hc

theorem nodup_apart {L : List (Fl × Value)} {j k b : Nat} {x y : Fl × Value} (h : (L.filterMap fun x => x.2.ownBlock).Nodup) (hne : j ≠ k) (hj : L[j]? = some y) (hk : L[k]? = some x) (hy : y.2.ownBlock = some b) (hx : x.2.ownBlock = some b) : False := by
  rw [List.Nodup, List.pairwise_filterMap] at h
  obtain ⟨hjl, rfl⟩ := List.getElem?_eq_some_iff.1 hj
  obtain ⟨hkl, rfl⟩ := List.getElem?_eq_some_iff.1 hk
  rcases Nat.lt_or_gt_of_ne hne with hlt | hlt
  · exact List.pairwise_iff_getElem.1 h j k hjl hkl hlt b hy b hx rfl
  · exact List.pairwise_iff_getElem.1 h k j hkl hjl hlt b hx b hy rfl
/-- a file's octets have been written, and their slice stored -/
theorem Own.setData {w w1 : World} {base g gF lf cf k : Nat} {s : St} {vN vS v' : Value} {L : List (Fl × Value)} {x : Fl × Value} {d' : List Int} (h : Own w base g s (.slice (some ⟨gF, 0, none⟩) lf cf) vN vS L) (hx : L[k]? = some x)
    (hg : w.grownBy w1 x.2.ownBlock) (hr : RB w1 base v' d') (hb : v'.ownBlock = x.2.ownBlock ∨ ∃ b, v'.ownBlock = some b ∧ w.heap.size ≤ b) :
    Own (w1.setCell ⟨gF, k * 3 + 1, none⟩ v') base g { s with files := s.files.set k { x.1 with data := d' } } (.slice (some ⟨gF, 0, none⟩) lf cf) vN vS (L.set k ({ x.1 with data := d' }, v')) := by
  have hxm := List.mem_of_getElem? hx
  have hxt := own_typed (h.oF.own x hxm)
  have hne : ∀ (k : Nat) (q : TypeId) (cs : Array Value), w.heap[k]? = some (.cells cs q (0, 0)) → q ≠ 5 → some k ≠ x.2.ownBlock := fun k q cs hk hq e => by
    obtain ⟨cs', h3⟩ := hxt k e.symm
    exact type_ne hk h3 hq rfl
  have hrow1 : CR 79 3 w1 base (.slice (some ⟨gF, 0, none⟩) lf cf) (L.map rowF) := h.oF.row.step (fun k hk => by obtain ⟨_, h2, cs, h3⟩ := h.oF.row.block k hk; exact hg.block k h2 (hne k _ cs h3 (by decide)))
  obtain ⟨_, _, csF, hgF⟩ := hrow1.block gF (by simp [Value.ownBlock])
  have hk1 : w1.heap[g]? = some (.cells #[.int .i64 s.cap, .slice (some ⟨gF, 0, none⟩) lf cf, vN, vS, .int .i64 s.next] 33 (0, 0)) := (hg.block g (blk_lt h.blk) (hne g _ _ h.blk (by decide))).trans h.blk
  have hset : ∀ (k : Nat) (q : TypeId) (cs : Array Value), w1.heap[k]? = some (.cells cs q (0, 0)) → q ≠ 79 → ∀ u o, (w1.setCell ⟨gF, o, none⟩ u).heap[k]? = w1.heap[k]? := fun k q cs hk hq u o => Below.heap_setCell _ _ _ _ (type_ne hk hgF hq)
  refine ⟨(hset g _ _ hk1 (by decide) _ _).trans hk1, ⟨?_, fun y hy => ?_, ?_⟩, ?_, ?_, ?_, h.ap⟩
  · rcases hrow1 with ⟨h0, _⟩ | ⟨g', c', he, hb', hc', hrw⟩
    · cases h0
    · injection he with he1 he2 he3
      injection he1 with he1
      injection he1 with he1
      subst he1
      refine .inr ⟨gF, c', by rw [List.length_map, List.length_set]; rw [List.length_map] at he2; rw [he2, he3], hb', hc', ?_⟩
      have := hrw.put k 1 (rowF x) v' (by rw [List.getElem?_map, hx]; rfl) (by omega)
      rw [List.map_set]
      exact this
  · obtain ⟨j, hj⟩ := List.mem_iff_getElem?.1 hy
    rw [List.getElem?_set] at hj
    by_cases e : k = j
    · rw [if_pos e] at hj
      split at hj
      · injection hj with hj
        subst hj
        exact RB_set hr hgF (by decide)
      · cases hj
    · rw [if_neg e] at hj
      have hy' := List.mem_of_getElem? hj
      refine RB_step (h.oF.own y hy') (fun b hb2 => ?_)
      have hby := own_lt (h.oF.own y hy') b hb2
      obtain ⟨cs, h3⟩ := own_typed (h.oF.own y hy') b hb2
      have h4 := hg.block b hby (fun e2 => nodup_apart h.oF.apart (fun e3 => e e3.symm) hj hx hb2 e2.symm)
      exact (hset b _ cs (h4.trans h3) (by decide) _ _).trans h4
  · exact nodup_set h.oF.apart hx hb (fun z hz b hb2 => own_lt (h.oF.own z hz) b hb2)
  · rw [List.map_set, h.fs]
  · exact RN_step h.rN (fun k hk => by obtain ⟨_, h2, cs, h3⟩ := RN_block h.rN k hk; have h4 := hg.block k h2 (hne k _ cs h3 (by decide)); exact (hset k _ cs (h4.trans h3) (by decide) _ _).trans h4)
  · exact RN_step h.rS (fun k hk => by obtain ⟨_, h2, cs, h3⟩ := RN_block h.rS k hk; have h4 := hg.block k h2 (hne k _ cs h3 (by decide)); exact (hset k _ cs (h4.trans h3) (by decide) _ _).trans h4)
theorem Own.setSync {w : World} {base g gF lf cf k : Nat} {s : St} {vN vS : Value} {L : List (Fl × Value)} {x : Fl × Value} (n : Int) (h : Own w base g s (.slice (some ⟨gF, 0, none⟩) lf cf) vN vS L) (hx : L[k]? = some x) :
    Own (w.setCell ⟨gF, k * 3 + 2, none⟩ (.int .i64 n)) base g { s with files := s.files.set k { x.1 with sync := n } } (.slice (some ⟨gF, 0, none⟩) lf cf) vN vS (L.set k ({ x.1 with sync := n }, x.2)) := by
  have hxm := List.mem_of_getElem? hx
  obtain ⟨_, _, csF, hgF⟩ := h.oF.row.block gF (by simp [Value.ownBlock])
  have hset : ∀ (k : Nat) (q : TypeId) (cs : Array Value), w.heap[k]? = some (.cells cs q (0, 0)) → q ≠ 79 → ∀ u o, (w.setCell ⟨gF, o, none⟩ u).heap[k]? = w.heap[k]? := fun k q cs hk hq u o => Below.heap_setCell _ _ _ _ (type_ne hk hgF hq)
  refine ⟨(hset g _ _ h.blk (by decide) _ _).trans h.blk, ⟨?_, fun y hy => ?_, nodup_set (B := w.heap.size) h.oF.apart hx (.inl rfl) (fun z hz b hb2 => own_lt (h.oF.own z hz) b hb2)⟩, ?_, ?_, ?_, h.ap⟩
  · rcases h.oF.row with ⟨h0, _⟩ | ⟨g', c', he, hb', hc', hrw⟩
    · cases h0
    · injection he with he1 he2 he3
      injection he1 with he1
      injection he1 with he1
      subst he1
      refine .inr ⟨gF, c', by rw [List.length_map, List.length_set]; rw [List.length_map] at he2; rw [he2, he3], hb', hc', ?_⟩
      have := hrw.put k 2 (rowF x) (.int .i64 n) (by rw [List.getElem?_map, hx]; rfl) (by omega)
      rw [List.map_set]
      exact this
  · obtain ⟨j, hj⟩ := List.mem_iff_getElem?.1 hy
    rw [List.getElem?_set] at hj
    by_cases e : k = j
    · rw [if_pos e] at hj
      split at hj
      · injection hj with hj
        subst hj
        exact RB_set (h.oF.own x hxm) hgF (by decide)
      · cases hj
    · rw [if_neg e] at hj
      exact RB_set (h.oF.own y (List.mem_of_getElem? hj)) hgF (by decide)
  · rw [List.map_set, h.fs]
  · exact RN_step h.rN (fun k hk => by obtain ⟨_, h2, cs, h3⟩ := RN_block h.rN k hk; exact hset k _ cs h3 (by decide) _ _)
  · exact RN_step h.rS (fun k hk => by obtain ⟨_, h2, cs, h3⟩ := RN_block h.rS k hk; exact hset k _ cs h3 (by decide) _ _)
end Go.Proofs.Ytfakfgblaakgdaa.Files

/- (*files.State).act: walked. -/
namespace Go.Proofs.Ytfakfgblaakgdaa.Files
set_option linter.unusedVariables false
set_option linter.unusedSimpArgs false
open Go.RowKit Go.Proofs.YtfakfgblaakgdaaW.PrintWords Go.Proofs.YtfakfgblaakgdaaW.PrintLast Go.Proofs.Ytfakfgblaakgdaa.Base Go.Proofs.Ytfakfgblaakgdaa.Cells Go.Proofs.Ytfakfgblaakgdaa.Ints Go.Proofs.Ytfakfgblaakgdaa.Var Go.Proofs.Ytfakfgblaakgdaa.EditPure Go.Proofs.Ytfakfgblaakgdaa.Edit Go.Proofs.Ytfakfgblaakgdaa.Sets Go.Proofs.Ytfakfgblaakgdaa.Wide Go.Proofs.Ytfakfgblaakgdaa.RowsC

theorem findN_none {l : List Nm} {s : ByteArray} (h : hasN l s = false) : findN l s = none := by
  rw [findN, List.find?_eq_none]
  intro x hx
  rw [hasN, List.any_eq_false] at h
  exact h x hx
theorem findN_at {l : List Nm} {s : ByteArray} {r : Nat} {y : Nm} (ha : AscN l) (h : PlaceN l s r) (hy : l[r]? = some y) (hs : y.name = s) : findN l s = some y := by
  rw [findN]
  have hsp : l = l.take r ++ y :: l.drop (r + 1) := by
    have : l.drop r = y :: l.drop (r + 1) := by
      obtain ⟨hl, he⟩ := List.getElem?_eq_some_iff.1 hy
      rw [List.drop_eq_getElem_cons hl, he]
    rw [← this, List.take_append_drop]
  have h0 : (l.take r).find? (fun n => sameB n.name s) = none := by
    rw [List.find?_eq_none]
    intro x hx
    rw [take_place h] at hx
    rw [sameB_not.2 (sLt_ne (List.mem_filter.1 hx).2)]; decide
  rw [hsp, List.find?_append, h0, Option.none_or, List.find?_cons, sameB_iff.2 hs]

set_option maxRecDepth 100000 in
set_option maxHeartbeats 8000000 in
theorem act_own (s : St) (a : Ac) (D : Option Addr) (dc base g : Nat) (vF vN vS : Value) (L : List (Fl × Value)) (w : World) (h : Own w base g s vF vN vS L) (hbw : base ≤ w.heap.size) (hf : Fit s) (hr : ReadsInt w .u8 D a.data.length a.data) (hda : a.data.length ≤ 1048576) (hw : 2 ≤ a.what ∧ a.what ≤ 5) (hid : ∀ n ∈ s.names, hasId s.files n.id = true) :
    Calls Try.prog 73 #[.pointer (some ⟨g, 0, none⟩), acV a D dc] w fun e w' => e = .returned (.int .i64 (actP s a).1) ∧ Mine w' base g (actP s a).2 ∧ Bel g base w w' := by
  obtain ⟨F, fc, N, nc, S, sc, rfl, rfl, rfl, hhd⟩ := h.forms
  have HO := Aside0.mk h
  have HH := Aside0.mk hhd
  have HF := Aside0.mk hf
  have HR := Aside0.mk hr
  have HID := Aside0.mk hid
  obtain ⟨ln, hlnn⟩ : ∃ n, s.names.length = n := ⟨_, rfl⟩
  obtain ⟨lf, hlff⟩ : ∃ n, s.files.length = n := ⟨_, rfl⟩
  have LN := Aside0.mk hlnn
  have LF := Aside0.mk hlff
  have hlf := hf.lf
  have hln := hf.ln
  have hc0 := hf.c0
  have hc1 := hf.c1
  rw [hlff] at hlf
  rw [hlnn] at hln
  obtain ⟨cp, hcp⟩ := named (actP s a)
  rw [← hcp.out]
  obtain ⟨wh, nm, de, da⟩ := a
  change 2 ≤ wh ∧ wh ≤ 5 at hw
  change da.length ≤ 1048576 at hda
  obtain ⟨ld, hldd⟩ : ∃ n, da.length = n := ⟨_, rfl⟩
  have LD := Aside0.mk hldd
  clear h hhd hf hlnn hlff hr hid
  unfold acV
  dsimp only
  rw [hldd] at hda ⊢
  clear hldd
  go_enter Try.func73, Try.ntmps73
  go_upto_region 1 with (fail)
  obtain ⟨W0, hW0⟩ : ∃ W, W = w.alloc (.cells #[.int .i64 wh, .string nm, .string de, .slice D ld dc] 64) := ⟨_, rfl⟩
  have hk3 : W0.heap[w.heap.size]? = some (.cells #[.int .i64 wh, .string nm, .string de, .slice D ld dc] 64 (0, 0)) := by rw [hW0]; exact blk_new _ _
  have HB0 : Aside0 (Below w.heap.size w W0) := ⟨by rw [hW0]; exact below_alloc (Below.refl _ _) _⟩
  rw [← hW0]
  clear hW0
  have HK3 := Aside0.mk hk3
  have HO0 := Aside0.mk (HO.out.below HB0.out)
  clear hk3
  have FJ := Aside0.mk (fun (w' : World) (b : Below W0.heap.size W0 w') => all5 (blk_keep HO0.out.blk b))
  have FK := Aside0.mk (fun (w' : World) (b : Below W0.heap.size W0 w') => all4 (blk_keep HK3.out b))
  obtain ⟨has, hhas⟩ := named (hasN s.names nm)
  go_cut [5, 6] (fun v5 v6 wc => v6 = .bool has ∧ ∃ r : Int, v5 = .int .i64 r ∧ 0 ≤ r ∧ Aside0 (PlaceN s.names nm r.toNat ∧ Below W0.heap.size W0 wc))
  case first =>
    have HD : Aside0 (Below W0.heap.size W0 W0.drew) := ⟨below_drew (Below.refl _ _)⟩
    obtain ⟨_, _, d2, _, _, _, _, _, _, _⟩ := FJ.out W0.drew HD.out
    obtain ⟨_, q1, _, _, _, _, _, _⟩ := FK.out W0.drew HD.out
    rw [LN.out] at d2
    have CC : Aside0 (Calls Try.prog 49 #[.slice N ln nc, .string nm] W0.drew fun e w' => ∃ r : Int, e = .returned (.tuple #[.int .i64 r, .bool has]) ∧ 0 ≤ r ∧ PlaceN s.names nm r.toNat ∧ Below W0.heap.size W0 w') := ⟨by
      have := find_any N nc s.names nm W0.drew (Kd.C_below HH.out.hN (bthen HB0.out HD.out)) (by rw [LN.out]; omega) HF.out.an
      rw [LN.out, ← hhas.out] at this
      exact this.mono fun e w' ⟨⟨r, h1, h2, h3⟩, h4⟩ => ⟨r, h1, h2, h3, bthen HD.out h4⟩⟩
    go_region_law (go_simp; go_wp2_with (go_at_call 49; refine CC.out.mono ?_; rintro e w5 ⟨r5, rfl, hr5, hP5, hB5⟩; have HB5 := Aside0.mk (And.intro hP5 hB5); clear hB5 hP5))
    all_goals go_wp2_with fail
    all_goals go_meet
    all_goals exact ⟨rfl, r5, rfl, hr5, HB5⟩
  case rest =>
    obtain ⟨rfl, r, rfl, hr0, HC⟩ := hcut
    have HBw := Aside0.mk (bthen HB0.out HC.out.2)
    have HOc := Aside0.mk (HO.out.below HBw.out)
    have hh := hasN_place HF.out.an HC.out.1
    rw [← hhas.out] at hh
    cases hv : has with
    | false =>
      have HCP : Aside0 (cp = (71, s)) := ⟨by rw [hcp.out, actP, findN_none (by rw [← hhas.out]; exact hv)]⟩
      clear hv hh
      go_wp2
      go_ret
      exact ⟨by rw [HCP.out]; rfl, by rw [HCP.out]; exact ⟨_, _, _, L, HOc.out⟩, bel HBw.out hbw⟩
    | true =>
      rw [hv] at hh
      obtain ⟨y, hy⟩ : ∃ y, s.names[r.toNat]? = some y := by
        cases hq : s.names[r.toNat]? with
        | none => rw [hq] at hh; simp at hh
        | some y => exact ⟨y, rfl⟩
      rw [hy] at hh
      have hyn : y.name = nm := sameB_iff.1 hh.symm
      have hrl := (List.getElem?_eq_some_iff.1 hy).1
      have hrl' : r < ln := by rw [LN.out] at hrl; omega
      obtain ⟨ad, hNs, c0, c1⟩ := atNm (Kd.C_below HH.out.hN HBw.out) r.toNat y hy
      have HY := Aside0.mk (And.intro hy (And.intro hyn (findN_at HF.out.an HC.out.1 hy hyn)))
      have hyid := HID.out y (List.mem_of_getElem? hy)
      obtain ⟨k, f, hkf, hfi, hfp⟩ := fileP_at (F := F) hyid
      have hkl := (List.getElem?_eq_some_iff.1 hkf).1
      obtain ⟨gF, capF, hFv, _, _, _⟩ : ∃ g cap, Value.slice F s.files.length fc = .slice (some ⟨g, 0, none⟩) (L.map rowF).length cap ∧ base ≤ g ∧ cap ≤ 9223372036854775807 ∧ CRow 79 3 wc g cap (L.map rowF) := by
        rcases HOc.out.oF.row with ⟨_, h0⟩ | h
        · rw [List.map_eq_nil_iff] at h0
          have := HOc.out.fs
          rw [h0] at this
          rw [← this] at hkl
          simp at hkl
        · exact h
      injection hFv with hF1 _ _
      subst hF1
      have hfp2 : fileP (some ⟨gF, 0, none⟩) s.files y.id = some ⟨gF, k * 3, none⟩ := by rw [hfp]; show some (Addr.add _ _) = _; rw [add_plain]
      have HFP := Aside0.mk (And.intro hkf hfi)
      obtain ⟨_, x1, x2, _, _, _, _, _, _, _⟩ := all5 HOc.out.blk
      rw [LF.out] at x1
      rw [LN.out] at x2
      have CFile : Aside0 (Calls Try.prog 51 #[.pointer (some ⟨g, 0, none⟩), .int .i64 y.id] wc fun e w' => e = .returned (.pointer (some ⟨gF, k * 3, none⟩)) ∧ Below wc.heap.size wc w') := ⟨by
        have := file_any g (some ⟨gF, 0, none⟩) fc s.files y.id wc (by rw [LF.out]; exact x1) (Kd.C_below HH.out.hF HBw.out) (by rw [LF.out]; omega) HF.out.af
        rw [hfp2] at this
        exact this⟩
      subst hNs
      clear hh hy hyn hrl hyid hkf hfi hfp hfp2 hkl hv
      go_wp2_with fail
      refine CFile.out.mono ?_
      rintro e w6 ⟨rfl, hb6⟩
      have HB6 := Aside0.mk (bthen HC.out.2 hb6)
      have HBw6 := Aside0.mk (bthen HBw.out hb6)
      have HO6 := Aside0.mk (HO.out.below HBw6.out)
      obtain ⟨p0, p1, p2, p3, _, _, _, _⟩ := FK.out w6 HB6.out
      clear hb6 c0 c1 x1 x2 CFile
      obtain ⟨x, hx, hxf⟩ : ∃ x, L[k]? = some x ∧ x.1 = f := by
        have h1 := HFP.out.1
        rw [← HO6.out.fs, List.getElem?_map] at h1
        obtain ⟨x, h2, h3⟩ := Option.map_eq_some_iff.1 h1
        exact ⟨x, h2, h3⟩
      have hxo := HO6.out.oF.own x (List.mem_of_getElem? hx)
      obtain ⟨Df, dcf, hxv, hrd⟩ := RB_reads hxo
      obtain ⟨capG, hrow⟩ : ∃ cap, CRow 79 3 w6 gF cap (L.map rowF) := by
        rcases HO6.out.oF.row with ⟨h0, _⟩ | ⟨g', cap, he, _, _, h⟩
        · cases h0
        · injection he with he1 _ _
          injection he1 with he1
          injection he1 with he1
          subst he1
          exact ⟨cap, h⟩
      have hrx : (L.map rowF)[k]? = some (rowF x) := by rw [List.getElem?_map, hx]; rfl
      have d1 : w6.cell? ⟨gF, k * 3 + 1, none⟩ = some (.slice Df x.1.data.length dcf) := (hrow.cell k _ hrx 1 (by omega)).trans (by rw [rowF, hxv]; rfl)
      have d2 : w6.cell? ⟨gF, k * 3 + 2, none⟩ = some (.int .i64 x.1.sync) := hrow.cell k _ hrx 2 (by omega)
      have fr1 := hrow.froz (k * 3 + 1)
      have fr2 := hrow.froz (k * 3 + 2)
      have HX := Aside0.mk (And.intro hx (And.intro hxf (And.intro hxo hxv)))
      have hdl : x.1.data.length ≤ 1048576 := by rw [hxf]; exact HF.out.hd f (List.mem_of_getElem? HFP.out.1)
      obtain ⟨lx, hlx⟩ : ∃ n, x.1.data.length = n := ⟨_, rfl⟩
      have LX := Aside0.mk hlx
      rw [hlx] at d1 hdl
      have HRow := Aside0.mk hrow
      clear hx hxf hxo hxv hrow hrx hlx hrd
      rcases (show wh = 2 ∨ wh = 3 ∨ wh = 4 ∨ wh = 5 by omega) with rfl | rfl | rfl | rfl
      · obtain ⟨u, hu⟩ := named (usedF s.files)
        have HU : Aside0 (0 ≤ u ∧ u ≤ 268435456) := ⟨by
          rw [hu.out]
          have h1 : ∀ l : List Fl, (∀ f ∈ l, f.data.length ≤ 1048576) → 0 ≤ usedF l ∧ usedF l ≤ (l.length : Int) * 1048576 := by
            intro l
            induction l with
            | nil => intro _; exact ⟨by decide, by decide⟩
            | cons a l ih =>
              intro h
              obtain ⟨h2, h3⟩ := ih (fun f hf => h f (List.mem_cons_of_mem _ hf))
              have h4 := h a List.mem_cons_self
              have h5 : usedF (a :: l) = a.data.length + usedF l := by simp [usedF]
              rw [h5, List.length_cons]
              push_cast
              omega
          obtain ⟨h2, h3⟩ := h1 s.files HF.out.hd
          rw [LF.out] at h3
          omega⟩
        have hu0 := HU.out.1
        have hu1 := HU.out.2
        go_upto_region 8 with (fail)
        have CU : ∀ z : Later w6, Calls Try.prog 57 #[.pointer (some ⟨g, 0, none⟩)] (wb w6 z) fun e w' => e = .returned (.int .i64 u) ∧ Below (wb w6 z).heap.size (wb w6 z) w' := fun z => by
          obtain ⟨_, x1, _, _, _, _, _, _, _, _⟩ := all5 (blk_keep HO6.out.blk (wb_below w6 z))
          rw [hu.out]
          exact used_any g (some ⟨gF, 0, none⟩) fc s.files _ x1 (Kd.C_below HH.out.hF (bthen HBw6.out (wb_below w6 z))) (by rw [LF.out]; omega) HF.out.hd
        obtain ⟨x0, _, _, _, _, _, _, _, _, _⟩ := all5 HO6.out.blk
        have X0 := wb_cell x0
        have P3 := wb_cell p3
        go_cut [46] (fun v46 wc => v46 = .bool (decide (s.cap - u < (ld : Int))) ∧ Aside0 (Below w6.heap.size w6 wc))
        case first =>
          refine wp_region_wide (by kernel_rfl) (by kernel_rfl) ?_
          repeat (go_big_quiet_step ((go_at_call 57; exact wide_of (CU _))))
          refine wpQuiet_nil ?_
          rintro w' ⟨z, rfl⟩
          go_wp2_with fail
          go_meet
          exact ⟨rfl, ⟨wb_below _ z⟩⟩
        case rest =>
          obtain ⟨rfl, HC7⟩ := hcut
          obtain ⟨W7, hW7⟩ : ∃ W, W = wc := ⟨_, rfl⟩
          rw [← hW7] at HC7 ⊢
          clear hW7 CU X0 P3 x0
          have HBw7 := Aside0.mk (bthen HBw6.out HC7.out)
          have HO7 := Aside0.mk (HO6.out.below HC7.out)
          obtain ⟨p0', p1', p2', p3', _, _, _, _⟩ := FK.out W7 (bthen HB6.out HC7.out)
          have e1 := pw_cell_below HC7.out d1
          have e2 := ((bcell HC7.out).2 gF (k * 3 + 1) HRow.out.lt).trans fr1
          clear d1 d2 fr1 fr2 p0 p1 p2 p3 p0' p1' p2'
          by_cases hfl : s.cap - u < (ld : Int)
          · have HCP : Aside0 (cp = (51, s)) := ⟨by rw [hcp.out, actP, HY.out.2.2]; dsimp only; rw [if_pos rfl, if_pos (by rw [← hu.out, LD.out]; exact hfl)]⟩
            go_wp2
            go_ret
            exact ⟨by rw [HCP.out]; rfl, by rw [HCP.out]; exact ⟨_, _, _, L, HO7.out⟩, bel HBw7.out hbw⟩
          · have HCP : Aside0 (cp = (0, { s with files := s.files.set k { x.1 with data := x.1.data ++ da } })) := ⟨by
              rw [hcp.out, actP, HY.out.2.2]
              dsimp only
              rw [if_pos rfl, if_neg (by rw [← hu.out, LD.out]; exact hfl), updF_set (fun f => { f with data := f.data ++ da }) HF.out.af HFP.out.1 HFP.out.2, HX.out.2.1]⟩
            go_upto_region 10 with (fail)
            have HRW : Aside0 ((Kd.int .u8).R 5 W7.drew base (fun _ => True) (.slice Df lx dcf) x.1.data) := ⟨by
              have h1 := RB_below (RB_below HX.out.2.2.1 HC7.out) (below_drew (Below.refl W7.heap.size W7))
              rw [HX.out.2.2.2, LX.out] at h1
              exact Kd.R_of_own h1 (fun _ _ => trivial)⟩
            have HRA : Aside0 ((Kd.int .u8).C W7.drew D ld da) := ⟨by
              have h1 := HR.out.below (bthen HBw7.out (below_drew (Below.refl W7.heap.size W7)))
              rw [LD.out] at h1
              exact Kd.C_of_reads (d := (0 : Int)) h1⟩
            have HGT : Aside0 (∀ W1, W7.drew.grownBy W1 (Value.slice Df lx dcf).ownBlock → W1.cell? ⟨gF, k * 3 + 1, none⟩ = some (.slice Df lx dcf) ∧ W1.frozen? ⟨gF, k * 3 + 1, none⟩ = false) := ⟨fun W1 hg => by
              obtain ⟨cs, h3, _⟩ := HRow.out.keep HC7.out
              have hb : W1.heap[gF]? = W7.heap[gF]? := hg.block gF (blk_lt h3) (fun e => by
                have h4 := RB_below HX.out.2.2.1 HC7.out
                rw [HX.out.2.2.2, LX.out] at h4
                obtain ⟨cs', h5⟩ := own_typed h4 gF e.symm
                exact type_ne h3 h5 (by decide) rfl)
              exact ⟨(World.cell?_of_block (a := ⟨gF, k * 3 + 1, none⟩) hb).trans e1, (World.frozen?_of_block (a := ⟨gF, k * 3 + 1, none⟩) hb).trans e2⟩⟩
            have hdw : base ≤ W7.drew.heap.size := by have := HBw7.out.size; show base ≤ W7.heap.size; omega
            have e1' : W7.drew.cell? ⟨gF, k * 3 + 1, none⟩ = some (.slice Df lx dcf) := e1
            have p3'' : W7.drew.cell? ⟨w.heap.size, 3, none⟩ = some (.slice D ld dc) := p3'
            go_region_law (refine Kd.R_append_rows_step (Kd.int .u8) (Rr := (Kd.int .u8).K W7.drew) (w0 := W7.drew) (W := W7.drew) base (by rfl) (.tmp 51) (.tmp 53) 62 5 (.int .u8 0) 1 rfl Try.underlying62 infoB rfl (by decide) (by omega) (.slice Df lx dcf) x.1.data da D ld dc (fun _ => True) (fun _ => False) rfl rfl ?aO ?aR ?aK (fun _ hk => hk.elim) (fun _ _ => trivial) ?aB ?aS ?c1 ?_; (case aO => exact HRW.out); (case aR => exact HRA.out); (case aK => intro x cs hx; exact hx); (case aB => exact Below.refl _ _); (case aS => exact hdw); (case c1 => rw [LX.out]; omega); intro v1 w1 hown hB1 hg1 hat; obtain ⟨A2, c2, hv1⟩ := Kd.R_slice hown; subst hv1; obtain ⟨b1, fb1⟩ := HGT.out _ hg1; have HO2 := Aside0.mk hown; have HG2 := Aside0.mk (And.intro hg1 hat); clear hown hB1 hg1 hat)
            all_goals go_wp2
            all_goals go_ret
            all_goals
              have hrb : RB w1 base (.slice A2 (x.1.data ++ da).length c2) (x.1.data ++ da) := Kd.own_of_R HO2.out
              have hgx : W7.grownBy w1 x.2.ownBlock := by rw [HX.out.2.2.2, LX.out]; exact grown_trans (grown_drew (grown_refl W7 _)) HG2.out.1
              have hat : (Value.slice A2 (x.1.data ++ da).length c2).ownBlock = x.2.ownBlock ∨ ∃ b, (Value.slice A2 (x.1.data ++ da).length c2).ownBlock = some b ∧ W7.heap.size ≤ b := by rw [HX.out.2.2.2, LX.out]; exact HG2.out.2
              have hown := Own.setData HO7.out HX.out.1 hgx hrb hat
              have hbx := ((bel (g := g) HBw7.out hbw).grown hgx (by have := HBw7.out.size; omega) (fun b hb => own_base HX.out.2.2.1 b hb)).setB (p := ⟨gF, k * 3 + 1, none⟩) (HO7.out.oF.row.block gF (by simp [Value.ownBlock])).1 (.slice A2 (x.1.data ++ da).length c2)
              rw [List.length_append] at hown hbx
              exact ⟨by rw [HCP.out]; rfl, by rw [HCP.out]; exact ⟨_, _, _, _, hown⟩, hbx⟩
      · have HCP : Aside0 (cp = (0, { s with files := s.files.set k { x.1 with sync := x.1.data.length } })) := ⟨by
          rw [hcp.out, actP, HY.out.2.2]
          dsimp only
          rw [if_neg (by decide), if_pos rfl, updF_set (fun f => { f with sync := f.data.length }) HF.out.af HFP.out.1 HFP.out.2, HX.out.2.1]⟩
        go_wp2
        go_ret
        exact ⟨by rw [HCP.out]; rfl, by rw [HCP.out, LX.out]; exact ⟨_, _, _, _, HO6.out.setSync lx HX.out.1⟩, (bel HBw6.out hbw).setB (HO6.out.oF.row.block gF (by simp [Value.ownBlock])).1 _⟩
      · obtain ⟨my, hmy⟩ := named (mayF de)
        have CM : ∀ W, Calls Try.prog 82 #[.string de] W fun e w' => e = .returned (.bool my) ∧ Below W.heap.size W w' := fun W => by rw [hmy.out]; exact may_any de W
        go_wp2_with fail
        refine (CM _).mono ?_
        rintro e w7 ⟨rfl, hb7⟩
        have HB7 := Aside0.mk (bthen HB6.out hb7)
        have HBw7 := Aside0.mk (bthen HBw6.out hb7)
        have HO7 := Aside0.mk (HO6.out.below hb7)
        clear hb7 CM
        cases hm : my with
        | false =>
          have HCP : Aside0 (cp = (31, s)) := ⟨by rw [hcp.out, actP, HY.out.2.2]; dsimp only; rw [if_neg (by decide), if_neg (by decide), if_pos rfl, if_pos (by rw [← hmy.out]; exact hm)]⟩
          clear hm
          go_wp2
          go_ret
          exact ⟨by rw [HCP.out]; rfl, by rw [HCP.out]; exact ⟨_, _, _, L, HO7.out⟩, bel HBw7.out hbw⟩
        | true =>
          have HCP : Aside0 (cp = (0, { s with names := giveN (withoutN s.names nm) ⟨de, y.id⟩ })) := ⟨by rw [hcp.out, actP, HY.out.2.2]; dsimp only; rw [if_neg (by decide), if_neg (by decide), if_pos rfl, if_neg (by rw [← hmy.out, hm]; decide)]⟩
          clear hm
          obtain ⟨_, _, x2, _, _, _, _, _, _, _⟩ := all5 HO7.out.blk
          rw [LN.out] at x2
          have hrr : (r.toNat : Int) = r := by omega
          have CDel : Aside0 (Calls Try.prog 85 #[.slice (some ad) ln nc, .int .i64 r, .int .i64 (r + 1)] w7 fun e w' => ∃ A n c, e = .returned (.slice A n c) ∧ RN w' base (.slice A n c) (withoutN s.names nm) ∧ w7.grownBy w' (Value.slice (some ad) s.names.length nc).ownBlock ∧ (Value.slice A n c).ownBlock = (Value.slice (some ad) s.names.length nc).ownBlock) := ⟨by
            have hc := delRN_any base (.slice (some ad) s.names.length nc) s.names r.toNat w7 HO7.out.rN (by rw [LN.out]; omega) (by rw [LN.out]; omega)
            rw [hrr, erase_there HF.out.an HC.out.1 HY.out.1 HY.out.2.1, LN.out] at hc
            rw [LN.out]
            exact hc.mono fun e w' ⟨A, n, c, h1, _, h2, h3, h4⟩ => ⟨A, n, c, h1, h2, h3, h4⟩⟩
          go_wp2_with fail
          refine CDel.out.mono ?_
          rintro e w8 ⟨A8, n8, c8, rfl, hn8, hg8, hb8⟩
          have H8 := Aside0.mk (And.intro hn8 (And.intro hg8 hb8))
          have hk8 : w8.heap[g]? = some (.cells #[.int .i64 s.cap, .slice (some ⟨gF, 0, none⟩) s.files.length fc, .slice (some ad) s.names.length nc, .slice S s.safe.length sc, .int .i64 s.next] 33 (0, 0)) :=
            (hg8.block g (blk_lt HO7.out.blk) (fun e => by obtain ⟨_, _, cs, h3⟩ := RN_block HO7.out.rN g e.symm; exact type_ne HO7.out.blk h3 (by decide) rfl)).trans HO7.out.blk
          obtain ⟨_, _, z2, _, _, _, _, f2, _, _⟩ := all5 hk8
          have hact := blk_keep HK3.out HB7.out
          have hgact : g ≠ w.heap.size := type_ne HO0.out.blk HK3.out (by decide)
          have hact8 : w8.heap[w.heap.size]? = some (.cells #[.int .i64 4, .string nm, .string de, .slice D ld dc] 64 (0, 0)) :=
            (hg8.block w.heap.size (blk_lt hact) (fun e => by obtain ⟨_, _, cs, h3⟩ := RN_block HO7.out.rN _ e.symm; exact type_ne hact h3 (by decide) rfl)).trans hact
          have HA8 := Aside0.mk (And.intro hact8 hgact)
          clear hn8 hg8 hb8 hk8 x2 CDel hact hact8 hgact
          go_upto_region 17 with (fail)
          obtain ⟨W9, hW9⟩ : ∃ W, W = w8.setCell ⟨g, 2, none⟩ (.slice A8 n8 c8) := ⟨_, rfl⟩
          have HO9 := Aside0.mk (Own.setNames HO7.out H8.out.2.1 H8.out.1 (.inl H8.out.2.2))
          have HB9 := Aside0.mk (below_setNames (.slice A8 n8 c8) HO7.out (bel HBw7.out hbw) (by have := HBw7.out.size; omega) H8.out.2.1)
          have hact9 : W9.heap[w.heap.size]? = some (.cells #[.int .i64 4, .string nm, .string de, .slice D ld dc] 64 (0, 0)) := by rw [hW9, Below.heap_setCell _ _ _ _ (fun e => HA8.out.2 e.symm)]; exact HA8.out.1
          rw [← hW9] at HO9 HB9
          rw [← hW9]
          obtain ⟨_, _, r2, _, _, _, _, _⟩ := all4 hact9
          clear hW9 hact9 z2 f2
          go_wp2_with fail
          refine (give_own { s with names := withoutN s.names nm } base g de y.id _ _ _ L W9 HO9.out (by have := HB9.out.size; omega) (Nat.le_trans (List.length_filter_le _ _) (by rw [LN.out]; omega)) (List.Pairwise.sublist List.filter_sublist HF.out.an)).mono ?_
          rintro e w10 ⟨rfl, hM, hB⟩
          have HM := Aside0.mk (And.intro hM hB)
          clear hM hB
          go_wp2
          go_ret
          exact ⟨by rw [HCP.out]; rfl, by rw [HCP.out]; exact HM.out.1, HB9.out.trans HM.out.2⟩
      · have HCP : Aside0 (cp = (0, { s with names := withoutN s.names nm })) := ⟨by rw [hcp.out, actP, HY.out.2.2]; dsimp only; rw [if_neg (by decide), if_neg (by decide), if_neg (by decide)]⟩
        obtain ⟨_, _, x2, _, _, _, _, _, _, _⟩ := all5 HO6.out.blk
        rw [LN.out] at x2
        have hrr : (r.toNat : Int) = r := by omega
        have CDel : Aside0 (Calls Try.prog 85 #[.slice (some ad) ln nc, .int .i64 r, .int .i64 (r + 1)] w6 fun e w' => ∃ A n c, e = .returned (.slice A n c) ∧ RN w' base (.slice A n c) (withoutN s.names nm) ∧ w6.grownBy w' (Value.slice (some ad) s.names.length nc).ownBlock ∧ (Value.slice A n c).ownBlock = (Value.slice (some ad) s.names.length nc).ownBlock) := ⟨by
          have hc := delRN_any base (.slice (some ad) s.names.length nc) s.names r.toNat w6 HO6.out.rN (by rw [LN.out]; omega) (by rw [LN.out]; omega)
          rw [hrr, erase_there HF.out.an HC.out.1 HY.out.1 HY.out.2.1, LN.out] at hc
          rw [LN.out]
          exact hc.mono fun e w' ⟨A, n, c, h1, _, h2, h3, h4⟩ => ⟨A, n, c, h1, h2, h3, h4⟩⟩
        go_wp2_with fail
        refine CDel.out.mono ?_
        rintro e w7 ⟨A7, n7, c7, rfl, hn7, hg7, hb7⟩
        have H7 := Aside0.mk (And.intro hn7 (And.intro hg7 hb7))
        have hk7 : w7.heap[g]? = some (.cells #[.int .i64 s.cap, .slice (some ⟨gF, 0, none⟩) s.files.length fc, .slice (some ad) s.names.length nc, .slice S s.safe.length sc, .int .i64 s.next] 33 (0, 0)) :=
          (hg7.block g (blk_lt HO6.out.blk) (fun e => by obtain ⟨_, _, cs, h3⟩ := RN_block HO6.out.rN g e.symm; exact type_ne HO6.out.blk h3 (by decide) rfl)).trans HO6.out.blk
        obtain ⟨_, _, z2, _, _, _, _, f2, _, _⟩ := all5 hk7
        clear hn7 hg7 hb7 hk7 x2 CDel
        go_wp2
        go_ret
        exact ⟨by rw [HCP.out]; rfl, by rw [HCP.out]; exact ⟨_, _, _, _, Own.setNames HO6.out H7.out.2.1 H7.out.1 (.inl H7.out.2.2)⟩, below_setNames _ HO6.out (bel HBw6.out hbw) (by have := HBw6.out.size; omega) H7.out.2.1⟩
end Go.Proofs.Ytfakfgblaakgdaa.Files

/- (*files.State).do: walked. -/
namespace Go.Proofs.Ytfakfgblaakgdaa.Files
set_option linter.unusedVariables false
set_option linter.unusedSimpArgs false
open Go.RowKit Go.Proofs.YtfakfgblaakgdaaW.PrintWords Go.Proofs.YtfakfgblaakgdaaW.PrintLast Go.Proofs.Ytfakfgblaakgdaa.Base Go.Proofs.Ytfakfgblaakgdaa.Cells Go.Proofs.Ytfakfgblaakgdaa.Ints Go.Proofs.Ytfakfgblaakgdaa.Var Go.Proofs.Ytfakfgblaakgdaa.EditPure Go.Proofs.Ytfakfgblaakgdaa.Edit Go.Proofs.Ytfakfgblaakgdaa.Sets Go.Proofs.Ytfakfgblaakgdaa.Wide Go.Proofs.Ytfakfgblaakgdaa.RowsC

theorem findN_mem {l : List Nm} {s : ByteArray} {n : Nm} (h : findN l s = some n) : n ∈ l ∧ n.name = s := ⟨List.mem_of_find?_eq_some h, by have := List.find?_some h; exact sameB_iff.1 this⟩
theorem giveN_mem {l : List Nm} {x n : Nm} (h : n ∈ giveN l x) : n ∈ l ∨ n = x := by
  rcases List.mem_append.1 h with h | h
  · exact .inl (List.mem_filter.1 h).1
  · rcases List.mem_cons.1 h with h | h
    · exact .inr h
    · exact .inl (List.mem_filter.1 h).1
theorem giveN_len (l : List Nm) (x : Nm) : (giveN l x).length ≤ 2 * l.length + 1 := by
  rw [giveN, List.length_append, List.length_cons]
  have h1 := List.length_filter_le (fun n : Nm => sLt n.name x.name) l
  have h2 := List.length_filter_le (fun n : Nm => sLt x.name n.name) l
  omega
/-- what a sweep asks of the state that an act leaves -/
theorem actP_fit {s : St} (hf : Fit s) (a : Ac) : (actP s a).2.files.length ≤ 1048576 ∧ (actP s a).2.names.length ≤ 524288 ∧ (actP s a).2.safe.length ≤ 524288 ∧ Wf (actP s a).2 ∧ ∀ f ∈ (actP s a).2.files, inI64 f.id := by
  have h0 : s.files.length ≤ 1048576 ∧ s.names.length ≤ 524288 ∧ s.safe.length ≤ 524288 ∧ Wf s ∧ ∀ f ∈ s.files, inI64 f.id := ⟨by have := hf.lf; omega, by have := hf.ln; omega, by have := hf.ls; omega, hf.wf, hf.wi⟩
  have hup : ∀ (id : Int) (g : Fl → Fl), (∀ f, (g f).id = f.id) → ∀ f ∈ updF s.files id g, inI64 f.id := fun id g hg f hm => by
    obtain ⟨f0, h1, rfl⟩ := List.mem_map.1 hm
    split
    · rw [hg]; exact hf.wi f0 h1
    · exact hf.wi f0 h1
  unfold actP
  cases hq : findN s.names a.name with
  | none => exact h0
  | some n =>
    obtain ⟨hn, _⟩ := findN_mem hq
    dsimp only
    split
    · split
      · exact h0
      · exact ⟨by rw [updF, List.length_map]; exact h0.1, h0.2.1, h0.2.2.1, ⟨hf.wf.wn, hf.wf.ws⟩, hup _ _ (fun _ => rfl)⟩
    · split
      · exact ⟨by rw [updF, List.length_map]; exact h0.1, h0.2.1, h0.2.2.1, ⟨hf.wf.wn, hf.wf.ws⟩, hup _ _ (fun _ => rfl)⟩
      · split
        · split
          · exact h0
          · refine ⟨h0.1, ?_, h0.2.2.1, ⟨fun m hm => ?_, hf.wf.ws⟩, hf.wi⟩
            · have h1 := giveN_len (withoutN s.names a.name) ⟨a.dest, n.id⟩
              have h2 := List.length_filter_le (fun n : Nm => !sameB n.name a.name) s.names
              have := hf.ln
              show (giveN (withoutN s.names a.name) ⟨a.dest, n.id⟩).length ≤ _
              unfold withoutN at h1 ⊢
              omega
            · rcases giveN_mem hm with hm | rfl
              · exact hf.wf.wn m (List.mem_filter.1 hm).1
              · exact hf.wf.wn n hn
        · exact ⟨h0.1, Nat.le_trans (List.length_filter_le _ _) h0.2.1, h0.2.2.1, ⟨fun m hm => hf.wf.wn m (List.mem_filter.1 hm).1, hf.wf.ws⟩, hf.wi⟩
theorem Own.setSafe {w : World} {base g : Nat} {s : St} {vF vN vS v' : Value} {L : List (Fl × Value)} {l : List Nm} (h : Own w base g s vF vN vS L) (hr : RN w base v' l) (ha : ∀ k, vN.ownBlock = some k → v'.ownBlock ≠ some k) :
    Own (w.setCell ⟨g, 3, none⟩ v') base g { s with safe := l } vF vN v' L :=
  ⟨blk_put h.blk 3 _ rfl, h.oF.step (fun k hk => Below.heap_setCell _ _ _ _ (by obtain ⟨_, _, cs, h3⟩ := h.oF.row.block k hk; exact type_ne h3 h.blk (by decide))) (fun x hx k hk => Below.heap_setCell _ _ _ _ (by obtain ⟨cs, h3⟩ := own_typed (h.oF.own x hx) k hk; exact type_ne h3 h.blk (by decide))), h.fs,
    RN_step h.rN (fun k hk => Below.heap_setCell _ _ _ _ (by obtain ⟨_, _, cs, h3⟩ := RN_block h.rN k hk; exact type_ne h3 h.blk (by decide))), RN_step hr (fun k hk => Below.heap_setCell _ _ _ _ (by obtain ⟨_, _, cs, h3⟩ := RN_block hr k hk; exact type_ne h3 h.blk (by decide))), ha⟩

set_option maxRecDepth 100000 in
set_option maxHeartbeats 8000000 in
theorem do_own (s : St) (a : Ac) (D : Option Addr) (dc base g : Nat) (vF vN vS : Value) (L : List (Fl × Value)) (w : World) (h : Own w base g s vF vN vS L) (hbw : base ≤ w.heap.size) (hf : Fit s) (hr : ReadsInt w .u8 D a.data.length a.data) (hda : a.data.length ≤ 1048576) (hid : ∀ n ∈ s.names, hasId s.files n.id = true) :
    Calls Try.prog 45 #[.pointer (some ⟨g, 0, none⟩), acV a D dc] w fun e w' => e = .returned (.int .i64 (doP s a).1) ∧ Mine w' base g (doP s a).2 ∧ Bel g base w w' := by
  have HO := Aside0.mk h
  have HF := Aside0.mk hf
  have HR := Aside0.mk hr
  have HID := Aside0.mk hid
  obtain ⟨dp, hdp⟩ := named (doP s a)
  rw [← hdp.out]
  obtain ⟨wh, hwh⟩ : ∃ n, a.what = n := ⟨_, rfl⟩
  obtain ⟨ld, hldd⟩ : ∃ n, a.data.length = n := ⟨_, rfl⟩
  have HW := Aside0.mk hwh
  have LD := Aside0.mk hldd
  have CA : Aside0 (acV a D dc = .agg #[.int .i64 wh, .string a.name, .string a.dest, .slice D ld dc]) := ⟨by rw [acV, hwh, hldd]⟩
  rw [CA.out]
  rw [hldd] at hda
  clear h hf hr hid hwh hldd
  have kb := blk_new w (Obj.cells #[.int .i64 wh, .string a.name, .string a.dest, .slice D ld dc] 64)
  obtain ⟨W0, hW0⟩ : ∃ W, W = w.alloc (.cells #[.int .i64 wh, .string a.name, .string a.dest, .slice D ld dc] 64) := ⟨_, rfl⟩
  have HB0 : Aside0 (Below w.heap.size w W0) := ⟨by rw [hW0]; exact below_alloc (Below.refl _ _) _⟩
  rw [← hW0] at kb
  have HK := Aside0.mk kb
  have HW0 := Aside0.mk hW0
  have HO0 := Aside0.mk (HO.out.below HB0.out)
  have hb0 : base ≤ W0.heap.size := by have := HB0.out.size; omega
  have HR0 := Aside0.mk (HR.out.below HB0.out)
  clear kb hW0
  by_cases h0 : wh < 1 ∨ 6 < wh
  · have HDP : Aside0 (dp = (22, s)) := ⟨by rw [hdp.out, doP, if_pos (by rw [HW.out]; exact h0)]⟩
    rcases h0 with h0 | h0
    · go_enter Try.func45, Try.ntmps45
      go_wp2
      all_goals go_ret
      all_goals exact ⟨by rw [HDP.out]; rfl, by rw [HDP.out]; exact ⟨_, _, _, L, by rw [← HW0.out]; exact HO0.out⟩, by rw [← HW0.out]; exact bel HB0.out hbw⟩
    · have h1 : ¬ (wh < 1) := by omega
      go_enter Try.func45, Try.ntmps45
      go_wp2
      all_goals go_ret
      all_goals exact ⟨by rw [HDP.out]; rfl, by rw [HDP.out]; exact ⟨_, _, _, L, by rw [← HW0.out]; exact HO0.out⟩, by rw [← HW0.out]; exact bel HB0.out hbw⟩
  · have h1 : ¬ (wh < 1) := by omega
    have h2 : ¬ (6 < wh) := by omega
    by_cases hc : wh = 1
    · subst hc
      have HDP : Aside0 (dp = createP s a) := ⟨by rw [hdp.out, doP, if_neg (by rw [HW.out]; exact h0), if_pos HW.out]⟩
      clear h0 h1 h2
      go_enter Try.func45, Try.ntmps45
      go_wp2_with fail
      rw [← HW0.out]
      have hcc := create_own s a D dc base g vF vN vS L W0 HO0.out hb0 HF.out
      rw [CA.out] at hcc
      refine hcc.mono ?_
      rintro e w1 ⟨rfl, hM, hB⟩
      have HM := Aside0.mk (And.intro hM hB)
      clear hcc hM hB
      go_wp2
      go_ret
      exact ⟨by rw [HDP.out]; rfl, by rw [HDP.out]; exact HM.out.1, (bel HB0.out hbw).trans HM.out.2⟩
    · by_cases h6 : wh = 6
      · subst h6
        have HDP : Aside0 (dp = (0, sweepP { s with safe := s.names })) := ⟨by rw [hdp.out, doP, if_neg (by rw [HW.out]; exact h0), if_neg (by rw [HW.out]; exact hc), if_pos HW.out]⟩
        clear h0 h1 h2 hc
        obtain ⟨F, fc, N, nc, S, sc, rfl, rfl, rfl, hhd⟩ := HO0.out.forms
        obtain ⟨_, _, x2, _, _, _, _, _, _, _⟩ := all5 HO0.out.blk
        have HH := Aside0.mk hhd
        obtain ⟨ln, hlnn⟩ : ∃ n, s.names.length = n := ⟨_, rfl⟩
        have LN := Aside0.mk hlnn
        rw [hlnn] at x2
        rw [HW0.out] at x2
        clear hhd hlnn
        go_enter Try.func45, Try.ntmps45
        go_wp2_with fail
        rw [← HW0.out]
        have hcc := cloneN_any N nc s.names W0 HH.out.hN (by have := HF.out.ln; omega)
        rw [LN.out] at hcc
        refine hcc.mono ?_
        rintro e w1 ⟨v, rfl, hv, hB⟩
        obtain ⟨Av, cv, rfl⟩ := Kd.R_slice hv
        have HV := Aside0.mk hv
        have HB1 := Aside0.mk hB
        have HO1 := Aside0.mk (HO0.out.below hB)
        obtain ⟨_, _, _, y3, _, _, _, _, f3, _⟩ := all5 HO1.out.blk
        clear hcc hv hB x2
        go_upto_region 8 with (fail)
        obtain ⟨W2, hW2⟩ : ∃ W, W = w1.setCell ⟨g, 3, none⟩ (.slice Av s.names.length cv) := ⟨_, rfl⟩
        have HO2 := Aside0.mk (HO1.out.setSafe (Kd.R_lower HV.out hb0) (fun k h1 h2 => by
          have h3 := (RN_block HO0.out.rN k h1).2.1
          have h4 := Kd.R_base HV.out k h2
          omega))
        rw [← hW2] at HO2 ⊢
        have HB2 : Aside0 (Bel g base w W2) := ⟨by rw [hW2]; exact ((bel HB0.out hbw).trans (bel HB1.out hb0)).setG _⟩
        clear hW2 y3 f3
        go_wp2_with fail
        refine (sweep_own { s with safe := s.names } base g _ _ _ L W2 HO2.out (by have := HB2.out.size; omega) (by have := HF.out.lf; show s.files.length ≤ _; omega) (by have := HF.out.ln; show s.names.length ≤ _; omega) (by have := HF.out.ln; show s.names.length ≤ _; omega) ⟨HF.out.wf.wn, HF.out.wf.wn⟩ HF.out.wi).mono ?_
        rintro e w3 ⟨rfl, hM, hB⟩
        have HM := Aside0.mk (And.intro hM hB)
        clear hM hB
        go_wp2
        go_ret
        exact ⟨by rw [HDP.out]; rfl, by rw [HDP.out]; exact HM.out.1, HB2.out.trans HM.out.2⟩
      · have HDP : Aside0 (dp = ((actP s a).1, if (actP s a).1 = 0 then sweepP (actP s a).2 else (actP s a).2)) := ⟨by rw [hdp.out, doP, if_neg (by rw [HW.out]; exact h0), if_neg (by rw [HW.out]; exact hc), if_neg (by rw [HW.out]; exact h6)]⟩
        obtain ⟨ap, hap⟩ := named (actP s a)
        have hcc := act_own s a D dc base g vF vN vS L W0 HO0.out hb0 HF.out HR0.out (by rw [LD.out]; exact hda) (by rw [HW.out]; omega) HID.out
        have hft := actP_fit HF.out a
        rw [CA.out, ← hap.out] at hcc
        rw [← hap.out] at hft HDP
        have HFT := Aside0.mk hft
        have hw1 : (wh == 1) = false := by simp [hc]
        have hw6 : (wh == 6) = false := by simp [h6]
        have CC := Aside0.mk hcc
        clear h0 hc h6 hcc hft
        go_enter Try.func45, Try.ntmps45
        go_wp2_with fail
        rw [← HW0.out]
        refine CC.out.mono ?_
        rintro e w1 ⟨rfl, hM, hB⟩
        have HM := Aside0.mk (And.intro hM hB)
        obtain ⟨ae, hae⟩ := named ap.1
        rw [← hae.out]
        clear CC hM hB
        by_cases hz : ae = 0
        · have hz' : (ae == 0) = true := by simp [hz]
          obtain ⟨vF1, vN1, vS1, L1, hO1⟩ := HM.out.1
          have HO1 := Aside0.mk hO1
          have HZ := Aside0.mk hz
          clear hO1 hz
          go_wp2_with fail
          refine (sweep_own ap.2 base g _ _ _ L1 w1 HO1.out (by have := HM.out.2.size; omega) HFT.out.1 HFT.out.2.1 HFT.out.2.2.1 HFT.out.2.2.2.1 HFT.out.2.2.2.2).mono ?_
          rintro e w3 ⟨rfl, hM, hB⟩
          have HM3 := Aside0.mk (And.intro hM hB)
          clear hM hB
          go_wp2
          go_ret
          exact ⟨by rw [HDP.out, ← hae.out]; rfl, by rw [HDP.out, ← hae.out, if_pos HZ.out]; exact HM3.out.1, ((bel HB0.out hbw).trans HM.out.2).trans HM3.out.2⟩
        · have hz' : (ae == 0) = false := by simp [hz]
          have HZ := Aside0.mk hz
          clear hz
          go_wp2
          go_ret
          exact ⟨by rw [HDP.out, ← hae.out]; rfl, by rw [HDP.out, ← hae.out, if_neg HZ.out]; exact HM.out.1, (bel HB0.out hbw).trans HM.out.2⟩
end Go.Proofs.Ytfakfgblaakgdaa.Files

/- A state that may be: what it says, plain. No program. -/
namespace Go.Proofs.Ytfakfgblaakgdaa.Files
set_option linter.unusedVariables false
set_option linter.unusedSimpArgs false
open Go.RowKit Go.Proofs.YtfakfgblaakgdaaW.PrintWords Go.Proofs.YtfakfgblaakgdaaW.PrintLast Go.Proofs.Ytfakfgblaakgdaa.Base Go.Proofs.Ytfakfgblaakgdaa.Cells Go.Proofs.Ytfakfgblaakgdaa.EditPure Go.Proofs.Ytfakfgblaakgdaa.Edit Go.Proofs.Ytfakfgblaakgdaa.Sets

theorem take_snoc {α : Type} {l : List α} {n : Nat} (h : n < l.length) : l.take (n + 1) = l.take n ++ [l[n]] := by
  rw [List.take_add_one, List.getElem?_eq_getElem h]; rfl
theorem getD_at {l : List Nm} {n : Nat} (h : n < l.length) : l.getD n zNm = l[n] := by rw [List.getD_eq_getElem?_getD, List.getElem?_eq_getElem h]; rfl
theorem getD_atF {l : List Fl} {n : Nat} (h : n < l.length) : l.getD n zFl = l[n] := by rw [List.getD_eq_getElem?_getD, List.getElem?_eq_getElem h]; rfl
theorem snoc_cases {α : Type} (T : List α) : T = [] ∨ ∃ T' p, T = T' ++ [p] := by
  rcases List.eq_nil_or_concat T with h | ⟨T', p, h⟩
  · exact .inl h
  · exact .inr ⟨T', p, by rw [h, List.concat_eq_append]⟩
/-- a list of names that may be -/
structure NmsOk (files : List Fl) (l : List Nm) : Prop where
  asc : AscN l
  each : ∀ n ∈ l, mayF n.name = true ∧ hasId files n.id = true
  apart : l.Pairwise (fun a b => a.id ≠ b.id)
theorem nmTo_iff {files : List Fl} {l : List Nm} : ∀ n, n ≤ l.length → (nmTo files l n = true ↔ NmsOk files (l.take n))
  | 0, _ => by simp only [nmTo, List.take_zero, true_iff]; exact ⟨by simp [AscN], by simp, by simp⟩
  | n + 1, hn => by
    have hl : n < l.length := by omega
    rw [nmTo, Bool.and_eq_true, nmTo_iff n (by omega), getD_at hl, take_snoc hl]
    generalize l.take n = T
    generalize l[n] = x
    simp only [nmOk, Bool.and_eq_true, Bool.not_eq_true', List.any_eq_false, beq_iff_eq]
    constructor
    · rintro ⟨⟨h1, h2, h3⟩, h4, h5, h6, h7⟩
      refine ⟨List.pairwise_append.2 ⟨h1, by simp, fun a ha b hb => ?_⟩, fun m hm => ?_, List.pairwise_append.2 ⟨h3, by simp, fun a ha b hb => ?_⟩⟩
      · rw [List.mem_singleton.1 hb]
        rcases snoc_cases T with rfl | ⟨T', p, rfl⟩
        · simp at ha
        · rw [List.getLast?_concat] at h5
          rcases List.mem_append.1 ha with ha | ha
          · exact sLt_trans ((List.pairwise_append.1 h1).2.2 a ha p (by simp)) h5
          · rw [List.mem_singleton.1 ha]; exact h5
      · rcases List.mem_append.1 hm with hm | hm
        · exact h2 m hm
        · rw [List.mem_singleton.1 hm]; exact ⟨h4, h6⟩
      · rw [List.mem_singleton.1 hb]; exact h7 a ha
    · rintro ⟨h1, h2, h3⟩
      have g1 := List.pairwise_append.1 h1
      have g3 := List.pairwise_append.1 h3
      have hx := h2 x (by simp)
      refine ⟨⟨g1.1, fun m hm => h2 m (List.mem_append_left _ hm), g3.1⟩, hx.1, ?_, hx.2, fun m hm => g3.2.2 m hm x (by simp)⟩
      rcases snoc_cases T with rfl | ⟨T', p, rfl⟩
      · rfl
      · rw [List.getLast?_concat]; exact g1.2.2 p (by simp) x (by simp)
theorem namesOk_iff {files : List Fl} {l : List Nm} : namesOk files l = true ↔ NmsOk files l := by
  rw [namesOk, nmTo_iff l.length (Nat.le_refl _), List.take_length]
/-- files that may be -/
structure FlsOk (next : Int) (l : List Fl) : Prop where
  asc : Asc l
  each : ∀ f ∈ l, (1 ≤ f.id ∧ f.id < next) ∧ 0 ≤ f.sync ∧ f.sync ≤ (f.data.length : Int)
theorem lastI_nonneg {l : List Fl} (h : ∀ f ∈ l, 1 ≤ f.id) : 0 ≤ lastI l := by
  unfold lastI
  cases hq : l.getLast? with
  | none => exact Int.le_refl _
  | some p => have := h p (List.mem_of_getLast? hq); show 0 ≤ p.id; omega
theorem flTo_iff {next : Int} {l : List Fl} : ∀ n, n ≤ l.length → (flTo next l n = true ↔ FlsOk next (l.take n))
  | 0, _ => by simp only [flTo, List.take_zero, true_iff]; exact ⟨by simp [Asc], by simp⟩
  | n + 1, hn => by
    have hl : n < l.length := by omega
    rw [flTo, Bool.and_eq_true, flTo_iff n (by omega), getD_atF hl, take_snoc hl]
    generalize l.take n = T
    generalize l[n] = x
    simp only [flOk, Bool.and_eq_true, decide_eq_true_eq]
    constructor
    · rintro ⟨⟨h1, h2⟩, h3, h4, h5, h6⟩
      have h0 := lastI_nonneg (fun f hf => (h2 f hf).1.1)
      refine ⟨List.pairwise_append.2 ⟨h1, by simp, fun a ha b hb => ?_⟩, fun m hm => ?_⟩
      · rw [List.mem_singleton.1 hb]
        rcases snoc_cases T with rfl | ⟨T', p, rfl⟩
        · simp at ha
        · rw [lastI, List.getLast?_concat] at h3
          change p.id < x.id at h3
          rcases List.mem_append.1 ha with ha | ha
          · have := (List.pairwise_append.1 h1).2.2 a ha p (by simp); omega
          · rw [List.mem_singleton.1 ha]; exact h3
      · rcases List.mem_append.1 hm with hm | hm
        · exact h2 m hm
        · rw [List.mem_singleton.1 hm]; exact ⟨⟨by omega, h4⟩, h5, h6⟩
    · rintro ⟨h1, h2⟩
      have g1 := List.pairwise_append.1 h1
      have hx := h2 x (by simp)
      refine ⟨⟨g1.1, fun m hm => h2 m (List.mem_append_left _ hm)⟩, ?_, hx.1.2, hx.2.1, hx.2.2⟩
      rcases snoc_cases T with rfl | ⟨T', p, rfl⟩
      · show (0 : Int) < x.id; have := hx.1.1; omega
      · rw [lastI, List.getLast?_concat]; exact g1.2.2 p (by simp) x (by simp)
theorem flTo_all {next : Int} {l : List Fl} : flTo next l l.length = true ↔ FlsOk next l := by
  rw [flTo_iff l.length (Nat.le_refl _), List.take_length]
/-- a state's head -/
structure HdOk (s : St) : Prop where
  c0 : 0 ≤ s.cap
  c1 : s.cap ≤ 16777216
  lf : s.files.length ≤ 256
  n0 : 1 ≤ s.next
  n1 : s.next ≤ 2147483647
  us : usedF s.files ≤ s.cap
  ln : s.names.length ≤ 256
  ls : s.safe.length ≤ 256
theorem hdB_iff {s : St} : hdB s = true ↔ HdOk s := by
  simp only [hdB, Bool.and_eq_true, decide_eq_true_eq]
  constructor
  · rintro ⟨h1, h2, h3, h4, h5, h6, h7, h8⟩
    exact ⟨h1, h2, by omega, h4, h5, h6, by omega, by omega⟩
  · rintro ⟨h1, h2, h3, h4, h5, h6, h7, h8⟩
    exact ⟨h1, h2, by omega, h4, h5, h6, by omega, by omega⟩
theorem id_bound {s : St} (h : FlsOk s.next s.files) (hn : s.next ≤ 2147483647) {x : Int} (hx : hasId s.files x = true) : inI64 x := by
  obtain ⟨f, hf, he⟩ := List.any_eq_true.1 hx
  have h1 := (h.each f hf).1
  have h2 : f.id = x := by simpa using he
  exact ⟨by omega, by omega⟩
theorem stB_parts {s : St} (h : stB s = true) : HdOk s ∧ FlsOk s.next s.files ∧ NmsOk s.files s.names ∧ NmsOk s.files s.safe := by
  simp only [stB, Bool.and_eq_true] at h
  exact ⟨hdB_iff.1 h.1, flTo_all.1 h.2.1, namesOk_iff.1 h.2.2.1, namesOk_iff.1 h.2.2.2.1⟩
theorem stB_fit {s : St} (h : stB s = true) (hd : ∀ f ∈ s.files, f.data.length ≤ 1048576) : Fit s ∧ (∀ n ∈ s.names, hasId s.files n.id = true) := by
  obtain ⟨h1, h2, h3, h4⟩ := stB_parts h
  exact ⟨⟨h1.lf, h1.ln, h1.ls, h3.asc, h2.asc, h1.n0, h1.n1, h1.c0, h1.c1, ⟨fun n hn => id_bound h2 h1.n1 (h3.each n hn).2, fun n hn => id_bound h2 h1.n1 (h4.each n hn).2⟩, fun f hf => by have := (h2.each f hf).1; have := h1.n1; exact ⟨by omega, by omega⟩, hd⟩, fun n hn => (h3.each n hn).2⟩
end Go.Proofs.Ytfakfgblaakgdaa.Files

/- files.Do: walked. -/
namespace Go.Proofs.Ytfakfgblaakgdaa.Files
set_option linter.unusedVariables false
set_option linter.unusedSimpArgs false
open Go.RowKit Go.Proofs.YtfakfgblaakgdaaW.PrintWords Go.Proofs.YtfakfgblaakgdaaW.PrintLast Go.Proofs.Ytfakfgblaakgdaa.Base Go.Proofs.Ytfakfgblaakgdaa.Cells Go.Proofs.Ytfakfgblaakgdaa.Ints Go.Proofs.Ytfakfgblaakgdaa.Var Go.Proofs.Ytfakfgblaakgdaa.EditPure Go.Proofs.Ytfakfgblaakgdaa.Edit Go.Proofs.Ytfakfgblaakgdaa.Sets Go.Proofs.Ytfakfgblaakgdaa.Wide Go.Proofs.Ytfakfgblaakgdaa.RowsC

def zSt : St := ⟨0, [], [], [], 0⟩
/-- a state's value of one's own -/
def Rs (w : World) (base : Nat) (v : Value) (s : St) : Prop := ∃ vF vN vS L, v = .agg #[.int .i64 s.cap, vF, vN, vS, .int .i64 s.next] ∧ OF 79 w base vF L ∧ L.map (·.1) = s.files ∧ RN w base vN s.names ∧ RN w base vS s.safe
theorem Rs_zero (w : World) (base : Nat) : Rs w base (.agg #[.int .i64 0, .slice none 0 0, .slice none 0 0, .slice none 0 0, .int .i64 0]) zSt :=
  ⟨.slice none 0 0, .slice none 0 0, .slice none 0 0, [], rfl, ⟨CR.nil, fun x hx => by simp at hx, by simp⟩, rfl, Kd.R_nil _ _ _ _ _, Kd.R_nil _ _ _ _ _⟩
theorem Rs.below {w w1 : World} {base : Nat} {v : Value} {s : St} (h : Rs w base v s) (hb : Below w.heap.size w w1) : Rs w1 base v s := by
  obtain ⟨vF, vN, vS, L, h1, h2, h3, h4, h5⟩ := h
  exact ⟨vF, vN, vS, L, h1, h2.below hb, h3, Kd.R_below h4 hb, Kd.R_below h5 hb⟩
theorem Rs.lower {w : World} {base base' : Nat} {v : Value} {s : St} (h : Rs w base v s) (hb : base' ≤ base) : Rs w base' v s := by
  obtain ⟨vF, vN, vS, L, h1, h2, h3, h4, h5⟩ := h
  exact ⟨vF, vN, vS, L, h1, h2.lower hb, h3, Kd.R_lower h4 hb, Kd.R_lower h5 hb⟩
theorem Rs.forms {w : World} {base : Nat} {v : Value} {s : St} (h : Rs w base v s) : ∃ F fc N nc S sc, v = .agg #[.int .i64 s.cap, .slice F s.files.length fc, .slice N s.names.length nc, .slice S s.safe.length sc, .int .i64 s.next] ∧ Hd w s F fc N nc S sc := by
  obtain ⟨vF, vN, vS, L, rfl, h2, h3, h4, h5⟩ := h
  obtain ⟨F, fc, rfl, q2, q3⟩ := h2.reads
  obtain ⟨N, nc, rfl, q5, q6⟩ := Kd.R_reads h4
  obtain ⟨S, sc, rfl, q8, q9⟩ := Kd.R_reads h5
  have hl : L.length = s.files.length := by rw [← h3, List.length_map]
  rw [hl] at q2 q3
  rw [h3] at q3
  exact ⟨F, fc, N, nc, S, sc, by rw [hl], ⟨q3, q6, q9, q2, q5, q8⟩⟩
theorem Own.rs {w : World} {base g : Nat} {s : St} {vF vN vS : Value} {L : List (Fl × Value)} (h : Own w base g s vF vN vS L) : Rs w base (.agg #[.int .i64 s.cap, vF, vN, vS, .int .i64 s.next]) s :=
  ⟨vF, vN, vS, L, rfl, h.oF, h.fs, h.rN, h.rS⟩
/-- the five stores of a state into a block of states -/
theorem Rs.far5 {w : World} {base g : Nat} {v : Value} {s : St} {cs : Array Value} (h : Rs w base v s) (hg : w.heap[g]? = some (.cells cs 33 (0, 0))) (a b c d f : Value) :
    Rs (((((w.setCell ⟨g, 0, none⟩ a).setCell ⟨g, 1, none⟩ b).setCell ⟨g, 2, none⟩ c).setCell ⟨g, 3, none⟩ d).setCell ⟨g, 4, none⟩ f) base v s := by
  obtain ⟨vF, vN, vS, L, h1, h2, h3, h4, h5⟩ := h
  exact ⟨vF, vN, vS, L, h1, h2.far5 hg (by decide) (by decide) _ _ _ _ _, h3, Rset5 h4 (apart_of hg RN_types) _ _ _ _ _, Rset5 h5 (apart_of hg RN_types) _ _ _ _ _⟩
/-- files.Do: the error's number, and the state -/
def DoP (s : St) (a : Ac) : Int × St := if stB s = false then (9, zSt) else if (doP s a).1 = 0 then (0, (doP s a).2) else ((doP s a).1, zSt)

set_option maxRecDepth 100000 in
set_option maxHeartbeats 8000000 in
theorem do_any (s : St) (a : Ac) (F N S D : Option Addr) (fc nc sc dc : Nat) (w : World) (h : Hd w s F fc N nc S sc) (hs : Small s) (hw : Wf s) (hr : ReadsInt w .u8 D a.data.length a.data) (hda : a.data.length ≤ 1048576) :
    Calls Try.prog 23 #[.agg #[.int .i64 s.cap, .slice F s.files.length fc, .slice N s.names.length nc, .slice S s.safe.length sc, .int .i64 s.next], acV a D dc] w fun e w' => ∃ v, e = .returned (.tuple #[v, .int .i64 (DoP s a).1]) ∧ Rs w' w.heap.size v (DoP s a).2 ∧ Below w.heap.size w w' := by
  have HH := Aside0.mk h
  have HS := Aside0.mk hs
  have HW := Aside0.mk hw
  have HR := Aside0.mk hr
  obtain ⟨dp, hdp⟩ := named (DoP s a)
  rw [← hdp.out]
  obtain ⟨lf, hlf⟩ : ∃ n, s.files.length = n := ⟨_, rfl⟩
  obtain ⟨ln, hln⟩ : ∃ n, s.names.length = n := ⟨_, rfl⟩
  obtain ⟨ls, hls⟩ : ∃ n, s.safe.length = n := ⟨_, rfl⟩
  obtain ⟨ld, hld⟩ : ∃ n, a.data.length = n := ⟨_, rfl⟩
  have LF := Aside0.mk hlf
  have LN := Aside0.mk hln
  have LS := Aside0.mk hls
  have LD := Aside0.mk hld
  obtain ⟨wh, hwh⟩ : ∃ n, a.what = n := ⟨_, rfl⟩
  have CA : Aside0 (acV a D dc = .agg #[.int .i64 wh, .string a.name, .string a.dest, .slice D ld dc]) := ⟨by rw [acV, hwh, hld]⟩
  rw [CA.out, hlf, hln, hls]
  rw [hld] at hda
  have CCheck : Aside0 (∀ W, Below w.heap.size w W → Calls Try.prog 28 #[.agg #[.int .i64 s.cap, .slice F lf fc, .slice N ln nc, .slice S ls sc, .int .i64 s.next]] W fun e w' => e = .returned (.int .i64 (stE s)) ∧ Below W.heap.size W w') := ⟨fun W hW => by
    have := check_any s F N S fc nc sc W (HH.out.below hW) HS.out HW.out
    rw [hlf, hln, hls] at this
    exact this⟩
  have CClone : Aside0 (∀ W, Below w.heap.size w W → Calls Try.prog 44 #[.agg #[.int .i64 s.cap, .slice F lf fc, .slice N ln nc, .slice S ls sc, .int .i64 s.next]] W fun e w' => ∃ vF vN vS L, e = .returned (.agg #[.int .i64 s.cap, vF, vN, vS, .int .i64 s.next]) ∧ OF 79 w' W.heap.size vF L ∧ L.map (·.1) = s.files ∧ RN w' W.heap.size vN s.names ∧ RN w' W.heap.size vS s.safe ∧ (∀ k, vN.ownBlock = some k → vS.ownBlock ≠ some k) ∧ Below W.heap.size W w') := ⟨fun W hW => by
    have := clone_any s F N S fc nc sc W (HH.out.below hW) HS.out
    rw [hlf, hln, hls] at this
    exact this⟩
  clear h hs hw hr hlf hln hls hld hwh
  go_enter Try.func23, Try.ntmps23
  go_upto_region 1 with (fail)
  obtain ⟨W0, hW0⟩ : ∃ W, W = ((w.alloc (.cells #[.int .i64 s.cap, .slice F lf fc, .slice N ln nc, .slice S ls sc, .int .i64 s.next] 33)).alloc (.cells #[.int .i64 wh, .string a.name, .string a.dest, .slice D ld dc] 64)).alloc (.cells #[.int .i64 0, .slice none 0 0, .slice none 0 0, .slice none 0 0, .int .i64 0] 33) := ⟨_, rfl⟩
  have hk2 : W0.heap[w.heap.size]? = some (.cells #[.int .i64 s.cap, .slice F lf fc, .slice N ln nc, .slice S ls sc, .int .i64 s.next] 33 (0, 0)) := by rw [hW0]; exact blk_alloc (blk_alloc (blk_new _ _) _) _
  have hk3 : W0.heap[w.heap.size + 1]? = some (.cells #[.int .i64 wh, .string a.name, .string a.dest, .slice D ld dc] 64 (0, 0)) := by rw [hW0]; exact blk_alloc (blk_new1 _ _ _ _) _
  have hk4 : W0.heap[w.heap.size + 2]? = some (.cells #[.int .i64 0, .slice none 0 0, .slice none 0 0, .slice none 0 0, .int .i64 0] 33 (0, 0)) := by
    rw [hW0]
    have := blk_new1 (w.alloc (.cells #[.int .i64 s.cap, .slice F lf fc, .slice N ln nc, .slice S ls sc, .int .i64 s.next] 33)) (.cells #[.int .i64 wh, .string a.name, .string a.dest, .slice D ld dc] 64) #[.int .i64 0, .slice none 0 0, .slice none 0 0, .slice none 0 0, .int .i64 0] 33
    rw [show (w.alloc (.cells #[.int .i64 s.cap, .slice F lf fc, .slice N ln nc, .slice S ls sc, .int .i64 s.next] 33)).heap.size = w.heap.size + 1 by simp] at this
    exact this
  have HB0 : Aside0 (Below w.heap.size w W0) := ⟨by rw [hW0]; exact below_alloc (below_alloc (below_alloc (Below.refl _ _) _) _) _⟩
  have HZ0 : Aside0 (W0.heap.size = w.heap.size + 3) := ⟨by rw [hW0]; simp⟩
  rw [← hW0]
  clear hW0
  have HK2 := Aside0.mk hk2
  have HK3 := Aside0.mk hk3
  have HK4 := Aside0.mk hk4
  obtain ⟨x0, x1, x2, x3, x4, _, _, _, _, _⟩ := all5 hk2
  clear hk2 hk3 hk4
  go_wp2_with fail
  refine (CCheck.out _ HB0.out).mono ?_
  obtain ⟨E, hE⟩ := named (stE s)
  rw [← hE.out]
  rintro e w1 ⟨rfl, hb1⟩
  have HB1 := Aside0.mk hb1
  have HB01 := Aside0.mk (bthen HB0.out hb1)
  have HK4' := Aside0.mk (blk_keep HK4.out hb1)
  have HK2' := Aside0.mk (blk_keep HK2.out hb1)
  clear hb1 x0 x1 x2 x3 x4
  cases hst : stB s with
  | false =>
    have HE : Aside0 (E = 9) := ⟨by rw [hE.out, stE, hst]; rfl⟩
    have HDP : Aside0 (dp = (9, zSt)) := ⟨by rw [hdp.out, DoP, if_pos hst]⟩
    rw [HE.out]
    obtain ⟨z0, z1, z2, z3, z4, f0, f1, f2, f3, f4⟩ := all5 HK4'.out
    clear hst
    go_wp2
    refine bodyPost_ret (results_ct rfl _ _ (w.heap.size + 2) 33 #[.int .i64 0, .slice none 0 0, .slice none 0 0, .slice none 0 0, .int .i64 0] (0, 0) _ rfl (blk5 HK4'.out) Try.underlying33 rfl (by kernel_rfl)) rfl ?_
    exact ⟨.agg #[.int .i64 0, .slice none 0 0, .slice none 0 0, .slice none 0 0, .int .i64 0], by rw [HDP.out]; rfl, by rw [HDP.out]; exact Rs_zero _ _, below_set5 HB01.out (by omega) _ _ _ _ _⟩
  | true =>
    have HE : Aside0 (E = 0) := ⟨by rw [hE.out, stE, hst]; rfl⟩
    have HST := Aside0.mk hst
    rw [HE.out]
    obtain ⟨x0, x1, x2, x3, x4, _, _, _, _, _⟩ := all5 HK2'.out
    clear hst
    go_wp2_with fail
    refine (CClone.out _ HB01.out).mono ?_
    rintro e w2 ⟨vF, vN, vS, L, rfl, hof, hfs, hrn, hrs, hap, hb2⟩
    obtain ⟨F', fc', rfl, _⟩ := hof.reads
    obtain ⟨N', nc', rfl, _⟩ := Kd.R_reads hrn
    obtain ⟨S', sc', rfl, _⟩ := Kd.R_reads hrs
    have hll : L.length = lf := by have := congrArg List.length hfs; rw [List.length_map] at this; rw [this]; exact LF.out
    rw [hll] at hof
    rw [LN.out] at hrn hap
    rw [LS.out] at hrs hap
    rw [hll, LN.out, LS.out]
    have hb0 := HB0.out.size
    have hb1 := HB1.out.size
    have hk2'' := blk_keep HK2'.out hb2
    have hbase : W0.heap.size ≤ w1.heap.size := hb1
    have HO3 : Aside0 (Own (((((w2.setCell ⟨w.heap.size, 0, none⟩ (.int .i64 s.cap)).setCell ⟨w.heap.size, 1, none⟩ (.slice F' lf fc')).setCell ⟨w.heap.size, 2, none⟩ (.slice N' ln nc')).setCell ⟨w.heap.size, 3, none⟩ (.slice S' ls sc')).setCell ⟨w.heap.size, 4, none⟩ (.int .i64 s.next)) W0.heap.size w.heap.size s (.slice F' lf fc') (.slice N' ln nc') (.slice S' ls sc') L) := ⟨⟨blk5 hk2'', (hof.lower hbase).far5 hk2'' (by decide) (by decide) _ _ _ _ _, hfs, Rset5 (Kd.R_lower hrn hbase) (apart_of hk2'' RN_types) _ _ _ _ _, Rset5 (Kd.R_lower hrs hbase) (apart_of hk2'' RN_types) _ _ _ _ _, hap⟩⟩
    have HK3'' := Aside0.mk (blk_keep (blk_keep HK3.out HB1.out) hb2)
    have HK4'' := Aside0.mk (blk_keep HK4'.out hb2)
    have HB2 := Aside0.mk (bthen HB01.out hb2)
    obtain ⟨x0', x1', x2', x3', x4', g0, g1, g2, g3, g4⟩ := all5 hk2''
    clear hof hfs hrn hrs hap hb2 hll x0 x1 x2 x3 x4 hk2'' hbase hb0 hb1
    go_upto_region 5 with (fail)
    obtain ⟨W3, hW3⟩ : ∃ W, W = (((((w2.setCell ⟨w.heap.size, 0, none⟩ (.int .i64 s.cap)).setCell ⟨w.heap.size, 1, none⟩ (.slice F' lf fc')).setCell ⟨w.heap.size, 2, none⟩ (.slice N' ln nc')).setCell ⟨w.heap.size, 3, none⟩ (.slice S' ls sc')).setCell ⟨w.heap.size, 4, none⟩ (.int .i64 s.next)) := ⟨_, rfl⟩
    have HB3 : Aside0 (Below w.heap.size w W3) := ⟨by rw [hW3]; exact below_set5 HB2.out (Nat.le_refl _) _ _ _ _ _⟩
    have HK3w : Aside0 (W3.heap[w.heap.size + 1]? = some (.cells #[.int .i64 wh, .string a.name, .string a.dest, .slice D ld dc] 64 (0, 0))) := ⟨by rw [hW3]; exact (keep5 _ _ _ _ _ (by omega)).trans HK3''.out⟩
    have HK4w : Aside0 (W3.heap[w.heap.size + 2]? = some (.cells #[.int .i64 0, .slice none 0 0, .slice none 0 0, .slice none 0 0, .int .i64 0] 33 (0, 0))) := ⟨by rw [hW3]; exact (keep5 _ _ _ _ _ (by omega)).trans HK4''.out⟩
    have HS3 : Aside0 (W0.heap.size ≤ W3.heap.size) := ⟨by
      have h1 : w2.heap.size = W3.heap.size := by rw [hW3]; simp [World.setCell]
      have h2 := blk_lt HK4''.out
      have h3 := HZ0.out
      omega⟩
    rw [← hW3] at HO3 ⊢
    clear hW3 x0' x1' x2' x3' x4' g0 g1 g2 g3 g4
    obtain ⟨y0, y1, y2, y3, _, _, _, _⟩ := all4 HK3w.out
    have hfit := stB_fit HST.out HS.out.ld
    have hdo := do_own s a D dc W0.heap.size w.heap.size _ _ _ L W3 HO3.out HS3.out hfit.1 (HR.out.below HB3.out) (by rw [LD.out]; exact hda) hfit.2
    rw [CA.out] at hdo
    have CD := Aside0.mk hdo
    clear hfit hdo
    go_wp2_with fail
    refine CD.out.mono ?_
    obtain ⟨dq, hdq⟩ := named (doP s a)
    rw [← hdq.out]
    rintro e w4 ⟨rfl, hM, hB⟩
    obtain ⟨ae, hae⟩ := named dq.1
    rw [← hae.out]
    have HM := Aside0.mk hM
    have HBel := Aside0.mk hB
    have HK4x := Aside0.mk ((hB.block (w.heap.size + 2) (by have := HZ0.out; omega) (by omega)).trans HK4w.out)
    have HBw : Aside0 (Below w.heap.size w w4) := ⟨⟨hB.os.trans HB3.out.os, hB.tape.trans HB3.out.tape, hB.output.trans HB3.out.output, Nat.le_trans HB3.out.size hB.size, fun k hk => (hB.block k (by have := HZ0.out; omega) (by omega)).trans (HB3.out.block k hk)⟩⟩
    clear hM hB y0 y1 y2 y3 CD
    by_cases hz : ae = 0
    · have hz' : (ae != 0) = false := by simp [hz]
      have HDP : Aside0 (dp = (0, dq.2)) := ⟨by rw [hdp.out, DoP, if_neg (by rw [HST.out]; decide), ← hdq.out, ← hae.out, if_pos hz]⟩
      obtain ⟨vF4, vN4, vS4, L4, hO4⟩ := HM.out
      obtain ⟨F4, fc4, N4, nc4, S4, sc4, rfl, rfl, rfl, _⟩ := hO4.forms
      obtain ⟨x0, x1, x2, x3, x4, _, _, _, _, _⟩ := all5 hO4.blk
      obtain ⟨z0, z1, z2, z3, z4, f0, f1, f2, f3, f4⟩ := all5 HK4x.out
      have HO4 := Aside0.mk hO4
      clear hO4 hz
      go_wp2
      refine bodyPost_ret (results_ct rfl _ _ (w.heap.size + 2) 33 #[.int .i64 dq.2.cap, .slice F4 dq.2.files.length fc4, .slice N4 dq.2.names.length nc4, .slice S4 dq.2.safe.length sc4, .int .i64 dq.2.next] (0, 0) _ rfl (blk5 HK4x.out) Try.underlying33 rfl (by kernel_rfl)) rfl ?_
      exact ⟨_, by rw [HDP.out]; rfl, by rw [HDP.out]; exact (HO4.out.rs.far5 HK4x.out _ _ _ _ _).lower (by have := HZ0.out; omega), below_set5 HBw.out (by omega) _ _ _ _ _⟩
    · have hz' : (ae != 0) = true := by simp [hz]
      have HDP : Aside0 (dp = (ae, zSt)) := ⟨by rw [hdp.out, DoP, if_neg (by rw [HST.out]; decide), ← hdq.out, ← hae.out, if_neg hz]⟩
      obtain ⟨z0, z1, z2, z3, z4, f0, f1, f2, f3, f4⟩ := all5 HK4x.out
      clear hz
      go_wp2
      refine bodyPost_ret (results_ct rfl _ _ (w.heap.size + 2) 33 #[.int .i64 0, .slice none 0 0, .slice none 0 0, .slice none 0 0, .int .i64 0] (0, 0) _ rfl (blk5 HK4x.out) Try.underlying33 rfl (by kernel_rfl)) rfl ?_
      exact ⟨.agg #[.int .i64 0, .slice none 0 0, .slice none 0 0, .slice none 0 0, .int .i64 0], by rw [HDP.out]; rfl, by rw [HDP.out]; exact Rs_zero _ _, below_set5 HBw.out (by omega) _ _ _ _ _⟩
end Go.Proofs.Ytfakfgblaakgdaa.Files
