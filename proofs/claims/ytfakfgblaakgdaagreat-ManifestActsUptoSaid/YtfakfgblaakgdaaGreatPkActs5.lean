/- A part of the proof: slices.Insert of one name, ahead of others: walked. -/
import Derived.Test.YtfakfgblaakgdaaGreatPkActs4
import Derived.Test.YtfakfgblaakgdaaGreatPkActs3

/- slices.Insert of one name, ahead of others: walked. -/
namespace Go.Proofs.YtfakfgblaakgdaaGreat.Files
set_option linter.unusedVariables false
set_option linter.unusedSimpArgs false
open Go.RowKit Go.Lib Go.Proofs.YtfakfgblaakgdaaGreatW.PrintWords Go.Proofs.YtfakfgblaakgdaaGreatW.PrintLast Go.Proofs.YtfakfgblaakgdaaGreat.Base Go.Proofs.YtfakfgblaakgdaaGreat.Cells Go.Proofs.YtfakfgblaakgdaaGreat.Ints Go.Proofs.YtfakfgblaakgdaaGreat.Var Go.Proofs.YtfakfgblaakgdaaGreat.EditPure Go.Proofs.YtfakfgblaakgdaaGreat.Edit Go.Proofs.YtfakfgblaakgdaaGreat.RowsC

theorem cut_mid {P : Program} (t e : TypeId) {i : TypeInfo} (ht : P.underlying t = some (.slice e)) (hi : P.info? e = some i) (sz : Nat) (hsz : i.size = sz) (g n c j : Nat) (jj : Int) (hjj : jj = j) (hj : j ≤ n) (hc : ¬ c = j) :
    ∀ W : World, (Instr.slice t (.slice (some ⟨g, 0, none⟩) n c) (some (.int .i64 jj)) none none).run P W = .ok (.slice (some ⟨g, j * sz, none⟩) (n - j) (c - j)) W := by
  intro W
  have h := cut_from (P := P) t e .i64 ht hi sz hsz (some ⟨g, 0, none⟩) n c (j : Int) (by omega) (by omega) W
  rw [Int.toNat_natCast, if_neg hc] at h
  have hadd : (Option.map (fun x : Addr => x.add (j * sz)) (some (⟨g, 0, none⟩ : Addr))) = some ⟨g, j * sz, none⟩ := by show some (Addr.add _ _) = _; rw [Addr.add_lit, Nat.zero_add]
  rw [hadd] at h
  rw [hjj]
  exact h
end Go.Proofs.YtfakfgblaakgdaaGreat.Files

/- (*files.State).give: walked. -/
namespace Go.Proofs.YtfakfgblaakgdaaGreat.Files
set_option linter.unusedVariables false
set_option linter.unusedSimpArgs false
open Go.RowKit Go.Proofs.YtfakfgblaakgdaaGreatW.PrintWords Go.Proofs.YtfakfgblaakgdaaGreatW.PrintLast Go.Proofs.YtfakfgblaakgdaaGreat.Base Go.Proofs.YtfakfgblaakgdaaGreat.Cells Go.Proofs.YtfakfgblaakgdaaGreat.Ints Go.Proofs.YtfakfgblaakgdaaGreat.Var Go.Proofs.YtfakfgblaakgdaaGreat.EditPure Go.Proofs.YtfakfgblaakgdaaGreat.Edit Go.Proofs.YtfakfgblaakgdaaGreat.Sets Go.Proofs.YtfakfgblaakgdaaGreat.RowsC

end Go.Proofs.YtfakfgblaakgdaaGreat.Files

/- files.Check: may a state be: walked. -/
namespace Go.Proofs.YtfakfgblaakgdaaGreat.Files
set_option linter.unusedVariables false
set_option linter.unusedSimpArgs false
open Go.RowKit Go.Proofs.YtfakfgblaakgdaaGreatW.PrintWords Go.Proofs.YtfakfgblaakgdaaGreatW.PrintLast Go.Proofs.YtfakfgblaakgdaaGreat.Base Go.Proofs.YtfakfgblaakgdaaGreat.Cells Go.Proofs.YtfakfgblaakgdaaGreat.Ints Go.Proofs.YtfakfgblaakgdaaGreat.Var Go.Proofs.YtfakfgblaakgdaaGreat.EditPure Go.Proofs.YtfakfgblaakgdaaGreat.Edit Go.Proofs.YtfakfgblaakgdaaGreat.Sets Go.Proofs.YtfakfgblaakgdaaGreat.Wide

def lastI (pre : List Fl) : Int := match pre.getLast? with | none => 0 | some p => p.id
/-- of a file behind others: what a state that may be asks of it -/
def flOk (next : Int) (pre : List Fl) (f : Fl) : Bool := decide (lastI pre < f.id) && (decide (f.id < next) && (decide (0 ≤ f.sync) && decide (f.sync ≤ f.data.length)))
def flTo (next : Int) (l : List Fl) : Nat → Bool
  | 0 => true
  | i + 1 => flTo next l i && flOk next (l.take i) (l.getD i zFl)
def hdB (s : St) : Bool := decide (0 ≤ s.cap) && (decide (s.cap ≤ 16777216) && (decide ((s.files.length : Int) ≤ 256) && (decide (1 ≤ s.next) && (decide (s.next ≤ 2147483647) && (decide (usedF s.files ≤ s.cap) && (decide ((s.names.length : Int) ≤ 256) && decide ((s.safe.length : Int) ≤ 256)))))))
/-- how many different ones there are -/
def many (l : List Int) : Nat := ((ilits l).foldl Maps.addKey []).length
/-- may a state be -/
def stB (s : St) : Bool := hdB s && (flTo s.next s.files s.files.length && (namesOk s.files s.names && (namesOk s.files s.safe && many (idsN s.names ++ idsN s.safe) == s.files.length)))
def stE (s : St) : Int := if stB s then 0 else 9

theorem flTo_asc {next : Int} {l : List Fl} : ∀ n, n ≤ l.length → flTo next l n = true → Asc (l.take n) ∧ ∀ f ∈ l.take n, 1 ≤ f.id ∧ f.id ≤ lastI (l.take n)
  | 0, _, _ => ⟨by simp [Asc], by simp⟩
  | n + 1, hn, h => by
    rw [flTo, Bool.and_eq_true] at h
    obtain ⟨h1, h2⟩ := flTo_asc n (by omega) h.1
    have hf : l[n]? = some (l[n]'(by omega)) := List.getElem?_eq_getElem (by omega)
    have hg : l.getD n zFl = l[n]'(by omega) := by rw [List.getD_eq_getElem?_getD, hf]; rfl
    rw [hg] at h
    have h3 : lastI (l.take n) < (l[n]'(by omega)).id := by have := h.2; simp [flOk] at this; exact this.1
    have ht : l.take (n + 1) = l.take n ++ [l[n]'(by omega)] := by rw [List.take_add_one, hf]; rfl
    have hl : lastI (l.take (n + 1)) = (l[n]'(by omega)).id := by rw [ht, lastI, List.getLast?_concat]
    have h0 : 0 ≤ lastI (l.take n) := by
      unfold lastI
      cases hq : (l.take n).getLast? with
      | none => exact Int.le_refl _
      | some p => have := (h2 p (List.mem_of_getLast? hq)).1; show 0 ≤ p.id; omega
    rw [ht]
    refine ⟨List.pairwise_append.2 ⟨h1, by simp, fun a ha b hb => ?_⟩, fun f hf => ?_⟩
    · rw [List.mem_singleton.1 hb]; have := (h2 a ha).2; omega
    · rw [← ht, hl]
      rcases List.mem_append.1 hf with hf | hf
      · have := h2 f hf; omega
      · rw [List.mem_singleton.1 hf]; omega
theorem asc_of_flTo {next : Int} {l : List Fl} (h : flTo next l l.length = true) : Asc l := by
  have := (flTo_asc l.length (Nat.le_refl _) h).1
  rwa [List.take_length] at this

theorem SetL.run_len {P : Program} {w : World} {k e t ty : TypeId} {b : Nat} {l : List Lit} (ht : P.underlying t = some (.map k e)) (h : SetL P k e w b l) :
    (Builtin.len_ #[t] ty #[.map (some b)]).run P w = .ok (.int .i64 ((l.foldl Maps.addKey []).length : Nat)) w := by
  have hrun := h.1.len ht ty
  unfold setD at hrun
  rw [Maps.size_setOf _ _ h.2] at hrun
  exact hrun

set_option maxRecDepth 100000 in
set_option maxHeartbeats 4000000 in
theorem check_any (s : St) (F N S : Option Addr) (fc nc sc : Nat) (w : World) (h : Hd w s F fc N nc S sc) (hs : Small s) (hw : Wf s) :
    Calls Tryz.prog 33 #[.agg #[.int .i64 s.cap, .slice F s.files.length fc, .slice N s.names.length nc, .slice S s.safe.length sc, .int .i64 s.next]] w fun e w' => e = .returned (.int .i64 (stE s)) ∧ Below w.heap.size w w' := by
  have HH := Aside0.mk h
  have HS := Aside0.mk hs
  have HW := Aside0.mk hw
  obtain ⟨cap, files, names, safe, next⟩ := s
  obtain ⟨E, hE⟩ := named (stE ⟨cap, files, names, safe, next⟩)
  rw [← hE.out]
  obtain ⟨hd, hhd⟩ := named (hdB ⟨cap, files, names, safe, next⟩)
  obtain ⟨u, hu⟩ := named (usedF files)
  have HD : Aside0 (hd = (decide (0 ≤ cap) && (decide (cap ≤ 16777216) && (decide ((files.length : Int) ≤ 256) && (decide (1 ≤ next) && (decide (next ≤ 2147483647) && (decide (u ≤ cap) && (decide ((names.length : Int) ≤ 256) && decide ((safe.length : Int) ≤ 256))))))))) := ⟨by rw [hhd.out, hdB, hu.out]⟩
  have hlf : files.length ≤ 1048576 := hs.lf
  have hln : names.length ≤ 1048576 := hs.ln
  have hls : safe.length ≤ 1048576 := hs.ls
  clear h hs hw
  have hmm := @run_makeMap Tryz.prog
  go_enter Tryz.func33, Tryz.ntmps33
  go_upto_region 1 with (fail)
  obtain ⟨W, hW⟩ : ∃ W, W = w.alloc (.cells #[.int .i64 cap, .slice F files.length fc, .slice N names.length nc, .slice S safe.length sc, .int .i64 next] 35) := ⟨_, rfl⟩
  have hk : W.heap[w.heap.size]? = some (.cells #[.int .i64 cap, .slice F files.length fc, .slice N names.length nc, .slice S safe.length sc, .int .i64 next] 35 (0, 0)) := by rw [hW]; exact blk_new _ _
  have HB : Aside0 (Below w.heap.size w W) := ⟨by rw [hW]; exact below_alloc (Below.refl _ _) _⟩
  have HZ : Aside0 (W.heap.size = w.heap.size + 1) := ⟨by rw [hW]; simp⟩
  rw [← hW]
  clear hW
  have HK := Aside0.mk hk
  obtain ⟨x0, x1, x2, x3, x4, _, _, _, _, _⟩ := all5 hk
  have X0 := wb_cell x0
  have X1 := wb_cell x1
  have X2 := wb_cell x2
  have X3 := wb_cell x3
  have X4 := wb_cell x4
  have CU : ∀ x : Later W, Calls Tryz.prog 72 #[.pointer (some ⟨w.heap.size, 0, none⟩)] (wb W x) fun e w' => e = .returned (.int .i64 u) ∧ Below (wb W x).heap.size (wb W x) w' := fun x => by
    rw [hu.out]
    exact used_any w.heap.size F fc files _ (X1 x) (Kd.C_below HH.out.hF (bthen HB.out (wb_below _ x))) hlf HS.out.ld
  clear x0 x1 x2 x3 x4 hk
  go_cut [3] (fun v3 wc => v3 = .bool hd ∧ Aside0 (Below W.heap.size W wc))
  case first =>
    by_cases c0 : 0 ≤ cap
    · by_cases c1 : cap ≤ 16777216
      · by_cases c2 : (files.length : Int) ≤ 256
        · by_cases c3 : 1 ≤ next
          · by_cases c4 : next ≤ 2147483647
            · by_cases c5 : u ≤ cap
              · by_cases c6 : (names.length : Int) ≤ 256
                · by_cases c7 : (safe.length : Int) ≤ 256
                  · have HV : Aside0 (hd = true) := ⟨by rw [HD.out]; simp only [*, decide_true, decide_false, Bool.true_and, Bool.false_and, Bool.and_true]⟩
                    refine wp_region_wide (by kernel_rfl) (by kernel_rfl) ?_
                    repeat (go_big_quiet_step ((go_at_call 72; exact wide_of (CU _))))
                    refine wpQuiet_nil ?_
                    rintro w' ⟨x, rfl⟩
                    go_wp2
                    go_meet
                    exact ⟨by rw [HV.out], ⟨wb_below _ x⟩⟩
                  · have HV : Aside0 (hd = false) := ⟨by rw [HD.out]; simp only [*, decide_true, decide_false, Bool.true_and, Bool.false_and, Bool.and_true]⟩
                    refine wp_region_wide (by kernel_rfl) (by kernel_rfl) ?_
                    repeat (go_big_quiet_step ((go_at_call 72; exact wide_of (CU _))))
                    refine wpQuiet_nil ?_
                    rintro w' ⟨x, rfl⟩
                    go_wp2
                    go_meet
                    exact ⟨by rw [HV.out], ⟨wb_below _ x⟩⟩
                · have HV : Aside0 (hd = false) := ⟨by rw [HD.out]; simp only [*, decide_true, decide_false, Bool.true_and, Bool.false_and, Bool.and_true]⟩
                  refine wp_region_wide (by kernel_rfl) (by kernel_rfl) ?_
                  repeat (go_big_quiet_step ((go_at_call 72; exact wide_of (CU _))))
                  refine wpQuiet_nil ?_
                  rintro w' ⟨x, rfl⟩
                  go_wp2
                  go_meet
                  exact ⟨by rw [HV.out], ⟨wb_below _ x⟩⟩
              · have HV : Aside0 (hd = false) := ⟨by rw [HD.out]; simp only [*, decide_true, decide_false, Bool.true_and, Bool.false_and, Bool.and_true]⟩
                refine wp_region_wide (by kernel_rfl) (by kernel_rfl) ?_
                repeat (go_big_quiet_step ((go_at_call 72; exact wide_of (CU _))))
                refine wpQuiet_nil ?_
                rintro w' ⟨x, rfl⟩
                go_wp2
                go_meet
                exact ⟨by rw [HV.out], ⟨wb_below _ x⟩⟩
            · have HV : Aside0 (hd = false) := ⟨by rw [HD.out]; simp only [*, decide_true, decide_false, Bool.true_and, Bool.false_and, Bool.and_true]⟩
              refine wp_region_wide (by kernel_rfl) (by kernel_rfl) ?_
              repeat (go_big_quiet_step ((go_at_call 72; exact wide_of (CU _))))
              refine wpQuiet_nil ?_
              rintro w' ⟨x, rfl⟩
              go_wp2
              go_meet
              exact ⟨by rw [HV.out], ⟨wb_below _ x⟩⟩
          · have HV : Aside0 (hd = false) := ⟨by rw [HD.out]; simp only [*, decide_true, decide_false, Bool.true_and, Bool.false_and, Bool.and_true]⟩
            refine wp_region_wide (by kernel_rfl) (by kernel_rfl) ?_
            repeat (go_big_quiet_step ((go_at_call 72; exact wide_of (CU _))))
            refine wpQuiet_nil ?_
            rintro w' ⟨x, rfl⟩
            go_wp2
            go_meet
            exact ⟨by rw [HV.out], ⟨wb_below _ x⟩⟩
        · have HV : Aside0 (hd = false) := ⟨by rw [HD.out]; simp only [*, decide_true, decide_false, Bool.true_and, Bool.false_and, Bool.and_true]⟩
          refine wp_region_wide (by kernel_rfl) (by kernel_rfl) ?_
          repeat (go_big_quiet_step ((go_at_call 72; exact wide_of (CU _))))
          refine wpQuiet_nil ?_
          rintro w' ⟨x, rfl⟩
          go_wp2
          go_meet
          exact ⟨by rw [HV.out], ⟨wb_below _ x⟩⟩
      · have HV : Aside0 (hd = false) := ⟨by rw [HD.out]; simp only [*, decide_true, decide_false, Bool.true_and, Bool.false_and, Bool.and_true]⟩
        refine wp_region_wide (by kernel_rfl) (by kernel_rfl) ?_
        repeat (go_big_quiet_step ((go_at_call 72; exact wide_of (CU _))))
        refine wpQuiet_nil ?_
        rintro w' ⟨x, rfl⟩
        go_wp2
        go_meet
        exact ⟨by rw [HV.out], ⟨wb_below _ x⟩⟩
    · have HV : Aside0 (hd = false) := ⟨by rw [HD.out]; simp only [*, decide_true, decide_false, Bool.true_and, Bool.false_and, Bool.and_true]⟩
      refine wp_region_wide (by kernel_rfl) (by kernel_rfl) ?_
      repeat (go_big_quiet_step ((go_at_call 72; exact wide_of (CU _))))
      refine wpQuiet_nil ?_
      rintro w' ⟨x, rfl⟩
      go_wp2
      go_meet
      exact ⟨by rw [HV.out], ⟨wb_below _ x⟩⟩
  case rest =>
    obtain ⟨rfl, HB2⟩ := hcut
    have HB3 := Aside0.mk (bthen HB.out HB2.out)
    obtain ⟨y0, y1, y2, y3, y4, _, _, _, _, _⟩ := all5 (blk_keep HK.out HB2.out)
    have HY1 := Aside0.mk y1
    have HY2 := Aside0.mk y2
    have HY3 := Aside0.mk y3
    have HY4 := Aside0.mk y4
    clear X0 X1 X2 X3 X4 CU y0 y2 y3 y4
    have hsz : w.heap.size < wc.heap.size := by have := HB2.out.size; have := HZ.out; omega
    obtain ⟨q0, hq0⟩ := named (hd && flTo next files 0)
    go_wp2
    go_loopg [3, 4, 53] files.length (fun gk v3 v4 v53 wr => ∃ i : Nat, v53 = .int .i64 i ∧ gk + i = files.length ∧ v3 = .bool (hd && flTo next files i) ∧ v4 = .int .i64 (lastI (files.take i)) ∧ Aside0 (Below wc.heap.size wc wr))
    case atStart => exact ⟨0, rfl, by omega, by simp [flTo], rfl, ⟨Below.refl _ _⟩⟩
    case round =>
      obtain ⟨i, rfl, hg, rfl, rfl, HL⟩ := hrel
      obtain ⟨ok1, hok1⟩ := named (hd && flTo next files i)
      rw [← hok1.out]
      have hlsz := HL.out.size
      by_cases hlt : i < files.length
      · obtain ⟨m, hm⟩ : ∃ m, files[i]? = some m := ⟨_, List.getElem?_eq_getElem hlt⟩
        obtain ⟨ad, D, dc, rfl, c0, c1, c2, _, _⟩ := atFl (Kd.C_below HH.out.hF (bthen HB3.out HL.out)) i m hm
        have hgd : files.getD i zFl = m := by rw [List.getD_eq_getElem?_getD, hm]; rfl
        obtain ⟨okn, hokn⟩ := named (hd && flTo next files (i + 1))
        obtain ⟨la, hla⟩ := named (lastI (files.take i))
        have HN : Aside0 (okn = (ok1 && (decide (la < m.id) && (decide (m.id < next) && (decide (0 ≤ m.sync) && decide (m.sync ≤ (m.data.length : Int))))))) := ⟨by rw [hokn.out, flTo, hgd, ← Bool.and_assoc, ← hok1.out, flOk, ← hla.out]⟩
        have HLA : Aside0 (lastI (files.take (i + 1)) = m.id) := ⟨by rw [List.take_add_one, hm, lastI, Option.toList, List.getLast?_concat]⟩
        have y4 := (HL.out.cell (World.block_lt_of_cell? wc _ HY4.out)).trans HY4.out
        rw [← hla.out]
        clear hm hgd
        go_upto_region 6 with (fail)
        obtain ⟨W6, hW6⟩ : ∃ W6, W6 = wr.alloc (.cells #[.int .i64 m.id, .slice D m.data.length dc, .int .i64 m.sync] 113) := ⟨_, rfl⟩
        have HB6 : Aside0 (Below wr.heap.size wr W6) := ⟨by rw [hW6]; exact below_alloc (Below.refl _ _) _⟩
        have HZ6 : Aside0 (W6.heap.size = wr.heap.size + 1) := ⟨by rw [hW6]; simp⟩
        have k0 : W6.cell? ⟨wr.heap.size, 0, none⟩ = some (.int .i64 m.id) := by rw [hW6]; exact new_cell _ _ _ 0 _ rfl
        have k1 : W6.cell? ⟨wr.heap.size, 1, none⟩ = some (.slice D m.data.length dc) := by rw [hW6]; exact new_cell _ _ _ 1 _ rfl
        have k2 : W6.cell? ⟨wr.heap.size, 2, none⟩ = some (.int .i64 m.sync) := by rw [hW6]; exact new_cell _ _ _ 2 _ rfl
        have z4 := (HB6.out.cell (World.block_lt_of_cell? wr _ y4)).trans y4
        rw [← hW6]
        clear hW6 c0 c1 c2 y4
        go_cut [3] (fun v3 wd => v3 = .bool okn ∧ wd = W6)
        case first =>
          go_wp2
          all_goals go_meet
          all_goals refine ⟨?_, rfl⟩
          all_goals rw [HN.out]
          all_goals first | (simp [*]; done) | (simp [*]; omega)
        case rest =>
          obtain ⟨rfl, rfl⟩ := hcut
          go_wp2
          go_roundg (files.length - (i + 1))
          case measure => omega
          case rel => exact ⟨i + 1, by go_num, by omega, by rw [hokn.out], by rw [HLA.out], ⟨bthen HL.out HB6.out⟩⟩
      · have hie : i = files.length := by omega
        have hok : Aside0 (ok1 = (hd && flTo next files files.length)) := ⟨by rw [hok1.out, hie]⟩
        clear hie
        obtain ⟨n1, hn1⟩ := named (namesOk files names)
        obtain ⟨n2, hn2⟩ := named (namesOk files safe)
        have HE : Aside0 (E = if (ok1 && (n1 && (n2 && many (idsN names ++ idsN safe) == files.length))) = true then 0 else 9) := ⟨by rw [hE.out, stE, stB, ← hhd.out, ← hn1.out, ← hn2.out, hok.out, Bool.and_assoc]⟩
        cases hk1 : ok1 with
        | false =>
          rw [hk1] at HE
          clear hk1
          go_wp2
          go_ret
          exact ⟨by rw [HE.out]; rfl, bthen HB3.out (bthen HL.out (below_alloc (Below.refl _ _) _))⟩
        | true =>
          have ha : Asc files := asc_of_flTo (by have := hok.out; rw [hk1] at this; revert this; cases hd <;> cases flTo next files files.length <;> simp)
          have HA := Aside0.mk ha
          rw [hk1] at HE
          clear ha hk1
          go_upto_region 10 with (fail)
          obtain ⟨Wm, hWm⟩ : ∃ W, W = wr.alloc (.map #[] 0) := ⟨_, rfl⟩
          have HSM : Aside0 (SetL Tryz.prog 3 4 Wm wr.heap.size (ilits [])) := ⟨by rw [hWm]; exact SetL.made wr _ _ _⟩
          have HBM : Aside0 (Below wr.heap.size wr Wm) := ⟨by rw [hWm]; exact below_alloc (Below.refl _ _) _⟩
          have HBL := Aside0.mk (bthen HL.out HBM.out)
          have y1 := (HBL.out.cell (World.block_lt_of_cell? wc _ HY1.out)).trans HY1.out
          have y2 := (HBL.out.cell (World.block_lt_of_cell? wc _ HY2.out)).trans HY2.out
          have y3 := (HBL.out.cell (World.block_lt_of_cell? wc _ HY3.out)).trans HY3.out
          have HZ1 := Aside0.mk y1
          have HZ3 := Aside0.mk y3
          rw [← hWm]
          clear hWm
          go_wp2_with fail
          refine (namesF_any w.heap.size wr.heap.size F N fc nc files names [] Wm HZ1.out (Kd.C_below HH.out.hF (bthen HB3.out HBL.out)) HS.out.lf HA.out (Kd.C_below HH.out.hN (bthen HB3.out HBL.out)) HS.out.ln (fun n hn => HW.out.wn n hn) HSM.out (by simp)).mono ?_
          rw [← hn1.out]
          rintro e w1 ⟨rfl, hs1, hg1⟩
          have HS1 := Aside0.mk hs1
          have HG1 := Aside0.mk hg1
          have hbb : w.heap.size < wr.heap.size := by omega
          clear hs1 hg1 y1 y2
          have hfin : ∀ w', Wm.grownBy w' (some wr.heap.size) → Below w.heap.size w w' := fun w' hg => (bthen HB3.out HBL.out).grown hg (by have := HBM.out.size; omega) (fun k hk => by injection hk with hk; omega)
          have HF := Aside0.mk hfin
          clear hfin
          cases hn1v : n1 with
          | false =>
            rw [hn1v] at HE
            clear hn1v
            go_wp2
            go_ret
            exact ⟨by rw [HE.out]; rfl, HF.out _ HG1.out⟩
          | true =>
            rw [hn1v] at HE HS1
            clear hn1v
            obtain ⟨es, k, hmap⟩ := SetL.isMapBlock HSM.out
            have HC1 := Aside0.mk (Cell.of_map hmap HG1.out)
            clear hmap
            have y3 := HC1.out _ _ HZ3.out
            have y1 := HC1.out _ _ HZ1.out
            have HZ4 := Aside0.mk y1
            go_wp2_with fail
            refine (namesF_any w.heap.size wr.heap.size F S fc sc files safe (idsN names) w1 HZ4.out (kFl_cell (Kd.C_below HH.out.hF (bthen HB3.out HBL.out)) HC1.out) HS.out.lf HA.out (kNm_cell (Kd.C_below HH.out.hS (bthen HB3.out HBL.out)) HC1.out) HS.out.ls (fun n hn => HW.out.ws n hn) (HS1.out trivial) (by rw [idsN, List.length_map]; exact HS.out.ln)).mono ?_
            rw [← hn2.out]
            rintro e w2 ⟨rfl, hs2, hg2⟩
            have HS2 := Aside0.mk hs2
            have HG2 := Aside0.mk (grown_trans HG1.out hg2)
            obtain ⟨es, k, hmap⟩ := SetL.isMapBlock (HS1.out trivial)
            have HC2 := Aside0.mk (HC1.out.trans (Cell.of_map hmap hg2))
            clear hs2 hg2 y1 y3 hmap
            cases hn2v : n2 with
            | false =>
              rw [hn2v] at HE
              clear hn2v
              go_wp2
              go_ret
              exact ⟨by rw [HE.out]; rfl, HF.out _ HG2.out⟩
            | true =>
              rw [hn2v] at HE HS2
              clear hn2v
              have y1 := HC2.out _ _ HZ1.out
              obtain ⟨mn, hmn⟩ := named (many (idsN names ++ idsN safe))
              rw [← hmn.out] at HE
              have HSL := Aside0.mk (HS2.out rfl)
              have hlen : (Builtin.len_ #[149] 3 #[.map (some wr.heap.size)]).run Tryz.prog w2 = .ok (.int .i64 (mn : Int)) w2 := by rw [SetL.run_len (h := HSL.out) Tryz.underlying149, hmn.out]; rfl
              by_cases hq : mn = files.length
              · have HV : Aside0 (E = 0) := ⟨by rw [HE.out, hq]; simp⟩
                have hq' : ((mn : Int) != (files.length : Int)) = false := by rw [hq]; simp
                clear HE hq
                go_wp2
                go_ret
                exact ⟨by rw [HV.out]; rfl, HF.out _ HG2.out⟩
              · have HV : Aside0 (E = 9) := ⟨by rw [HE.out]; simp [hq]⟩
                have hq' : ((mn : Int) != (files.length : Int)) = true := by simp; omega
                clear HE hq
                go_wp2
                go_ret
                exact ⟨by rw [HV.out]; rfl, HF.out _ HG2.out⟩
end Go.Proofs.YtfakfgblaakgdaaGreat.Files

/- (*files.State).create: walked. -/
namespace Go.Proofs.YtfakfgblaakgdaaGreat.Files
set_option linter.unusedVariables false
set_option linter.unusedSimpArgs false
open Go.RowKit Go.Proofs.YtfakfgblaakgdaaGreatW.PrintWords Go.Proofs.YtfakfgblaakgdaaGreatW.PrintLast Go.Proofs.YtfakfgblaakgdaaGreat.Base Go.Proofs.YtfakfgblaakgdaaGreat.Cells Go.Proofs.YtfakfgblaakgdaaGreat.Ints Go.Proofs.YtfakfgblaakgdaaGreat.Var Go.Proofs.YtfakfgblaakgdaaGreat.EditPure Go.Proofs.YtfakfgblaakgdaaGreat.Edit Go.Proofs.YtfakfgblaakgdaaGreat.Sets Go.Proofs.YtfakfgblaakgdaaGreat.RowsC

/-- what a walk over a state asks of it -/
structure Fit (s : St) : Prop where
  lf : s.files.length ≤ 256
  ln : s.names.length ≤ 256
  ls : s.safe.length ≤ 256
  an : AscN s.names
  af : Asc s.files
  n0 : 1 ≤ s.next
  n1 : s.next ≤ 2147483647
  c0 : 0 ≤ s.cap
  c1 : s.cap ≤ 16777216
  wf : Wf s
  wi : ∀ f ∈ s.files, inI64 f.id
  hd : ∀ f ∈ s.files, f.data.length ≤ 1048576
/-- an act's value -/
def acV (a : Ac) (D : Option Addr) (dc : Nat) : Value := .agg #[.int .i64 a.what, .string a.name, .string a.dest, .slice D a.data.length dc]
end Go.Proofs.YtfakfgblaakgdaaGreat.Files

/- A file's octets, its mark, and names taken out: what the writes leave. -/
namespace Go.Proofs.YtfakfgblaakgdaaGreat.Files
set_option linter.unusedVariables false
set_option linter.unusedSimpArgs false
open Go.RowKit Go.Proofs.YtfakfgblaakgdaaGreatW.PrintWords Go.Proofs.YtfakfgblaakgdaaGreatW.PrintLast Go.Proofs.YtfakfgblaakgdaaGreat.Base Go.Proofs.YtfakfgblaakgdaaGreat.Cells Go.Proofs.YtfakfgblaakgdaaGreat.Ints Go.Proofs.YtfakfgblaakgdaaGreat.Var Go.Proofs.YtfakfgblaakgdaaGreat.EditPure Go.Proofs.YtfakfgblaakgdaaGreat.Edit Go.Proofs.YtfakfgblaakgdaaGreat.Sets Go.Proofs.YtfakfgblaakgdaaGreat.RowsC

theorem fileP_at {F : Option Addr} {l : List Fl} {x : Int} (h : hasId l x = true) : ∃ k f, l[k]? = some f ∧ f.id = x ∧ fileP F l x = F.map (fun a => a.add (k * 3)) := by
  obtain ⟨f, hf, hx⟩ := List.any_eq_true.1 h
  cases hq : l.findIdx? (fun f => f.id == x) with
  | none =>
    rw [List.findIdx?_eq_none_iff] at hq
    have := hq f hf
    rw [this] at hx; cases hx
  | some k =>
    have hq' := hq
    rw [List.findIdx?_eq_some_iff_getElem] at hq
    obtain ⟨hk, h1, _⟩ := hq
    exact ⟨k, l[k], List.getElem?_eq_getElem hk, by simpa using h1, by rw [fileP, hq']; rfl⟩
end Go.Proofs.YtfakfgblaakgdaaGreat.Files

/- (*files.State).act: walked. -/
namespace Go.Proofs.YtfakfgblaakgdaaGreat.Files
set_option linter.unusedVariables false
set_option linter.unusedSimpArgs false
open Go.RowKit Go.Proofs.YtfakfgblaakgdaaGreatW.PrintWords Go.Proofs.YtfakfgblaakgdaaGreatW.PrintLast Go.Proofs.YtfakfgblaakgdaaGreat.Base Go.Proofs.YtfakfgblaakgdaaGreat.Cells Go.Proofs.YtfakfgblaakgdaaGreat.Ints Go.Proofs.YtfakfgblaakgdaaGreat.Var Go.Proofs.YtfakfgblaakgdaaGreat.EditPure Go.Proofs.YtfakfgblaakgdaaGreat.Edit Go.Proofs.YtfakfgblaakgdaaGreat.Sets Go.Proofs.YtfakfgblaakgdaaGreat.Wide Go.Proofs.YtfakfgblaakgdaaGreat.RowsC

theorem findN_none {l : List Nm} {s : ByteArray} (h : hasN l s = false) : findN l s = none := by
  rw [findN, List.find?_eq_none]
  intro x hx
  rw [hasN, List.any_eq_false] at h
  exact h x hx
theorem findN_at {l : List Nm} {s : ByteArray} {r : Nat} {y : Nm} (ha : AscN l) (h : PlaceN l s r) (hy : l[r]? = some y) (hs : y.name = s) : findN l s = some y := by
  rw [findN]
  have hsp : l = l.take r ++ y :: l.drop (r + 1) := by
    have : l.drop r = y :: l.drop (r + 1) := by
      obtain ⟨hl, he⟩ := List.getElem?_eq_some_iff.1 hy
      rw [List.drop_eq_getElem_cons hl, he]
    rw [← this, List.take_append_drop]
  have h0 : (l.take r).find? (fun n => sameB n.name s) = none := by
    rw [List.find?_eq_none]
    intro x hx
    rw [take_place h] at hx
    rw [sameB_not.2 (sLt_ne (List.mem_filter.1 hx).2)]; decide
  rw [hsp, List.find?_append, h0, Option.none_or, List.find?_cons, sameB_iff.2 hs]

end Go.Proofs.YtfakfgblaakgdaaGreat.Files
