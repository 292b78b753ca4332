/- manifest.Orphans: walked. -/
import Derived.Test.YtfakfgblaakgdaaOrphA
namespace Go.Proofs.Ytfakfgblaakgdaa.Files
set_option linter.unusedVariables false
set_option linter.unusedSimpArgs false
open Go.RowKit Go.Maps Go.Proofs.YtfakfgblaakgdaaW.PrintWords Go.Proofs.YtfakfgblaakgdaaW.PrintLast Go.Proofs.Ytfakfgblaakgdaa.Base Go.Proofs.Ytfakfgblaakgdaa.Cells Go.Proofs.Ytfakfgblaakgdaa.Ints Go.Proofs.Ytfakfgblaakgdaa.Var Go.Proofs.Ytfakfgblaakgdaa.EditPure Go.Proofs.Ytfakfgblaakgdaa.Edit Go.Proofs.Ytfakfgblaakgdaa.Sets Go.Proofs.Ytfakfgblaakgdaa.Wide Go.Proofs.Ytfakfgblaakgdaa.StrRows Go.Proofs.Ytfakfgblaakgdaa.NamesPure Go.Proofs.Ytfakfgblaakgdaa.Names

set_option maxRecDepth 100000 in
set_option maxHeartbeats 2000000 in
theorem orph_any (s : St) (F N S A : Option Addr) (fc nc sc c : Nat) (t : List Meta) (seq next id log : Int) (w : World) (h : Hd w s F fc N nc S sc) (hs : Small s) (hw : Wf s) (hr : kMeta.C w A t.length t) (hb : t.length ≤ 1048576) :
    Calls Try.prog 12 #[.agg #[.int .i64 s.cap, .slice F s.files.length fc, .slice N s.names.length nc, .slice S s.safe.length sc, .int .i64 s.next], .agg #[.slice A t.length c, .int .i64 seq, .int .i64 next], .int .i64 id, .int .i64 log] w fun e w' => ∃ v, e = .returned (.tuple #[v, .int .i64 (stE s)]) ∧ RS w' w.heap.size v (orphL s id log t) ∧ Below w.heap.size w w' := by
  have HH := Aside0.mk h
  have HS := Aside0.mk hs
  have HW := Aside0.mk hw
  have HR := Aside0.mk hr
  obtain ⟨E, hE⟩ := named (stE s)
  rw [← hE.out]
  clear h hs hw hr
  go_enter Try.func12, Try.ntmps12
  go_upto_region 1 with (fail)
  obtain ⟨W0, hW0⟩ : ∃ W, W = ((w.alloc (.cells #[.int .i64 s.cap, .slice F s.files.length fc, .slice N s.names.length nc, .slice S s.safe.length sc, .int .i64 s.next] 33)).alloc (.cells #[.slice A t.length c, .int .i64 seq, .int .i64 next] 41)).alloc (.cells #[.int .i64 log] 3) := ⟨_, rfl⟩
  have hk4 : W0.heap[w.heap.size]? = some (.cells #[.int .i64 s.cap, .slice F s.files.length fc, .slice N s.names.length nc, .slice S s.safe.length sc, .int .i64 s.next] 33 (0, 0)) := by rw [hW0]; exact blk_alloc (blk_alloc (blk_new _ _) _) _
  have k5 : W0.cell? ⟨w.heap.size + 1, 0, none⟩ = some (.slice A t.length c) := by rw [hW0]; simp [go_sem]
  have k7 : W0.cell? ⟨w.heap.size + 2, 0, none⟩ = some (.int .i64 log) := by rw [hW0]; simp [go_sem]
  have HB0 : Aside0 (Below w.heap.size w W0) := ⟨by rw [hW0]; exact below_alloc (below_alloc (below_alloc (Below.refl _ _) _) _) _⟩
  have HZ0 : Aside0 (W0.heap.size = w.heap.size + 3) := ⟨by rw [hW0]; simp⟩
  rw [← hW0]
  clear hW0
  obtain ⟨x0, x1, x2, x3, x4, _, _, _, _, _⟩ := all5 hk4
  have HK5 := Aside0.mk k5
  have HK7 := Aside0.mk k7
  clear hk4 k5 k7
  go_wp2_with fail
  refine (list_any s F N S fc nc sc _ (HH.out.below HB0.out) HS.out HW.out).mono ?_
  rw [← hE.out]
  rintro e w1 ⟨v, rfl, hv, hb1⟩
  have HV := Aside0.mk hv
  have HB1 := Aside0.mk hb1
  have HB01 := Aside0.mk (bthen HB0.out hb1)
  clear x0 x1 x2 x3 x4 hv hb1
  cases hst : stB s with
  | false =>
    have HE : Aside0 (E = 9) := ⟨by rw [hE.out, stE, hst]; rfl⟩
    have HL : Aside0 (orphL s id log t = []) := ⟨by rw [orphL, listL, hst]; rfl⟩
    rw [HE.out]
    clear hst
    go_wp2
    refine bodyPost_ret (results_tmp2 rfl _ _ _) rfl ?_
    exact ⟨.slice none 0 0, by rw [HE.out]; rfl, by rw [HL.out]; exact Kd.R_nil _ _ _ _ _, HB01.out⟩
  | true =>
    have HE : Aside0 (E = 0) := ⟨by rw [hE.out, stE, hst]; rfl⟩
    rw [HE.out]
    clear hst
    have SM : SetL Try.prog 9 4 (w1.alloc (.map #[] 0)) w1.heap.size (slits []) := SetL.made w1 _ _ _
    obtain ⟨wA, runA, SA, gA⟩ := SM.update (t := 95) (key := .string ⟨#[67, 85, 82, 82, 69, 78, 84]⟩) (Maps.string_keyed Try.underlying9) Try.underlying95 Try.underlying4 (by simp [slits, maxLen]) (WideMaps.keyOf_string_mk Try.underlying9 (by decide)) trivial
    have hmm := @run_makeMap Try.prog
    go_upto_region 5 with (fail)
    obtain ⟨Wb, hWb⟩ : ∃ W, W = wA.alloc (.cells #[.map (some w1.heap.size)] 95) := ⟨_, rfl⟩
    obtain ⟨pm, hpm⟩ : ∃ n, n = wA.heap.size := ⟨_, rfl⟩
    have HBb : Aside0 (Below w1.heap.size w1 Wb) := ⟨by rw [hWb]; exact below_alloc ((below_alloc (Below.refl _ _) _).grown gA (by simp) (fun k hk => by injection hk with hk; omega)) _⟩
    have HSB : Aside0 (SetL Try.prog 9 4 Wb w1.heap.size (slits [sCur])) := ⟨by rw [hWb]; exact SA.alloc _⟩
    have kp : Wb.cell? ⟨pm, 0, none⟩ = some (.map (some w1.heap.size)) := by rw [hWb, hpm]; exact new_cell _ _ _ 0 _ rfl
    have HPM : Aside0 (w1.heap.size < pm) := ⟨by rw [hpm]; exact SA.lt⟩
    have HZb : Aside0 (pm < Wb.heap.size) := ⟨by rw [hWb, hpm]; simp⟩
    rw [← hWb, ← hpm]
    have HKP := Aside0.mk kp
    clear hWb hpm SM SA gA runA kp
    have hmapb : ∃ es k, Wb.heap[w1.heap.size]? = some (.map es k) := SetL.isMapBlock HSB.out
    have HC : Aside0 (∀ wr, Wb.grownBy wr (some w1.heap.size) → Cell Wb wr) := ⟨fun wr hg => by obtain ⟨es, k, hm⟩ := hmapb; exact Cell.of_map hm hg⟩
    have HBw : Aside0 (∀ wr, Wb.grownBy wr (some w1.heap.size) → Below w1.heap.size w1 wr) := ⟨fun wr hg => HBb.out.grown hg (by have := HBb.out.size; omega) (fun k hk => by injection hk with hk; omega)⟩
    have HC5 : Aside0 (∀ wr, Wb.grownBy wr (some w1.heap.size) → wr.cell? ⟨w.heap.size + 1, 0, none⟩ = some (.slice A t.length c)) := ⟨fun wr hg => ((bthen HB1.out (HBw.out wr hg)).cell (World.block_lt_of_cell? W0 _ HK5.out)).trans HK5.out⟩
    have HC7 : Aside0 (∀ wr, Wb.grownBy wr (some w1.heap.size) → wr.cell? ⟨w.heap.size + 2, 0, none⟩ = some (.int .i64 log)) := ⟨fun wr hg => ((bthen HB1.out (HBw.out wr hg)).cell (World.block_lt_of_cell? W0 _ HK7.out)).trans HK7.out⟩
    have HCP : Aside0 (∀ wr, Wb.grownBy wr (some w1.heap.size) → wr.cell? ⟨pm, 0, none⟩ = some (.map (some w1.heap.size))) := ⟨fun wr hg => HC.out wr hg _ _ HKP.out⟩
    clear hmapb
    go_wp2_with fail
    refine (name_any 109 id _ (by decide) (by decide)).mono ?_
    rintro e w2 ⟨rfl, hb2⟩
    have HG2 := Aside0.mk (grown_of_below hb2 (some w1.heap.size))
    have HS2 := Aside0.mk (HSB.out.below hb2)
    clear hb2
    obtain ⟨ne, hne⟩ := named (nameE 109 id)
    rw [← hne.out]
    go_upto_if 35 with (fail)
    go_cut [8] (fun v8 wc => v8 = .slice none 0 0 ∧ Aside0 (SetL Try.prog 9 4 wc w1.heap.size (slits (keysTo id t 0))) ∧ Aside0 (Wb.grownBy wc (some w1.heap.size)))
    case first =>
      by_cases hz : ne = 0
      · have hz' : (ne == 0) = true := by simp [hz]
        obtain ⟨wB, runB, SB, gB⟩ := HS2.out.update (t := 95) (key := .string (nameS 109 id)) (Maps.string_keyed Try.underlying9) Try.underlying95 Try.underlying4 (by simp [slits, maxLen]) (WideMaps.keyOf_string_mk Try.underlying9 (by have := nameS_small 109 id; simp [maxLen]; omega)) trivial
        have hk : Aside0 (keysTo id t 0 = [sCur] ++ [nameS 109 id]) := ⟨by rw [keysTo, nmOpt_yes (by rw [← hne.out]; exact hz)]; rfl⟩
        have kp := HCP.out w2 HG2.out
        have HSR : Aside0 (SetL Try.prog 9 4 wB w1.heap.size (slits (keysTo id t 0))) := ⟨by rw [hk.out]; exact SB⟩
        have HGR := Aside0.mk (grown_trans HG2.out gB)
        clear SB gB hz
        go_wp2
        go_meet
        exact ⟨rfl, HSR, HGR⟩
      · have hz' : (ne == 0) = false := by simp [hz]
        have hk : Aside0 (keysTo id t 0 = [sCur]) := ⟨by rw [keysTo, nmOpt_no (by rw [← hne.out]; exact hz)]; rfl⟩
        clear hz
        go_wp2
        go_meet
        exact ⟨rfl, ⟨by rw [hk.out]; exact HS2.out⟩, HG2⟩
    case rest =>
      obtain ⟨rfl, HS0, HG0⟩ := hcut
      have k5 := HC5.out wc HG0.out
      clear HS2 HG2
      go_wp2
      go_loopg [41] t.length (fun gk v41 wr => ∃ i : Nat, v41 = .int .i64 i ∧ gk + i = t.length ∧ Aside0 (SetL Try.prog 9 4 wr w1.heap.size (slits (keysTo id t i))) ∧ Aside0 (Wb.grownBy wr (some w1.heap.size)))
      case atStart => exact ⟨0, rfl, by omega, HS0, HG0⟩
      case round =>
        clear k5
        obtain ⟨i, rfl, hg, HSr, HGr⟩ := hrel
        by_cases hlt : i < t.length
        · obtain ⟨m, hm⟩ : ∃ m, t[i]? = some m := ⟨_, List.getElem?_eq_getElem hlt⟩
          obtain ⟨ad, rfl, c0, c1, c2, c3, c4⟩ := atMeta (Kd.C_below HR.out (bthen HB01.out (HBw.out wr HGr.out))) i m hm
          have HM := Aside0.mk hm
          clear hm
          go_upto_region 11 with (fail)
          obtain ⟨W6, hW6⟩ : ∃ W6, W6 = wr.alloc (.cells #[.int .i64 m.id, .int .i64 m.level, .int .i64 m.count, .string m.low, .string m.high] 96) := ⟨_, rfl⟩
          have HB6 : Aside0 (Below wr.heap.size wr W6) := ⟨by rw [hW6]; exact below_alloc (Below.refl _ _) _⟩
          have k0 : W6.cell? ⟨wr.heap.size, 0, none⟩ = some (.int .i64 m.id) := by rw [hW6]; exact new_cell _ _ _ 0 _ rfl
          rw [← hW6]
          clear hW6 c0 c1 c2 c3 c4
          go_wp2_with fail
          refine (name_any 116 m.id _ (by decide) (by decide)).mono ?_
          rintro e w7 ⟨rfl, hb7⟩
          have HG7 := Aside0.mk (grown_trans HGr.out (grown_of_below (bthen HB6.out hb7) (some w1.heap.size)))
          have HS7 := Aside0.mk (HSr.out.below (bthen HB6.out hb7))
          clear hb7 k0
          obtain ⟨me, hme⟩ := named (nameE 116 m.id)
          rw [← hme.out]
          by_cases hz : me = 0
          · have hz' : (me == 0) = true := by simp [hz]
            have hl := keysTo_len id t i
            obtain ⟨wB, runB, SB, gB⟩ := HS7.out.update (t := 95) (key := .string (nameS 116 m.id)) (Maps.string_keyed Try.underlying9) Try.underlying95 Try.underlying4 (by simp [slits, maxLen]; omega) (WideMaps.keyOf_string_mk Try.underlying9 (by have := nameS_small 116 m.id; simp [maxLen]; omega)) trivial
            have hk : Aside0 (keysTo id t (i + 1) = keysTo id t i ++ [nameS 116 m.id]) := ⟨keysTo_yes HM.out (by rw [← hme.out]; exact hz)⟩
            have kp := HCP.out w7 HG7.out
            have HSR : Aside0 (SetL Try.prog 9 4 wB w1.heap.size (slits (keysTo id t (i + 1)))) := ⟨by rw [hk.out, slits, List.map_append]; exact SB⟩
            have HGR := Aside0.mk (grown_trans HG7.out gB)
            clear SB gB hz hl
            go_wp2
            go_roundg (t.length - (i + 1))
            case measure => omega
            case rel => exact ⟨i + 1, by go_num, by omega, HSR, HGR⟩
          · have hz' : (me == 0) = false := by simp [hz]
            have hk : Aside0 (keysTo id t (i + 1) = keysTo id t i) := ⟨keysTo_no HM.out (by rw [← hme.out]; exact hz)⟩
            clear hz
            go_wp2
            go_roundg (t.length - (i + 1))
            case measure => omega
            case rel => exact ⟨i + 1, by go_num, by omega, ⟨by rw [hk.out]; exact HS7.out⟩, HG7⟩
        · have hie : Aside0 (keysTo id t i = needL id t) := ⟨by rw [show i = t.length by omega, keysTo_all]⟩
          have HV1 : Aside0 (Kd.string.R 9 w1 W0.heap.size (fun k => k < w1.heap.size) v (listL s)) := ⟨Kd.R_mono (Kd.R_bound HV.out) (fun k hk => hk.2.2.1)⟩
          have HV2 : Aside0 (RS wr W0.heap.size v (listL s)) := ⟨Kd.R_mono (Kd.R_below HV1.out (HBw.out wr HGr.out)) (fun _ _ => trivial)⟩
          go_wp2_with fail
          refine (delRS_any W0.heap.size v (listL s) (needB id log t) #[.pointer (some ⟨pm, 0, none⟩), .pointer (some ⟨w.heap.size + 2, 0, none⟩)] wr (Nat.le_trans listL_len HS.out.ln) ?_ HV2.out ?_).mono ?_
          · have h1 := HB1.out.size; have h2 := (HBw.out wr HGr.out).size; omega
          · intro x hx g W hg hW
            have hg1 := Kd.R_lt HV.out g hg
            have hg0 := Kd.R_base HV.out g hg
            have hz := HZ0.out
            have hp := HPM.out
            refine (orphFn_any x w1.heap.size ⟨pm, 0, none⟩ ⟨w.heap.size + 2, 0, none⟩ (needL id t) log W (by have := listL_small x hx; omega) (hW.cell (HCP.out wr HGr.out) ?_) (hW.cell (HC7.out wr HGr.out) ?_) ?_)
            · intro e; injection e with e; simp at e; omega
            · intro e; injection e with e; simp at e; omega
            · have := HSr.out.grown hW (by intro e; injection e with e; omega)
              rw [hie.out] at this
              exact this
          · rintro e w8 ⟨v', rfl, hv, hb8⟩
            have HV8 := Aside0.mk hv
            have HB8 := Aside0.mk hb8
            clear hv hb8
            go_wp2
            refine bodyPost_ret (results_tmp2 rfl _ _ _) rfl ?_
            exact ⟨v', by rw [HE.out]; rfl, Kd.R_lower HV8.out (by have := HZ0.out; omega), (bthen HB01.out (HBw.out wr HGr.out)).trans (HB8.out.mono (by have := HZ0.out; omega))⟩
end Go.Proofs.Ytfakfgblaakgdaa.Files
