/- A part of the proof: The document's Check of chapter 11, walked. -/
import Derived.Test.YtfakfgblaakgdaaGreatPkActs9
import Derived.Test.YtfakfgblaakgdaaGreatPkActs2
import Derived.Test.YtfakfgblaakgdaaGreatWZeros

/- The document's Check of chapter 11, walked. -/
namespace Go.Proofs.YtfakfgblaakgdaaGreat.Edit
set_option linter.unusedVariables false
set_option linter.unusedSimpArgs false
open Go.RowKit Go.Proofs.YtfakfgblaakgdaaGreatW.PrintWords Go.Proofs.YtfakfgblaakgdaaGreatW.PrintLast Go.Proofs.YtfakfgblaakgdaaGreat.Base Go.Proofs.YtfakfgblaakgdaaGreat.EditPure Go.Proofs.YtfakfgblaakgdaaGreat.Sets Go.Proofs.YtfakfgblaakgdaaGreat.Wide

/-- what the document's Check asks of a table, all but that its number is new -/
def refBad (next : Int) (pre : List Meta) (m : Meta) : Bool := !(mayM m && decide (m.id < next) && lastOk pre m)

theorem okTo_false {next : Int} (l : List Meta) {i : Nat} (h : okTo next l i = false) {n : Nat} (hn : i ≤ n) : okTo next l n = false := by
  induction n with
  | zero => obtain rfl : i = 0 := by omega
            exact h
  | succ n ih =>
    by_cases e : i = n + 1
    · subst e; exact h
    · rw [okTo, ih (by omega), Bool.false_and]

set_option maxRecDepth 100000 in
set_option maxHeartbeats 2000000 in
theorem refCheck_any (A : Option Addr) (c : Nat) (l : List Meta) (seq next : Int) (w : World) (hr : Kd.C kMeta w A l.length l) (hc : l.length ≤ c) :
    Calls Tryz.prog 26 #[.agg #[.slice A l.length c, .int .i64 seq, .int .i64 next]] w fun e w' => e = .returned (.int .i64 (verE l seq next)) ∧ Below w.heap.size w w' := by
  have HR := Aside0.mk hr
  have hlen := Kd.C_max hr
  clear hr
  obtain ⟨ok0, hok0⟩ := named (headOk l.length seq next)
  have hd : Aside0 (ok0 = (decide ((l.length : Int) ≤ 256) && (decide (1 ≤ next) && (decide (next ≤ 2147483647) && (decide (0 ≤ seq) && decide (seq ≤ 1099511627776)))))) := ⟨by rw [hok0.out, headOk, within, within, Bool.and_assoc]; congr 1; simp; omega⟩
  go_enter Tryz.func26, Tryz.ntmps26
  go_upto_region 1 with (fail)
  go_cut [29] (fun v29 wc => v29 = .bool (!ok0) ∧ wc = w.alloc (.cells #[.slice A l.length c, .int .i64 seq, .int .i64 next] 28))
  case first =>
    go_wp2
    all_goals go_meet
    all_goals refine ⟨?_, rfl⟩
    all_goals rw [hd.out]
    all_goals (congr 1; rw [Bool.eq_iff_iff]; simp; omega)
  case rest =>
    obtain ⟨rfl, rfl⟩ := hcut
    cases hk0 : ok0 with
    | false =>
      have he : Aside0 (verE l seq next = 9) := ⟨by rw [verE, verOk, ← hok0.out, hk0]; rfl⟩
      go_wp2
      go_ret
      exact ⟨by rw [he.out]; rfl, below_alloc (Below.refl _ _) _⟩
    | true =>
      rw [hk0] at hok0
      clear hd hk0
      go_wp2
      obtain ⟨w1, hw1⟩ : ∃ w1, w1 = w.alloc (.cells #[.slice A l.length c, .int .i64 seq, .int .i64 next] 28) := ⟨_, rfl⟩
      have HS1 : Aside0 (w1.heap.size = w.heap.size + 1) := ⟨by rw [hw1]; simp⟩
      have HX0 : Aside0 (w1.cell? ⟨w.heap.size, 0, none⟩ = some (.slice A l.length c)) := ⟨by rw [hw1]; exact new_cell _ _ _ 0 _ rfl⟩
      have HX2 : Aside0 (w1.cell? ⟨w.heap.size, 2, none⟩ = some (.int .i64 next)) := ⟨by rw [hw1]; exact new_cell _ _ _ 2 _ rfl⟩
      have HB1 : Aside0 (Below w.heap.size w w1) := ⟨by rw [hw1]; exact below_alloc (Below.refl _ _) _⟩
      rw [← hw1]
      clear hw1
      go_loopg [3] l.length (fun g v3 wr => ∃ i : Nat, v3 = .int .i64 i ∧ g + i = l.length ∧ Aside0 (okTo next l i = true) ∧ Aside0 (Below w1.heap.size w1 wr))
      case atStart => exact ⟨0, rfl, by omega, ⟨rfl⟩, ⟨Below.refl _ _⟩⟩
      case round =>
        obtain ⟨i, rfl, hg, HT, HB⟩ := hrel
        have HC := Aside0.mk (Kd.C_below HR.out (bthen HB1.out HB.out))
        have hx0 : wr.cell? ⟨w.heap.size, 0, none⟩ = some (.slice A l.length c) := (HB.out.cell (p := ⟨w.heap.size, 0, none⟩) (by show w.heap.size < _; rw [HS1.out]; omega)).trans HX0.out
        have hx2 : wr.cell? ⟨w.heap.size, 2, none⟩ = some (.int .i64 next) := (HB.out.cell (p := ⟨w.heap.size, 2, none⟩) (by show w.heap.size < _; rw [HS1.out]; omega)).trans HX2.out
        have hbs0 : w.heap.size < wr.heap.size := World.block_lt_of_cell? wr _ hx0
        by_cases hlt : i < l.length
        · obtain ⟨m, hm⟩ : ∃ m, l[i]? = some m := ⟨_, List.getElem?_eq_getElem hlt⟩
          obtain ⟨ad, rfl, c0, c1, c2, c3, c4⟩ := atMeta HC.out i m hm
          have HM := Aside0.mk hm
          clear hm
          have hgd : Aside0 (l.getD i zMeta = m) := ⟨by rw [List.getD_eq_getElem?_getD, HM.out]; rfl⟩
          obtain ⟨bad, hbad⟩ := named (refBad next (l.take i) m)
          go_upto_region 7 with (fail)
          obtain ⟨W7, hW7⟩ : ∃ W7, W7 = wr.alloc (.cells #[.int .i64 m.id, .int .i64 m.level, .int .i64 m.count, .string m.low, .string m.high] 139) := ⟨_, rfl⟩
          have k0 : W7.cell? ⟨wr.heap.size, 0, none⟩ = some (.int .i64 m.id) := by rw [hW7]; exact new_cell _ _ _ 0 _ rfl
          have k1 : W7.cell? ⟨wr.heap.size, 1, none⟩ = some (.int .i64 m.level) := by rw [hW7]; exact new_cell _ _ _ 1 _ rfl
          have k2 : W7.cell? ⟨wr.heap.size, 2, none⟩ = some (.int .i64 m.count) := by rw [hW7]; exact new_cell _ _ _ 2 _ rfl
          have k3 : W7.cell? ⟨wr.heap.size, 3, none⟩ = some (.string m.low) := by rw [hW7]; exact new_cell _ _ _ 3 _ rfl
          have k4 : W7.cell? ⟨wr.heap.size, 4, none⟩ = some (.string m.high) := by rw [hW7]; exact new_cell _ _ _ 4 _ rfl
          have HB7 : Aside0 (Below wr.heap.size wr W7) := ⟨by rw [hW7]; exact below_alloc (Below.refl _ _) _⟩
          have x0 := (HB7.out.cell (World.block_lt_of_cell? wr _ hx0)).trans hx0
          have x2 := (HB7.out.cell (World.block_lt_of_cell? wr _ hx2)).trans hx2
          rw [← hW7]
          clear hW7 hx0 hx2 c0 c1 c2 c3 c4
          go_cut [99] (fun v99 wc => v99 = .bool bad ∧ Aside0 (Below W7.heap.size W7 wc))
          case first =>
            have X0 := wb_cell x0
            have X2 := wb_cell x2
            have K0 := wb_cell k0
            have K1 := wb_cell k1
            have K2 := wb_cell k2
            have K3 := wb_cell k3
            have K4 := wb_cell k4
            obtain ⟨my, hmy⟩ := named (mayM m)
            have CM : ∀ W, Calls Tryz.prog 67 #[.agg #[.int .i64 m.id, .int .i64 m.level, .int .i64 m.count, .string m.low, .string m.high]] W fun e w' => e = .returned (.bool my) ∧ Below W.heap.size W w' :=
              fun W => (refMay_any m W).mono fun e w' ⟨he, o, ho⟩ => ⟨by rw [hmy.out]; exact he, by rw [ho]; exact below_alloc (Below.refl _ _) _⟩
            clear x0 x2 k0 k1 k2 k3 k4
            cases hmv : my with
            | false =>
              rw [hmv] at CM
              have hv : Aside0 (bad = true) := ⟨by rw [hbad.out, refBad, ← hmy.out, hmv]; rfl⟩
              clear hmv
              refine wp_region_wide (by kernel_rfl) (by kernel_rfl) ?_
              repeat (go_big_quiet_step ((go_at_call 67; exact wide_of (CM _))))
              refine wpQuiet_nil ?_
              rintro w' ⟨x, rfl⟩
              go_wp2
              go_meet
              exact ⟨by rw [hv.out], ⟨wb_below _ x⟩⟩
            | true =>
              rw [hmv] at CM
              rw [hmv] at hmy
              clear hmv
              by_cases hidn : m.id < next
              · have hidn' : decide (next ≤ m.id) = false := by simp; omega
                have hidn2 : ¬ (next ≤ m.id) := by omega
                by_cases hi : i = 0
                · have hi0 : ¬ (0 < i) := by omega
                  have hi1 : decide (0 < i) = false := by simp [hi]
                  have hv : Aside0 (bad = false) := ⟨by rw [hbad.out, refBad, ← hmy.out]; subst hi; simp [lastOk, hidn]⟩
                  clear hi
                  refine wp_region_wide (by kernel_rfl) (by kernel_rfl) ?_
                  repeat (go_big_quiet_step ((go_at_call 67; exact wide_of (CM _))))
                  refine wpQuiet_nil ?_
                  rintro w' ⟨x, rfl⟩
                  go_wp2
                  go_meet
                  exact ⟨by rw [hv.out], ⟨wb_below _ x⟩⟩
                · obtain ⟨k, rfl⟩ : ∃ k, i = k + 1 := ⟨i - 1, by omega⟩
                  clear hi
                  obtain ⟨p, hp⟩ : ∃ p, l[k]? = some p := ⟨_, List.getElem?_eq_getElem (by omega)⟩
                  have hlast : Aside0 (lastOk (l.take (k + 1)) m = linkOk p m) := ⟨by rw [lastOk, List.take_add_one, hp]; simp⟩
                  obtain ⟨ad', had, d0, d1, d2, d3, d4⟩ := atMeta (Kd.C_below HC.out HB7.out) k p hp
                  obtain rfl : ad = ad' := by injection had
                  have D0 := wb_cell d0
                  have D1 := wb_cell d1
                  have D2 := wb_cell d2
                  have D3 := wb_cell d3
                  have D4 := wb_cell d4
                  clear hp had d0 d1 d2 d3 d4
                  obtain ⟨bf, hbf⟩ := named (befB p m)
                  have CB : ∀ W, Calls Tryz.prog 68 #[.agg #[.int .i64 p.id, .int .i64 p.level, .int .i64 p.count, .string p.low, .string p.high], .agg #[.int .i64 m.id, .int .i64 m.level, .int .i64 m.count, .string m.low, .string m.high]] W fun e w' => e = .returned (.bool bf) ∧ Below W.heap.size W w' :=
                    fun W => (before_any p m W).mono fun e w' ⟨he, o1, o2, ho⟩ => ⟨by rw [hbf.out]; exact he, by rw [ho]; exact below_alloc (below_alloc (Below.refl _ _) _) _⟩
                  have hbadk : Aside0 (bad = !linkOk p m) := ⟨by rw [hbad.out, refBad, ← hmy.out, hlast.out]; simp [hidn]⟩
                  have hlev : Aside0 (0 ≤ m.level) := ⟨by have := hmy.out; simp [mayM, within] at this; omega⟩
                  have hlnk : Aside0 (linkOk p m = (bf && (m.level == 0 || (m.level != p.level || sLt p.high m.low)))) := ⟨by rw [linkOk, hbf.out]; rfl⟩
                  clear hidn
                  cases hbv : bf with
                  | false =>
                    rw [hbv] at CB
                    have hv : Aside0 (bad = true) := ⟨by rw [hbadk.out, hlnk.out, hbv]; rfl⟩
                    clear hbv
                    refine wp_region_wide (by kernel_rfl) (by kernel_rfl) ?_
                    repeat (go_big_quiet_step ((first | (go_at_call 67; exact wide_of (CM _)) | (go_at_call 68; exact wide_of (CB _)))))
                    refine wpQuiet_nil ?_
                    rintro w' ⟨x, rfl⟩
                    go_wp2
                    go_meet
                    exact ⟨by rw [hv.out], ⟨wb_below _ x⟩⟩
                  | true =>
                    rw [hbv] at CB hlnk
                    clear hbv
                    by_cases hl0 : 0 < m.level
                    · by_cases hll : p.level = m.level
                      · have hll' : (p.level == m.level) = true := by simp [hll]
                        have hv : Aside0 (bad = !sLt p.high m.low) := ⟨by rw [hbadk.out, hlnk.out]; simp [show ¬ m.level = 0 by omega, hll]⟩
                        clear hll
                        refine wp_region_wide (by kernel_rfl) (by kernel_rfl) ?_
                        repeat (go_big_quiet_step ((first | (go_at_call 67; exact wide_of (CM _)) | (go_at_call 68; exact wide_of (CB _)))))
                        refine wpQuiet_nil ?_
                        rintro w' ⟨x, rfl⟩
                        go_wp2
                        go_meet
                        exact ⟨by rw [hv.out, leq_bytes]; rfl, ⟨wb_below _ x⟩⟩
                      · have hll' : (p.level == m.level) = false := by simp [hll]
                        have hv : Aside0 (bad = false) := ⟨by rw [hbadk.out, hlnk.out]; simp [Ne.symm hll]⟩
                        clear hll
                        refine wp_region_wide (by kernel_rfl) (by kernel_rfl) ?_
                        repeat (go_big_quiet_step ((first | (go_at_call 67; exact wide_of (CM _)) | (go_at_call 68; exact wide_of (CB _)))))
                        refine wpQuiet_nil ?_
                        rintro w' ⟨x, rfl⟩
                        go_wp2
                        go_meet
                        exact ⟨by rw [hv.out], ⟨wb_below _ x⟩⟩
                    · have hv : Aside0 (bad = false) := ⟨by rw [hbadk.out, hlnk.out]; have := hlev.out; simp [show m.level = 0 by omega]⟩
                      refine wp_region_wide (by kernel_rfl) (by kernel_rfl) ?_
                      repeat (go_big_quiet_step ((first | (go_at_call 67; exact wide_of (CM _)) | (go_at_call 68; exact wide_of (CB _)))))
                      refine wpQuiet_nil ?_
                      rintro w' ⟨x, rfl⟩
                      go_wp2
                      go_meet
                      exact ⟨by rw [hv.out], ⟨wb_below _ x⟩⟩
              · have hv : Aside0 (bad = true) := ⟨by rw [hbad.out, refBad, ← hmy.out]; simp [hidn]⟩
                have hidn' : decide (next ≤ m.id) = true := by simp; omega
                clear hidn
                refine wp_region_wide (by kernel_rfl) (by kernel_rfl) ?_
                repeat (go_big_quiet_step ((go_at_call 67; exact wide_of (CM _))))
                refine wpQuiet_nil ?_
                rintro w' ⟨x, rfl⟩
                go_wp2
                go_meet
                exact ⟨by rw [hv.out], ⟨wb_below _ x⟩⟩
          case rest =>
            obtain ⟨rfl, hb8⟩ := hcut
            have hbe : Below wr.heap.size wr wc := bthen HB7.out hb8.out
            cases hbv : bad with
            | true =>
              have hto : okTo next l (i + 1) = false := by
                rw [okTo, hgd.out, stepOk]
                rw [hbad.out, refBad] at hbv
                cases hm1 : mayM m <;> cases hm2 : decide (m.id < next) <;> cases hm3 : lastOk (l.take i) m <;> simp [hm1, hm2, hm3] at hbv ⊢
              have he : Aside0 (verE l seq next = 9) := ⟨by rw [verE, if_neg]; rw [verOk, okTo_false l hto (by omega)]; simp⟩
              clear hto hbv
              go_wp2
              go_ret
              exact ⟨by rw [he.out]; rfl, bthen HB1.out (bthen HB.out hbe)⟩
            | false =>
              rw [hbv] at hbad
              clear hbv
              go_wp2
              have hst : Aside0 ((mayM m && decide (m.id < next) && lastOk (l.take i) m) = true) := ⟨by have := hbad.out; rw [refBad] at this; simpa using this.symm⟩
              have y0 := (hb8.out.cell (World.block_lt_of_cell? W7 _ x0)).trans x0
              have z0 := (hb8.out.cell (World.block_lt_of_cell? W7 _ k0)).trans k0
              have HCc := Aside0.mk (Kd.C_below HC.out hbe)
              have HBE := Aside0.mk hbe
              clear x0 x2 k0 k1 k2 k3 k4 hb8 hbe
              go_loopg [5] i (fun g v5 wv => ∃ j : Nat, v5 = .int .i64 j ∧ g + j = i ∧ Aside0 ((l.take j).any (fun x => x.id == m.id) = false) ∧ Aside0 (Below wc.heap.size wc wv))
              case atStart => exact ⟨0, rfl, by omega, ⟨rfl⟩, ⟨Below.refl _ _⟩⟩
              case round =>
                obtain ⟨j, rfl, hgj, HN, HBv⟩ := hrel
                have HCv := Aside0.mk (Kd.C_below HCc.out HBv.out)
                have y1 := (HBv.out.cell (World.block_lt_of_cell? wc _ y0)).trans y0
                have z1 := (HBv.out.cell (World.block_lt_of_cell? wc _ z0)).trans z0
                by_cases hj : j < i
                · obtain ⟨p, hp⟩ : ∃ p, l[j]? = some p := ⟨_, List.getElem?_eq_getElem (by omega)⟩
                  obtain ⟨ad', had, d0, d1, d2, d3, d4⟩ := atMeta HCv.out j p hp
                  obtain rfl : ad = ad' := by injection had
                  have HP := Aside0.mk hp
                  have hjl : j < l.length := by omega
                  clear hp had d1 d2 d3 d4 y0 z0
                  have hany : Aside0 ((l.take (j + 1)).any (fun x => x.id == m.id) = (p.id == m.id)) := ⟨by rw [List.take_add_one, HP.out, List.any_append, HN.out]; simp⟩
                  cases he : (p.id == m.id) with
                  | true =>
                    have hto : okTo next l (i + 1) = false := by
                      rw [okTo, hgd.out, stepOk]
                      have : (l.take i).any (fun x => x.id == m.id) = true := by
                        rw [List.any_eq_true]
                        refine ⟨p, ?_, he⟩
                        have h2 : (l.take i)[j]? = some p := by rw [List.getElem?_take, if_pos hj]; exact HP.out
                        exact List.mem_of_getElem? h2
                      rw [this]; simp
                    have hE : Aside0 (verE l seq next = 9) := ⟨by rw [verE, if_neg]; rw [verOk, okTo_false l hto (by omega)]; simp⟩
                    clear hto
                    go_wp2_with fail
                    go_quiet (fail)
                    go_wp2
                    go_ret
                    exact ⟨by rw [hE.out]; rfl, bthen HB1.out (bthen HB.out (bthen HBE.out (pw_below_drewN HBv.out nq)))⟩
                  | false =>
                    rw [he] at hany
                    go_wp2_with fail
                    go_quiet (fail)
                    go_wp2
                    go_roundg (i - (j + 1))
                    case measure => omega
                    case rel => exact ⟨j + 1, by go_num, by omega, hany, ⟨pw_below_drewN HBv.out nq⟩⟩
                · have hji : j = i := by omega
                  have HN2 : Aside0 ((l.take i).any (fun x => x.id == m.id) = false) := ⟨by rw [← hji]; exact HN.out⟩
                  have hj2 : i ≤ j := by omega
                  clear hji hj
                  go_wp2
                  go_roundg (l.length - (i + 1))
                  case measure => omega
                  case rel => exact ⟨i + 1, by go_num, by omega, ⟨by
                    rw [okTo, HT.out, hgd.out, stepOk, HN2.out]
                    have := hst.out
                    simp only [Bool.and_eq_true] at this
                    simp [this]⟩, ⟨bthen HB.out (bthen HBE.out HBv.out)⟩⟩
        · have hie : i = l.length := by omega
          have he : Aside0 (verE l seq next = 0) := ⟨by rw [verE, verOk, ← hok0.out, ← hie, HT.out]; rfl⟩
          clear hie
          go_wp2
          go_ret
          exact ⟨by rw [he.out]; rfl, bthen HB1.out HB.out⟩
end Go.Proofs.YtfakfgblaakgdaaGreat.Edit

/- Rows of tables made: OfMetas, slices.Clone, the document's metas. -/
namespace Go.Proofs.YtfakfgblaakgdaaGreat.Edit
set_option linter.unusedVariables false
set_option linter.unusedSimpArgs false
open Go.RowKit Go.Proofs.YtfakfgblaakgdaaGreatW.PrintWords Go.Proofs.YtfakfgblaakgdaaGreatW.PrintLast Go.Proofs.YtfakfgblaakgdaaGreat.Base Go.Proofs.YtfakfgblaakgdaaGreat.EditPure Go.Proofs.YtfakfgblaakgdaaGreat.Sets Go.Proofs.YtfakfgblaakgdaaGreat.Wide

theorem infoM : (Tryz.prog.info? 132).map (fun i => (i.zero, i.size, i.bytes)) = some (some (.agg #[(.int .i64 0), (.int .i64 0), (.int .i64 0), (.string ⟨#[]⟩), (.string ⟨#[]⟩)]), 5, 56) := by kernel_rfl
theorem infoMr : (Tryz.prog.info? 139).map (fun i => (i.zero, i.size, i.bytes)) = some (some (.agg #[(.int .i64 0), (.int .i64 0), (.int .i64 0), (.string ⟨#[]⟩), (.string ⟨#[]⟩)]), 5, 56) := by kernel_rfl

/-- a row of tables of one's own -/
abbrev RM (e : TypeId) (w : World) (base : Nat) (v : Value) (l : List Meta) : Prop := kMeta.R e w base (fun _ => True) v l

theorem RM_reads {e : TypeId} {w : World} {base : Nat} {v : Value} {l : List Meta} (h : RM e w base v l) : ∃ A c, v = .slice A l.length c ∧ l.length ≤ c ∧ Kd.C kMeta w A l.length l := Kd.R_reads h
theorem reps_metas (w : World) (base : Nat) (ok : Nat → Prop) : ∀ l : List Meta, Reps (kMeta.M w base ok) kMeta.sz l (l.flatMap Meta.cs) := by
  intro l
  induction l using snocInd with
  | h0 => exact Reps.none _ _
  | h1 l c ih =>
    rw [List.flatMap_append, List.flatMap_cons, List.flatMap_nil, List.append_nil]
    exact Reps.snoc ih (kMeta_mkM w base ok c) rfl
/-- a block of tables that was just made, as a row of one's own -/
theorem RM_block (e : TypeId) (w : World) (base : Nat) (l : List Meta) (cap : Nat) (hb : base ≤ w.heap.size) (hm : l.length ≤ 9223372036854775807) (hc : cap = l.length) :
    RM e (w.alloc (.cells (l.flatMap Meta.cs).toArray e)) base (.slice (some ⟨w.heap.size, 0, none⟩) l.length cap) l := by
  subst hc
  have hrep := reps_metas (w.alloc (.cells (l.flatMap Meta.cs).toArray e)) base (fun k => True ∧ some k ≠ (Value.slice (some ⟨w.heap.size, 0, none⟩) l.length l.length).ownBlock) l
  refine ⟨fun k hk => trivial, _, ?_, hrep⟩
  have h2 := World.ownsRow_lit (base := base) (e := e) (size := kMeta.sz) w (l.flatMap Meta.cs).toArray l.length hb (by simpa [maxLen] using hm) (by simpa using hrep.1)
  simpa using h2

set_option maxRecDepth 100000 in
set_option maxHeartbeats 1000000 in
theorem ofMetas_any (A : Option Addr) (c : Nat) (l : List Meta) (w : World) (hr : Kd.C kMeta w A l.length l) (hb : l.length ≤ 1048576) :
    Calls Tryz.prog 31 #[.slice A l.length c] w fun e w' => ∃ v, e = .returned v ∧ RM 132 w' w.heap.size v l ∧ Below w.heap.size w w' := by
  have HR := Aside0.mk hr
  clear hr
  go_enter Tryz.func31, Tryz.ntmps31
  go_wp2
  go_loopg [3, 4] l.length (fun g v3 v4 wr => ∃ i : Nat, v4 = .int .i64 i ∧ g + i = l.length ∧ Aside0 (RM 132 wr w.heap.size v3 (l.take i)) ∧ Aside0 (Below w.heap.size w wr))
  case atStart => exact ⟨0, rfl, by omega, ⟨Kd.R_nil kMeta _ _ _ _⟩, ⟨Below.refl _ _⟩⟩
  case round =>
    obtain ⟨i, rfl, hg, HO, HB⟩ := hrel
    by_cases hlt : i < l.length
    · have HC := Aside0.mk (Kd.C_below HR.out HB.out)
      obtain ⟨m, hm⟩ : ∃ m, l[i]? = some m := ⟨_, List.getElem?_eq_getElem hlt⟩
      obtain ⟨ad, rfl, c0, c1, c2, c3, c4⟩ := atMeta HC.out i m hm
      have ht : Aside0 (l.take (i + 1) = l.take i ++ [m]) := ⟨by rw [List.take_add_one, hm]; rfl⟩
      have hl : (l.take i).length = i := by rw [List.length_take]; omega
      have HL := Aside0.mk hl
      clear hm hl
      go_wp2_with (first | (at_builtin; refine Kd.R_append kMeta (w0 := w) w.heap.size rfl (.tmp 11) (.tmp 16) 37 132 (.agg #[(.int .i64 0), (.int .i64 0), (.int .i64 0), (.string ⟨#[]⟩), (.string ⟨#[]⟩)]) 56 rfl Tryz.underlying37 infoM rfl (by decide) (by omega) u3 (l.take i) m m.cs (fun _ => True) (fun _ => False) rfl rfl ?aP (fun _ hk => hk.elim) (fun _ _ => trivial) ?aO ?aB ?aS ?c1 ?_; (case aP => exact kMeta_mkM _ _ _ m); (case aO => exact HO.out); (case aB => exact HB.out); (case aS => exact HB.out.size); (case c1 => rw [HL.out]; omega); intro v1 w1 hown hB1 hg1 hat; have HO1 := Aside0.mk hown; have HB1 := Aside0.mk hB1; clear hown hB1 hg1 hat))
      go_roundg (l.length - (i + 1))
      case measure => omega
      case rel => exact ⟨i + 1, by go_num, by omega, ⟨by rw [ht.out]; exact HO1.out⟩, HB1⟩
    · have hi : Aside0 (l.take i = l) := ⟨List.take_of_length_le (by omega)⟩
      go_wp2
      go_ret
      exact ⟨_, rfl, by rw [← hi.out]; exact HO.out, HB.out⟩

set_option maxRecDepth 100000 in
set_option maxHeartbeats 1000000 in
theorem clone_any (A : Option Addr) (c : Nat) (l : List Meta) (w : World) (hr : Kd.C kMeta w A l.length l) (hb : l.length ≤ 1048576) :
    Calls Tryz.prog 75 #[.slice A l.length c] w fun e w' => ∃ v, e = .returned v ∧ RM 132 w' w.heap.size v l ∧ Below w.heap.size w w' := by
  have HR := Aside0.mk hr
  clear hr
  cases A with
  | none =>
    have h0 : l = [] := by
      rcases l with _ | ⟨x, l⟩
      · rfl
      · obtain ⟨ad, _, h, _⟩ := Kd.C_get HR.out zMeta 0 (by omega) (by simp)
        cases h
    subst h0
    clear HR
    have hnil : ∀ W, (binOp .eql 37 (.slice none 0 c) (.slice none 0 0)).run Tryz.prog W = .ok (.bool true) W := fun W => Lib.run_eql_slice_nil (P := Tryz.prog) W 37 132 none 0 c 0 0 Tryz.underlying37
    simp only [List.length_nil]
    go_enter Tryz.func75, Tryz.ntmps75
    go_wp2
    go_ret
    exact ⟨_, rfl, Kd.R_nil _ _ _ _ _, Below.refl _ _⟩
  | some ad =>
    have hnil : ∀ W, (binOp .eql 37 (.slice (some ad) l.length c) (.slice none 0 0)).run Tryz.prog W = .ok (.bool false) W := fun W => Lib.run_eql_slice_nil (P := Tryz.prog) W 37 132 (some ad) l.length c 0 0 Tryz.underlying37
    have HO : Aside0 (RM 132 (w.alloc (.cells #[] 132)) w.heap.size (.slice (some ⟨w.heap.size, 0, none⟩) 0 0) []) := ⟨RM_block 132 w w.heap.size [] 0 (Nat.le_refl _) (by simp) rfl⟩
    have HB : Aside0 (Below w.heap.size w (w.alloc (.cells #[] 132))) := ⟨below_alloc (Below.refl _ _) _⟩
    have HC := Aside0.mk (Kd.C_below HR.out HB.out)
    go_enter Tryz.func75, Tryz.ntmps75
    go_wp2_with (at_builtin; refine Kd.R_append_rows kMeta (Rr := kMeta.K (w.alloc (.cells #[] 132))) (w0 := w) w.heap.size rfl (.tmp 5) (.tmp 6) 37 132 (.agg #[(.int .i64 0), (.int .i64 0), (.int .i64 0), (.string ⟨#[]⟩), (.string ⟨#[]⟩)]) 56 rfl Tryz.underlying37 infoM rfl (by decide) (by omega) (.slice (some ⟨w.heap.size, 0, none⟩) 0 0) [] l (some ad) l.length c (fun _ => True) (fun _ => False) rfl rfl ?aO ?aR ?aK (fun _ hk => hk.elim) (fun _ _ => trivial) ?aB ?aS ?c1 ?_; (case aO => exact HO.out); (case aR => exact HC.out); (case aK => intro x cs hx; rw [kMeta_open hx]; exact kMeta_mkM _ _ _ x); (case aB => exact HB.out); (case aS => exact HB.out.size); (case c1 => simp only [List.length_nil]; omega); intro v1 w1 hown hB1 hg1 hat; have HO1 := Aside0.mk hown; have HB1 := Aside0.mk hB1; clear hown hB1 hg1 hat)
    go_ret
    exact ⟨_, rfl, by have := HO1.out; rwa [List.nil_append] at this, HB1.out⟩

set_option maxRecDepth 100000 in
set_option maxHeartbeats 1000000 in
theorem refMetas_any (A : Option Addr) (c : Nat) (l : List Meta) (w : World) (hr : Kd.C kMeta w A l.length l) (hb : l.length ≤ 1048576) :
    Calls Tryz.prog 70 #[.slice A l.length c] w fun e w' => ∃ v, e = .returned v ∧ RM 139 w' w.heap.size v l ∧ Below w.heap.size w w' := by
  have HR := Aside0.mk hr
  clear hr
  go_enter Tryz.func70, Tryz.ntmps70
  go_wp2_with (at_builtin; refine Kd.R_append_rows kMeta (Rr := kMeta.K w) (w0 := w) w.heap.size rfl (.tmp 4) (.tmp 5) 26 139 (.agg #[(.int .i64 0), (.int .i64 0), (.int .i64 0), (.string ⟨#[]⟩), (.string ⟨#[]⟩)]) 56 rfl Tryz.underlying26 infoMr rfl (by decide) (by omega) (.slice none 0 0) [] l A l.length c (fun _ => True) (fun _ => False) rfl rfl ?aO ?aR ?aK (fun _ hk => hk.elim) (fun _ _ => trivial) ?aB ?aS ?c1 ?_; (case aO => exact Kd.R_nil _ _ _ _ _); (case aR => exact HR.out); (case aK => intro x cs hx; rw [kMeta_open hx]; exact kMeta_mkM _ _ _ x); (case aB => exact Below.refl _ _); (case aS => exact Nat.le_refl _); (case c1 => simp only [List.length_nil]; omega); intro v1 w1 hown hB1 hg1 hat; have HO1 := Aside0.mk hown; have HB1 := Aside0.mk hB1; clear hown hB1 hg1 hat)
  go_ret
  exact ⟨_, rfl, by have := HO1.out; rwa [List.nil_append] at this, HB1.out⟩
end Go.Proofs.YtfakfgblaakgdaaGreat.Edit

/- Versions made, compared. -/
namespace Go.Proofs.YtfakfgblaakgdaaGreat.Edit
set_option linter.unusedVariables false
set_option linter.unusedSimpArgs false
open Go.RowKit Go.Proofs.YtfakfgblaakgdaaGreatW.PrintWords Go.Proofs.YtfakfgblaakgdaaGreatW.PrintLast Go.Proofs.YtfakfgblaakgdaaGreat.Base Go.Proofs.YtfakfgblaakgdaaGreat.EditPure Go.Proofs.YtfakfgblaakgdaaGreat.Sets Go.Proofs.YtfakfgblaakgdaaGreat.Wide Go.Proofs.YtfakfgblaakgdaaGreat.Cells

set_option maxRecDepth 100000 in
set_option maxHeartbeats 1000000 in
theorem of_any (A : Option Addr) (c : Nat) (l : List Meta) (seq next : Int) (w : World) (hr : Kd.C kMeta w A l.length l) (hb : l.length ≤ 1048576) :
    Calls Tryz.prog 8 #[.agg #[.slice A l.length c, .int .i64 seq, .int .i64 next]] w fun e w' => ∃ v, e = .returned (.agg #[v, .int .i64 seq, .int .i64 next]) ∧ RM 132 w' w.heap.size v l ∧ Below w.heap.size w w' := by
  have HR := Aside0.mk hr
  clear hr
  go_enter Tryz.func8, Tryz.ntmps8
  go_wp2
  obtain ⟨W, hW⟩ : ∃ W, W = ((w.alloc (Obj.cells #[Value.slice A l.length c, Value.int IntKind.i64 seq, Value.int IntKind.i64 next] 28)).alloc
      (Obj.cells #[Value.slice none 0 0, Value.int IntKind.i64 0, Value.int IntKind.i64 0] 39)) := ⟨_, rfl⟩
  have h0 : W.cell? ⟨w.heap.size, 0, none⟩ = some (.slice A l.length c) := by rw [hW]; simp [go_sem]
  have h1 : W.cell? ⟨w.heap.size, 1, none⟩ = some (.int .i64 seq) := by rw [hW]; simp [go_sem]
  have h2 : W.cell? ⟨w.heap.size, 2, none⟩ = some (.int .i64 next) := by rw [hW]; simp [go_sem]
  have hk : W.heap[w.heap.size + 1]? = some (.cells #[.slice none 0 0, .int .i64 0, .int .i64 0] 39 (0, 0)) := by rw [hW, show w.heap.size + 1 = (w.alloc (Obj.cells #[Value.slice A l.length c, Value.int IntKind.i64 seq, Value.int IntKind.i64 next] 28)).heap.size from by simp]; exact heap_alloc_new _ _
  have hB : Aside0 (Below w.heap.size w W) := ⟨by rw [hW]; exact below_alloc (below_alloc (Below.refl _ _) _) _⟩
  rw [← hW]
  clear hW
  have hk0 := blk_cell hk 0
  have hk1 := blk_cell hk 1
  have hk2 := blk_cell hk 2
  have hf0 := blk_frozen hk 0
  have hf1 := blk_frozen hk 1
  have hf2 := blk_frozen hk 2
  have hlt := blk_lt hk
  go_region_held3 (fun w' => w'.cell? ⟨w.heap.size, 0, none⟩ = some (.slice A l.length c) ∧ w'.cell? ⟨w.heap.size, 1, none⟩ = some (.int .i64 seq) ∧ w'.cell? ⟨w.heap.size, 2, none⟩ = some (.int .i64 next)) (first | exact ⟨h0, h1, h2⟩ | exact ⟨pw_cell_below hbe h0, pw_cell_below hbe h1, pw_cell_below hbe h2⟩ | go_keep) (first | (go_at_call 31; refine (ofMetas_any _ _ _ _ ?c1 hb).mono ?_; (case c1 => exact Kd.C_below HR.out (bthen hB.out (below_drew (Below.refl _ _)))); rintro e w' ⟨v, rfl, ho, hbe⟩; obtain ⟨A', c', rfl, hc', hC'⟩ := RM_reads ho; have q0 := pw_cell_below hbe hk0; have q1 := pw_cell_below hbe hk1; have q2 := pw_cell_below hbe hk2; have r0 := ((bcell hbe).2 _ _ hlt).trans hf0; have r1 := ((bcell hbe).2 _ _ hlt).trans hf1; have r2 := ((bcell hbe).2 _ _ hlt).trans hf2))
  have hsz : w.heap.size ≤ W.heap.size := by omega
  have hbk := blk3 (x := .slice A' l.length c') (y := .int .i64 seq) (z := .int .i64 next) (blk_keep (w := W.drew) hk hbe)
  have hres := Rset3 ho hlt (.slice A' l.length c') (.int .i64 seq) (.int .i64 next)
  have hbel := below_set3 (g := w.heap.size + 1) (bthen hB.out (bthen (below_drew (Below.refl W.heap.size W)) hbe)) (Nat.le_succ _) (.slice A' l.length c') (.int .i64 seq) (.int .i64 next)
  go_wp2
  refine bodyPost_ret (results_cell_row rfl _ _ (w.heap.size + 1) 39 #[.slice A' l.length c', .int .i64 seq, .int .i64 next] (0, 0) _ rfl hbk Tryz.underlying39 rfl (by kernel_rfl)) rfl ?_
  exact ⟨_, rfl, Kd.R_lower hres hsz, hbel⟩
end Go.Proofs.YtfakfgblaakgdaaGreat.Edit

/- OfEdit: an edit for the program. -/
namespace Go.Proofs.YtfakfgblaakgdaaGreat.Edit
set_option linter.unusedVariables false
set_option linter.unusedSimpArgs false
open Go.RowKit Go.Proofs.YtfakfgblaakgdaaGreatW.PrintWords Go.Proofs.YtfakfgblaakgdaaGreatW.PrintLast Go.Proofs.YtfakfgblaakgdaaGreat.Base Go.Proofs.YtfakfgblaakgdaaGreat.EditPure Go.Proofs.YtfakfgblaakgdaaGreat.Sets Go.Proofs.YtfakfgblaakgdaaGreat.Wide Go.Proofs.YtfakfgblaakgdaaGreat.Cells Go.Proofs.YtfakfgblaakgdaaGreat.Ints

theorem RIset4 {w : World} {g base : Nat} {v : Value} {l : List Int} (h : RI w base v l) (hp : g < base) (x y z u : Value) : RI ((((w.setCell ⟨g, 0, none⟩ x).setCell ⟨g, 1, none⟩ y).setCell ⟨g, 2, none⟩ z).setCell ⟨g, 3, none⟩ u) base v l :=
  RI_set (RI_set (RI_set (RI_set h (p := ⟨g, 0, none⟩) hp x) (p := ⟨g, 1, none⟩) hp y) (p := ⟨g, 2, none⟩) hp z) (p := ⟨g, 3, none⟩) hp u

set_option maxRecDepth 100000 in
set_option maxHeartbeats 4000000 in
theorem ofEdit_any (D B : Option Addr) (dc bc : Nat) (drop : List Int) (add : List Meta) (seq next : Int) (w : World) (hd : ReadsInt w .i64 D drop.length drop) (hr : Kd.C kMeta w B add.length add) (hdl : drop.length ≤ 1048576) (hb : add.length ≤ 1048576) :
    Calls Tryz.prog 9 #[.agg #[.slice D drop.length dc, .slice B add.length bc, .int .i64 seq, .int .i64 next]] w fun e w' => ∃ vd vm, e = .returned (.agg #[vd, vm, .int .i64 seq, .int .i64 next]) ∧ RI w' w.heap.size vd drop ∧ RM 132 w' w.heap.size vm add ∧ Below w.heap.size w w' := by
  have HD := Aside0.mk hd
  have HR := Aside0.mk hr
  clear hd hr
  go_enter Tryz.func9, Tryz.ntmps9
  go_upto_region 1 with (fail)
  obtain ⟨W, hW⟩ : ∃ W, W = ((w.alloc (Obj.cells #[.slice D drop.length dc, .slice B add.length bc, .int .i64 seq, .int .i64 next] 31)).alloc
      (Obj.cells #[.slice none 0 0, .slice none 0 0, .int .i64 0, .int .i64 0] 42)) := ⟨_, rfl⟩
  have hj : W.heap[w.heap.size]? = some (.cells #[.slice D drop.length dc, .slice B add.length bc, .int .i64 seq, .int .i64 next] 31 (0, 0)) := by rw [hW]; exact blk_alloc (blk_new _ _) _
  have hk : W.heap[w.heap.size + 1]? = some (.cells #[.slice none 0 0, .slice none 0 0, .int .i64 0, .int .i64 0] 42 (0, 0)) := by rw [hW]; exact blk_new1 _ _ _ _
  have hB : Aside0 (Below w.heap.size w W) := ⟨by rw [hW]; exact below_alloc (below_alloc (Below.refl _ _) _) _⟩
  rw [← hW]
  clear hW
  have hlt := blk_lt hk
  have FJ := Aside0.mk (fun (w' : World) (b : Below W.heap.size W w') => all4 (blk_keep hj b))
  have FK := Aside0.mk (fun (w' : World) (b : Below W.heap.size W w') => all4 (blk_keep hk b))
  have d0 : W.drew.cell? ⟨w.heap.size, 0, none⟩ = some (.slice D drop.length dc) := (all4 hj).1
  have d1 : W.drew.cell? ⟨w.heap.size, 1, none⟩ = some (.slice B add.length bc) := (all4 hj).2.1
  have d2 : W.drew.cell? ⟨w.heap.size, 2, none⟩ = some (.int .i64 seq) := (all4 hj).2.2.1
  have d3 : W.drew.cell? ⟨w.heap.size, 3, none⟩ = some (.int .i64 next) := (all4 hj).2.2.2.1
  have HJ := Aside0.mk hj
  have HK := Aside0.mk hk
  clear hj hk
  go_region_held3 (fun w' => w'.cell? ⟨w.heap.size, 0, none⟩ = some (.slice D drop.length dc) ∧ w'.cell? ⟨w.heap.size, 1, none⟩ = some (.slice B add.length bc) ∧ w'.cell? ⟨w.heap.size, 2, none⟩ = some (.int .i64 seq) ∧ w'.cell? ⟨w.heap.size, 3, none⟩ = some (.int .i64 next)) (first | with_reducible exact ⟨d0, d1, d2, d3⟩ | with_reducible exact ⟨i0, i1, i2, i3⟩ | with_reducible exact ⟨m0, m1, m2, m3⟩ | go_keep) (first | (go_at_call 32; refine (copyInts_any D dc drop _ ?c1 hdl).mono ?_; (case c1 => exact HD.out.below (bthen hB.out (by first | exact below_drew (Below.refl _ _) | exact hwm))); rintro e wi ⟨vi, rfl, hi, hbi⟩; obtain ⟨Di, ci, rfl, hri⟩ := RI_reads hi; (have hwi : Below W.heap.size W wi := bthen (by first | exact below_drew (Below.refl _ _) | exact hwm) hbi); obtain ⟨i0, i1, i2, i3, _, _, _, _⟩ := FJ.out _ hwi; obtain ⟨zi0, zi1, zi2, zi3, fi0, fi1, fi2, fi3⟩ := FK.out _ hwi) | (go_at_call 31; refine (ofMetas_any B bc add _ ?c1 hb).mono ?_; (case c1 => exact Kd.C_below HR.out (bthen hB.out (by first | exact below_drew (Below.refl _ _) | exact hwi))); rintro e wm ⟨vm, rfl, hm, hbm⟩; obtain ⟨Am, cm, rfl, hcm, hCm⟩ := RM_reads hm; (have hwm : Below W.heap.size W wm := bthen (by first | exact below_drew (Below.refl _ _) | exact hwi) hbm); obtain ⟨m0, m1, m2, m3, _, _, _, _⟩ := FJ.out _ hwm; obtain ⟨zm0, zm1, zm2, zm3, fm0, fm1, fm2, fm3⟩ := FK.out _ hwm))
  · have HI := Aside0.mk (pw_own_below hi hbm)
    have HM := Aside0.mk hm
    have HWm := Aside0.mk hwm
    have hle : W.heap.size ≤ wi.heap.size := hbi.size
    have hle2 : w.heap.size ≤ W.heap.size := hB.out.size
    go_wp2
    refine bodyPost_ret (results_cell_row rfl _ _ (w.heap.size + 1) 42 #[.slice Di drop.length ci, .slice Am add.length cm, .int .i64 seq, .int .i64 next] (0, 0) _ rfl (blk4 (blk_keep HK.out HWm.out)) Tryz.underlying42 rfl (by kernel_rfl)) rfl ?_
    exact ⟨_, _, rfl, own_weaken (RIset4 HI.out hlt _ _ _ _) hle2, Kd.R_lower (Rset4 HM.out (Nat.lt_of_lt_of_le hlt hle) _ _ _ _) (Nat.le_trans hle2 hle), below_set4 (bthen hB.out HWm.out) (Nat.le_succ _) _ _ _ _⟩
end Go.Proofs.YtfakfgblaakgdaaGreat.Edit

/- edit.Encode: walked. -/
namespace Go.Proofs.YtfakfgblaakgdaaGreat.Var
set_option linter.unusedVariables false
set_option linter.unusedSimpArgs false
open Go.RowKit Go.Proofs.YtfakfgblaakgdaaGreatW.PrintWords Go.Proofs.YtfakfgblaakgdaaGreatW.PrintLast Go.Proofs.YtfakfgblaakgdaaGreat.Base Go.Proofs.YtfakfgblaakgdaaGreat.Cells Go.Proofs.YtfakfgblaakgdaaGreat.Ints Go.Proofs.YtfakfgblaakgdaaGreat.VarPure Go.Proofs.YtfakfgblaakgdaaGreat.Codec Go.Proofs.YtfakfgblaakgdaaGreat.EditPure Go.Proofs.YtfakfgblaakgdaaGreat.Edit Go.Proofs.YtfakfgblaakgdaaGreat.Sets

theorem all2 {w : World} {g : Nat} {t : TypeId} {a b : Value} (h : w.heap[g]? = some (.cells #[a, b] t (0, 0))) :
    w.cell? ⟨g, 0, none⟩ = some a ∧ w.cell? ⟨g, 1, none⟩ = some b ∧ w.frozen? ⟨g, 0, none⟩ = false ∧ w.frozen? ⟨g, 1, none⟩ = false :=
  ⟨blk_cell h 0, blk_cell h 1, blk_frozen h 0, blk_frozen h 1⟩

theorem blk_far3' {w : World} {k g : Nat} {t : TypeId} {cs : Array Value} {x y z : Value} (h : w.heap[k]? = some (.cells cs t (0, 0))) (hne : k ≠ g) : (((w.setCell ⟨g, 0, none⟩ x).setCell ⟨g, 1, none⟩ y).setCell ⟨g, 2, none⟩ z).heap[k]? = some (.cells cs t (0, 0)) :=
  blk_far (blk_far (blk_far h (p := ⟨g, 0, none⟩) hne x) (p := ⟨g, 1, none⟩) hne y) (p := ⟨g, 2, none⟩) hne z

set_option maxRecDepth 100000 in
set_option maxHeartbeats 2000000 in
theorem fields_any (m : Meta) (w : World) :
    Calls Tryz.prog 80 #[.agg #[.int .i64 m.id, .int .i64 m.level, .int .i64 m.count, .string m.low, .string m.high]] w fun e w' => e = .returned (.tuple #[.agg #[.int .i64 m.id, .int .i64 m.level, .int .i64 m.count], .agg #[.string m.low, .string m.high]]) ∧ Below w.heap.size w w' := by
  go_enter Tryz.func80, Tryz.ntmps80
  go_upto_region 1 with (fail)
  obtain ⟨W, hW⟩ : ∃ W, W = (((w.alloc (Obj.cells #[.int .i64 m.id, .int .i64 m.level, .int .i64 m.count, .string m.low, .string m.high] 132)).alloc (Obj.cells #[.int .i64 0, .int .i64 0, .int .i64 0] 157)).alloc (Obj.cells #[.string ⟨#[]⟩, .string ⟨#[]⟩] 158)) := ⟨_, rfl⟩
  have h1 : W.heap[w.heap.size]? = some (.cells #[.int .i64 m.id, .int .i64 m.level, .int .i64 m.count, .string m.low, .string m.high] 132 (0, 0)) := by rw [hW]; exact blk_alloc (blk_alloc (blk_new _ _) _) _
  have h2 : W.heap[w.heap.size + 1]? = some (.cells #[.int .i64 0, .int .i64 0, .int .i64 0] 157 (0, 0)) := by rw [hW]; exact blk_alloc (blk_new1 _ _ _ _) _
  have h3 : W.heap[w.heap.size + 1 + 1]? = some (.cells #[.string ⟨#[]⟩, .string ⟨#[]⟩] 158 (0, 0)) := by
    have := blk_new1 (w.alloc (Obj.cells #[.int .i64 m.id, .int .i64 m.level, .int .i64 m.count, .string m.low, .string m.high] 132)) (Obj.cells #[.int .i64 0, .int .i64 0, .int .i64 0] 157) #[.string ⟨#[]⟩, .string ⟨#[]⟩] 158
    rw [hW]; simpa using this
  have hB : Aside0 (Below w.heap.size w W) := ⟨by rw [hW]; exact below_alloc (below_alloc (below_alloc (Below.refl _ _) _) _) _⟩
  rw [← hW]
  clear hW
  obtain ⟨a0, a1, a2, a3, a4, _, _, _, _, _⟩ := all5 h1
  obtain ⟨b0, b1, b2, f0, f1, f2⟩ := all3 h2
  obtain ⟨c0, c1, g0, g1⟩ := all2 h3
  obtain ⟨a0', a1', a2', a3', a4', _, _, _, _, _⟩ := all5 (blk_drew h1)
  obtain ⟨b0', b1', b2', f0', f1', f2'⟩ := all3 (blk_drew h2)
  obtain ⟨c0', c1', g0', g1'⟩ := all2 (blk_drew h3)
  have H2 := Aside0.mk h2
  have H3 := Aside0.mk h3
  clear h1 h2 h3
  go_region
  go_wp2
  have k2 : (((((W.setCell ⟨w.heap.size + 1, 0, none⟩ (.int .i64 m.id)).setCell ⟨w.heap.size + 1, 1, none⟩ (.int .i64 m.level)).setCell ⟨w.heap.size + 1, 2, none⟩ (.int .i64 m.count)).setCell ⟨w.heap.size + 1 + 1, 0, none⟩ (.string m.low)).setCell ⟨w.heap.size + 1 + 1, 1, none⟩ (.string m.high)).drew.heap[w.heap.size + 1]? = some (.cells #[.int .i64 m.id, .int .i64 m.level, .int .i64 m.count] 157 (0, 0)) :=
    blk_drew (blk_far (blk_far (blk3 H2.out) (p := ⟨w.heap.size + 1 + 1, 0, none⟩) (by show w.heap.size + 1 ≠ w.heap.size + 1 + 1; omega) _) (p := ⟨w.heap.size + 1 + 1, 1, none⟩) (by show w.heap.size + 1 ≠ w.heap.size + 1 + 1; omega) _)
  have k3 : (((((W.setCell ⟨w.heap.size + 1, 0, none⟩ (.int .i64 m.id)).setCell ⟨w.heap.size + 1, 1, none⟩ (.int .i64 m.level)).setCell ⟨w.heap.size + 1, 2, none⟩ (.int .i64 m.count)).setCell ⟨w.heap.size + 1 + 1, 0, none⟩ (.string m.low)).setCell ⟨w.heap.size + 1 + 1, 1, none⟩ (.string m.high)).drew.heap[w.heap.size + 1 + 1]? = some (.cells #[.string m.low, .string m.high] 158 (0, 0)) :=
    blk_drew (blk_put (cs := #[.string m.low, .string ⟨#[]⟩]) (blk_put (blk_far3' H3.out (by omega)) 0 _ rfl) 1 _ rfl)
  refine bodyPost_ret (results_cc rfl _ _ (w.heap.size + 1) (w.heap.size + 1 + 1) 157 158 #[.int .i64 m.id, .int .i64 m.level, .int .i64 m.count] #[.string m.low, .string m.high] (0, 0) (0, 0) _ _ rfl k2 Tryz.underlying157 rfl (by kernel_rfl) rfl k3 Tryz.underlying158 rfl (by kernel_rfl)) rfl ?_
  exact ⟨rfl, below_drew (((below_set3 hB.out (Nat.le_succ _) _ _ _).setCell (p := ⟨w.heap.size + 1 + 1, 0, none⟩) (by show w.heap.size ≤ w.heap.size + 1 + 1; omega) _).setCell (p := ⟨w.heap.size + 1 + 1, 1, none⟩) (by show w.heap.size ≤ w.heap.size + 1 + 1; omega) _)⟩
end Go.Proofs.YtfakfgblaakgdaaGreat.Var

/- edit.Encode: walked. -/
namespace Go.Proofs.YtfakfgblaakgdaaGreat.Var
set_option linter.unusedVariables false
set_option linter.unusedSimpArgs false
open Go.RowKit Go.Proofs.YtfakfgblaakgdaaGreatW.PrintWords Go.Proofs.YtfakfgblaakgdaaGreatW.PrintLast Go.Proofs.YtfakfgblaakgdaaGreat.Base Go.Proofs.YtfakfgblaakgdaaGreat.Cells Go.Proofs.YtfakfgblaakgdaaGreat.Ints Go.Proofs.YtfakfgblaakgdaaGreat.VarPure Go.Proofs.YtfakfgblaakgdaaGreat.Codec Go.Proofs.YtfakfgblaakgdaaGreat.EditPure Go.Proofs.YtfakfgblaakgdaaGreat.Edit Go.Proofs.YtfakfgblaakgdaaGreat.Sets

/-- an edit's octets: an error's number -/
def encE (drop : List Int) (add : List Meta) (seq next : Int) : Int := if 256 < drop.length ∨ 256 < add.length then 3 else if encOk drop add seq next then 0 else 1
/-- what is written, and whether all is well -/
structure EncT (w0 wr : World) (gb go base : Nat) (ok : Bool) (P : List Nat) (N : Nat) : Prop where
  st : ∃ L, EncS wr gb go base (fun _ => True) ok L ∧ (ok = true → L = nb P) ∧ L.length ≤ N
  below : Below w0.heap.size w0 wr

theorem EncT.stays {w0 wr wr' : World} {gb go base : Nat} {ok : Bool} {P : List Nat} {N : Nat} (h : EncT w0 wr gb go base ok P N) (hb : Below wr.heap.size wr wr') : EncT w0 wr' gb go base ok P N := by
  obtain ⟨L, hS, hL, hN⟩ := h.st
  exact ⟨⟨L, hS.below hb, hL, hN⟩, bthen h.below hb⟩
theorem EncT.setOk {w0 wr : World} {gb go base : Nat} {ok : Bool} {P : List Nat} {N : Nat} (h : EncT w0 wr gb go base ok P N) (hw : w0.heap.size ≤ go) (b : Bool) : EncT w0 (wr.setCell ⟨go, 0, none⟩ (.bool (ok && b))) gb go base (ok && b) P N := by
  obtain ⟨L, hS, hL, hN⟩ := h.st
  refine ⟨⟨L, hS.setOk _, fun h => hL ?_, hN⟩, h.below.setCell (p := ⟨go, 0, none⟩) hw _⟩
  cases ok with
  | true => rfl
  | false => simp at h
theorem nb_app (a b : List Nat) : nb (a ++ b) = nb a ++ nb b := by simp [nb]
theorem nb_str (s : ByteArray) : bytesOf s = nb (strB s) := by
  simp [bytesOf, nb, strB, List.map_map]
/-- behind a text -/
def txOk (ok : Bool) (s : ByteArray) : Bool := (ok && decide (s.size ≤ 96)) && [(s.size : Int)].all okN
def txP (P : List Nat) (s : ByteArray) : List Nat := (P ++ [(s.size : Int)].flatMap putI) ++ strB s
theorem okN_nat {k : Nat} (h : k ≤ 1099511627776) : okN (k : Int) = true := (okN_iff _).2 ⟨by omega, by omega⟩
theorem txOk_M (ok : Bool) (m : Meta) (h1 : m.low.size ≤ 1048576) (h2 : m.high.size ≤ 1048576) : txOk (txOk (ok && [m.id, m.level, m.count].all okN) m.low) m.high = (ok && okM m) := by
  have e1 := okN_nat (k := m.low.size) (by omega)
  have e2 := okN_nat (k := m.high.size) (by omega)
  simp only [txOk, okM, List.all_cons, List.all_nil, e1, e2, Bool.and_true]
  simp only [Bool.and_assoc]
theorem txP_M (P : List Nat) (m : Meta) : txP (txP (P ++ [m.id, m.level, m.count].flatMap putI) m.low) m.high = P ++ putM m := by
  simp [txP, putM, putS, List.append_assoc]
/-- a text appended -/
theorem EncT.app {w0 wr w1 : World} {gb go base : Nat} {ok : Bool} {P : List Nat} {N : Nat} {L : List Int} {A A1 : Option Addr} {c c1 : Nat} {s : ByteArray} (hS : EncS wr gb go base (fun _ => True) ok L) (hL : ok = true → L = nb P) (hN : L.length ≤ N) (hB0 : Below w0.heap.size w0 wr) (hw : w0.heap.size ≤ gb)
    (hk : wr.heap[gb]? = some (.cells #[.slice A L.length c] 88 (0, 0))) (hown : w1.ownsRow base 5 1 (.slice A1 (L ++ bytesOf s).length c1) (L ++ bytesOf s).length (nums .u8 (L ++ bytesOf s))) (hB : Below base wr w1) :
    EncT w0 (w1.setCell ⟨gb, 0, none⟩ (.slice A1 (L ++ bytesOf s).length c1)) gb go base ok (P ++ strB s) (N + s.size) := by
  have h1 := hS.hg
  have h2 := hS.hbase
  have hkb := (hB.block gb (by omega)).trans hk
  have hko := (hB.block go (by omega)).trans hS.ho
  have hsz : wr.heap.size ≤ w1.heap.size := hB.size
  refine ⟨⟨L ++ bytesOf s, ⟨blk_far hko (p := ⟨gb, 0, none⟩) (by show go ≠ gb; omega) _, ⟨A1, c1, blk_put hkb 0 _ rfl, KB_set (Kd.R_of_own hown (fun _ _ => trivial)) (p := ⟨gb, 0, none⟩) (by show gb < base; omega) _⟩, h1, h2, by rw [World.size_setCell]; have := hS.hsz; omega⟩, fun h => by rw [hL h, nb_str, nb_app], by rw [List.length_append, bytesOf_length]; omega⟩, ?_⟩
  exact (below_join hB0 (below_sub hB (by omega))).setCell (p := ⟨gb, 0, none⟩) hw _
theorem idxS_0 (a b : ByteArray) (W : World) : (Instr.index 158 (.agg #[.string a, .string b]) (.int .i64 0)).run Tryz.prog W = .ok (.string a) W := by kernel_rfl
theorem idxS_1 (a b : ByteArray) (W : World) : (Instr.index 158 (.agg #[.string a, .string b]) (.int .i64 1)).run Tryz.prog W = .ok (.string b) W := by kernel_rfl
/-- the numbers in a block of one's own, put -/
theorem putBlk_any (w0 : World) (gb go base g : Nat) (c : Nat) (xs : List Int) (ok : Bool) (P : List Nat) (N : Nat) (w : World) (hT : EncT w0 w gb go base ok P N) (hw0 : w0.heap.size ≤ gb) {t : TypeId} (hg : w.heap[g]? = some (.cells (xs.map (Value.int .i64)).toArray t (0, 0))) (ht : t ≠ 5) (ht2 : t ≠ 4) (ht3 : t ≠ 88) (hw : ∀ x ∈ xs, inI64 x) (hx : xs.length ≤ 1048576) (hN : N + 9 * xs.length ≤ 137438953472) :
    Calls Tryz.prog 78 #[.slice (some ⟨g, 0, none⟩) xs.length c, .pointer (some ⟨go, 0, none⟩), .pointer (some ⟨gb, 0, none⟩)] w fun e w' => e = .returned (.tuple #[]) ∧ EncT w0 w' gb go base (ok && xs.all okN) (P ++ xs.flatMap putI) (N + 9 * xs.length) ∧ Below gb w w' ∧ Oth w w' := by
  obtain ⟨L, hS, hL, hN2⟩ := hT.st
  have hr : ReadsInt w .i64 (some ⟨g, 0, none⟩) xs.length xs := ⟨rfl, by omega, fun _ => ⟨_, rfl, fun j hj => by
    rw [show ((⟨g, 0, none⟩ : Addr).add j) = ⟨g, j, none⟩ by rw [Addr.add_lit, Nat.zero_add], blk_cell hg]
    simp [List.getElem?_toArray, List.getElem?_map, List.getElem?_eq_getElem hj, List.getD_eq_getElem?_getD]⟩⟩
  obtain ⟨A, cA, hk, hR⟩ := hS.hb
  have hown : ∀ k, (Value.slice A L.length cA).ownBlock = some k → k ≠ g := fun k hk1 e => by
    obtain ⟨inner, ho⟩ := Kd.R_own hR
    exact own_ne ho hg (Ne.symm ht) (by rw [hk1, e])
  have hS2 : EncS w gb go base (fun k => ∀ ad, some (⟨g, 0, none⟩ : Addr) = some ad → 0 < xs.length → k ≠ ad.block) ok L := by
    refine ⟨hS.ho, ⟨A, cA, hk, ?_⟩, hS.hg, hS.hbase, hS.hsz⟩
    exact ⟨fun k hk1 ad e _ => by injection e with e; subst e; exact hown k hk1, hR.2.imp_ (fun _ _ hp => hp)⟩
  refine (putC_any gb go base (some ⟨g, 0, none⟩) c xs ok L w hS2 hr hw (fun ad e _ => by injection e with e; subst e; exact ⟨blk_ne hg hk ht3, blk_ne hg hS.ho ht2, blk_lt hg⟩) hx (by omega)).mono fun e w' ⟨he, L', h1, h2, h3, h4, h5o⟩ => ⟨he, ⟨⟨L', h1, fun h => ?_, by omega⟩, below_join hT.below (below_sub h4 hw0)⟩, h4, h5o⟩
  have h5 : ok = true := by
    cases ok with
    | true => rfl
    | false => simp at h
  rw [h3 h, hL h5, nb_app]
/-- numbers that lie below, put -/
theorem putMem_any (w0 : World) (gb go base : Nat) (A : Option Addr) (c : Nat) (xs : List Int) (ok : Bool) (P : List Nat) (N : Nat) (w : World) (hT : EncT w0 w gb go base ok P N) (hw0 : w0.heap.size ≤ gb) (hr : ReadsInt w .i64 A xs.length xs) (hA : ∀ ad, A = some ad → 0 < xs.length → ad.block < w0.heap.size) (hw : ∀ x ∈ xs, inI64 x) (hx : xs.length ≤ 1048576) (hN : N + 9 * xs.length ≤ 137438953472) :
    Calls Tryz.prog 78 #[.slice A xs.length c, .pointer (some ⟨go, 0, none⟩), .pointer (some ⟨gb, 0, none⟩)] w fun e w' => e = .returned (.tuple #[]) ∧ EncT w0 w' gb go base (ok && xs.all okN) (P ++ xs.flatMap putI) (N + 9 * xs.length) ∧ Below gb w w' ∧ Oth w w' := by
  obtain ⟨L, hS, hL, hN2⟩ := hT.st
  have hgo := hS.hg
  have hbs := hS.hbase
  have hS2 := hS.mono (okp' := fun k => ∀ ad, A = some ad → 0 < xs.length → k ≠ ad.block) (fun k _ hk _ ad e h0 => by have := hA ad e h0; omega)
  have hsz := hT.below.size
  refine (putC_any gb go base A c xs ok L w hS2 hr hw (fun ad e h0 => by have := hA ad e h0; exact ⟨by omega, by omega, by omega⟩) hx (by omega)).mono fun e w' ⟨he, L', h1, h2, h3, h4, h5o⟩ => ⟨he, ⟨⟨L', h1, fun h => ?_, by omega⟩, below_join hT.below (below_sub h4 hw0)⟩, h4, h5o⟩
  have h5 : ok = true := by
    cases ok with
    | true => rfl
    | false => simp at h
  rw [h3 h, hL h5, nb_app]

theorem reads_lt {w : World} {A : Option Addr} {n : Nat} {xs : List Int} (h : ReadsInt w .i64 A n xs) : ∀ ad, A = some ad → 0 < n → ad.block < w.heap.size := fun ad e h0 => by
  obtain ⟨ad', e', hc⟩ := h.2.2 h0
  rw [e] at e'
  injection e' with e'
  subst e'
  have := World.block_lt_of_cell? w _ (hc 0 (by have := h.1; omega))
  rwa [add_block] at this

set_option maxRecDepth 100000 in
set_option maxHeartbeats 16000000 in
theorem encode_any (D B : Option Addr) (dc bc : Nat) (drop : List Int) (add : List Meta) (seq next : Int) (w : World) (hd : ReadsInt w .i64 D drop.length drop) (hr : Kd.C kMeta w B add.length add) (hsq : inI64 seq) (hnx : inI64 next) (hdw : ∀ x ∈ drop, inI64 x) (hmw : ∀ m ∈ add, inI64 m.id ∧ inI64 m.level ∧ inI64 m.count) (hms : ∀ m ∈ add, m.low.size ≤ 1048576 ∧ m.high.size ≤ 1048576) (hdl : drop.length ≤ 1048576) (hal : add.length ≤ 1048576) :
    Calls Tryz.prog 36 #[.agg #[.slice D drop.length dc, .slice B add.length bc, .int .i64 seq, .int .i64 next]] w fun e w' => ∃ A n c, e = .returned (.tuple #[.slice A n c, .int .i64 (encE drop add seq next)]) ∧ Aside0 ((encE drop add seq next = 0 → n = (encB drop add seq next).length ∧ RB w' w.heap.size (.slice A n c) (nb (encB drop add seq next))) ∧ (encE drop add seq next ≠ 0 → A = none ∧ n = 0 ∧ c = 0) ∧ Below w.heap.size w w') := by
  have HD := Aside0.mk hd
  have HR := Aside0.mk hr
  have HDlt := Aside0.mk (reads_lt hd)
  obtain ⟨E, hE⟩ := named (encE drop add seq next)
  rw [← hE.out]
  clear hd hr
  by_cases h256 : 256 < drop.length ∨ 256 < add.length
  · have hE3 : Aside0 (E = 3) := ⟨by rw [hE.out, encE, if_pos h256]⟩
    have hmax : decide ((256 : Int) < max (drop.length : Int) (add.length : Int)) = true := by simp; omega
    have hmax2 : (256 : Int) < max (drop.length : Int) (add.length : Int) := by omega
    go_enter Tryz.func36, Tryz.ntmps36
    go_wp2
    refine bodyPost_ret (results_tmp2 rfl _ _ _) rfl ?_
    refine ⟨none, 0, 0, by rw [hE3.out]; rfl, ⟨fun h => absurd h (by rw [hE3.out]; decide), fun _ => ⟨rfl, rfl, rfl⟩, below_alloc (Below.refl _ _) _⟩⟩
  · have hd256 : drop.length ≤ 256 := by omega
    have ha256 : add.length ≤ 256 := by omega
    have hE1 : Aside0 (E = if encOk drop add seq next then 0 else 1) := ⟨by rw [hE.out, encE, if_neg h256]⟩
    have hmax : decide ((256 : Int) < max (drop.length : Int) (add.length : Int)) = false := by simp; omega
    have hmax2 : ¬ ((256 : Int) < max (drop.length : Int) (add.length : Int)) := by omega
    clear h256
    go_enter Tryz.func36, Tryz.ntmps36
    go_wp2_with fail
    obtain ⟨W, hW⟩ : ∃ W, W = (((w.alloc (Obj.cells #[Value.slice D drop.length dc, Value.slice B add.length bc, Value.int IntKind.i64 seq, Value.int IntKind.i64 next] 42)).alloc (Obj.cells #[Value.slice none 0 0] 88)).alloc (Obj.cells #[Value.bool true] 4)) := ⟨_, rfl⟩
    have hWs : W.heap.size = w.heap.size + 1 + 1 + 1 := by rw [hW]; simp
    have k1 : W.heap[w.heap.size]? = some (.cells #[Value.slice D drop.length dc, Value.slice B add.length bc, Value.int IntKind.i64 seq, Value.int IntKind.i64 next] 42 (0, 0)) := by rw [hW]; exact blk_alloc (blk_alloc (blk_new _ _) _) _
    have k2 : W.heap[w.heap.size + 1]? = some (.cells #[Value.slice none 0 0] 88 (0, 0)) := by rw [hW]; exact blk_alloc (blk_new1 _ _ _ _) _
    have k3 : W.heap[w.heap.size + 1 + 1]? = some (.cells #[Value.bool true] 4 (0, 0)) := by
      have := blk_new1 (w.alloc (Obj.cells #[Value.slice D drop.length dc, Value.slice B add.length bc, Value.int IntKind.i64 seq, Value.int IntKind.i64 next] 42)) (Obj.cells #[Value.slice none 0 0] 88) #[Value.bool true] 4
      rw [hW]; simpa using this
    have hBW : Below w.heap.size w W := by rw [hW]; exact below_alloc (below_alloc (below_alloc (Below.refl _ _) _) _) _
    have HT0 : Aside0 (EncT w W (w.heap.size + 1) (w.heap.size + 1 + 1) (w.heap.size + 1 + 1 + 1) true [] 0) := ⟨⟨⟨[], ⟨k3, ⟨none, 0, k2, Kd.R_nil kB _ _ _ _⟩, by omega, by omega, by omega⟩, fun _ => rfl, Nat.le_refl _⟩, hBW⟩⟩
    have HK0 := Aside0.mk k1
    rw [← hW, ← hWs]
    obtain ⟨gb, hgb⟩ : ∃ gb, gb = w.heap.size + 1 := ⟨_, rfl⟩
    obtain ⟨go, hgo⟩ : ∃ go, go = w.heap.size + 1 + 1 := ⟨_, rfl⟩
    obtain ⟨base, hbase⟩ : ∃ base, base = w.heap.size + 1 + 1 + 1 := ⟨_, rfl⟩
    rw [← hbase, ← hgo, ← hgb] at HT0
    rw [← hgo, ← hgb]
    have hwgb : w.heap.size ≤ gb := by omega
    have hwgb2 : w.heap.size < gb := by omega
    have hI : ∀ k : Nat, k ≤ 1048576 → inI64 (k : Int) := fun k hk => ⟨by omega, by omega⟩
    clear hW hWs k1 k2 k3 hBW hgb hgo hbase hmax hmax2
    refine (putBlk_any w gb go base W.heap.size 3 [seq, next, (drop.length : Int)] true [] 0 _ (HT0.out.stays (below_alloc (Below.refl _ _) _)) hwgb (blk_new W (Obj.cells #[.int .i64 seq, .int .i64 next, .int .i64 drop.length] 3)) (by decide) (by decide) (by decide) (fun x hx => by
      rcases List.mem_cons.1 hx with rfl | hx
      · exact hsq
      · rcases List.mem_cons.1 hx with rfl | hx
        · exact hnx
        · rw [List.mem_singleton.1 hx]; exact hI _ hdl) (by simp) (by simp)).mono ?_
    rintro e w1 ⟨rfl, hT1, hb1, _⟩
    obtain ⟨ok1, hok1⟩ := named (true && [seq, next, (drop.length : Int)].all okN)
    obtain ⟨P1, hP1⟩ := named ([] ++ [seq, next, (drop.length : Int)].flatMap putI)
    rw [← hok1.out, ← hP1.out] at hT1
    have HT1 := Aside0.mk hT1
    have HK1 := Aside0.mk ((hb1.block _ hwgb2).trans (blk_alloc HK0.out _))
    obtain ⟨y0, y1, y2, y3, _, _, _, _⟩ := all4 HK1.out
    clear hT1 hb1
    go_wp2_with fail
    refine (putMem_any w gb go base D dc drop ok1 P1 (0 + 9 * 3) _ HT1.out hwgb (HD.out.below HT1.out.below) HDlt.out hdw hdl (by omega)).mono ?_
    rintro e w2 ⟨rfl, hT2, hb2, _⟩
    obtain ⟨ok2, hok2⟩ := named (ok1 && drop.all okN)
    obtain ⟨P2, hP2⟩ := named (P1 ++ drop.flatMap putI)
    rw [← hok2.out, ← hP2.out] at hT2
    have HT2 := Aside0.mk hT2
    have HK2 := Aside0.mk ((hb2.block _ hwgb2).trans HK1.out)
    clear y0 y1 y2 y3
    obtain ⟨y0, y1, y2, y3, _, _, _, _⟩ := all4 HK2.out
    clear hT2 hb2
    go_wp2_with fail
    refine (putBlk_any w gb go base w2.heap.size 1 [(add.length : Int)] ok2 P2 (0 + 9 * 3 + 9 * drop.length) _ (HT2.out.stays (below_alloc (Below.refl _ _) _)) hwgb (blk_new w2 (Obj.cells #[.int .i64 add.length] 3)) (by decide) (by decide) (by decide) (fun x hx => by rw [List.mem_singleton.1 hx]; exact hI _ hal) (by simp) (by simp; omega)).mono ?_
    rintro e w3 ⟨rfl, hT3, hb3, _⟩
    obtain ⟨ok3, hok3⟩ := named (ok2 && [(add.length : Int)].all okN)
    obtain ⟨P3, hP3⟩ := named (P2 ++ [(add.length : Int)].flatMap putI)
    rw [← hok3.out, ← hP3.out] at hT3
    obtain ⟨N3, hN3⟩ : ∃ N3, N3 = 0 + 9 * 3 + 9 * drop.length + 9 * [(add.length : Int)].length := ⟨_, rfl⟩
    rw [← hN3] at hT3
    have hN3b : N3 ≤ 9437220 := by rw [hN3]; simp; omega
    have HT3 := Aside0.mk hT3
    have HK3 := Aside0.mk ((hb3.block _ hwgb2).trans (blk_alloc HK2.out _))
    clear y0 y1 y2 y3
    obtain ⟨y0, y1, y2, y3, _, _, _, _⟩ := all4 HK3.out
    clear hT3 hb3 hN3
    go_wp2
    go_loopg [45] add.length (fun gk v45 wr => ∃ (i : Nat) (ok : Bool) (P : List Nat) (N : Nat), v45 = .int .i64 i ∧ gk + i = add.length ∧ N ≤ 9437220 + 3000000 * i ∧ Aside0 (ok = (ok3 && (add.take i).all okM)) ∧ Aside0 (P = P3 ++ (add.take i).flatMap putM) ∧ Aside0 (EncT w wr gb go base ok P N))
    case atStart => exact ⟨0, ok3, P3, N3, rfl, by omega, by omega, ⟨by simp⟩, ⟨by simp⟩, HT3⟩
    case round =>
      clear HT3 HK3 y0 y1 y2 y3
      obtain ⟨i, ok, P, N, rfl, hg, hNi, HOK, HP, HT⟩ := hrel
      by_cases hlt : i < add.length
      · obtain ⟨m, hm⟩ : ∃ m, add[i]? = some m := ⟨_, List.getElem?_eq_getElem hlt⟩
        have hmm := List.mem_of_getElem? hm
        obtain ⟨ad, rfl, c0, c1, c2, c3, c4⟩ := atMeta (Kd.C_below HR.out HT.out.below) i m hm
        have HTK : Aside0 (add.take (i + 1) = add.take i ++ [m]) := ⟨by rw [List.take_add_one, hm]; rfl⟩
        clear hm
        go_wp2_with fail
        refine (fields_any m _).mono ?_
        rintro e w4 ⟨rfl, hb4⟩
        have hb4' : Below wr.heap.size wr w4 := bthen (below_alloc (Below.refl _ _) _) hb4
        obtain ⟨W5, hW5⟩ : ∃ W5, W5 = ((w4.alloc (Obj.cells #[.int .i64 m.id, .int .i64 m.level, .int .i64 m.count] 157)).alloc (Obj.cells #[.string m.low, .string m.high] 158)) := ⟨_, rfl⟩
        have hk9 : W5.heap[w4.heap.size]? = some (.cells #[.int .i64 m.id, .int .i64 m.level, .int .i64 m.count] 157 (0, 0)) := by rw [hW5]; exact blk_alloc (blk_new _ _) _
        have hk10 : W5.heap[w4.heap.size + 1]? = some (.cells #[.string m.low, .string m.high] 158 (0, 0)) := by rw [hW5]; exact blk_new1 _ _ _ _
        have HT5 := Aside0.mk (HT.out.stays (wr' := W5) (by rw [hW5]; exact below_alloc (below_alloc hb4' _) _))
        clear c0 c1 c2 c3 c4 hb4 hb4'
        go_wp2_with fail
        rw [← hW5]
        refine (putBlk_any w gb go base w4.heap.size 3 [m.id, m.level, m.count] ok P N _ HT5.out hwgb hk9 (by decide) (by decide) (by decide) (fun x hx => by
          rcases List.mem_cons.1 hx with rfl | hx
          · exact (hmw m hmm).1
          · rcases List.mem_cons.1 hx with rfl | hx
            · exact (hmw m hmm).2.1
            · rw [List.mem_singleton.1 hx]; exact (hmw m hmm).2.2) (by simp) (by simp; omega)).mono ?_
        rintro e w6 ⟨rfl, hT6, hb6, ho6⟩
        obtain ⟨ok6, hok6⟩ := named (ok && [m.id, m.level, m.count].all okN)
        obtain ⟨P6, hP6⟩ := named (P ++ [m.id, m.level, m.count].flatMap putI)
        rw [← hok6.out, ← hP6.out] at hT6
        have HT6 := Aside0.mk hT6
        have hk10' := ho6 _ _ _ hk10 (by decide) (by decide) (by decide)
        obtain ⟨t0, t1, _, _⟩ := all2 hk10'
        clear hT6 hb6 ho6 hk9 hk10 hk10' hW5
        have hwgo : w.heap.size ≤ go := by obtain ⟨L, hS, _⟩ := HT6.out.st; have := hS.hg; omega
        go_wp2
        go_loopg [58] 2 (fun gk v58 wx => (v58 = .int .i64 0 ∧ gk = 2 ∧ Aside0 (EncT w wx gb go base ok6 P6 (N + 27))) ∨ (v58 = .int .i64 1 ∧ gk = 1 ∧ Aside0 (EncT w wx gb go base (txOk ok6 m.low) (txP P6 m.low) (N + 27 + 9 + m.low.size))) ∨ (v58 = .int .i64 2 ∧ gk = 0 ∧ Aside0 (EncT w wx gb go base (txOk (txOk ok6 m.low) m.high) (txP (txP P6 m.low) m.high) (N + 27 + 9 + m.low.size + 9 + m.high.size))))
        case atStart => exact .inl ⟨rfl, rfl, HT6⟩
        case round =>
          clear HT6 t0 t1
          rcases hrel with ⟨rfl, rfl, HX⟩ | ⟨rfl, rfl, HX⟩ | ⟨rfl, rfl, HX⟩
          · have hix := idxS_0 m.low m.high
            have hsz := (hms m hmm).1
            obtain ⟨sz, hszz⟩ := named m.low.size
            rw [← hszz.out] at hsz
            obtain ⟨L, hS, _⟩ := HX.out.st
            have q0 := blk_cell hS.ho 0
            have qf := blk_frozen hS.ho 0
            obtain ⟨okj, hokj⟩ := named ok6
            rw [← hokj.out] at q0
            clear hS
            go_upto_region 17 with (fail)
            go_cut [66] (fun v66 wc => v66 = .bool (okj && decide (sz ≤ 96)) ∧ wr.setCell ⟨go, 0, none⟩ (.bool (okj && decide (sz ≤ 96))) = wc)
            case first =>
              have hszI : (m.low.size : Int) = sz := by rw [hszz.out]
              cases hok : okj with
              | false =>
                rw [hok] at q0
                go_wp2
                go_meet
                exact ⟨by rw [hok]; rfl, by rw [hok]; rfl⟩
              | true =>
                rw [hok] at q0
                by_cases h96 : sz ≤ 96
                · have h96' : decide (sz ≤ 96) = true := by simp [h96]
                  have h96i : decide ((sz : Int) ≤ 96) = true := by simp; omega
                  go_wp2
                  go_meet
                  exact ⟨by rw [hok, h96']; first | rfl | (rw [h96i]; rfl), by rw [hok, h96']; first | rfl | (rw [h96i]; rfl)⟩
                · have h96' : decide (sz ≤ 96) = false := by simp [h96]
                  have h97 : (96 : Int) < sz := by omega
                  have h96i : decide ((sz : Int) ≤ 96) = false := by simp; omega
                  go_wp2
                  go_meet
                  exact ⟨by rw [hok, h96']; first | rfl | (rw [h96i]; rfl), by rw [hok, h96']; first | rfl | (rw [h96i]; rfl)⟩
            case rest =>
              obtain ⟨rfl, hwc⟩ := hcut
              have HTa : Aside0 (EncT w wc gb go base (okj && decide (sz ≤ 96)) P6 (N + 27)) := ⟨by rw [← hwc, hokj.out]; exact HX.out.setOk (by have := hwgo; omega) _⟩
              obtain ⟨okk, hokk⟩ := named (okj && decide (sz ≤ 96))
              rw [← hokk.out] at HTa ⊢
              clear hwc q0 qf HX
              go_wp2_with fail
              refine (putBlk_any w gb go base wc.heap.size 1 [(m.low.size : Int)] okk P6 (N + 27) _ (HTa.out.stays (below_alloc (Below.refl _ _) _)) hwgb (blk_new wc (Obj.cells #[.int .i64 m.low.size] 3)) (by decide) (by decide) (by decide) (fun x hx => by rw [List.mem_singleton.1 hx]; exact hI _ (by have := hszz.out; omega)) (by simp) (by have := (hms m hmm).1; simp; omega)).mono ?_
              rintro e w7 ⟨rfl, hT7, _, _⟩
              obtain ⟨L7, hS7, hL7, hN7⟩ := hT7.st
              obtain ⟨A7, c7, hk7, hR7⟩ := hS7.hb
              have HS7 := Aside0.mk hS7
              have HL7 := Aside0.mk hL7
              have HK7 := Aside0.mk hk7
              have HR7 := Aside0.mk hR7
              have HB7 := Aside0.mk hT7.below
              have z0 := blk_cell hk7 0
              have zsz := hS7.hsz
              have zgb : gb < base := by have := hS7.hg; have := hS7.hbase; omega
              have hN7b : L7.length ≤ 900000000 := by have := (hms m hmm).1; have h1 : [(m.low.size : Int)].length = 1 := rfl; rw [h1] at hN7; omega
              clear hS7 hL7 hk7 hR7 hT7
              go_wp2_with (at_builtin; refine print_append_str (w0 := w7) base rfl (.tmp 72) (.tmp 73) 88 9 5 rfl Tryz.underlying88 Tryz.underlying9 infoB (.slice A7 L7.length c7) L7 m.low rfl rfl ?aO ?aB ?aS ?c1 ?_; (case aO => exact Kd.own_of_R HR7.out); (case aB => exact Below.refl _ _); (case aS => exact zsz); (case c1 => have := hszz.out; omega); intro v8 w8 hown hB8 hg8; obtain ⟨A8, c8, rfl, _⟩ := RB_reads hown; have HO8 := Aside0.mk hown; have HB8 := Aside0.mk hB8; have hk8 := (hB8.block gb zgb).trans HK7.out; have r0 := blk_cell hk8 0; have rf := blk_frozen hk8 0; clear hown hB8 hg8 hk8)
              go_roundg 1
              case measure => omega
              case rel =>
                have hfin := EncT.app (w0 := w) HS7.out HL7.out hN7 HB7.out hwgb HK7.out HO8.out HB8.out
                rw [hokk.out, hokj.out, hszz.out] at hfin
                exact .inr (.inl ⟨rfl, rfl, ⟨by first | exact hfin | simpa [txOk, txP] using hfin⟩⟩)
          · have hix := idxS_1 m.low m.high
            have hsz := (hms m hmm).2
            obtain ⟨sz, hszz⟩ := named m.high.size
            rw [← hszz.out] at hsz
            obtain ⟨L, hS, _⟩ := HX.out.st
            have q0 := blk_cell hS.ho 0
            have qf := blk_frozen hS.ho 0
            obtain ⟨okj, hokj⟩ := named (txOk ok6 m.low)
            rw [← hokj.out] at q0
            clear hS
            go_upto_region 17 with (fail)
            go_cut [66] (fun v66 wc => v66 = .bool (okj && decide (sz ≤ 96)) ∧ wr.setCell ⟨go, 0, none⟩ (.bool (okj && decide (sz ≤ 96))) = wc)
            case first =>
              have hszI : (m.high.size : Int) = sz := by rw [hszz.out]
              cases hok : okj with
              | false =>
                rw [hok] at q0
                go_wp2
                go_meet
                exact ⟨by rw [hok]; rfl, by rw [hok]; rfl⟩
              | true =>
                rw [hok] at q0
                by_cases h96 : sz ≤ 96
                · have h96' : decide (sz ≤ 96) = true := by simp [h96]
                  have h96i : decide ((sz : Int) ≤ 96) = true := by simp; omega
                  go_wp2
                  go_meet
                  exact ⟨by rw [hok, h96']; first | rfl | (rw [h96i]; rfl), by rw [hok, h96']; first | rfl | (rw [h96i]; rfl)⟩
                · have h96' : decide (sz ≤ 96) = false := by simp [h96]
                  have h97 : (96 : Int) < sz := by omega
                  have h96i : decide ((sz : Int) ≤ 96) = false := by simp; omega
                  go_wp2
                  go_meet
                  exact ⟨by rw [hok, h96']; first | rfl | (rw [h96i]; rfl), by rw [hok, h96']; first | rfl | (rw [h96i]; rfl)⟩
            case rest =>
              obtain ⟨rfl, hwc⟩ := hcut
              have HTa : Aside0 (EncT w wc gb go base (okj && decide (sz ≤ 96)) (txP P6 m.low) (N + 27 + 9 + m.low.size)) := ⟨by rw [← hwc, hokj.out]; exact HX.out.setOk (by have := hwgo; omega) _⟩
              obtain ⟨okk, hokk⟩ := named (okj && decide (sz ≤ 96))
              rw [← hokk.out] at HTa ⊢
              clear hwc q0 qf HX
              go_wp2_with fail
              refine (putBlk_any w gb go base wc.heap.size 1 [(m.high.size : Int)] okk (txP P6 m.low) (N + 27 + 9 + m.low.size) _ (HTa.out.stays (below_alloc (Below.refl _ _) _)) hwgb (blk_new wc (Obj.cells #[.int .i64 m.high.size] 3)) (by decide) (by decide) (by decide) (fun x hx => by rw [List.mem_singleton.1 hx]; exact hI _ (by have := hszz.out; omega)) (by simp) (by have := (hms m hmm).1; simp; omega)).mono ?_
              rintro e w7 ⟨rfl, hT7, _, _⟩
              obtain ⟨L7, hS7, hL7, hN7⟩ := hT7.st
              obtain ⟨A7, c7, hk7, hR7⟩ := hS7.hb
              have HS7 := Aside0.mk hS7
              have HL7 := Aside0.mk hL7
              have HK7 := Aside0.mk hk7
              have HR7 := Aside0.mk hR7
              have HB7 := Aside0.mk hT7.below
              have z0 := blk_cell hk7 0
              have zsz := hS7.hsz
              have zgb : gb < base := by have := hS7.hg; have := hS7.hbase; omega
              have hN7b : L7.length ≤ 900000000 := by have := (hms m hmm).1; have h1 : [(m.high.size : Int)].length = 1 := rfl; rw [h1] at hN7; omega
              clear hS7 hL7 hk7 hR7 hT7
              go_wp2_with (at_builtin; refine print_append_str (w0 := w7) base rfl (.tmp 72) (.tmp 73) 88 9 5 rfl Tryz.underlying88 Tryz.underlying9 infoB (.slice A7 L7.length c7) L7 m.high rfl rfl ?aO ?aB ?aS ?c1 ?_; (case aO => exact Kd.own_of_R HR7.out); (case aB => exact Below.refl _ _); (case aS => exact zsz); (case c1 => have := hszz.out; omega); intro v8 w8 hown hB8 hg8; obtain ⟨A8, c8, rfl, _⟩ := RB_reads hown; have HO8 := Aside0.mk hown; have HB8 := Aside0.mk hB8; have hk8 := (hB8.block gb zgb).trans HK7.out; have r0 := blk_cell hk8 0; have rf := blk_frozen hk8 0; clear hown hB8 hg8 hk8)
              go_roundg 0
              case measure => omega
              case rel =>
                have hfin := EncT.app (w0 := w) HS7.out HL7.out hN7 HB7.out hwgb HK7.out HO8.out HB8.out
                rw [hokk.out, hokj.out, hszz.out] at hfin
                exact .inr (.inr ⟨rfl, rfl, ⟨by first | exact hfin | simpa [txOk, txP] using hfin⟩⟩)
          · go_wp2
            go_roundg (add.length - (i + 1))
            case measure => omega
            case rel =>
              have h1 := (hms m hmm).1
              have h2 := (hms m hmm).2
              refine ⟨i + 1, _, _, _, by go_num, by omega, ?_, ⟨?_⟩, ⟨?_⟩, HX⟩
              · omega
              · rw [hok6.out, txOk_M ok m h1 h2, HTK.out, List.all_append, HOK.out]
                simp [Bool.and_assoc]
              · rw [hP6.out, txP_M, HTK.out, List.flatMap_append, HP.out]
                simp [List.append_assoc]
      · have hpk : Aside0 (add.take i = add) := ⟨List.take_of_length_le (by omega)⟩
        have hok : Aside0 (ok = encOk drop add seq next) := ⟨by
          have e1 := okN_nat (k := drop.length) (by omega)
          have e2 := okN_nat (k := add.length) (by omega)
          rw [HOK.out, hpk.out, hok3.out, hok2.out, hok1.out, encOk]
          simp only [List.all_cons, List.all_nil, e1, e2, Bool.and_true, Bool.true_and, Bool.and_assoc]⟩
        have hPP : Aside0 (P = encB drop add seq next) := ⟨by
          rw [HP.out, hpk.out, hP3.out, hP2.out, hP1.out, encB]
          simp [List.append_assoc]⟩
        obtain ⟨L, hS, hL, hN⟩ := HT.out.st
        obtain ⟨A9, c9, hk9, hR9⟩ := hS.hb
        have q0 := blk_cell hS.ho 0
        have b0 := blk_cell hk9 0
        have HL := Aside0.mk hL
        have HR9 := Aside0.mk (And.intro hR9 hS)
        clear hS hL hk9 hR9
        cases hokk : ok with
        | true =>
          rw [hokk] at q0
          have hE0 : Aside0 (E = 0) := ⟨by rw [hE1.out, ← hok.out, hokk]; rfl⟩
          have hLe : Aside0 (L = nb (encB drop add seq next)) := ⟨by rw [HL.out hokk, hPP.out]⟩
          go_wp2
          refine bodyPost_ret (results_tmp2 rfl _ _ _) rfl ?_
          refine ⟨A9, L.length, c9, by rw [hE0.out]; rfl, ⟨fun _ => ⟨by rw [hLe.out, nb_len], ?_⟩, fun h => absurd hE0.out h, HT.out.below⟩⟩
          have h1 := Kd.own_of_R HR9.out.1
          have h2 := own_weaken h1 (show w.heap.size ≤ base by have := HR9.out.2.hbase; have := HR9.out.2.hg; omega)
          rw [← hLe.out]
          exact h2
        | false =>
          rw [hokk] at q0
          have hE0 : Aside0 (E = 1) := ⟨by rw [hE1.out, ← hok.out, hokk]; rfl⟩
          go_wp2
          refine bodyPost_ret (results_tmp2 rfl _ _ _) rfl ?_
          exact ⟨none, 0, 0, by rw [hE0.out]; rfl, ⟨fun h => absurd h (by rw [hE0.out]; decide), fun _ => ⟨rfl, rfl, rfl⟩, HT.out.below⟩⟩
end Go.Proofs.YtfakfgblaakgdaaGreat.Var

/- The sum of octets (32 bits), by its register: plain. No program. -/
namespace Go.Proofs.YtfakfgblaakgdaaGreat.Crc
set_option linter.unusedVariables false
set_option linter.unusedSimpArgs false
open Go.RowKit Go.Proofs.YtfakfgblaakgdaaGreatW.PrintWords Go.Proofs.YtfakfgblaakgdaaGreatW.PrintLast Go.Proofs.YtfakfgblaakgdaaGreat.Base

/-- one bit through the register -/
def crc1 (x : Int) : Int := if x / 2147483648 = 1 then bits .xor .u32 (x * 2 % 4294967296) 79764919 else x * 2 % 4294967296
def crcN : Nat → Int → Int
  | 0, x => x
  | n + 1, x => crcN n (crc1 x)
theorem crcN_snoc (n : Nat) (x : Int) : crcN (n + 1) x = crc1 (crcN n x) := by
  induction n generalizing x with
  | zero => rfl
  | succ n ih => rw [crcN, ih]; rfl
theorem bits_u32 (op : BinOp) (a b : Int) : 0 ≤ bits op .u32 a b ∧ bits op .u32 a b < 4294967296 := by
  have h := bits_within op .u32 a b
  have h1 : IntKind.u32.min = 0 := rfl
  have h2 : IntKind.u32.max = 4294967295 := rfl
  omega
theorem crc1_bd {x : Int} : 0 ≤ crc1 x ∧ crc1 x < 4294967296 := by
  unfold crc1
  split
  · exact bits_u32 _ _ _
  · omega
theorem crcN_bd {n : Nat} {x : Int} (h0 : 0 ≤ x) (h1 : x < 4294967296) : 0 ≤ crcN n x ∧ crcN n x < 4294967296 := by
  cases n with
  | zero => exact ⟨h0, h1⟩
  | succ n => rw [crcN_snoc]; exact crc1_bd
theorem xor_zero (a : Int) (h0 : 0 ≤ a) (h1 : a < 4294967296) : bits .xor .u32 a 0 = a := by
  unfold bits
  simp only [IntKind.wrap_u32]
  have : (BitVec.ofInt IntKind.u32.bits a ^^^ BitVec.ofInt IntKind.u32.bits 0) = BitVec.ofInt IntKind.u32.bits a := by simp
  rw [this]
  have hb : IntKind.u32.bits = 32 := rfl
  rw [hb, BitVec.toNat_ofInt]
  omega
/-- the program's way: the polynomial, or nothing, by a mask -/
theorem crc1_mask {x : Int} (h0 : 0 ≤ x) (h1 : x < 4294967296) : bits .xor .u32 (x * 2 % 4294967296) (bits .and .u32 79764919 (-(x / 2147483648) % 4294967296)) = crc1 x := by
  have h : x / 2147483648 = 0 ∨ x / 2147483648 = 1 := by omega
  unfold crc1
  rcases h with h | h
  · rw [h, if_neg (by decide)]
    have e : bits .and .u32 79764919 (-(0 : Int) % 4294967296) = 0 := by decide
    rw [e]
    exact xor_zero _ (by omega) (by omega)
  · rw [h, if_pos rfl]
    have e : bits .and .u32 79764919 (-(1 : Int) % 4294967296) = 79764919 := by decide
    rw [e]
/-- an octet into the register -/
def crcB (c b : Int) : Int := crcN 8 (bits .xor .u32 c (b * 16777216))
def crcL (c : Int) (l : List Int) : Int := l.foldl crcB c
theorem crcB_bd (c b : Int) : 0 ≤ crcB c b ∧ crcB c b < 4294967296 := crcN_bd (bits_u32 _ _ _).1 (bits_u32 _ _ _).2
theorem crcL_bd {c : Int} (l : List Int) (h0 : 0 ≤ c) (h1 : c < 4294967296) : 0 ≤ crcL c l ∧ crcL c l < 4294967296 := by
  induction l generalizing c with
  | nil => exact ⟨h0, h1⟩
  | cons b l ih => exact ih (crcB_bd c b).1 (crcB_bd c b).2
theorem crcL_snoc (c : Int) (l : List Int) (b : Int) : crcL c (l ++ [b]) = crcB (crcL c l) b := by simp [crcL]
/-- octets are octets -/
def OctL (l : List Int) : Prop := ∀ b ∈ l, 0 ≤ b ∧ b < 256
theorem OctL.append {a b : List Int} (h : OctL a) (k : OctL b) : OctL (a ++ b) := fun x hx => (List.mem_append.1 hx).elim (h x) (k x)
theorem OctL.left {a b : List Int} (h : OctL (a ++ b)) : OctL a := fun x hx => h x (List.mem_append.2 (.inl hx))
def octs (c : Int) : List Int := [c / 16777216, c / 65536 % 256, c / 256 % 256, c % 256]
def sumL (l : List Int) : Int := crcL 4294967295 l
theorem sumL_bd (l : List Int) : 0 ≤ sumL l ∧ sumL l < 4294967296 := crcL_bd l (by decide) (by decide)
def guardL (l : List Int) : List Int := l ++ octs (sumL l)
end Go.Proofs.YtfakfgblaakgdaaGreat.Crc

/- sum.step, Extend, Sum, octets; the document's Extend, Sum: walked. -/
namespace Go.Proofs.YtfakfgblaakgdaaGreat.Crc
set_option linter.unusedVariables false
set_option linter.unusedSimpArgs false
open Go.RowKit Go.Proofs.YtfakfgblaakgdaaGreatW.PrintWords Go.Proofs.YtfakfgblaakgdaaGreatW.PrintLast Go.Proofs.YtfakfgblaakgdaaGreat.Base Go.Proofs.YtfakfgblaakgdaaGreat.Cells Go.Proofs.YtfakfgblaakgdaaGreat.Ints Go.Proofs.YtfakfgblaakgdaaGreat.Var

set_option maxRecDepth 100000 in
set_option maxHeartbeats 1000000 in
theorem step_any (c : Int) (w : World) (h0 : 0 ≤ c) (h1 : c < 4294967296) :
    Calls Tryz.prog 176 #[.int .u32 c] w fun e w' => e = .returned (.int .u32 (crcN 8 c)) ∧ w = w' := by
  go_enter Tryz.func176, Tryz.ntmps176
  go_wp2
  go_loopg [0, 3] 8 (fun g v0 v3 wr => ∃ (i : Nat) (x : Int), v3 = .int .i64 i ∧ g + i = 8 ∧ v0 = .int .u32 x ∧ 0 ≤ x ∧ x < 4294967296 ∧ Aside0 (crcN i c = x) ∧ w = wr)
  case atStart => exact ⟨0, c, rfl, by omega, rfl, h0, h1, ⟨rfl⟩, rfl⟩
  case round =>
    obtain ⟨i, x, rfl, hg, rfl, hx0, hx1, HX, rfl⟩ := hrel
    by_cases hlt : i < 8
    · have hlt' : (i : Int) < 8 := by omega
      have HM := Aside0.mk (crc1_mask hx0 hx1)
      go_wp2
      go_roundg (8 - (i + 1))
      case measure => omega
      case rel => exact ⟨i + 1, crc1 x, by go_num, by omega, by rw [HM.out], crc1_bd.1, crc1_bd.2, ⟨by rw [crcN_snoc, HX.out]⟩, rfl⟩
    · have hnf : ¬ ((i : Int) < 8) := by omega
      have h8 : i = 8 := by omega
      have HE : Aside0 (x = crcN 8 c) := ⟨by rw [← HX.out, h8]⟩
      clear h8
      go_wp2
      go_ret
      exact ⟨by rw [HE.out]; rfl, rfl⟩

set_option maxRecDepth 100000 in
set_option maxHeartbeats 1000000 in
theorem extend_any (c : Int) (A : Option Addr) (n ac : Nat) (l : List Int) (w : World) (h0 : 0 ≤ c) (h1 : c < 4294967296) (hr : ReadsInt w .u8 A n l) (ho : OctL l) :
    Calls Tryz.prog 172 #[.int .u32 c, .slice A n ac] w fun e w' => e = .returned (.int .u32 (crcL c l)) ∧ w = w' := by
  have HR := Aside0.mk hr
  have HO := Aside0.mk ho
  have hn := hr.2.1
  have LN : Aside0 (l.length = n) := ⟨hr.1⟩
  clear hr ho
  go_enter Tryz.func172, Tryz.ntmps172
  go_wp2
  go_loopg [0, 9] n (fun g v0 v9 wr => ∃ (i : Nat) (x : Int), v9 = .int .i64 i ∧ g + i = n ∧ v0 = .int .u32 x ∧ 0 ≤ x ∧ x < 4294967296 ∧ Aside0 (crcL c (l.take i) = x) ∧ w = wr)
  case atStart => exact ⟨0, c, rfl, by omega, rfl, h0, h1, ⟨rfl⟩, rfl⟩
  case round =>
    obtain ⟨i, x, rfl, hg, rfl, hx0, hx1, HX, rfl⟩ := hrel
    by_cases hlt : i < n
    · have hlt' : (i : Int) < (n : Int) := by omega
      obtain ⟨b, hb⟩ : ∃ b, l[i]? = some b := ⟨_, List.getElem?_eq_getElem (by have := LN.out; omega)⟩
      obtain ⟨ad, rfl, c0⟩ := HR.out.at_ i (by omega) (by omega)
      have hrd : rd l i = b := by simp [rd, List.getD_eq_getElem?_getD, hb]
      rw [Int.toNat_natCast, hrd] at c0
      obtain ⟨hb0, hb1⟩ := HO.out b (List.mem_of_getElem? hb)
      have HT : Aside0 (l.take (i + 1) = l.take i ++ [b]) := ⟨by rw [List.take_add_one, hb]; rfl⟩
      clear hb hrd
      go_wp2_with fail
      refine (step_any _ _ (bits_u32 _ _ _).1 (bits_u32 _ _ _).2).mono ?_
      rintro e w1 ⟨rfl, rfl⟩
      go_wp2
      go_roundg (n - (i + 1))
      case measure => omega
      case rel => exact ⟨i + 1, crcB x b, by go_num, by omega, rfl, (crcB_bd x b).1, (crcB_bd x b).2, ⟨by rw [HT.out, crcL_snoc, HX.out]⟩, rfl⟩
    · have hnf : ¬ ((i : Int) < (n : Int)) := by omega
      have HE : Aside0 (x = crcL c l) := ⟨by rw [← HX.out, List.take_of_length_le (by have := LN.out; omega)]⟩
      go_wp2
      go_ret
      exact ⟨by rw [HE.out]; rfl, rfl⟩

set_option maxRecDepth 100000 in
theorem sum_any (A : Option Addr) (n ac : Nat) (l : List Int) (w : World) (hr : ReadsInt w .u8 A n l) (ho : OctL l) :
    Calls Tryz.prog 157 #[.slice A n ac] w fun e w' => e = .returned (.int .u32 (sumL l)) ∧ w = w' := by
  have HC := Aside0.mk (extend_any 4294967295 A n ac l w (by decide) (by decide) hr ho)
  clear hr ho
  go_enter Tryz.func157, Tryz.ntmps157
  go_wp2_with fail
  refine HC.out.mono ?_
  rintro e w1 ⟨rfl, rfl⟩
  go_wp2
  go_ret
  exact ⟨rfl, rfl⟩

set_option maxRecDepth 100000 in
set_option maxHeartbeats 1000000 in
theorem octets_any (c : Int) (w : World) (h0 : 0 ≤ c) (h1 : c < 4294967296) :
    Calls Tryz.prog 156 #[.int .u32 c] w fun e w' => e = .returned (.agg #[.int .u8 (c / 16777216), .int .u8 (c / 65536 % 256), .int .u8 (c / 256 % 256), .int .u8 (c % 256)]) ∧ Below w.heap.size w w' := by
  go_enter Tryz.func156, Tryz.ntmps156
  go_wp2
  refine bodyPost_ret (results_cell_row rfl _ _ w.heap.size 234 #[.int .u8 (c / 16777216), .int .u8 (c / 65536 % 256), .int .u8 (c / 256 % 256), .int .u8 (c % 256)] (0, 0) _ rfl (blk_new _ _) Tryz.underlying234 rfl (by kernel_rfl)) rfl ?_
  exact ⟨rfl, below_alloc (Below.refl _ _) _⟩

set_option maxRecDepth 100000 in
set_option maxHeartbeats 2000000 in
theorem rextend_any (c : Int) (A : Option Addr) (n ac : Nat) (l : List Int) (w : World) (h0 : 0 ≤ c) (h1 : c < 4294967296) (hr : ReadsInt w .u8 A n l) (ho : OctL l) :
    Calls Tryz.prog 159 #[.int .u32 c, .slice A n ac] w fun e w' => e = .returned (.int .u32 (crcL c l)) ∧ w = w' := by
  have HR := Aside0.mk hr
  have HO := Aside0.mk ho
  have hn := hr.2.1
  have LN : Aside0 (l.length = n) := ⟨hr.1⟩
  clear hr ho
  go_enter Tryz.func159, Tryz.ntmps159
  go_wp2
  go_loopg [0, 5] n (fun g v0 v5 wr => ∃ (i : Nat) (x : Int), v5 = .int .i64 i ∧ g + i = n ∧ v0 = .int .u32 x ∧ 0 ≤ x ∧ x < 4294967296 ∧ Aside0 (crcL c (l.take i) = x) ∧ w = wr)
  case atStart => exact ⟨0, c, rfl, by omega, rfl, h0, h1, ⟨rfl⟩, rfl⟩
  case round =>
    obtain ⟨i, x, rfl, hg, rfl, hx0, hx1, HX, rfl⟩ := hrel
    by_cases hlt : i < n
    · have hlt' : (i : Int) < (n : Int) := by omega
      obtain ⟨b, hb⟩ : ∃ b, l[i]? = some b := ⟨_, List.getElem?_eq_getElem (by have := LN.out; omega)⟩
      obtain ⟨ad, rfl, c0⟩ := HR.out.at_ i (by omega) (by omega)
      have hrd : rd l i = b := by simp [rd, List.getD_eq_getElem?_getD, hb]
      rw [Int.toNat_natCast, hrd] at c0
      obtain ⟨hb0, hb1⟩ := HO.out b (List.mem_of_getElem? hb)
      have HT : Aside0 (l.take (i + 1) = l.take i ++ [b]) := ⟨by rw [List.take_add_one, hb]; rfl⟩
      clear hb hrd
      go_wp2
      go_loopg [0, 6] 8 (fun g v0 v6 wr => ∃ (k : Nat) (y : Int), v6 = .int .i64 k ∧ g + k = 8 ∧ v0 = .int .u32 y ∧ 0 ≤ y ∧ y < 4294967296 ∧ Aside0 (crcN k (bits .xor .u32 x (b * 16777216)) = y) ∧ w = wr)
      case atStart => exact ⟨0, _, rfl, by omega, rfl, (bits_u32 _ _ _).1, (bits_u32 _ _ _).2, ⟨rfl⟩, rfl⟩
      case round =>
        obtain ⟨k, y, rfl, hgk, rfl, hy0, hy1, HY, rfl⟩ := hrel
        by_cases hlk : k < 8
        · have hlk' : (k : Int) < 8 := by omega
          have hh : y / 2147483648 = 0 ∨ y / 2147483648 = 1 := by omega
          obtain ⟨z, hz⟩ : ∃ z, y / 2147483648 = z := ⟨_, rfl⟩
          have HZ := Aside0.mk hz
          rw [hz] at hh
          rcases hh with rfl | rfl
          · have hE : Aside0 (crc1 y = y * 2 % 4294967296) := ⟨by unfold crc1; rw [HZ.out]; rfl⟩
            go_wp2
            all_goals go_roundg (8 - (k + 1))
            case measure => omega
            case rel => exact ⟨k + 1, crc1 y, by go_num, by omega, by first | (rw [hE.out]; done) | (rw [hE.out]; congr 1; omega), crc1_bd.1, crc1_bd.2, ⟨by rw [crcN_snoc, HY.out]⟩, rfl⟩
          · have hE : Aside0 (crc1 y = bits .xor .u32 (y * 2 % 4294967296) 79764919) := ⟨by unfold crc1; rw [HZ.out]; rfl⟩
            go_wp2
            all_goals go_roundg (8 - (k + 1))
            case measure => omega
            case rel => exact ⟨k + 1, crc1 y, by go_num, by omega, by first | (rw [hE.out]; done) | (rw [hE.out]; congr 1; omega), crc1_bd.1, crc1_bd.2, ⟨by rw [crcN_snoc, HY.out]⟩, rfl⟩
        · have hnk : ¬ ((k : Int) < 8) := by omega
          have h8 : k = 8 := by omega
          have HE : Aside0 (y = crcB x b) := ⟨by rw [← HY.out, h8]; rfl⟩
          clear h8
          go_wp2
          go_roundg (n - (i + 1))
          case measure => omega
          case rel => exact ⟨i + 1, y, by go_num, by omega, rfl, hy0, hy1, ⟨by rw [HT.out, crcL_snoc, HX.out, HE.out]⟩, rfl⟩
    · have hnf : ¬ ((i : Int) < (n : Int)) := by omega
      have HE : Aside0 (x = crcL c l) := ⟨by rw [← HX.out, List.take_of_length_le (by have := LN.out; omega)]⟩
      go_wp2
      go_ret
      exact ⟨by rw [HE.out]; rfl, rfl⟩

set_option maxRecDepth 100000 in
theorem rsum_any (A : Option Addr) (n ac : Nat) (l : List Int) (w : World) (hr : ReadsInt w .u8 A n l) (ho : OctL l) :
    Calls Tryz.prog 126 #[.slice A n ac] w fun e w' => e = .returned (.int .u32 (sumL l)) ∧ w = w' := by
  have HC := Aside0.mk (rextend_any 4294967295 A n ac l w (by decide) (by decide) hr ho)
  clear hr ho
  go_enter Tryz.func126, Tryz.ntmps126
  go_wp2_with fail
  refine HC.out.mono ?_
  rintro e w1 ⟨rfl, rfl⟩
  go_wp2
  go_ret
  exact ⟨rfl, rfl⟩
end Go.Proofs.YtfakfgblaakgdaaGreat.Crc

/- slices.Grow and slices.Concat of octets: walked. (Printed by wip/gen_concat.py.) -/
namespace Go.Proofs.YtfakfgblaakgdaaGreat.Cat
set_option linter.unusedVariables false
set_option linter.unusedSimpArgs false
open Go.RowKit Go.Proofs.YtfakfgblaakgdaaGreatW.PrintWords Go.Proofs.YtfakfgblaakgdaaGreatW.PrintLast Go.Proofs.YtfakfgblaakgdaaGreat.Base Go.Proofs.YtfakfgblaakgdaaGreat.Cells Go.Proofs.YtfakfgblaakgdaaGreat.Ints Go.Proofs.YtfakfgblaakgdaaGreat.Var

theorem infoB : (Tryz.prog.info? 5).map (fun i => (i.zero, i.size, i.bytes)) = some (some (.int .u8 0), 1, 1) := by kernel_rfl
theorem infoBx : ∃ i0, Tryz.prog.info? 5 = some i0 ∧ i0.size = 1 := by
  have h := infoB
  obtain ⟨i0, h1, h2⟩ := Option.map_eq_some_iff.1 h
  exact ⟨i0, h1, congrArg (fun x => x.2.1) h2⟩
set_option maxRecDepth 100000 in
set_option maxHeartbeats 1000000 in
theorem growB_any (n : Int) (w : World) (h0 : 0 ≤ n) (h1 : n ≤ 4194304) :
    Calls Tryz.prog 158 #[.slice none 0 0, .int .i64 n] w fun e w' => ∃ v, e = .returned v ∧ (Kd.int .u8).R 5 w' w.heap.size (fun _ => True) v [] ∧ Below w.heap.size w w' := by
  obtain ⟨i0, hi0, hz2⟩ := infoBx
  have hcn := cut_to (P := Tryz.prog) 88 5 .i64 Tryz.underlying88 hi0 none 0 0 0 (by omega) (by omega) (by omega)
  by_cases hn : 0 < n
  · go_enter Tryz.func158, Tryz.ntmps158
    go_wp2_with (at_builtin; refine Kd.R_append_zeros (Kd.int .u8) (w0 := w) w.heap.size rfl (.tmp 20) (.tmp 21) 88 3 5 (.int .u8 0) 1 rfl Tryz.underlying88 Tryz.underlying3 infoB rfl (by decide) (by omega) (.slice none 0 0) [] (0 : Int) n (fun _ => True) rfl rfl ?aZ (fun _ _ => trivial) ?aO h0 ?aB ?aS ?c1 ?_; (case aZ => exact rfl); (case aO => exact Kd.R_nil _ _ _ _ _); (case aB => exact Below.refl _ _); (case aS => exact Nat.le_refl _); (case c1 => simp only [List.length_nil]; omega); intro v1 w1 hown hB1 hg1 hat; obtain ⟨A1, c1, rfl, hlc, _⟩ := Kd.R_reads hown; have hct := cut_to (P := Tryz.prog) 88 5 .i64 Tryz.underlying88 hi0 A1 ([] ++ List.replicate n.toNat (0 : Int)).length c1 0 (by omega) (by omega) hlc; have HO1 := Aside0.mk (Kd.R_take hown (Nat.zero_le _)); have HB1 := Aside0.mk hB1; clear hown hB1 hg1 hat hlc)
    go_ret
    exact ⟨_, rfl, HO1.out, HB1.out⟩
  · obtain rfl : n = 0 := by omega
    go_enter Tryz.func158, Tryz.ntmps158
    go_wp2
    go_ret
    exact ⟨_, rfl, Kd.R_nil _ _ _ _ _, Below.refl _ _⟩

set_option maxRecDepth 100000 in
set_option maxHeartbeats 4000000 in
theorem concatB2_any (b : Nat) (A1 A2 : Option Addr) (c1 c2 n1 n2 : Nat) (l1 l2 : List Int) (w : World) (h1 : w.cell? ⟨b, 0, none⟩ = some (.slice A1 n1 c1)) (h2 : w.cell? ⟨b, 1, none⟩ = some (.slice A2 n2 c2)) (r1 : (Kd.int .u8).C w A1 n1 l1) (r2 : (Kd.int .u8).C w A2 n2 l2) (b1 : n1 ≤ 1048576) (b2 : n2 ≤ 1048576) :
    Calls Tryz.prog 122 #[.slice (some ⟨b, 0, none⟩) 2 2] w fun e w' => ∃ v, e = .returned v ∧ (Kd.int .u8).R 5 w' w.heap.size (fun _ => True) v (l1 ++ l2) ∧ Below w.heap.size w w' := by
  have R1 := Aside0.mk r1
  have H1 := Aside0.mk h1
  have N1 := Aside0.mk (Kd.C_len r1)
  have R2 := Aside0.mk r2
  have H2 := Aside0.mk h2
  have N2 := Aside0.mk (Kd.C_len r2)
  clear r1 r2
  go_enter Tryz.func122, Tryz.ntmps122
  go_wp2
  go_loopg [3, 5, 11] 2 (fun g v3 v5 v11 wr => ∃ i : Nat, v11 = .int .i64 i ∧ g + i = 2 ∧ v3 = .int .i64 (if i = 0 then 0 else if i = 1 then (n1 : Int) else (n1 : Int) + n2) ∧ w = wr)
  case atStart => exact ⟨0, rfl, rfl, rfl, rfl⟩
  case round =>
    obtain ⟨i, rfl, hg, rfl, rfl⟩ := hrel
    rcases i with _ | _ | _ | i
    · skip
      simp only [if_true]
      go_wp2
      go_roundg 1
      case measure => omega
      case rel => exact ⟨1, rfl, rfl, by simp, rfl⟩
    · skip
      have e0 : ¬ ((0 + 1 : Nat) = 0) := by omega
      rw [if_neg e0]
      clear e0
      simp only [if_true]
      go_wp2
      go_roundg 0
      case measure => omega
      case rel => exact ⟨2, rfl, rfl, by simp, rfl⟩
    · skip
      have e0 : ¬ ((0 + 1 + 1 : Nat) = 0) := by omega
      have e1 : ¬ ((0 + 1 + 1 : Nat) = 1) := by omega
      rw [if_neg e0, if_neg e1]
      clear e0 e1
      go_wp2_with fail
      refine (growB_any ((n1 : Int) + n2) _ (by omega) (by omega)).mono ?_
      rintro e w1 ⟨v, rfl, ho, hb⟩
      obtain ⟨Av, cv, rfl⟩ := Kd.R_slice ho
      have HO := Aside0.mk ho
      have HB := Aside0.mk hb
      clear ho hb h1 h2
      go_wp2
      go_loopg [6, 8, 27] 2 (fun g v6 v8 v27 wr => ∃ i : Nat, v27 = .int .i64 i ∧ g + i = 2 ∧ Aside0 ((Kd.int .u8).R 5 wr w.heap.size (fun _ => True) v6 (if i = 0 then [] else if i = 1 then l1 else l1 ++ l2)) ∧ Aside0 (Below w.heap.size w wr))
      case atStart => exact ⟨0, rfl, rfl, ⟨HO.out⟩, HB⟩
      case round =>
        obtain ⟨i, rfl, hg, HR, HBr⟩ := hrel
        rcases i with _ | _ | _ | i
        · have HRa : Aside0 ((Kd.int .u8).R 5 wr w.heap.size (fun _ => True) u6 ([])) := HR
          have h1 := (pw_cell_below HBr.out H1.out)
          have RA : Aside0 ((Kd.int .u8).C wr A1 n1 l1) := ⟨Kd.C_below R1.out HBr.out⟩
          clear HR
          go_wp2_with (at_builtin; refine Kd.R_append_rows (Kd.int .u8) (Rr := (Kd.int .u8).K wr) (w0 := w) w.heap.size rfl (.tmp 31) (.tmp 32) 88 5 (.int .u8 0) 1 rfl Tryz.underlying88 infoB rfl (by decide) (by omega) u6 ([]) l1 A1 n1 c1 (fun _ => True) (fun _ => False) rfl rfl ?aO ?aR ?aK (fun _ hk => hk.elim) (fun _ _ => trivial) ?aB ?aS ?c1 ?_; (case aO => exact HRa.out); (case aR => exact RA.out); (case aK => intro x cs hx; exact hx); (case aB => exact HBr.out); (case aS => exact HBr.out.size); (case c1 => simp only [List.length_nil]; omega); intro v1 w1 hown hB1 hg1 hat; have HO1 := Aside0.mk hown; have HB1 := Aside0.mk hB1; clear hown hB1 hg1 hat)
          go_roundg 1
          case measure => omega
          case rel => exact ⟨1, rfl, rfl, ⟨HO1.out⟩, HB1⟩
        · have HRa : Aside0 ((Kd.int .u8).R 5 wr w.heap.size (fun _ => True) u6 (l1)) := HR
          have h2 := (pw_cell_below HBr.out H2.out)
          have RA : Aside0 ((Kd.int .u8).C wr A2 n2 l2) := ⟨Kd.C_below R2.out HBr.out⟩
          clear HR
          go_wp2_with (at_builtin; refine Kd.R_append_rows (Kd.int .u8) (Rr := (Kd.int .u8).K wr) (w0 := w) w.heap.size rfl (.tmp 31) (.tmp 32) 88 5 (.int .u8 0) 1 rfl Tryz.underlying88 infoB rfl (by decide) (by omega) u6 (l1) l2 A2 n2 c2 (fun _ => True) (fun _ => False) rfl rfl ?aO ?aR ?aK (fun _ hk => hk.elim) (fun _ _ => trivial) ?aB ?aS ?c1 ?_; (case aO => exact HRa.out); (case aR => exact RA.out); (case aK => intro x cs hx; exact hx); (case aB => exact HBr.out); (case aS => exact HBr.out.size); (case c1 => (try simp only [List.length_append]); have := N1.out; omega); intro v1 w1 hown hB1 hg1 hat; have HO1 := Aside0.mk hown; have HB1 := Aside0.mk hB1; clear hown hB1 hg1 hat)
          go_roundg 0
          case measure => omega
          case rel => exact ⟨2, rfl, rfl, ⟨HO1.out⟩, HB1⟩
        · have HRa : Aside0 ((Kd.int .u8).R 5 wr w.heap.size (fun _ => True) u6 (l1 ++ l2)) := HR
          clear HR
          go_wp2
          go_ret
          exact ⟨_, rfl, HRa.out, HBr.out⟩
        · omega
    · omega

set_option maxRecDepth 100000 in
set_option maxHeartbeats 4000000 in
theorem concatB3_any (b : Nat) (A1 A2 A3 : Option Addr) (c1 c2 c3 n1 n2 n3 : Nat) (l1 l2 l3 : List Int) (w : World) (h1 : w.cell? ⟨b, 0, none⟩ = some (.slice A1 n1 c1)) (h2 : w.cell? ⟨b, 1, none⟩ = some (.slice A2 n2 c2)) (h3 : w.cell? ⟨b, 2, none⟩ = some (.slice A3 n3 c3)) (r1 : (Kd.int .u8).C w A1 n1 l1) (r2 : (Kd.int .u8).C w A2 n2 l2) (r3 : (Kd.int .u8).C w A3 n3 l3) (b1 : n1 ≤ 1048576) (b2 : n2 ≤ 1048576) (b3 : n3 ≤ 1048576) :
    Calls Tryz.prog 122 #[.slice (some ⟨b, 0, none⟩) 3 3] w fun e w' => ∃ v, e = .returned v ∧ (Kd.int .u8).R 5 w' w.heap.size (fun _ => True) v (l1 ++ l2 ++ l3) ∧ Below w.heap.size w w' := by
  have R1 := Aside0.mk r1
  have H1 := Aside0.mk h1
  have N1 := Aside0.mk (Kd.C_len r1)
  have R2 := Aside0.mk r2
  have H2 := Aside0.mk h2
  have N2 := Aside0.mk (Kd.C_len r2)
  have R3 := Aside0.mk r3
  have H3 := Aside0.mk h3
  have N3 := Aside0.mk (Kd.C_len r3)
  clear r1 r2 r3
  go_enter Tryz.func122, Tryz.ntmps122
  go_wp2
  go_loopg [3, 5, 11] 3 (fun g v3 v5 v11 wr => ∃ i : Nat, v11 = .int .i64 i ∧ g + i = 3 ∧ v3 = .int .i64 (if i = 0 then 0 else if i = 1 then (n1 : Int) else if i = 2 then (n1 : Int) + n2 else (n1 : Int) + n2 + n3) ∧ w = wr)
  case atStart => exact ⟨0, rfl, rfl, rfl, rfl⟩
  case round =>
    obtain ⟨i, rfl, hg, rfl, rfl⟩ := hrel
    rcases i with _ | _ | _ | _ | i
    · skip
      simp only [if_true]
      go_wp2
      go_roundg 2
      case measure => omega
      case rel => exact ⟨1, rfl, rfl, by simp, rfl⟩
    · skip
      have e0 : ¬ ((0 + 1 : Nat) = 0) := by omega
      rw [if_neg e0]
      clear e0
      simp only [if_true]
      go_wp2
      go_roundg 1
      case measure => omega
      case rel => exact ⟨2, rfl, rfl, by simp, rfl⟩
    · skip
      have e0 : ¬ ((0 + 1 + 1 : Nat) = 0) := by omega
      have e1 : ¬ ((0 + 1 + 1 : Nat) = 1) := by omega
      rw [if_neg e0, if_neg e1]
      clear e0 e1
      simp only [if_true]
      go_wp2
      go_roundg 0
      case measure => omega
      case rel => exact ⟨3, rfl, rfl, by simp, rfl⟩
    · skip
      have e0 : ¬ ((0 + 1 + 1 + 1 : Nat) = 0) := by omega
      have e1 : ¬ ((0 + 1 + 1 + 1 : Nat) = 1) := by omega
      have e2 : ¬ ((0 + 1 + 1 + 1 : Nat) = 2) := by omega
      rw [if_neg e0, if_neg e1, if_neg e2]
      clear e0 e1 e2
      go_wp2_with fail
      refine (growB_any ((n1 : Int) + n2 + n3) _ (by omega) (by omega)).mono ?_
      rintro e w1 ⟨v, rfl, ho, hb⟩
      obtain ⟨Av, cv, rfl⟩ := Kd.R_slice ho
      have HO := Aside0.mk ho
      have HB := Aside0.mk hb
      clear ho hb h1 h2 h3
      go_wp2
      go_loopg [6, 8, 27] 3 (fun g v6 v8 v27 wr => ∃ i : Nat, v27 = .int .i64 i ∧ g + i = 3 ∧ Aside0 ((Kd.int .u8).R 5 wr w.heap.size (fun _ => True) v6 (if i = 0 then [] else if i = 1 then l1 else if i = 2 then l1 ++ l2 else l1 ++ l2 ++ l3)) ∧ Aside0 (Below w.heap.size w wr))
      case atStart => exact ⟨0, rfl, rfl, ⟨HO.out⟩, HB⟩
      case round =>
        obtain ⟨i, rfl, hg, HR, HBr⟩ := hrel
        rcases i with _ | _ | _ | _ | i
        · have HRa : Aside0 ((Kd.int .u8).R 5 wr w.heap.size (fun _ => True) u6 ([])) := HR
          have h1 := (pw_cell_below HBr.out H1.out)
          have RA : Aside0 ((Kd.int .u8).C wr A1 n1 l1) := ⟨Kd.C_below R1.out HBr.out⟩
          clear HR
          go_wp2_with (at_builtin; refine Kd.R_append_rows (Kd.int .u8) (Rr := (Kd.int .u8).K wr) (w0 := w) w.heap.size rfl (.tmp 31) (.tmp 32) 88 5 (.int .u8 0) 1 rfl Tryz.underlying88 infoB rfl (by decide) (by omega) u6 ([]) l1 A1 n1 c1 (fun _ => True) (fun _ => False) rfl rfl ?aO ?aR ?aK (fun _ hk => hk.elim) (fun _ _ => trivial) ?aB ?aS ?c1 ?_; (case aO => exact HRa.out); (case aR => exact RA.out); (case aK => intro x cs hx; exact hx); (case aB => exact HBr.out); (case aS => exact HBr.out.size); (case c1 => simp only [List.length_nil]; omega); intro v1 w1 hown hB1 hg1 hat; have HO1 := Aside0.mk hown; have HB1 := Aside0.mk hB1; clear hown hB1 hg1 hat)
          go_roundg 2
          case measure => omega
          case rel => exact ⟨1, rfl, rfl, ⟨HO1.out⟩, HB1⟩
        · have HRa : Aside0 ((Kd.int .u8).R 5 wr w.heap.size (fun _ => True) u6 (l1)) := HR
          have h2 := (pw_cell_below HBr.out H2.out)
          have RA : Aside0 ((Kd.int .u8).C wr A2 n2 l2) := ⟨Kd.C_below R2.out HBr.out⟩
          clear HR
          go_wp2_with (at_builtin; refine Kd.R_append_rows (Kd.int .u8) (Rr := (Kd.int .u8).K wr) (w0 := w) w.heap.size rfl (.tmp 31) (.tmp 32) 88 5 (.int .u8 0) 1 rfl Tryz.underlying88 infoB rfl (by decide) (by omega) u6 (l1) l2 A2 n2 c2 (fun _ => True) (fun _ => False) rfl rfl ?aO ?aR ?aK (fun _ hk => hk.elim) (fun _ _ => trivial) ?aB ?aS ?c1 ?_; (case aO => exact HRa.out); (case aR => exact RA.out); (case aK => intro x cs hx; exact hx); (case aB => exact HBr.out); (case aS => exact HBr.out.size); (case c1 => (try simp only [List.length_append]); have := N1.out; omega); intro v1 w1 hown hB1 hg1 hat; have HO1 := Aside0.mk hown; have HB1 := Aside0.mk hB1; clear hown hB1 hg1 hat)
          go_roundg 1
          case measure => omega
          case rel => exact ⟨2, rfl, rfl, ⟨HO1.out⟩, HB1⟩
        · have HRa : Aside0 ((Kd.int .u8).R 5 wr w.heap.size (fun _ => True) u6 (l1 ++ l2)) := HR
          have h3 := (pw_cell_below HBr.out H3.out)
          have RA : Aside0 ((Kd.int .u8).C wr A3 n3 l3) := ⟨Kd.C_below R3.out HBr.out⟩
          clear HR
          go_wp2_with (at_builtin; refine Kd.R_append_rows (Kd.int .u8) (Rr := (Kd.int .u8).K wr) (w0 := w) w.heap.size rfl (.tmp 31) (.tmp 32) 88 5 (.int .u8 0) 1 rfl Tryz.underlying88 infoB rfl (by decide) (by omega) u6 (l1 ++ l2) l3 A3 n3 c3 (fun _ => True) (fun _ => False) rfl rfl ?aO ?aR ?aK (fun _ hk => hk.elim) (fun _ _ => trivial) ?aB ?aS ?c1 ?_; (case aO => exact HRa.out); (case aR => exact RA.out); (case aK => intro x cs hx; exact hx); (case aB => exact HBr.out); (case aS => exact HBr.out.size); (case c1 => (try simp only [List.length_append]); have := N1.out; have := N2.out; omega); intro v1 w1 hown hB1 hg1 hat; have HO1 := Aside0.mk hown; have HB1 := Aside0.mk hB1; clear hown hB1 hg1 hat)
          go_roundg 0
          case measure => omega
          case rel => exact ⟨3, rfl, rfl, ⟨HO1.out⟩, HB1⟩
        · have HRa : Aside0 ((Kd.int .u8).R 5 wr w.heap.size (fun _ => True) u6 (l1 ++ l2 ++ l3)) := HR
          clear HR
          go_wp2
          go_ret
          exact ⟨_, rfl, HRa.out, HBr.out⟩
        · omega
    · omega

end Go.Proofs.YtfakfgblaakgdaaGreat.Cat

/- A number's octets as the document lays them: filled from the end, and ones ahead. No program. -/
namespace Go.Proofs.YtfakfgblaakgdaaGreat.Var
set_option linter.unusedVariables false
set_option linter.unusedSimpArgs false
open Go.RowKit Go.Proofs.YtfakfgblaakgdaaGreatW.PrintWords Go.Proofs.YtfakfgblaakgdaaGreatW.PrintLast Go.Proofs.YtfakfgblaakgdaaGreat.Base Go.Proofs.YtfakfgblaakgdaaGreat.Cells Go.Proofs.YtfakfgblaakgdaaGreat.VarPure

/-- k octets, of which the last j are laid -/
def fillP (k n j : Nat) : List Nat := (List.range k).map fun t => if k ≤ t + j then n / 256 ^ (k - 1 - t) % 256 else 0
theorem fillP_len (k n j : Nat) : (fillP k n j).length = k := by simp [fillP]
theorem fillP_zero (k n : Nat) : fillP k n 0 = List.replicate k 0 := by
  apply List.ext_getElem (by simp [fillP])
  intro i h1 h2
  simp only [fillP, List.getElem_map, List.getElem_range, List.getElem_replicate]
  rw [if_neg (by simp [fillP] at h1; omega)]
theorem fillP_all (k n : Nat) : fillP k n k = be k n := by
  rw [be_range]
  apply List.ext_getElem (by simp [fillP])
  intro i h1 h2
  simp only [fillP, List.getElem_map, List.getElem_range]
  rw [if_pos (by omega)]
theorem fillP_set (k n j : Nat) (hj : j < k) : (fillP k n j).set (k - 1 - j) (n / 256 ^ j % 256) = fillP k n (j + 1) := by
  apply List.ext_getElem (by simp [fillP])
  intro i h1 h2
  have hi : i < k := by simpa [fillP] using h2
  rw [List.getElem_set]
  simp only [fillP, List.getElem_map, List.getElem_range]
  by_cases he : k - 1 - j = i
  · rw [if_pos he, if_pos (by omega), ← he, show k - 1 - (k - 1 - j) = j by omega]
  · rw [if_neg he]
    by_cases h : k ≤ i + j
    · rw [if_pos h, if_pos (by omega)]
    · rw [if_neg h, if_neg (by omega)]
theorem nb_set (l : List Nat) (i x : Nat) : (nb l).set i (x : Int) = nb (l.set i x) := by simp [nb, List.map_set]
theorem nb_replicate (k : Nat) : nb (List.replicate k 0) = List.replicate k 0 := by simp [nb]
theorem or_ones : ∀ i : Fin 8, ∀ b : Fin (2 ^ (7 - i.val)), bits .or .u8 ((b.val + (256 - 2 ^ (8 - i.val)) : Nat) : Int) (128 / 2 ^ i.val) = ((b.val + (256 - 2 ^ (8 - (i.val + 1))) : Nat) : Int) := by decide +kernel
theorem or_one {i b : Nat} (hi : i < 8) (hb : b < 2 ^ (7 - i)) : bits .or .u8 ((b + (256 - 2 ^ (8 - i)) : Nat) : Int) (128 / 2 ^ i) = ((b + (256 - 2 ^ (8 - (i + 1))) : Nat) : Int) := or_ones ⟨i, hi⟩ ⟨b, hb⟩
theorem div_pow (n j : Nat) : n / 256 ^ j / 256 = n / 256 ^ (j + 1) := by rw [Nat.div_div_eq_div_mul, Nat.pow_succ]
end Go.Proofs.YtfakfgblaakgdaaGreat.Var
