/- The document's Check of chapter 11, walked. -/
import Derived.Test.YtelnhecpcjoonaaEditC
namespace Go.Proofs.Ytelnhecpcjoonaa.Edit
set_option linter.unusedVariables false
set_option linter.unusedSimpArgs false
open Go.RowKit Go.Proofs.YtelnhecpcjoonaaW.PrintWords Go.Proofs.YtelnhecpcjoonaaW.PrintLast Go.Proofs.Ytelnhecpcjoonaa.Base Go.Proofs.Ytelnhecpcjoonaa.EditPure Go.Proofs.Ytelnhecpcjoonaa.Sets Go.Proofs.Ytelnhecpcjoonaa.Wide

/-- what the document's Check asks of a table, all but that its number is new -/
def refBad (next : Int) (pre : List Meta) (m : Meta) : Bool := !(mayM m && decide (m.id < next) && lastOk pre m)

theorem okTo_false {next : Int} (l : List Meta) {i : Nat} (h : okTo next l i = false) {n : Nat} (hn : i ≤ n) : okTo next l n = false := by
  induction n with
  | zero => obtain rfl : i = 0 := by omega
            exact h
  | succ n ih =>
    by_cases e : i = n + 1
    · subst e; exact h
    · rw [okTo, ih (by omega), Bool.false_and]

set_option maxRecDepth 100000 in
set_option maxHeartbeats 2000000 in
theorem refCheck_any (A : Option Addr) (c : Nat) (l : List Meta) (seq next : Int) (w : World) (hr : Kd.C kMeta w A l.length l) (hc : l.length ≤ c) :
    Calls Try.prog 28 #[.agg #[.slice A l.length c, .int .i64 seq, .int .i64 next]] w fun e w' => e = .returned (.int .i64 (verE l seq next)) ∧ Below w.heap.size w w' := by
  have HR := Aside0.mk hr
  have hlen := Kd.C_max hr
  clear hr
  obtain ⟨ok0, hok0⟩ := named (headOk l.length seq next)
  have hd : Aside0 (ok0 = (decide ((l.length : Int) ≤ 256) && (decide (1 ≤ next) && (decide (next ≤ 2147483647) && (decide (0 ≤ seq) && decide (seq ≤ 1099511627776)))))) := ⟨by rw [hok0.out, headOk, within, within, Bool.and_assoc]; congr 1; simp; omega⟩
  go_enter Try.func28, Try.ntmps28
  go_upto_region 1 with (fail)
  go_cut [29] (fun v29 wc => v29 = .bool (!ok0) ∧ wc = w.alloc (.cells #[.slice A l.length c, .int .i64 seq, .int .i64 next] 38))
  case first =>
    go_wp2
    all_goals go_meet
    all_goals refine ⟨?_, rfl⟩
    all_goals rw [hd.out]
    all_goals (congr 1; rw [Bool.eq_iff_iff]; simp; omega)
  case rest =>
    obtain ⟨rfl, rfl⟩ := hcut
    cases hk0 : ok0 with
    | false =>
      have he : Aside0 (verE l seq next = 9) := ⟨by rw [verE, verOk, ← hok0.out, hk0]; rfl⟩
      go_wp2
      go_ret
      exact ⟨by rw [he.out]; rfl, below_alloc (Below.refl _ _) _⟩
    | true =>
      rw [hk0] at hok0
      clear hd hk0
      go_wp2
      obtain ⟨w1, hw1⟩ : ∃ w1, w1 = w.alloc (.cells #[.slice A l.length c, .int .i64 seq, .int .i64 next] 38) := ⟨_, rfl⟩
      have HS1 : Aside0 (w1.heap.size = w.heap.size + 1) := ⟨by rw [hw1]; simp⟩
      have HX0 : Aside0 (w1.cell? ⟨w.heap.size, 0, none⟩ = some (.slice A l.length c)) := ⟨by rw [hw1]; exact new_cell _ _ _ 0 _ rfl⟩
      have HX2 : Aside0 (w1.cell? ⟨w.heap.size, 2, none⟩ = some (.int .i64 next)) := ⟨by rw [hw1]; exact new_cell _ _ _ 2 _ rfl⟩
      have HB1 : Aside0 (Below w.heap.size w w1) := ⟨by rw [hw1]; exact below_alloc (Below.refl _ _) _⟩
      rw [← hw1]
      clear hw1
      go_loopg [3] l.length (fun g v3 wr => ∃ i : Nat, v3 = .int .i64 i ∧ g + i = l.length ∧ Aside0 (okTo next l i = true) ∧ Aside0 (Below w1.heap.size w1 wr))
      case atStart => exact ⟨0, rfl, by omega, ⟨rfl⟩, ⟨Below.refl _ _⟩⟩
      case round =>
        obtain ⟨i, rfl, hg, HT, HB⟩ := hrel
        have HC := Aside0.mk (Kd.C_below HR.out (bthen HB1.out HB.out))
        have hx0 : wr.cell? ⟨w.heap.size, 0, none⟩ = some (.slice A l.length c) := (HB.out.cell (p := ⟨w.heap.size, 0, none⟩) (by show w.heap.size < _; rw [HS1.out]; omega)).trans HX0.out
        have hx2 : wr.cell? ⟨w.heap.size, 2, none⟩ = some (.int .i64 next) := (HB.out.cell (p := ⟨w.heap.size, 2, none⟩) (by show w.heap.size < _; rw [HS1.out]; omega)).trans HX2.out
        have hbs0 : w.heap.size < wr.heap.size := World.block_lt_of_cell? wr _ hx0
        by_cases hlt : i < l.length
        · obtain ⟨m, hm⟩ : ∃ m, l[i]? = some m := ⟨_, List.getElem?_eq_getElem hlt⟩
          obtain ⟨ad, rfl, c0, c1, c2, c3, c4⟩ := atMeta HC.out i m hm
          have HM := Aside0.mk hm
          clear hm
          have hgd : Aside0 (l.getD i zMeta = m) := ⟨by rw [List.getD_eq_getElem?_getD, HM.out]; rfl⟩
          obtain ⟨bad, hbad⟩ := named (refBad next (l.take i) m)
          go_upto_region 7 with (fail)
          obtain ⟨W7, hW7⟩ : ∃ W7, W7 = wr.alloc (.cells #[.int .i64 m.id, .int .i64 m.level, .int .i64 m.count, .string m.low, .string m.high] 53) := ⟨_, rfl⟩
          have k0 : W7.cell? ⟨wr.heap.size, 0, none⟩ = some (.int .i64 m.id) := by rw [hW7]; exact new_cell _ _ _ 0 _ rfl
          have k1 : W7.cell? ⟨wr.heap.size, 1, none⟩ = some (.int .i64 m.level) := by rw [hW7]; exact new_cell _ _ _ 1 _ rfl
          have k2 : W7.cell? ⟨wr.heap.size, 2, none⟩ = some (.int .i64 m.count) := by rw [hW7]; exact new_cell _ _ _ 2 _ rfl
          have k3 : W7.cell? ⟨wr.heap.size, 3, none⟩ = some (.string m.low) := by rw [hW7]; exact new_cell _ _ _ 3 _ rfl
          have k4 : W7.cell? ⟨wr.heap.size, 4, none⟩ = some (.string m.high) := by rw [hW7]; exact new_cell _ _ _ 4 _ rfl
          have HB7 : Aside0 (Below wr.heap.size wr W7) := ⟨by rw [hW7]; exact below_alloc (Below.refl _ _) _⟩
          have x0 := (HB7.out.cell (World.block_lt_of_cell? wr _ hx0)).trans hx0
          have x2 := (HB7.out.cell (World.block_lt_of_cell? wr _ hx2)).trans hx2
          rw [← hW7]
          clear hW7 hx0 hx2 c0 c1 c2 c3 c4
          go_cut [99] (fun v99 wc => v99 = .bool bad ∧ Aside0 (Below W7.heap.size W7 wc))
          case first =>
            have X0 := wb_cell x0
            have X2 := wb_cell x2
            have K0 := wb_cell k0
            have K1 := wb_cell k1
            have K2 := wb_cell k2
            have K3 := wb_cell k3
            have K4 := wb_cell k4
            obtain ⟨my, hmy⟩ := named (mayM m)
            have CM : ∀ W, Calls Try.prog 58 #[.agg #[.int .i64 m.id, .int .i64 m.level, .int .i64 m.count, .string m.low, .string m.high]] W fun e w' => e = .returned (.bool my) ∧ Below W.heap.size W w' :=
              fun W => (refMay_any m W).mono fun e w' ⟨he, o, ho⟩ => ⟨by rw [hmy.out]; exact he, by rw [ho]; exact below_alloc (Below.refl _ _) _⟩
            clear x0 x2 k0 k1 k2 k3 k4
            cases hmv : my with
            | false =>
              rw [hmv] at CM
              have hv : Aside0 (bad = true) := ⟨by rw [hbad.out, refBad, ← hmy.out, hmv]; rfl⟩
              clear hmv
              refine wp_region_wide (by kernel_rfl) (by kernel_rfl) ?_
              repeat (go_big_quiet_step ((go_at_call 58; exact wide_of (CM _))))
              refine wpQuiet_nil ?_
              rintro w' ⟨x, rfl⟩
              go_wp2
              go_meet
              exact ⟨by rw [hv.out], ⟨wb_below _ x⟩⟩
            | true =>
              rw [hmv] at CM
              rw [hmv] at hmy
              clear hmv
              by_cases hidn : m.id < next
              · have hidn' : decide (next ≤ m.id) = false := by simp; omega
                have hidn2 : ¬ (next ≤ m.id) := by omega
                by_cases hi : i = 0
                · have hi0 : ¬ (0 < i) := by omega
                  have hi1 : decide (0 < i) = false := by simp [hi]
                  have hv : Aside0 (bad = false) := ⟨by rw [hbad.out, refBad, ← hmy.out]; subst hi; simp [lastOk, hidn]⟩
                  clear hi
                  refine wp_region_wide (by kernel_rfl) (by kernel_rfl) ?_
                  repeat (go_big_quiet_step ((go_at_call 58; exact wide_of (CM _))))
                  refine wpQuiet_nil ?_
                  rintro w' ⟨x, rfl⟩
                  go_wp2
                  go_meet
                  exact ⟨by rw [hv.out], ⟨wb_below _ x⟩⟩
                · obtain ⟨k, rfl⟩ : ∃ k, i = k + 1 := ⟨i - 1, by omega⟩
                  clear hi
                  obtain ⟨p, hp⟩ : ∃ p, l[k]? = some p := ⟨_, List.getElem?_eq_getElem (by omega)⟩
                  have hlast : Aside0 (lastOk (l.take (k + 1)) m = linkOk p m) := ⟨by rw [lastOk, List.take_add_one, hp]; simp⟩
                  obtain ⟨ad', had, d0, d1, d2, d3, d4⟩ := atMeta (Kd.C_below HC.out HB7.out) k p hp
                  obtain rfl : ad = ad' := by injection had
                  have D0 := wb_cell d0
                  have D1 := wb_cell d1
                  have D2 := wb_cell d2
                  have D3 := wb_cell d3
                  have D4 := wb_cell d4
                  clear hp had d0 d1 d2 d3 d4
                  obtain ⟨bf, hbf⟩ := named (befB p m)
                  have CB : ∀ W, Calls Try.prog 57 #[.agg #[.int .i64 p.id, .int .i64 p.level, .int .i64 p.count, .string p.low, .string p.high], .agg #[.int .i64 m.id, .int .i64 m.level, .int .i64 m.count, .string m.low, .string m.high]] W fun e w' => e = .returned (.bool bf) ∧ Below W.heap.size W w' :=
                    fun W => (before_any p m W).mono fun e w' ⟨he, o1, o2, ho⟩ => ⟨by rw [hbf.out]; exact he, by rw [ho]; exact below_alloc (below_alloc (Below.refl _ _) _) _⟩
                  have hbadk : Aside0 (bad = !linkOk p m) := ⟨by rw [hbad.out, refBad, ← hmy.out, hlast.out]; simp [hidn]⟩
                  have hlev : Aside0 (0 ≤ m.level) := ⟨by have := hmy.out; simp [mayM, within] at this; omega⟩
                  have hlnk : Aside0 (linkOk p m = (bf && (m.level == 0 || (m.level != p.level || sLt p.high m.low)))) := ⟨by rw [linkOk, hbf.out]; rfl⟩
                  clear hidn
                  cases hbv : bf with
                  | false =>
                    rw [hbv] at CB
                    have hv : Aside0 (bad = true) := ⟨by rw [hbadk.out, hlnk.out, hbv]; rfl⟩
                    clear hbv
                    refine wp_region_wide (by kernel_rfl) (by kernel_rfl) ?_
                    repeat (go_big_quiet_step ((first | (go_at_call 58; exact wide_of (CM _)) | (go_at_call 57; exact wide_of (CB _)))))
                    refine wpQuiet_nil ?_
                    rintro w' ⟨x, rfl⟩
                    go_wp2
                    go_meet
                    exact ⟨by rw [hv.out], ⟨wb_below _ x⟩⟩
                  | true =>
                    rw [hbv] at CB hlnk
                    clear hbv
                    by_cases hl0 : 0 < m.level
                    · by_cases hll : p.level = m.level
                      · have hll' : (p.level == m.level) = true := by simp [hll]
                        have hv : Aside0 (bad = !sLt p.high m.low) := ⟨by rw [hbadk.out, hlnk.out]; simp [show ¬ m.level = 0 by omega, hll]⟩
                        clear hll
                        refine wp_region_wide (by kernel_rfl) (by kernel_rfl) ?_
                        repeat (go_big_quiet_step ((first | (go_at_call 58; exact wide_of (CM _)) | (go_at_call 57; exact wide_of (CB _)))))
                        refine wpQuiet_nil ?_
                        rintro w' ⟨x, rfl⟩
                        go_wp2
                        go_meet
                        exact ⟨by rw [hv.out, leq_bytes]; rfl, ⟨wb_below _ x⟩⟩
                      · have hll' : (p.level == m.level) = false := by simp [hll]
                        have hv : Aside0 (bad = false) := ⟨by rw [hbadk.out, hlnk.out]; simp [Ne.symm hll]⟩
                        clear hll
                        refine wp_region_wide (by kernel_rfl) (by kernel_rfl) ?_
                        repeat (go_big_quiet_step ((first | (go_at_call 58; exact wide_of (CM _)) | (go_at_call 57; exact wide_of (CB _)))))
                        refine wpQuiet_nil ?_
                        rintro w' ⟨x, rfl⟩
                        go_wp2
                        go_meet
                        exact ⟨by rw [hv.out], ⟨wb_below _ x⟩⟩
                    · have hv : Aside0 (bad = false) := ⟨by rw [hbadk.out, hlnk.out]; have := hlev.out; simp [show m.level = 0 by omega]⟩
                      refine wp_region_wide (by kernel_rfl) (by kernel_rfl) ?_
                      repeat (go_big_quiet_step ((first | (go_at_call 58; exact wide_of (CM _)) | (go_at_call 57; exact wide_of (CB _)))))
                      refine wpQuiet_nil ?_
                      rintro w' ⟨x, rfl⟩
                      go_wp2
                      go_meet
                      exact ⟨by rw [hv.out], ⟨wb_below _ x⟩⟩
              · have hv : Aside0 (bad = true) := ⟨by rw [hbad.out, refBad, ← hmy.out]; simp [hidn]⟩
                have hidn' : decide (next ≤ m.id) = true := by simp; omega
                clear hidn
                refine wp_region_wide (by kernel_rfl) (by kernel_rfl) ?_
                repeat (go_big_quiet_step ((go_at_call 58; exact wide_of (CM _))))
                refine wpQuiet_nil ?_
                rintro w' ⟨x, rfl⟩
                go_wp2
                go_meet
                exact ⟨by rw [hv.out], ⟨wb_below _ x⟩⟩
          case rest =>
            obtain ⟨rfl, hb8⟩ := hcut
            have hbe : Below wr.heap.size wr wc := bthen HB7.out hb8.out
            cases hbv : bad with
            | true =>
              have hto : okTo next l (i + 1) = false := by
                rw [okTo, hgd.out, stepOk]
                rw [hbad.out, refBad] at hbv
                cases hm1 : mayM m <;> cases hm2 : decide (m.id < next) <;> cases hm3 : lastOk (l.take i) m <;> simp [hm1, hm2, hm3] at hbv ⊢
              have he : Aside0 (verE l seq next = 9) := ⟨by rw [verE, if_neg]; rw [verOk, okTo_false l hto (by omega)]; simp⟩
              clear hto hbv
              go_wp2
              go_ret
              exact ⟨by rw [he.out]; rfl, bthen HB1.out (bthen HB.out hbe)⟩
            | false =>
              rw [hbv] at hbad
              clear hbv
              go_wp2
              have hst : Aside0 ((mayM m && decide (m.id < next) && lastOk (l.take i) m) = true) := ⟨by have := hbad.out; rw [refBad] at this; simpa using this.symm⟩
              have y0 := (hb8.out.cell (World.block_lt_of_cell? W7 _ x0)).trans x0
              have z0 := (hb8.out.cell (World.block_lt_of_cell? W7 _ k0)).trans k0
              have HCc := Aside0.mk (Kd.C_below HC.out hbe)
              have HBE := Aside0.mk hbe
              clear x0 x2 k0 k1 k2 k3 k4 hb8 hbe
              go_loopg [5] i (fun g v5 wv => ∃ j : Nat, v5 = .int .i64 j ∧ g + j = i ∧ Aside0 ((l.take j).any (fun x => x.id == m.id) = false) ∧ Aside0 (Below wc.heap.size wc wv))
              case atStart => exact ⟨0, rfl, by omega, ⟨rfl⟩, ⟨Below.refl _ _⟩⟩
              case round =>
                obtain ⟨j, rfl, hgj, HN, HBv⟩ := hrel
                have HCv := Aside0.mk (Kd.C_below HCc.out HBv.out)
                have y1 := (HBv.out.cell (World.block_lt_of_cell? wc _ y0)).trans y0
                have z1 := (HBv.out.cell (World.block_lt_of_cell? wc _ z0)).trans z0
                by_cases hj : j < i
                · obtain ⟨p, hp⟩ : ∃ p, l[j]? = some p := ⟨_, List.getElem?_eq_getElem (by omega)⟩
                  obtain ⟨ad', had, d0, d1, d2, d3, d4⟩ := atMeta HCv.out j p hp
                  obtain rfl : ad = ad' := by injection had
                  have HP := Aside0.mk hp
                  have hjl : j < l.length := by omega
                  clear hp had d1 d2 d3 d4 y0 z0
                  have hany : Aside0 ((l.take (j + 1)).any (fun x => x.id == m.id) = (p.id == m.id)) := ⟨by rw [List.take_add_one, HP.out, List.any_append, HN.out]; simp⟩
                  cases he : (p.id == m.id) with
                  | true =>
                    have hto : okTo next l (i + 1) = false := by
                      rw [okTo, hgd.out, stepOk]
                      have : (l.take i).any (fun x => x.id == m.id) = true := by
                        rw [List.any_eq_true]
                        refine ⟨p, ?_, he⟩
                        have h2 : (l.take i)[j]? = some p := by rw [List.getElem?_take, if_pos hj]; exact HP.out
                        exact List.mem_of_getElem? h2
                      rw [this]; simp
                    have hE : Aside0 (verE l seq next = 9) := ⟨by rw [verE, if_neg]; rw [verOk, okTo_false l hto (by omega)]; simp⟩
                    clear hto
                    go_wp2_with fail
                    go_quiet (fail)
                    go_wp2
                    go_ret
                    exact ⟨by rw [hE.out]; rfl, bthen HB1.out (bthen HB.out (bthen HBE.out (pw_below_drewN HBv.out nq)))⟩
                  | false =>
                    rw [he] at hany
                    go_wp2_with fail
                    go_quiet (fail)
                    go_wp2
                    go_roundg (i - (j + 1))
                    case measure => omega
                    case rel => exact ⟨j + 1, by go_num, by omega, hany, ⟨pw_below_drewN HBv.out nq⟩⟩
                · have hji : j = i := by omega
                  have HN2 : Aside0 ((l.take i).any (fun x => x.id == m.id) = false) := ⟨by rw [← hji]; exact HN.out⟩
                  have hj2 : i ≤ j := by omega
                  clear hji hj
                  go_wp2
                  go_roundg (l.length - (i + 1))
                  case measure => omega
                  case rel => exact ⟨i + 1, by go_num, by omega, ⟨by
                    rw [okTo, HT.out, hgd.out, stepOk, HN2.out]
                    have := hst.out
                    simp only [Bool.and_eq_true] at this
                    simp [this]⟩, ⟨bthen HB.out (bthen HBE.out HBv.out)⟩⟩
        · have hie : i = l.length := by omega
          have he : Aside0 (verE l seq next = 0) := ⟨by rw [verE, verOk, ← hok0.out, ← hie, HT.out]; rfl⟩
          clear hie
          go_wp2
          go_ret
          exact ⟨by rw [he.out]; rfl, bthen HB1.out HB.out⟩
end Go.Proofs.Ytelnhecpcjoonaa.Edit
