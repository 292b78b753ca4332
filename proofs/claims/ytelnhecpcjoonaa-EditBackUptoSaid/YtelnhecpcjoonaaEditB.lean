/- edit.Check, walked. -/
import Derived.Test.YtelnhecpcjoonaaEditA
import Derived.Test.YtelnhecpcjoonaaSets
import Derived.Deep.LoopGhost
import Derived.Deep.DeepCutAuto
import Derived.Deep.CutBlock
import Derived.Deep.RegionHeld3
namespace Go.Proofs.Ytelnhecpcjoonaa.Edit
set_option linter.unusedVariables false
set_option linter.unusedSimpArgs false
open Go.RowKit Go.Proofs.YtelnhecpcjoonaaW.PrintWords Go.Proofs.YtelnhecpcjoonaaW.PrintLast Go.Proofs.Ytelnhecpcjoonaa.Base Go.Proofs.Ytelnhecpcjoonaa.EditPure Go.Proofs.Ytelnhecpcjoonaa.Sets

/-- the ints of tables are ints -/
def wfM (m : Meta) : Prop := inI64 m.id ∧ inI64 m.level ∧ inI64 m.count

theorem zeroBool (w : World) : (zeroValue 4).run Try.prog w = .ok (.bool false) w := by kernel_rfl

set_option maxRecDepth 100000 in
set_option maxHeartbeats 1000000 in
theorem check_any (A : Option Addr) (c : Nat) (l : List Meta) (seq next : Int) (w : World) (hr : Kd.C kMeta w A l.length l) (hc : l.length ≤ c) (hw : ∀ m ∈ l, inI64 m.id) :
    Calls Try.prog 24 #[.agg #[.slice A l.length c, .int .i64 seq, .int .i64 next]] w fun e w' => e = .returned (.int .i64 (verE l seq next)) ∧ Below w.heap.size w w' := by
  have HR := Aside0.mk hr
  have HW := Aside0.mk hw
  have hlen := Kd.C_max hr
  clear hr hw
  have hmm := @run_makeMap Try.prog
  obtain ⟨ok0, hok0⟩ := named (headOk l.length seq next)
  go_enter Try.func24, Try.ntmps24
  go_upto_region 1 with (fail)
  go_cut [3] (fun v3 wc => v3 = .bool ok0 ∧ wc = w.alloc (.cells #[.slice A l.length c, .int .i64 seq, .int .i64 next] 49))
  case first =>
    have hd : Aside0 (ok0 = (decide ((l.length : Int) ≤ 256) && (within next 1 2147483647 && within seq 0 1099511627776))) := ⟨by rw [hok0.out, headOk]; congr 1; simp; omega⟩
    go_wp2_with (go_at_call 54; refine (within_any _ _ _ _).mono ?_; rintro e w' ⟨rfl, rfl⟩)
    all_goals go_meet
    all_goals refine ⟨?_, rfl⟩
    all_goals rw [hd.out]
    all_goals first | (simp [*]; done) | (simp; intros; omega)
  case rest =>
    obtain ⟨rfl, rfl⟩ := hcut
    go_wp2
    obtain ⟨w1, hw1⟩ : ∃ w1, w1 = w.alloc (.cells #[.slice A l.length c, .int .i64 seq, .int .i64 next] 49) := ⟨_, rfl⟩
    have hs1 : w1.heap.size = w.heap.size + 1 := by rw [hw1]; simp
    have hb1 : Below w.heap.size w w1 := by rw [hw1]; exact below_alloc (Below.refl _ _) _
    have hx0 : w1.cell? ⟨w.heap.size, 0, none⟩ = some (.slice A l.length c) := by rw [hw1]; simp [go_sem]
    have hx2 : w1.cell? ⟨w.heap.size, 2, none⟩ = some (.int .i64 next) := by rw [hw1]; simp [go_sem]
    have HS1 := Aside0.mk hs1
    have HX0 := Aside0.mk hx0
    have HX2 := Aside0.mk hx2
    have HB1 := Aside0.mk hb1
    rw [← hw1]
    clear hs1 hx0 hx2 hb1 hw1
    go_loopg [3, 26] l.length (fun g v3 v26 wr => ∃ i : Nat, v26 = .int .i64 i ∧ g + i = l.length ∧ v3 = .bool (ok0 && okTo next l i) ∧ Aside0 (SetL Try.prog 3 4 wr (w.heap.size + 1) (ilits ((l.take i).map (·.id)))) ∧ Aside0 (Below w1.heap.size w1 wr))
    case atStart => exact ⟨0, rfl, by omega, by simp [okTo], ⟨by rw [← HS1.out]; exact SetL.made w1 _ _ _⟩, ⟨below_alloc (Below.refl _ _) _⟩⟩
    case round =>
      obtain ⟨i, rfl, hg, rfl, HS, HB⟩ := hrel
      have HC := Aside0.mk (Kd.C_below HR.out (bthen HB1.out HB.out))
      have hx0 : wr.cell? ⟨w.heap.size, 0, none⟩ = some (.slice A l.length c) := (HB.out.cell (p := ⟨w.heap.size, 0, none⟩) (by show w.heap.size < _; rw [HS1.out]; omega)).trans HX0.out
      have hx2 : wr.cell? ⟨w.heap.size, 2, none⟩ = some (.int .i64 next) := (HB.out.cell (p := ⟨w.heap.size, 2, none⟩) (by show w.heap.size < _; rw [HS1.out]; omega)).trans HX2.out
      have hbs : w.heap.size + 1 < wr.heap.size := HS.out.lt
      have hbs0 : w.heap.size < wr.heap.size := by omega
      have hbs1 : w.heap.size < wr.heap.size + 1 := by omega
      by_cases hlt : i < l.length
      · obtain ⟨m, hm⟩ : ∃ m, l[i]? = some m := ⟨_, List.getElem?_eq_getElem hlt⟩
        obtain ⟨ad, rfl, c0, c1, c2, c3, c4⟩ := atMeta HC.out i m hm
        have HM := Aside0.mk hm
        clear hm
        obtain ⟨okn, hokn⟩ := named (ok0 && okTo next l (i + 1))
        go_upto_block 1 with (fail)
        go_cut [3] (fun v3 wc => v3 = .bool okn ∧ Aside0 (SetL Try.prog 3 4 wc (w.heap.size + 1) (ilits ((l.take (i + 1)).map (·.id)))) ∧ Aside0 (Below w1.heap.size w1 wc))
        case rest =>
          obtain ⟨rfl, HS9, HL9⟩ := hcut
          go_wp2
          go_roundg (gk - 1)
          case measure => omega
          case rel => exact ⟨i + 1, by go_num, by omega, by rw [hokn.out], HS9, HL9⟩
        case first =>
        go_upto_region 6 with (fail)
        obtain ⟨W6, hW6⟩ : ∃ W6, W6 = wr.alloc (.cells #[.int .i64 m.id, .int .i64 m.level, .int .i64 m.count, .string m.low, .string m.high] 63) := ⟨_, rfl⟩
        have HW6 := Aside0.mk hW6
        clear hW6
        have hid : inI64 m.id := HW.out m (List.mem_of_getElem? HM.out)
        have HID := Aside0.mk hid
        obtain ⟨seen, hseen⟩ := named ((l.take i).any fun x => x.id == m.id)
        have HANY : Aside0 (((ilits ((l.take i).map (·.id))).any fun y => y.sameKey (.int .i64 m.id)) = seen) := ⟨by rw [any_ilits, List.any_map, hseen.out]; rfl⟩
        obtain ⟨ok1, hok1⟩ := named (ok0 && okTo next l i)
        obtain ⟨ok2, hok2⟩ := named (ok1 && stepOk next (l.take i) m)
        have HK2 : Aside0 (ok2 = (ok1 && (mayM m && (decide (m.id < next) && !seen)))) := ⟨by rw [hok2.out, stepOk, hseen.out]⟩
        rw [← hok1.out]
        clear hid
        go_cut [3] (fun v3 wc => v3 = .bool ok2 ∧ Below W6.heap.size W6 wc)
        case first =>
          go_wp2_with (first | (go_at_call 55; refine (may_any m _).mono ?_; rintro e w' ⟨rfl, o, rfl⟩) | (at_lookup; refine wpList_lookup_set ?hg (.tmp 44) (.tmp 46) 109 rfl 3 4 (Maps.int_keyed Try.underlying3) Try.underlying109 Try.underlying4 (zeroBool _) (w.heap.size + 1) (ilits ((l.take i).map (·.id))) rfl ?hs (.int .i64 m.id) (.int .i64 m.id) rfl (Maps.keyOf_int_mk Try.underlying3 (wf_i64' HID.out)) trivial ?_; (case hg => rfl); (case hs => exact (HS.out.alloc _).alloc _); rw [HANY.out]))
          all_goals go_meet
          all_goals refine ⟨?_, ?_⟩
          any_goals (rw [HW6.out]; repeat (first | exact Below.refl _ _ | apply below_alloc))
          all_goals rw [HK2.out]
          all_goals first | (simp [*]; done) | (simp [*]; omega)
        case rest =>
          obtain ⟨rfl, hb6⟩ := hcut
          rw [HW6.out] at hb6
          have HS6 : SetL Try.prog 3 4 wc (w.heap.size + 1) (ilits ((l.take i).map (·.id))) := (HS.out.alloc _).below hb6
          have k0 := new_later hb6 0 _ rfl
          have k1 := new_later hb6 1 _ rfl
          have k2 := new_later hb6 2 _ rfl
          have k3 := new_later hb6 3 _ rfl
          have k4 := new_later hb6 4 _ rfl
          have x0 := old_later hb6 hx0
          have x2 := old_later hb6 hx2
          have HB6 := Aside0.mk (bthen HB.out (bthen (below_alloc (Below.refl _ _) _) hb6))
          have hz6 := hb6.size
          clear hb6 hx0 hx2 c0 c1 c2 c3 c4
          go_upto_if 54 with (at_mapUpdate; refine wpList_update_set ?hg (.tmp 50) (.tmp 52) (.const (.bool true)) 109 rfl 3 4 (Maps.int_keyed Try.underlying3) Try.underlying109 Try.underlying4 (w.heap.size + 1) (ilits ((l.take i).map (·.id))) rfl HS6 ?hn (.int .i64 m.id) (.int .i64 m.id) rfl rfl (Maps.keyOf_int_mk Try.underlying3 (wf_i64' HID.out)) trivial ?_; (case hg => rfl); (case hn => simp [ilits, maxLen]; omega); intro w7 HS7 hg7)
          have y0 := hg7.cell k0 (by simp; omega)
          have y1 := hg7.cell k1 (by simp; omega)
          have y2 := hg7.cell k2 (by simp; omega)
          have y3 := hg7.cell k3 (by simp; omega)
          have y4 := hg7.cell k4 (by simp; omega)
          have z0 := hg7.cell x0 (by simp)
          have z2 := hg7.cell x2 (by simp)
          have HL7 := Aside0.mk (below_of_grown HB6.out hg7 (fun k hk => by have := HS1.out; simp at hk; omega))
          have HB7 := Aside0.mk (bthen HB1.out HL7.out)
          have hz7 := hg7.size
          have hz : wr.heap.size < w7.heap.size := by have := hz6; simp at this; omega
          have hz' : w.heap.size < w7.heap.size := by omega
          have hy1 : wr.heap.size < w7.heap.size + 1 := by omega
          have hy2 : wr.heap.size < w7.heap.size + 1 + 1 := by omega
          have hy3 : wr.heap.size < w7.heap.size + 2 := by omega
          have hy4 : w7.heap.size < w7.heap.size + 1 + 1 := by omega
          have hy5 : w7.heap.size < w7.heap.size + 2 := by omega
          clear k0 k1 k2 k3 k4 x0 x2 hg7 HB6 hz6 hz7
          have HS8 : Aside0 (SetL Try.prog 3 4 w7 (w.heap.size + 1) (ilits ((l.take (i + 1)).map (·.id)))) := ⟨by rw [List.take_add_one, HM.out]; simpa [ilits] using HS7⟩
          clear HS7 HS6
          have hgd : Aside0 (l.getD i zMeta = m) := ⟨by rw [List.getD_eq_getElem?_getD, HM.out]; rfl⟩
          have hto : Aside0 ((ok0 && okTo next l (i + 1)) = (ok2 && lastOk (l.take i) m)) := ⟨by rw [okTo, hgd.out, hok2.out, hok1.out, ← Bool.and_assoc, ← Bool.and_assoc]⟩
          rw [← hokn.out] at hto
          by_cases hi : i = 0
          · have hi0 : ¬ (0 < i) := by omega
            have hlast : Aside0 (okn = ok2) := ⟨by rw [hto.out]; subst hi; simp [lastOk]⟩
            clear hi
            go_wp2
            go_meet
            exact ⟨by rw [hlast.out], HS8, HL7⟩
          · obtain ⟨k, rfl⟩ : ∃ k, i = k + 1 := ⟨i - 1, by omega⟩
            clear hi
            obtain ⟨p, hp⟩ : ∃ p, l[k]? = some p := ⟨_, List.getElem?_eq_getElem (by omega)⟩
            have HK3 : Aside0 (okn = (ok2 && (decide (ord p m < 0) && (m.level == 0 || (m.level != p.level || Op.bytesLess p.high.toList m.low.toList))))) := ⟨by rw [hto.out, lastOk, List.take_add_one, hp]; simp [linkOk, sLt]⟩
            obtain ⟨ad', had, d0, d1, d2, d3, d4⟩ := atMeta (Kd.C_below HR.out HB7.out) k p hp
            obtain rfl : ad = ad' := by injection had
            clear hp had
            go_wp2_with (go_at_call 52; refine (order_any p m _).mono ?_; rintro e w' ⟨rfl, o1, o2, rfl⟩)
            all_goals go_meet
            all_goals refine ⟨?_, ⟨HS8.out.below (by repeat (first | exact Below.refl _ _ | apply below_alloc))⟩, ⟨bthen HL7.out (by repeat (first | exact Below.refl _ _ | apply below_alloc))⟩⟩
            all_goals rw [HK3.out]
            all_goals first | (simp [*]; done) | (simp [*]; omega)
      · have hie : i = l.length := by omega
        have hfin : Aside0 ((ok0 && okTo next l i) = verOk l seq next) := ⟨by rw [verOk, hok0.out, hie]⟩
        rw [hfin.out]
        clear hie
        by_cases hv : verOk l seq next = true
        · have he : Aside0 (verE l seq next = 0) := ⟨by rw [verE, if_pos hv]⟩
          go_wp2
          go_ret
          exact ⟨by rw [he.out]; rfl, bthen HB1.out HB.out⟩
        · have hv' : verOk l seq next = false := by simpa using hv
          have he : Aside0 (verE l seq next = 9) := ⟨by rw [verE, if_neg hv]⟩
          clear hv
          go_wp2
          go_ret
          exact ⟨by rw [he.out]; rfl, bthen HB1.out HB.out⟩
end Go.Proofs.Ytelnhecpcjoonaa.Edit
