/- JobDies: for every input the law returns true, and what it is given stays (the library's tables as their initialisers lay them). -/
import Derived.Test.YteloamnakikbbaaDoorPkDies1

/- JobDies, walked. -/
namespace Go.Proofs.YteloamnakikbbaaDoor.Job
set_option linter.unusedVariables false
set_option linter.unusedSimpArgs false
open Go.RowKit Go.Proofs.YteloamnakikbbaaDoorW.PrintWords Go.Proofs.YteloamnakikbbaaDoorW.PrintLast Go.Proofs.YteloamnakikbbaaDoor.Base Go.Proofs.YteloamnakikbbaaDoor.Cells Go.Proofs.YteloamnakikbbaaDoor.JobPure

set_option maxRecDepth 100000 in
theorem dies_no (b c t now : Int) (payload : ByteArray) (w : World) (hl : limOk b c t = false) :
    Calls Tryd.prog 4 #[.agg #[.int .i64 b, .int .i64 c, .int .i64 t], .int .i64 now, .string payload] w fun e w' => e = .returned (.bool true) ∧ Below w.heap.size w w' := by
  have hlE : Aside0 (limE b c t = 4) := ⟨by rw [limE, hl]; rfl⟩
  clear hl
  go_enter Tryd.func4, Tryd.ntmps4
  go_wp2_with (first
    | (go_at_call 7; refine (alive_any _).mono ?_; rintro e w1 ⟨rfl, hb1⟩; (have HB1 := Aside0.mk (bthen (below_alloc (Below.refl _ w) _) hb1)); (have HL1 := Aside0.mk (blk_keep (blk_new _ _) hb1)); obtain ⟨l0, l1, l2, _, _, _⟩ := all3 HL1.out; clear hb1)
    | (go_at_call 9; refine (rlim_any _ _ _ _).mono ?_; rw [hlE.out]; rintro e w2 ⟨rfl, hb2⟩; (have HB2 := Aside0.mk (bthen HB1.out hb2)); (have HL2 := Aside0.mk (blk_keep HL1.out hb2)); clear l0 l1 l2; obtain ⟨l0, l1, l2, _, _, _⟩ := all3 HL2.out; clear hb2)
    | (go_at_call 15; refine (lim_any _ _ _ _).mono ?_; rw [hlE.out]; rintro e w3 ⟨rfl, hb3⟩; (have HB3 := Aside0.mk (bthen HB2.out hb3)); clear hb3)
    | (go_at_call 10; refine (num_any _ _).mono ?_; rintro e w2 ⟨rfl, rfl⟩))
  go_ret
  exact ⟨rfl, HB3.out⟩

theorem jobP_ok {P : ByteArray} {st due tr a b c : Int} (hP : P.size ≤ 200) (d0 : 0 ≤ due) (d1 : due ≤ 32503680000) (i0 : 0 ≤ tr) (i1 : tr ≤ 16) (h : (st = 1 ∧ a = 0 ∧ b = 0 ∧ c = 0) ∨ (st = 2 ∧ due = 0 ∧ hmay a b c = true)) : chk 0 ⟨7, ⟨#[]⟩, ⟨#[]⟩, P, st, due, tr, a, b, c⟩ = true := by
  have e0 : (ByteArray.mk #[]).size = 0 := rfl
  have eA : chkA ⟨7, ⟨#[]⟩, ⟨#[]⟩, P, st, due, tr, a, b, c⟩ = true := by
    simp only [chkA, decide_eq_true_eq, e0]; omega
  have eB : chkB ⟨7, ⟨#[]⟩, ⟨#[]⟩, P, st, due, tr, a, b, c⟩ = true := by
    rcases h with ⟨rfl, rfl, rfl, rfl⟩ | ⟨rfl, rfl, h⟩
    · rfl
    · simp [chkB, h]
  rw [chk, eA, eB]; rfl
theorem may_ok {i n : Int} (i0 : 0 ≤ i) (i1 : i ≤ 16) (n0 : 0 ≤ n) (n1 : n < 1000000) : hmay 1 (i + 1) (n + 1) = true := by
  simp only [hmay, decide_eq_true_eq]; omega
theorem lease_ok {P : ByteArray} {due i n : Int} (hP : P.size ≤ 200) (d0 : 0 ≤ due) (d1 : due ≤ 32503680000) (i0 : 0 ≤ i) (i1 : i ≤ 16) (_ : True) (n0 : 0 ≤ n) (n1 : n < 1000000) : leaseE 0 ⟨7, ⟨#[]⟩, ⟨#[]⟩, P, 1, due, i, 0, 0, 0⟩ 1 (i + 1) (n + 1) = 0 := by
  rw [leaseE, jobP_ok hP d0 d1 i0 i1 (.inl ⟨rfl, rfl, rfl, rfl⟩), if_pos rfl, if_pos rfl, may_ok i0 i1 n0 n1, if_pos rfl]
theorem fail_ok {P : ByteArray} {i n b c t : Int} (hP : P.size ≤ 200) (hl : limOk b c t = true) (hi : 0 ≤ i ∧ i ≤ 16) (n0 : 0 ≤ n) (n1 : n < 1000000) : failE 0 ⟨7, ⟨#[]⟩, ⟨#[]⟩, P, 2, 0, i, 1, i + 1, n + 1⟩ b c t n = 0 := by
  rw [failE, jobP_ok hP (Int.le_refl _) (by decide) hi.1 hi.2 (.inr ⟨rfl, rfl, may_ok hi.1 hi.2 n0 n1⟩), if_pos rfl, hl, if_pos rfl, leasedE, if_pos rfl, if_pos (by omega)]
theorem failG_head {P : ByteArray} {i n b c t : Int} (hP : P.size ≤ 200) (hl : limOk b c t = true) (hi : 0 ≤ i ∧ i ≤ 16) (n0 : 0 ≤ n) (n1 : n < 1000000) : failJ 0 (0, false) ⟨7, ⟨#[]⟩, ⟨#[]⟩, P, 2, 0, i, 1, i + 1, n + 1⟩ b c t n = failG (0, false) ⟨7, ⟨#[]⟩, ⟨#[]⟩, P, 2, 0, i, 1, i + 1, n + 1⟩ b c t n := by
  rw [failJ, fail_ok hP hl hi n0 n1, if_pos rfl]
theorem failJ_more {P : ByteArray} {i : Nat} {n b c t : Int} (hP : P.size ≤ 200) (hl : limOk b c t = true) (hi : (i : Int) + 1 < t) (n0 : 0 ≤ n) (n1 : n < 1000000) : failJ 0 (0, false) ⟨7, ⟨#[]⟩, ⟨#[]⟩, P, 2, 0, i, 1, i + 1, n + 1⟩ b c t n = ⟨7, ⟨#[]⟩, ⟨#[]⟩, P, 1, n + delayP b c i, i + 1, 0, 0, 0⟩ := by
  obtain ⟨b1, b2, bc, c2, t1, t2⟩ := limOk_iff.1 hl
  have hd := delay_bd (c := c) i b1 (by omega)
  have eT : failT ⟨7, ⟨#[]⟩, ⟨#[]⟩, P, 2, 0, i, 1, i + 1, n + 1⟩ = (i : Int) + 1 := by show min ((i : Int) + 1) 16 = _; omega
  have eN : ((i : Int) + 1 - 1).toNat = i := by omega
  rw [failG_head hP hl (by omega) n0 n1, failG, eT, eN, if_pos (by omega)]
  rfl
theorem failJ_last {P : ByteArray} {i : Nat} {n b c t : Int} (hP : P.size ≤ 200) (hl : limOk b c t = true) (hi : (i : Int) < t) (hi1 : ¬ (i : Int) + 1 < t) (n0 : 0 ≤ n) (n1 : n < 1000000) : failJ 0 (0, false) ⟨7, ⟨#[]⟩, ⟨#[]⟩, P, 2, 0, i, 1, i + 1, n + 1⟩ b c t n = ⟨7, ⟨#[]⟩, ⟨#[]⟩, P, 3, n, i + 1, 0, 0, 0⟩ := by
  obtain ⟨b1, b2, bc, c2, t1, t2⟩ := limOk_iff.1 hl
  have eT : failT ⟨7, ⟨#[]⟩, ⟨#[]⟩, P, 2, 0, i, 1, i + 1, n + 1⟩ = (i : Int) + 1 := by show min ((i : Int) + 1) 16 = _; omega
  rw [failG_head hP hl (by omega) n0 n1, failG, eT, if_neg (by omega)]
  rfl
theorem now_bd (now : Int) : 0 ≤ (wrap64 (now.tmod 1000000 + 1000000)).tmod 1000000 ∧ (wrap64 (now.tmod 1000000 + 1000000)).tmod 1000000 < 1000000 := by
  have h1 := Int.tmod_lt_of_pos now (show (0 : Int) < 1000000 by decide)
  have h2 := Int.lt_tmod_of_pos now (show (0 : Int) < 1000000 by decide)
  generalize now.tmod 1000000 = x at h1 h2
  have h3 : wrap64 (x + 1000000) = x + 1000000 := by rw [wrap64]; omega
  rw [h3, Int.tmod_eq_emod_of_nonneg (by omega)]
  omega
set_option maxRecDepth 100000 in
set_option maxHeartbeats 4000000 in
theorem dies_yes (b c t now : Int) (payload : ByteArray) (w : World) (hl : limOk b c t = true) (hs : payload.size ≤ 9223372036854775807) :
    Calls Tryd.prog 4 #[.agg #[.int .i64 b, .int .i64 c, .int .i64 t], .int .i64 now, .string payload] w fun e w' => e = .returned (.bool true) ∧ Below w.heap.size w w' := by
  have hlE : Aside0 (limE b c t = 0) := ⟨by rw [limE, hl]; rfl⟩
  have HL := Aside0.mk hl
  obtain ⟨b1, b2, bc, c2, t1, t2⟩ := limOk_iff.1 hl
  clear hl
  go_enter Tryd.func4, Tryd.ntmps4
  go_upto_region 6 with (first
    | (go_at_call 7; refine (alive_any _).mono ?_; rintro e w1 ⟨rfl, hb1⟩; (have HB1 := Aside0.mk (bthen (below_alloc (Below.refl _ w) _) hb1)); (have HL1 := Aside0.mk (blk_keep (blk_new _ _) hb1)); obtain ⟨l0, l1, l2, _, _, _⟩ := all3 HL1.out; clear hb1)
    | (go_at_call 9; refine (rlim_any _ _ _ _).mono ?_; rw [hlE.out]; rintro e w2 ⟨rfl, hb2⟩; (have HB2 := Aside0.mk (bthen HB1.out hb2)); (have HL2 := Aside0.mk (blk_keep HL1.out hb2)); clear l0 l1 l2; obtain ⟨l0, l1, l2, _, _, _⟩ := all3 HL2.out; clear hb2))
  obtain ⟨n, hn⟩ : ∃ n, (wrap64 (now.tmod 1000000 + 1000000)).tmod 1000000 = n := ⟨_, rfl⟩
  have hnb : 0 ≤ n ∧ n < 1000000 := by rw [← hn]; exact now_bd now
  obtain ⟨n0, n1⟩ := hnb
  rw [hn]
  clear hn
  have m1 : (0 : Int) ≤ min (payload.size : Int) 200 := by omega
  have m2 : min (payload.size : Int) 200 ≤ (payload.size : Int) := by omega
  go_upto_region 7 with (fail)
  obtain ⟨P, hP⟩ : ∃ P, payload.extract 0 (min (payload.size : Int) 200).toNat = P := ⟨_, rfl⟩
  have HPS : Aside0 (P.size ≤ 200) := ⟨by rw [← hP, ByteArray.size_extract]; omega⟩
  have HPP := Aside0.mk hP
  rw [hP]
  clear hP
  have hlt2 := blk_lt HL2.out
  clear l0 l1 l2
  go_wp2_with fail
  go_loopg [8] t.toNat (fun g v8 wr => ∃ i : Nat, v8 = .int .i64 i ∧ g + i = t.toNat ∧ ∃ st due : Int, Aside0 (wr.heap[w.heap.size]? = some (.cells #[.int .i64 b, .int .i64 c, .int .i64 t] 23 (0, 0)) ∧ wr.heap[w2.heap.size]? = some (.cells #[.int .i64 7, .string ⟨#[]⟩, .string ⟨#[]⟩, .string P, .int .i64 st, .int .i64 due, .int .i64 i, .int .i64 0, .int .i64 0, .int .i64 0] 35 (0, 0)) ∧ Below w.heap.size w wr) ∧ Aside0 ((i : Int) < t → st = 1 ∧ 0 ≤ due ∧ due ≤ 32503680000))
  case atStart => exact ⟨0, rfl, by omega, 1, 0, ⟨blk_alloc HL2.out _, blk_new _ _, below_alloc HB2.out _⟩, ⟨fun _ => by omega⟩⟩
  case round =>
    obtain ⟨i, rfl, hg, st, due, HW, HS⟩ := hrel
    have HW1 := Aside0.mk HW.out.1
    have HW2 := Aside0.mk HW.out.2.1
    have HW3 := Aside0.mk HW.out.2.2
    clear HW
    obtain ⟨l0, l1, l2, _, _, _⟩ := all3 HW1.out
    obtain ⟨k0, k1, k2, k3, k4, k5, k6, k7, k8, k9⟩ := all10 HW2.out; obtain ⟨f0, f1, f2, f3, f4, f5, f6, f7, f8, f9⟩ := frz10 HW2.out
    by_cases hi : (i : Int) < t
    · obtain ⟨rfl, d0, d1⟩ := HS.out hi
      clear HS
      obtain ⟨d, hd⟩ := named (delayP b c i)
      have hdb : 1 ≤ d ∧ d ≤ c := by rw [hd.out]; exact delay_bd i b1 (by omega)
      obtain ⟨dd1, dd2⟩ := hdb
      have CL : Aside0 (∀ W', Calls Tryd.prog 16 #[.agg #[.int .i64 7, .string ⟨#[]⟩, .string ⟨#[]⟩, .string P, .int .i64 1, .int .i64 due, .int .i64 i, .int .i64 0, .int .i64 0, .int .i64 0], .int .i64 1, .int .i64 (i + 1), .int .i64 (n + 1)] W' fun e w' => e = .returned (.tuple #[.agg #[.int .i64 7, .string ⟨#[]⟩, .string ⟨#[]⟩, .string P, .int .i64 2, .int .i64 0, .int .i64 i, .int .i64 1, .int .i64 (i + 1), .int .i64 (n + 1)], .int .i64 0]) ∧ Below W'.heap.size W' w') := ⟨fun W' => by
        have h := lease_any 0 ⟨7, ⟨#[]⟩, ⟨#[]⟩, P, 1, due, i, 0, 0, 0⟩ 1 (i + 1) (n + 1) W' (fun h => absurd rfl h)
        have e1 : leaseE 0 ⟨7, ⟨#[]⟩, ⟨#[]⟩, P, 1, due, i, 0, 0, 0⟩ 1 (i + 1) (n + 1) = 0 := lease_ok HPS.out d0 d1 (by omega) (by omega) trivial n0 n1
        have e2 : leaseJ 0 ⟨7, ⟨#[]⟩, ⟨#[]⟩, P, 1, due, i, 0, 0, 0⟩ 1 (i + 1) (n + 1) = ⟨7, ⟨#[]⟩, ⟨#[]⟩, P, 2, 0, i, 1, i + 1, n + 1⟩ := by rw [leaseJ, e1, if_pos rfl]; rfl
        rw [e1, e2] at h
        exact h⟩
      have CD : Aside0 (∀ W', Calls Tryd.prog 17 #[.agg #[.int .i64 b, .int .i64 c, .int .i64 t], .int .i64 i] W' fun e w' => e = .returned (.tuple #[.int .i64 d, .int .i64 0]) ∧ Below W'.heap.size W' w') := ⟨fun W' => by rw [hd.out]; exact rdelay_any b c t i W' HL.out (by omega)⟩
      have CF : Aside0 (∀ W', Calls Tryd.prog 14 #[.agg #[.int .i64 7, .string ⟨#[]⟩, .string ⟨#[]⟩, .string P, .int .i64 2, .int .i64 0, .int .i64 i, .int .i64 1, .int .i64 (i + 1), .int .i64 (n + 1)], .agg #[.int .i64 b, .int .i64 c, .int .i64 t], .int .i64 n] W' fun e w' => e = .returned (.tuple #[.agg (jc (failJ 0 (0, false) ⟨7, ⟨#[]⟩, ⟨#[]⟩, P, 2, 0, i, 1, i + 1, n + 1⟩ b c t n)), .int .i64 0]) ∧ Below W'.heap.size W' w') := ⟨fun W' => by
        have h := fail_any 0 (fun _ => (0, false)) ⟨7, ⟨#[]⟩, ⟨#[]⟩, P, 2, 0, i, 1, i + 1, n + 1⟩ b c t n W' (CronSays.none _ _)
        rw [fail_ok HPS.out HL.out (by omega) n0 n1] at h
        exact h⟩
      by_cases hi1 : (i : Int) + 1 < t
      · have HFJ : Aside0 (jc (failJ 0 (0, false) ⟨7, ⟨#[]⟩, ⟨#[]⟩, P, 2, 0, i, 1, i + 1, n + 1⟩ b c t n) = #[.int .i64 7, .string ⟨#[]⟩, .string ⟨#[]⟩, .string P, .int .i64 1, .int .i64 (n + d), .int .i64 (i + 1), .int .i64 0, .int .i64 0, .int .i64 0]) := ⟨by rw [failJ_more HPS.out HL.out hi1 n0 n1, ← hd.out]⟩
        have q1 : ((i : Int) == t - 1) = false := by simp; omega
        rw [HFJ.out] at CF
        clear hi
        go_wp2_with (first
          | (go_at_call 16; refine (CL.out _).mono ?_; rintro e w3 ⟨rfl, hb3⟩; (have HA3 := Aside0.mk (blk_keep HW1.out hb3)); (have HB3 := Aside0.mk (blk_keep HW2.out hb3)); (have HC3 := Aside0.mk (bthen HW3.out hb3)); clear l0 l1 l2 k0 k1 k2 k3 k4 k5 k6 k7 k8 k9 f0 f1 f2 f3 f4 f5 f6 f7 f8 f9; (have z1 := blk_lt HA3.out); (have z2 := blk_lt HB3.out); obtain ⟨l0, l1, l2, _, _, _⟩ := all3 HA3.out; clear hb3)
          | (go_at_call 14; refine (CF.out _).mono ?_; rintro e w4 ⟨rfl, hb4⟩; (have HA4 := Aside0.mk (blk_keep (blk_alloc HA3.out _) hb4)); (have HB4 := Aside0.mk (blk_keep (blk_alloc HB3.out _) hb4)); (have HC4 := Aside0.mk (bthen (below_alloc HC3.out _) hb4)); clear l0 l1 l2 z1 z2; (have z1 := blk_lt HA4.out); (have z2 := blk_lt HB4.out); obtain ⟨l0, l1, l2, _, _, _⟩ := all3 HA4.out; clear hb4)
          | (go_at_call 17; refine (CD.out _).mono ?_; rintro e w5 ⟨rfl, hb5⟩; (have HA5 := Aside0.mk (blk_keep (blk_alloc HA4.out _) hb5)); (have HB5 := Aside0.mk (blk_keep (blk_alloc HB4.out _) hb5)); (have HC5 := Aside0.mk (bthen (below_alloc HC4.out _) hb5)); (have HM5 := Aside0.mk (blk_keep (blk_new _ _) hb5)); clear l0 l1 l2 z1 z2; (have z1 := blk_lt HA5.out); (have z2 := blk_lt HB5.out); (have z3 := blk_lt HM5.out); obtain ⟨l0, l1, l2, _, _, _⟩ := all3 HA5.out; obtain ⟨m0, m1, m2, m3, m4, m5, m6, m7, m8, m9⟩ := all10 HM5.out; obtain ⟨k0, k1, k2, k3, k4, k5, k6, k7, k8, k9⟩ := all10 HB5.out; obtain ⟨f0, f1, f2, f3, f4, f5, f6, f7, f8, f9⟩ := frz10 HB5.out; clear hb5)
          | (go_at_call 10; refine (num_any _ _).mono ?_; rintro e w9 ⟨rfl, rfl⟩))
        go_roundg (t.toNat - i - 1)
        case measure => omega
        case rel =>
          refine ⟨i + 1, by go_num, by omega, 1, n + d, ⟨far10 HA5.out (by omega) _ _ _ _ _ _ _ _ _ _, ?_, below_set10 HC5.out (by omega) _ _ _ _ _ _ _ _ _ _⟩, ⟨fun h => by omega⟩⟩
          push_cast
          exact blk10 HB5.out
      · have HFJ : Aside0 (jc (failJ 0 (0, false) ⟨7, ⟨#[]⟩, ⟨#[]⟩, P, 2, 0, i, 1, i + 1, n + 1⟩ b c t n) = #[.int .i64 7, .string ⟨#[]⟩, .string ⟨#[]⟩, .string P, .int .i64 3, .int .i64 n, .int .i64 (i + 1), .int .i64 0, .int .i64 0, .int .i64 0]) := ⟨by rw [failJ_last HPS.out HL.out hi hi1 n0 n1]⟩
        have q1 : ((i : Int) == t - 1) = true := by simp; omega
        rw [HFJ.out] at CF
        go_wp2_with (first
          | (go_at_call 16; refine (CL.out _).mono ?_; rintro e w3 ⟨rfl, hb3⟩; (have HA3 := Aside0.mk (blk_keep HW1.out hb3)); (have HB3 := Aside0.mk (blk_keep HW2.out hb3)); (have HC3 := Aside0.mk (bthen HW3.out hb3)); clear l0 l1 l2 k0 k1 k2 k3 k4 k5 k6 k7 k8 k9 f0 f1 f2 f3 f4 f5 f6 f7 f8 f9; (have z1 := blk_lt HA3.out); (have z2 := blk_lt HB3.out); obtain ⟨l0, l1, l2, _, _, _⟩ := all3 HA3.out; clear hb3)
          | (go_at_call 14; refine (CF.out _).mono ?_; rintro e w4 ⟨rfl, hb4⟩; (have HA4 := Aside0.mk (blk_keep (blk_alloc HA3.out _) hb4)); (have HB4 := Aside0.mk (blk_keep (blk_alloc HB3.out _) hb4)); (have HC4 := Aside0.mk (bthen (below_alloc HC3.out _) hb4)); clear l0 l1 l2 z1 z2; (have z1 := blk_lt HA4.out); (have z2 := blk_lt HB4.out); obtain ⟨l0, l1, l2, _, _, _⟩ := all3 HA4.out; clear hb4)
          | (go_at_call 17; refine (CD.out _).mono ?_; rintro e w5 ⟨rfl, hb5⟩; (have HA5 := Aside0.mk (blk_keep (blk_alloc HA4.out _) hb5)); (have HB5 := Aside0.mk (blk_keep (blk_alloc HB4.out _) hb5)); (have HC5 := Aside0.mk (bthen (below_alloc HC4.out _) hb5)); (have HM5 := Aside0.mk (blk_keep (blk_new _ _) hb5)); clear l0 l1 l2 z1 z2; (have z1 := blk_lt HA5.out); (have z2 := blk_lt HB5.out); (have z3 := blk_lt HM5.out); obtain ⟨l0, l1, l2, _, _, _⟩ := all3 HA5.out; obtain ⟨m0, m1, m2, m3, m4, m5, m6, m7, m8, m9⟩ := all10 HM5.out; obtain ⟨k0, k1, k2, k3, k4, k5, k6, k7, k8, k9⟩ := all10 HB5.out; obtain ⟨f0, f1, f2, f3, f4, f5, f6, f7, f8, f9⟩ := frz10 HB5.out; clear hb5)
          | (go_at_call 10; refine (num_any _ _).mono ?_; rintro e w9 ⟨rfl, rfl⟩))
        go_roundg (t.toNat - i - 1)
        case measure => omega
        case rel =>
          refine ⟨i + 1, by go_num, by omega, 3, n, ⟨far10 HA5.out (by omega) _ _ _ _ _ _ _ _ _ _, ?_, below_set10 HC5.out (by omega) _ _ _ _ _ _ _ _ _ _⟩, ⟨fun h => by omega⟩⟩
          push_cast
          exact blk10 HB5.out
    · have HI : Aside0 ((i : Int) = t) := ⟨by omega⟩
      go_wp2
      have hpp := HPP.out
      go_region
      go_wp2
      go_ret
      exact ⟨by simp, below_drew HW3.out⟩
end Go.Proofs.YteloamnakikbbaaDoor.Job

/- JobDies: for every input the law returns true, and what it is given stays (the library's tables as their initialisers lay them). -/
namespace Go.Proofs.YteloamnakikbbaaDoor.rowDies
open Go.ChangeShapes Go.WideShapes Go.ChangeAt Go.RowKit Go.Proofs.YteloamnakikbbaaDoor.Laid Go.Proofs.YteloamnakikbbaaDoor.LiftJ
open Go.ChangeMaps (open_string shut_string)
set_option linter.unusedVariables false
set_option linter.unusedSimpArgs false
set_option maxRecDepth 100000

theorem laid_met (os : Os) : laidMet Tryd.prog Rows.jobDiesRow.laid ((laidWorld os).forCall (fun _ _ => 0) ⟨#[], #[.agg #[.int .i64 0, .int .i64 0, .int .i64 0], .int .i64 0, .string ⟨#[]⟩], []⟩).memory :=
  laidMet_of_run' 8 (by kernel_rfl) (by kernel_rfl)
theorem reads (os : Os) {H : Type} (enc : TypeId × Value → H) : ∃ places, DataW.whole enc Tryd.prog ((laidWorld os).forCall (fun _ _ => 0) ⟨#[], #[.agg #[.int .i64 0, .int .i64 0, .int .i64 0], .int .i64 0, .string ⟨#[]⟩], []⟩).memory Tryd.f4.params.toList Rows.jobDiesSpec.vars false #[Value.agg #[.int .i64 0, .int .i64 0, .int .i64 0], .int .i64 0, .string ⟨#[]⟩].toList 8 = some ([.agg [.lit (.int .i64 0), .lit (.int .i64 0), .lit (.int .i64 0)], .lit (.int .i64 0), .lit (.string [])], [], places) :=
  ⟨[], by kernel_rfl⟩

theorem contract (H : Type) (enc : TypeId × Value → H) (W : World) (base : Nat) (args : Array Value) (ds gs : List (DataW H)) (before : List MemPlace)
    (hval : ∀ (j : Nat) t v, Tryd.f4.params[j]? = some t → args[j]? = some v → Value.okWide Tryd.prog W .any base t v)
    (hW : DataW.Whole enc Tryd.prog Tryd.f4.params.toList Rows.jobDiesSpec.vars false W args.toList ds gs before) :
    Calls Tryd.prog 4 args W fun e W' => ∃ v, e = .returned v ∧ Rows.jobDiesSpec.post enc Tryd.prog Tryd.f4 false true false false W args v W' := by
  have hW' := hW
  obtain ⟨p, q, hA0, hV, rfl, hfz, hnd⟩ := hW
  have hA : DataW.TrodAll enc Tryd.prog W 0 (fun _ => true) true Tryd.f4.params.toList args.toList ds p := hA0
  rw [Tryd.params4] at hA hval
  obtain ⟨v0, vs0, d0, ds0, p0, q0, hargs, rfl, rfl, h0, r0⟩ := trodAll_cons hA
  obtain ⟨v1, vs1, d1, ds1, p1, q1, rfl, rfl, rfl, h1, r1⟩ := trodAll_cons r0
  obtain ⟨v2, vs2, d2, ds2, p2, q2, rfl, rfl, rfl, h2, r2⟩ := trodAll_cons r1
  obtain ⟨rfl, rfl, rfl⟩ := trodAll_nil r2
  obtain rfl : args = #[v0, v1, v2] := by cases args; simp_all
  obtain ⟨rfl, rfl⟩ := trodVars_none hV
  have k0 := h0
  have lt0 : ∀ x ∈ p0, x.block < W.heap.size := by obtain ⟨m, hm⟩ := k0; exact DataW.trod_lt m _ _ _ hm
  obtain ⟨cs, hcs, _⟩ := okWide_struct Tryd.underlying23 (hval 0 23 v0 rfl rfl)
  obtain ⟨fuel, hf⟩ := h0
  obtain ⟨b, c, t, rfl⟩ := trod_lim ⟨cs, hcs⟩ hf
  obtain ⟨a1, rfl, rfl, rfl, w1⟩ := open_int Tryd.underlying3 (hval 1 3 v1 rfl rfl) h1
  obtain ⟨a2, rfl, rfl, rfl, y2⟩ := open_string Tryd.underlying9 (hval 2 9 v2 rfl rfl) h2
  clear hA0
  have walk : Calls Tryd.prog 4 #[.agg #[.int .i64 b, .int .i64 c, .int .i64 t], .int .i64 a1, .string a2] W fun e w' => e = .returned (.bool true) ∧ Below W.heap.size W w' := by
    cases hl : JobPure.limOk b c t with
    | false => exact Job.dies_no b c t a1 a2 W hl
    | true => exact Job.dies_yes b c t a1 a2 W hl (by unfold maxLen at y2; omega)
  refine walk.mono fun e W' ⟨he, bel⟩ => ?_
  subst he
  exact ⟨_, rfl, _, _, _, [], _, [], hW', trodAll_mk1 (shut_bool Tryd.underlying4 _), (trodAll_cons_mk (Below.trod laidOut (by kernel_rfl) (of_decide_eq_true (by kernel_rfl)) k0 bel lt0) (trodAll_cons_mk (shut_int Tryd.underlying3 w1) (trodAll_cons_mk (shut_string Tryd.underlying9 y2) trodAll_mk0))), rfl, bel.frame _, fun h => by cases h⟩

theorem lifted (os : Os) (started : os.Started) (H : Type) (enc : TypeId × Value → H) (F : Stop.Interp) :
    ReturnsInHanded {} Tryd.checked os 4 .any ((OpenSpec.ofChange Rows.jobDiesSpec).preRow enc Tryd.prog Tryd.f4 Rows.jobDiesRow.domain false Rows.jobDiesRow.laid) (((OpenSpec.ofChange Rows.jobDiesSpec).at F).post enc Tryd.prog Tryd.f4 false true false false) := by
  obtain ⟨places, hx⟩ := reads os enc
  refine returnsInHanded_of_row (C := Tryd.checked) (s := OpenSpec.ofChange Rows.jobDiesSpec) own started (by kernel_rfl) Tryd.func4
    (witness_row_at (enc := enc) (C := Tryd.checked) false (laidWorld os) #[.agg #[.int .i64 0, .int .i64 0, .int .i64 0], .int .i64 0, .string ⟨#[]⟩] rfl (by kernel_rfl) (by kernel_rfl) (by kernel_rfl)
      (OpenSpec.preRow_of_cond 8 hx (by kernel_rfl) (fun k hk => by cases hk) (by kernel_rfl) (laid_met os))) ?_
  intro W base args ds gs before hval hW _ _ _ hL _ _
  exact contract H enc W base args ds gs before hval hW

theorem said : Rows.JobDiesSaid :=
  OpenClaim.holds_of_cond 4 Tryd.f4 rfl rfl rfl rfl rfl rfl rfl ⟨rfl, rfl, rfl, rfl, rfl⟩ rfl rfl rfl rfl rfl (by kernel_rfl) Tryd.func4 (by kernel_rfl)
    (of_decide_eq_true (by kernel_rfl)) (by unfold Func.isWrapper; first | (rw [if_pos (by decide +kernel)]; kernel_rfl) | (rw [if_neg (by decide +kernel)]; exact ⟨rfl, rfl⟩))
    (fun os started H enc _ F => by rw [OpenClaim.pre_eq_preRow]; exact lifted os started H enc F)

theorem plain (f : FuncId) (fn : Func) (hf : Tryd.pinned.checked.prog.funcNamed "tickler/ticklerlaw19.JobDies" = some f) (hfn : Tryd.pinned.checked.prog.funcs[f]? = some fn) :
    false = Tryd.pinned.checked.prog.looks [] ∧ ∀ (j : Nat) t, fn.params[j]? = some t → Tryd.pinned.checked.prog.wantsStandIn t = false := by
  obtain rfl : f = 4 := Option.some.inj ((show Tryd.prog.funcNamed "tickler/ticklerlaw19.JobDies" = some 4 by kernel_rfl).symm.trans hf) |>.symm
  obtain rfl : fn = Tryd.f4 := (Option.some.inj (Tryd.func4.symm.trans hfn)).symm
  refine ⟨by kernel_rfl, fun j t ht => ?_⟩
  rw [Tryd.params4] at ht
  have hm := Array.mem_of_getElem? ht
  simp only [List.mem_toArray, List.mem_cons, List.not_mem_nil, or_false] at hm
  rcases hm with rfl | rfl | rfl
  · exact (show Tryd.prog.wantsStandIn 23 = false by kernel_rfl)
  · exact (show Tryd.prog.wantsStandIn 3 = false by kernel_rfl)
  · exact (show Tryd.prog.wantsStandIn 9 = false by kernel_rfl)

theorem card : Rows.JobDiesCardSaid :=
  Claim7.holds_tied_plain_at .later [] _ _ _ _ said (fun _ h => by cases h) (by kernel_rfl) (fun _ h => by cases h) jobDies_row_tie rfl ⟨rfl, rfl⟩ (by kernel_rfl) rfl plain (by kernel_rfl)
end Go.Proofs.YteloamnakikbbaaDoor.rowDies
namespace Go.Proofs.YteloamnakikbbaaDoor
theorem jobDies_holds : Rows.JobDiesCardSaid := rowDies.card
#print axioms jobDies_holds
end Go.Proofs.YteloamnakikbbaaDoor
