/- JobBack: for every input within the bulk the law returns true, and what it is given stays (the library's tables as their initialisers lay them). -/
import Derived.Test.YteloamnakikbbaaDoorPkBack5
import Derived.Test.YteloamnakikbbaaDoorPkBack4
import Derived.Test.YteloamnakikbbaaDoorPkBack2

/- job.Encode: walked. -/
namespace Go.Proofs.YteloamnakikbbaaDoor.JEnc
set_option linter.unusedVariables false
set_option linter.unusedSimpArgs false
open Go.RowKit Go.Proofs.YteloamnakikbbaaDoorW.PrintWords Go.Proofs.YteloamnakikbbaaDoorW.PrintLast Go.Proofs.YteloamnakikbbaaDoor.Base Go.Proofs.YteloamnakikbbaaDoor.Cells Go.Proofs.YteloamnakikbbaaDoor.Ints Go.Proofs.YteloamnakikbbaaDoor.Var Go.Proofs.YteloamnakikbbaaDoor.VarPure Go.Proofs.YteloamnakikbbaaDoor.Codec Go.Proofs.YteloamnakikbbaaDoor.JScan Go.Proofs.YteloamnakikbbaaDoor.JobPure Go.Proofs.YteloamnakikbbaaDoor.Job Go.Proofs.YteloamnakikbbaaDoor.JDec

/-- a job's octets: the numbers, then the texts -/
def numJ (j : Jb) : List Int := [j.id, j.status, j.due, j.tries, j.worker, j.token, j.til]
def txtJ (j : Jb) : List ByteArray := [j.name, j.rule, j.payload]
def encN (l : List Int) : List Nat := l.flatMap putI
def encT (l : List ByteArray) : List Nat := l.flatMap putS
def encJ (j : Jb) : List Nat := encN (numJ j) ++ encT (txtJ j)
theorem putN_len9 (n : Nat) (hn : n < 2 ^ 56) : (putN n).length ≤ 9 := by
  have h := (get_put hn []).2.2
  have := sizeN_pos n
  omega
theorem putI_len {n : Int} (h0 : 0 ≤ n) (h1 : n ≤ 1099511627776) : (putI n).length ≤ 9 := by
  have := putN_len9 n.toNat (by have : (2 : Nat) ^ 56 = 72057594037927936 := rfl; omega)
  rw [putI]; omega
theorem putI_bytes {n : Int} (h0 : 0 ≤ n) (h1 : n ≤ 1099511627776) : Bytes (putI n) :=
  (get_put (n := n.toNat) (by have : (2 : Nat) ^ 56 = 72057594037927936 := rfl; omega) []).2.1
theorem encN_snoc (l : List Int) (n : Int) : encN (l ++ [n]) = encN l ++ putI n := by simp [encN]
theorem encT_snoc (l : List ByteArray) (s : ByteArray) : encT (l ++ [s]) = encT l ++ putS s := by simp [encT]
theorem nb_app (a b : List Nat) : nb (a ++ b) = nb a ++ nb b := by simp [nb]

theorem put_big (n : Int) (w : World) (h0 : 0 ≤ n) (h1 : n ≤ 1099511627776) :
    Calls Tryd.prog 35 #[.int .u64 n] w fun e w' => ∃ A k c, e = .returned (.slice A k c) ∧ ReadsInt w' .u8 A k (nb (putI n)) ∧ k ≤ 9 ∧ Below w.heap.size w w' := by
  refine (put_any n h0 (by omega) w).mono ?_
  rintro e w' ⟨v, L, rfl, hv, _, h9, hL, hb⟩
  rw [hL (by omega)] at hv h9
  obtain ⟨A, c, rfl, hr⟩ := RB_reads hv
  exact ⟨A, _, c, rfl, hr, h9, hb⟩
theorem iidx7_0 (id status due tries worker token til : Int) (w : World) : (Instr.index 83 (.agg #[.int .i64 id, .int .i64 status, .int .i64 due, .int .i64 tries, .int .i64 worker, .int .i64 token, .int .i64 til]) (.int .i64 0)).run Tryd.prog w = .ok (.int .i64 id) w := by
  simp [Instr.index, run_underlying Tryd.underlying83, asIntOf, go_sem, Tryd.sizeOf3]
theorem iidx7_1 (id status due tries worker token til : Int) (w : World) : (Instr.index 83 (.agg #[.int .i64 id, .int .i64 status, .int .i64 due, .int .i64 tries, .int .i64 worker, .int .i64 token, .int .i64 til]) (.int .i64 1)).run Tryd.prog w = .ok (.int .i64 status) w := by
  simp [Instr.index, run_underlying Tryd.underlying83, asIntOf, go_sem, Tryd.sizeOf3]
theorem iidx7_2 (id status due tries worker token til : Int) (w : World) : (Instr.index 83 (.agg #[.int .i64 id, .int .i64 status, .int .i64 due, .int .i64 tries, .int .i64 worker, .int .i64 token, .int .i64 til]) (.int .i64 2)).run Tryd.prog w = .ok (.int .i64 due) w := by
  simp [Instr.index, run_underlying Tryd.underlying83, asIntOf, go_sem, Tryd.sizeOf3]
theorem iidx7_3 (id status due tries worker token til : Int) (w : World) : (Instr.index 83 (.agg #[.int .i64 id, .int .i64 status, .int .i64 due, .int .i64 tries, .int .i64 worker, .int .i64 token, .int .i64 til]) (.int .i64 3)).run Tryd.prog w = .ok (.int .i64 tries) w := by
  simp [Instr.index, run_underlying Tryd.underlying83, asIntOf, go_sem, Tryd.sizeOf3]
theorem iidx7_4 (id status due tries worker token til : Int) (w : World) : (Instr.index 83 (.agg #[.int .i64 id, .int .i64 status, .int .i64 due, .int .i64 tries, .int .i64 worker, .int .i64 token, .int .i64 til]) (.int .i64 4)).run Tryd.prog w = .ok (.int .i64 worker) w := by
  simp [Instr.index, run_underlying Tryd.underlying83, asIntOf, go_sem, Tryd.sizeOf3]
theorem iidx7_5 (id status due tries worker token til : Int) (w : World) : (Instr.index 83 (.agg #[.int .i64 id, .int .i64 status, .int .i64 due, .int .i64 tries, .int .i64 worker, .int .i64 token, .int .i64 til]) (.int .i64 5)).run Tryd.prog w = .ok (.int .i64 token) w := by
  simp [Instr.index, run_underlying Tryd.underlying83, asIntOf, go_sem, Tryd.sizeOf3]
theorem iidx7_6 (id status due tries worker token til : Int) (w : World) : (Instr.index 83 (.agg #[.int .i64 id, .int .i64 status, .int .i64 due, .int .i64 tries, .int .i64 worker, .int .i64 token, .int .i64 til]) (.int .i64 6)).run Tryd.prog w = .ok (.int .i64 til) w := by
  simp [Instr.index, run_underlying Tryd.underlying83, asIntOf, go_sem, Tryd.sizeOf3]
theorem sidx3_0 (name rule payload : ByteArray) (w : World) : (Instr.index 85 (.agg #[.string name, .string rule, .string payload]) (.int .i64 0)).run Tryd.prog w = .ok (.string name) w := by
  simp [Instr.index, run_underlying Tryd.underlying85, asIntOf, go_sem, Tryd.sizeOf9]
theorem sidx3_1 (name rule payload : ByteArray) (w : World) : (Instr.index 85 (.agg #[.string name, .string rule, .string payload]) (.int .i64 1)).run Tryd.prog w = .ok (.string rule) w := by
  simp [Instr.index, run_underlying Tryd.underlying85, asIntOf, go_sem, Tryd.sizeOf9]
theorem sidx3_2 (name rule payload : ByteArray) (w : World) : (Instr.index 85 (.agg #[.string name, .string rule, .string payload]) (.int .i64 2)).run Tryd.prog w = .ok (.string payload) w := by
  simp [Instr.index, run_underlying Tryd.underlying85, asIntOf, go_sem, Tryd.sizeOf9]

theorem chk_bd {pe : Int} {j : Jb} (h : chk pe j = true) : (0 ≤ j.id ∧ j.id ≤ 1099511627776) ∧ (0 ≤ j.status ∧ j.status ≤ 1099511627776) ∧ (0 ≤ j.due ∧ j.due ≤ 1099511627776) ∧ (0 ≤ j.tries ∧ j.tries ≤ 1099511627776) ∧ (0 ≤ j.worker ∧ j.worker ≤ 1099511627776) ∧ (0 ≤ j.token ∧ j.token ≤ 1099511627776) ∧ (0 ≤ j.til ∧ j.til ≤ 1099511627776) ∧ j.name.size ≤ 32 ∧ j.rule.size ≤ 200 ∧ j.payload.size ≤ 200 := by
  rw [chk, Bool.and_eq_true, Bool.and_eq_true] at h
  obtain ⟨⟨hA, hB⟩, hC⟩ := h
  simp only [chkA, decide_eq_true_eq] at hA
  have hr : j.rule.size ≤ 200 := by
    simp only [chkC, Bool.or_eq_true, Bool.and_eq_true, decide_eq_true_eq] at hC
    omega
  have hs : (j.status = 2 ∨ j.status = 3 ∨ j.status = 1) ∧ (0 ≤ j.worker ∧ j.worker ≤ 1099511627776) ∧ (0 ≤ j.token ∧ j.token ≤ 1099511627776) ∧ (0 ≤ j.til ∧ j.til ≤ 1099511627776) := by
    rw [chkB] at hB
    split at hB
    · rename_i h2
      simp only [Bool.and_eq_true, hmay, decide_eq_true_eq] at hB
      omega
    · split at hB
      · simp only [Bool.and_eq_true, hnone, decide_eq_true_eq] at hB
        omega
      · split at hB
        · simp only [hnone, decide_eq_true_eq] at hB
          omega
        · cases hB
  refine ⟨by omega, by omega, by omega, by omega, hs.2.1, hs.2.2.1, hs.2.2.2, by omega, hr, by omega⟩
theorem enc_bytes {j : Jb} (h : (0 ≤ j.id ∧ j.id ≤ 1099511627776) ∧ (0 ≤ j.status ∧ j.status ≤ 1099511627776) ∧ (0 ≤ j.due ∧ j.due ≤ 1099511627776) ∧ (0 ≤ j.tries ∧ j.tries ≤ 1099511627776) ∧ (0 ≤ j.worker ∧ j.worker ≤ 1099511627776) ∧ (0 ≤ j.token ∧ j.token ≤ 1099511627776) ∧ (0 ≤ j.til ∧ j.til ≤ 1099511627776) ∧ j.name.size ≤ 32 ∧ j.rule.size ≤ 200 ∧ j.payload.size ≤ 200) : Bytes (encJ j) := by
  obtain ⟨h1, h2, h3, h4, h5, h6, h7, t1, t2, t3⟩ := h
  intro x hx
  rw [encJ, List.mem_append] at hx
  rcases hx with hx | hx
  · obtain ⟨n, hn, hx⟩ := List.mem_flatMap.1 hx
    have hb : 0 ≤ n ∧ n ≤ 1099511627776 := by
      simp only [numJ, List.mem_cons, List.not_mem_nil, or_false] at hn
      rcases hn with rfl | rfl | rfl | rfl | rfl | rfl | rfl <;> assumption
    exact putI_bytes hb.1 hb.2 x hx
  · obtain ⟨t, ht, hx⟩ := List.mem_flatMap.1 hx
    have hb : t.size ≤ 200 := by
      simp only [txtJ, List.mem_cons, List.not_mem_nil, or_false] at ht
      rcases ht with rfl | rfl | rfl <;> omega
    rw [putS, List.mem_append] at hx
    rcases hx with hx | hx
    · exact putI_bytes (by omega) (by omega) x hx
    · exact strB_bytes t x hx
/-- the octets so far -/
def Row (B : Nat) (w1 : World) (v : Value) (l : List Nat) (n : Nat) (W : World) : Prop := RB W B v (nb l) ∧ l.length ≤ n ∧ Below B w1 W

set_option maxRecDepth 100000 in
theorem encode_no (pe : Int) (j : Jb) (w : World) (hm : Cron.MaxL w) (hz : j.rule.size ≤ 9223372036854775807) (hk : chk (Cron.parseE j.rule) j = false) :
    Calls Tryd.prog 18 #[.agg #[.int .i64 j.id, .string j.name, .string j.rule, .string j.payload, .int .i64 j.status, .int .i64 j.due, .int .i64 j.tries, .int .i64 j.worker, .int .i64 j.token, .int .i64 j.til]] w fun e w' => e = .returned (.tuple #[.string ⟨#[]⟩, .int .i64 9]) ∧ Below w.heap.size w w' := by
  have HCE : Aside0 (chkE (Cron.parseE j.rule) j = 9) := ⟨by rw [chkE, hk]; rfl⟩
  have HM := Aside0.mk hm
  clear hk hm
  go_enter Tryd.func18, Tryd.ntmps18
  go_wp2_with (go_at_call 11; refine (check_any maxL_lasts (Cron.parseE j.rule) j _ (HM.out.below (below_alloc (Below.refl _ w) _)) (parse_says _ hz)).mono ?_; rw [HCE.out]; rintro e w1 ⟨rfl, hb1⟩; (have HB1 := Aside0.mk (bthen (below_alloc (Below.refl _ w) _) hb1)); clear hb1)
  go_ret2
  exact ⟨rfl, HB1.out⟩

set_option maxRecDepth 100000 in
set_option maxHeartbeats 4000000 in
theorem encode_yes (j : Jb) (w : World) (hm : Cron.MaxL w) (hz : j.rule.size ≤ 9223372036854775807) (hk : chk (Cron.parseE j.rule) j = true) :
    Calls Tryd.prog 18 #[.agg #[.int .i64 j.id, .string j.name, .string j.rule, .string j.payload, .int .i64 j.status, .int .i64 j.due, .int .i64 j.tries, .int .i64 j.worker, .int .i64 j.token, .int .i64 j.til]] w fun e w' => e = .returned (.tuple #[.string (ofB (encJ j)), .int .i64 0]) ∧ Below w.heap.size w w' := by
  have HCE : Aside0 (chkE (Cron.parseE j.rule) j = 0) := ⟨by rw [chkE, hk]; rfl⟩
  have HM := Aside0.mk hm
  have HBD := Aside0.mk (chk_bd hk)
  obtain ⟨id, name, rule, payload, status, due, tries, worker, token, til⟩ := j
  dsimp only at hz HBD ⊢
  obtain ⟨R, hR⟩ := named (ofB (encJ ⟨id, name, rule, payload, status, due, tries, worker, token, til⟩))
  rw [← hR.out]
  clear hk hm
  go_enter Tryd.func18, Tryd.ntmps18
  go_wp2_with (go_at_call 11; refine (check_any maxL_lasts (Cron.parseE rule) ⟨id, name, rule, payload, status, due, tries, worker, token, til⟩ _ (HM.out.below (below_alloc (Below.refl _ w) _)) (parse_says _ hz)).mono ?_; rw [HCE.out]; rintro e w1 ⟨rfl, hb1⟩; (have HB1 := Aside0.mk (bthen (below_alloc (Below.refl _ w) _) hb1)); (have HJ1 := Aside0.mk (blk_keep (blk_new _ _) hb1)); obtain ⟨j0, j1, j2, j3, j4, j5, j6, j7, j8, j9⟩ := all10 HJ1.out; clear hb1)
  clear j0 j1 j2 j3 j4 j5 j6 j7 j8 j9
  go_loopg [5, 7, 30] 7 (fun g v5 v7 v30 wr => ∃ (i : Nat) (v : Value), v30 = .int .i64 i ∧ g + i = 7 ∧ v = v5 ∧ Aside0 (Row w1.heap.size w1 v (encN ((numJ ⟨id, name, rule, payload, status, due, tries, worker, token, til⟩).take i)) (9 * i) wr))
  case atStart => exact ⟨0, _, rfl, by omega, rfl, ⟨own_nil _ _ _ _, Nat.le_refl _, Below.refl _ _⟩⟩
  case round =>
    obtain ⟨i, v, rfl, hg, rfl, HRW⟩ := hrel
    rcases (show i = 0 ∨ i = 1 ∨ i = 2 ∨ i = 3 ∨ i = 4 ∨ i = 5 ∨ i = 6 ∨ i = 7 by omega) with rfl | rfl | rfl | rfl | rfl | rfl | rfl | rfl
    · have ix := iidx7_0 id status due tries worker token til wr
      have n0 : 0 ≤ id := HBD.out.1.1
      have n1 : id ≤ 1099511627776 := HBD.out.1.2
      go_wp2_with (first
        | (go_at_call 35; refine (put_big id _ n0 n1).mono ?_; rintro e w2 ⟨A2, k2, c2, rfl, hr2, hk2, hb2⟩; (have HR2 := Aside0.mk hr2); (have HB2 := Aside0.mk hb2); clear hr2 hb2)
        | (at_builtin; refine print_append_row (w0 := w1) w1.heap.size (by rfl) (.tmp 33) (.tmp 36) 82 5 .u8 1 (by rfl) Tryd.underlying82 infoB (by decide) v (nb (encN ((numJ ⟨id, name, rule, payload, status, due, tries, worker, token, til⟩).take 0))) (nb (putI id)) A2 k2 c2 (by rfl) (by rfl) (pw_own_below HRW.out.1 HB2.out) HR2.out (bthen HRW.out.2.2 HB2.out) (bthen HRW.out.2.2 HB2.out).size (by have := HRW.out.2.1; rw [nb_len]; omega) ?_; intro v3 w3 ho3 hb3 _ _; (have HO3 := Aside0.mk ho3); (have HB3 := Aside0.mk hb3); clear ho3 hb3))
      go_roundg 6
      case measure => omega
      case rel =>
        have e1 : (numJ ⟨id, name, rule, payload, status, due, tries, worker, token, til⟩).take 1 = (numJ ⟨id, name, rule, payload, status, due, tries, worker, token, til⟩).take 0 ++ [id] := rfl
        refine ⟨1, v3, rfl, by omega, rfl, ⟨?_, ?_, HB3.out⟩⟩
        · rw [e1, encN_snoc, nb_app]; exact HO3.out
        · rw [e1, encN_snoc, List.length_append]
          have := HRW.out.2.1
          have := putI_len n0 n1
          omega
    · have ix := iidx7_1 id status due tries worker token til wr
      have n0 : 0 ≤ status := HBD.out.2.1.1
      have n1 : status ≤ 1099511627776 := HBD.out.2.1.2
      go_wp2_with (first
        | (go_at_call 35; refine (put_big status _ n0 n1).mono ?_; rintro e w2 ⟨A2, k2, c2, rfl, hr2, hk2, hb2⟩; (have HR2 := Aside0.mk hr2); (have HB2 := Aside0.mk hb2); clear hr2 hb2)
        | (at_builtin; refine print_append_row (w0 := w1) w1.heap.size (by rfl) (.tmp 33) (.tmp 36) 82 5 .u8 1 (by rfl) Tryd.underlying82 infoB (by decide) v (nb (encN ((numJ ⟨id, name, rule, payload, status, due, tries, worker, token, til⟩).take 1))) (nb (putI status)) A2 k2 c2 (by rfl) (by rfl) (pw_own_below HRW.out.1 HB2.out) HR2.out (bthen HRW.out.2.2 HB2.out) (bthen HRW.out.2.2 HB2.out).size (by have := HRW.out.2.1; rw [nb_len]; omega) ?_; intro v3 w3 ho3 hb3 _ _; (have HO3 := Aside0.mk ho3); (have HB3 := Aside0.mk hb3); clear ho3 hb3))
      go_roundg 5
      case measure => omega
      case rel =>
        have e1 : (numJ ⟨id, name, rule, payload, status, due, tries, worker, token, til⟩).take 2 = (numJ ⟨id, name, rule, payload, status, due, tries, worker, token, til⟩).take 1 ++ [status] := rfl
        refine ⟨2, v3, rfl, by omega, rfl, ⟨?_, ?_, HB3.out⟩⟩
        · rw [e1, encN_snoc, nb_app]; exact HO3.out
        · rw [e1, encN_snoc, List.length_append]
          have := HRW.out.2.1
          have := putI_len n0 n1
          omega
    · have ix := iidx7_2 id status due tries worker token til wr
      have n0 : 0 ≤ due := HBD.out.2.2.1.1
      have n1 : due ≤ 1099511627776 := HBD.out.2.2.1.2
      go_wp2_with (first
        | (go_at_call 35; refine (put_big due _ n0 n1).mono ?_; rintro e w2 ⟨A2, k2, c2, rfl, hr2, hk2, hb2⟩; (have HR2 := Aside0.mk hr2); (have HB2 := Aside0.mk hb2); clear hr2 hb2)
        | (at_builtin; refine print_append_row (w0 := w1) w1.heap.size (by rfl) (.tmp 33) (.tmp 36) 82 5 .u8 1 (by rfl) Tryd.underlying82 infoB (by decide) v (nb (encN ((numJ ⟨id, name, rule, payload, status, due, tries, worker, token, til⟩).take 2))) (nb (putI due)) A2 k2 c2 (by rfl) (by rfl) (pw_own_below HRW.out.1 HB2.out) HR2.out (bthen HRW.out.2.2 HB2.out) (bthen HRW.out.2.2 HB2.out).size (by have := HRW.out.2.1; rw [nb_len]; omega) ?_; intro v3 w3 ho3 hb3 _ _; (have HO3 := Aside0.mk ho3); (have HB3 := Aside0.mk hb3); clear ho3 hb3))
      go_roundg 4
      case measure => omega
      case rel =>
        have e1 : (numJ ⟨id, name, rule, payload, status, due, tries, worker, token, til⟩).take 3 = (numJ ⟨id, name, rule, payload, status, due, tries, worker, token, til⟩).take 2 ++ [due] := rfl
        refine ⟨3, v3, rfl, by omega, rfl, ⟨?_, ?_, HB3.out⟩⟩
        · rw [e1, encN_snoc, nb_app]; exact HO3.out
        · rw [e1, encN_snoc, List.length_append]
          have := HRW.out.2.1
          have := putI_len n0 n1
          omega
    · have ix := iidx7_3 id status due tries worker token til wr
      have n0 : 0 ≤ tries := HBD.out.2.2.2.1.1
      have n1 : tries ≤ 1099511627776 := HBD.out.2.2.2.1.2
      go_wp2_with (first
        | (go_at_call 35; refine (put_big tries _ n0 n1).mono ?_; rintro e w2 ⟨A2, k2, c2, rfl, hr2, hk2, hb2⟩; (have HR2 := Aside0.mk hr2); (have HB2 := Aside0.mk hb2); clear hr2 hb2)
        | (at_builtin; refine print_append_row (w0 := w1) w1.heap.size (by rfl) (.tmp 33) (.tmp 36) 82 5 .u8 1 (by rfl) Tryd.underlying82 infoB (by decide) v (nb (encN ((numJ ⟨id, name, rule, payload, status, due, tries, worker, token, til⟩).take 3))) (nb (putI tries)) A2 k2 c2 (by rfl) (by rfl) (pw_own_below HRW.out.1 HB2.out) HR2.out (bthen HRW.out.2.2 HB2.out) (bthen HRW.out.2.2 HB2.out).size (by have := HRW.out.2.1; rw [nb_len]; omega) ?_; intro v3 w3 ho3 hb3 _ _; (have HO3 := Aside0.mk ho3); (have HB3 := Aside0.mk hb3); clear ho3 hb3))
      go_roundg 3
      case measure => omega
      case rel =>
        have e1 : (numJ ⟨id, name, rule, payload, status, due, tries, worker, token, til⟩).take 4 = (numJ ⟨id, name, rule, payload, status, due, tries, worker, token, til⟩).take 3 ++ [tries] := rfl
        refine ⟨4, v3, rfl, by omega, rfl, ⟨?_, ?_, HB3.out⟩⟩
        · rw [e1, encN_snoc, nb_app]; exact HO3.out
        · rw [e1, encN_snoc, List.length_append]
          have := HRW.out.2.1
          have := putI_len n0 n1
          omega
    · have ix := iidx7_4 id status due tries worker token til wr
      have n0 : 0 ≤ worker := HBD.out.2.2.2.2.1.1
      have n1 : worker ≤ 1099511627776 := HBD.out.2.2.2.2.1.2
      go_wp2_with (first
        | (go_at_call 35; refine (put_big worker _ n0 n1).mono ?_; rintro e w2 ⟨A2, k2, c2, rfl, hr2, hk2, hb2⟩; (have HR2 := Aside0.mk hr2); (have HB2 := Aside0.mk hb2); clear hr2 hb2)
        | (at_builtin; refine print_append_row (w0 := w1) w1.heap.size (by rfl) (.tmp 33) (.tmp 36) 82 5 .u8 1 (by rfl) Tryd.underlying82 infoB (by decide) v (nb (encN ((numJ ⟨id, name, rule, payload, status, due, tries, worker, token, til⟩).take 4))) (nb (putI worker)) A2 k2 c2 (by rfl) (by rfl) (pw_own_below HRW.out.1 HB2.out) HR2.out (bthen HRW.out.2.2 HB2.out) (bthen HRW.out.2.2 HB2.out).size (by have := HRW.out.2.1; rw [nb_len]; omega) ?_; intro v3 w3 ho3 hb3 _ _; (have HO3 := Aside0.mk ho3); (have HB3 := Aside0.mk hb3); clear ho3 hb3))
      go_roundg 2
      case measure => omega
      case rel =>
        have e1 : (numJ ⟨id, name, rule, payload, status, due, tries, worker, token, til⟩).take 5 = (numJ ⟨id, name, rule, payload, status, due, tries, worker, token, til⟩).take 4 ++ [worker] := rfl
        refine ⟨5, v3, rfl, by omega, rfl, ⟨?_, ?_, HB3.out⟩⟩
        · rw [e1, encN_snoc, nb_app]; exact HO3.out
        · rw [e1, encN_snoc, List.length_append]
          have := HRW.out.2.1
          have := putI_len n0 n1
          omega
    · have ix := iidx7_5 id status due tries worker token til wr
      have n0 : 0 ≤ token := HBD.out.2.2.2.2.2.1.1
      have n1 : token ≤ 1099511627776 := HBD.out.2.2.2.2.2.1.2
      go_wp2_with (first
        | (go_at_call 35; refine (put_big token _ n0 n1).mono ?_; rintro e w2 ⟨A2, k2, c2, rfl, hr2, hk2, hb2⟩; (have HR2 := Aside0.mk hr2); (have HB2 := Aside0.mk hb2); clear hr2 hb2)
        | (at_builtin; refine print_append_row (w0 := w1) w1.heap.size (by rfl) (.tmp 33) (.tmp 36) 82 5 .u8 1 (by rfl) Tryd.underlying82 infoB (by decide) v (nb (encN ((numJ ⟨id, name, rule, payload, status, due, tries, worker, token, til⟩).take 5))) (nb (putI token)) A2 k2 c2 (by rfl) (by rfl) (pw_own_below HRW.out.1 HB2.out) HR2.out (bthen HRW.out.2.2 HB2.out) (bthen HRW.out.2.2 HB2.out).size (by have := HRW.out.2.1; rw [nb_len]; omega) ?_; intro v3 w3 ho3 hb3 _ _; (have HO3 := Aside0.mk ho3); (have HB3 := Aside0.mk hb3); clear ho3 hb3))
      go_roundg 1
      case measure => omega
      case rel =>
        have e1 : (numJ ⟨id, name, rule, payload, status, due, tries, worker, token, til⟩).take 6 = (numJ ⟨id, name, rule, payload, status, due, tries, worker, token, til⟩).take 5 ++ [token] := rfl
        refine ⟨6, v3, rfl, by omega, rfl, ⟨?_, ?_, HB3.out⟩⟩
        · rw [e1, encN_snoc, nb_app]; exact HO3.out
        · rw [e1, encN_snoc, List.length_append]
          have := HRW.out.2.1
          have := putI_len n0 n1
          omega
    · have ix := iidx7_6 id status due tries worker token til wr
      have n0 : 0 ≤ til := HBD.out.2.2.2.2.2.2.1.1
      have n1 : til ≤ 1099511627776 := HBD.out.2.2.2.2.2.2.1.2
      go_wp2_with (first
        | (go_at_call 35; refine (put_big til _ n0 n1).mono ?_; rintro e w2 ⟨A2, k2, c2, rfl, hr2, hk2, hb2⟩; (have HR2 := Aside0.mk hr2); (have HB2 := Aside0.mk hb2); clear hr2 hb2)
        | (at_builtin; refine print_append_row (w0 := w1) w1.heap.size (by rfl) (.tmp 33) (.tmp 36) 82 5 .u8 1 (by rfl) Tryd.underlying82 infoB (by decide) v (nb (encN ((numJ ⟨id, name, rule, payload, status, due, tries, worker, token, til⟩).take 6))) (nb (putI til)) A2 k2 c2 (by rfl) (by rfl) (pw_own_below HRW.out.1 HB2.out) HR2.out (bthen HRW.out.2.2 HB2.out) (bthen HRW.out.2.2 HB2.out).size (by have := HRW.out.2.1; rw [nb_len]; omega) ?_; intro v3 w3 ho3 hb3 _ _; (have HO3 := Aside0.mk ho3); (have HB3 := Aside0.mk hb3); clear ho3 hb3))
      go_roundg 0
      case measure => omega
      case rel =>
        have e1 : (numJ ⟨id, name, rule, payload, status, due, tries, worker, token, til⟩).take 7 = (numJ ⟨id, name, rule, payload, status, due, tries, worker, token, til⟩).take 6 ++ [til] := rfl
        refine ⟨7, v3, rfl, by omega, rfl, ⟨?_, ?_, HB3.out⟩⟩
        · rw [e1, encN_snoc, nb_app]; exact HO3.out
        · rw [e1, encN_snoc, List.length_append]
          have := HRW.out.2.1
          have := putI_len n0 n1
          omega
    · obtain ⟨j0, j1, j2, j3, j4, j5, j6, j7, j8, j9⟩ := all10 (blk_keep HJ1.out HRW.out.2.2)
      clear j0 j4 j5 j6 j7 j8 j9 hg
      go_wp2_with fail
      clear j1 j2 j3
      go_loopg [5, 9, 46] 3 (fun g v5 v9 v46 wr => ∃ (i : Nat) (v : Value), v46 = .int .i64 i ∧ g + i = 3 ∧ v = v5 ∧ Aside0 (Row w1.heap.size w1 v (encN (numJ ⟨id, name, rule, payload, status, due, tries, worker, token, til⟩) ++ encT ((txtJ ⟨id, name, rule, payload, status, due, tries, worker, token, til⟩).take i)) (63 + 300 * i) wr))
      case atStart => exact ⟨0, _, rfl, by omega, rfl, ⟨by
        refine ⟨?_, ?_, HRW.out.2.2⟩
        · have := HRW.out.1
          rw [show (numJ ⟨id, name, rule, payload, status, due, tries, worker, token, til⟩).take 7 = numJ ⟨id, name, rule, payload, status, due, tries, worker, token, til⟩ from rfl] at this
          simpa [encT] using this
        · have := HRW.out.2.1
          rw [show (numJ ⟨id, name, rule, payload, status, due, tries, worker, token, til⟩).take 7 = numJ ⟨id, name, rule, payload, status, due, tries, worker, token, til⟩ from rfl] at this
          simpa [encT] using this⟩⟩
      case round =>
        clear HRW
        obtain ⟨i, v, rfl, hg, rfl, HRW⟩ := hrel
        rcases (show i = 0 ∨ i = 1 ∨ i = 2 ∨ i = 3 by omega) with rfl | rfl | rfl | rfl
        · have ix := sidx3_0 name rule payload wr
          have HSZ : name.size ≤ 200 := by have := HBD.out.2.2.2.2.2.2.2.1; omega
          have n0 : 0 ≤ (name.size : Int) := by omega
          have n1 : (name.size : Int) ≤ 1099511627776 := by omega
          go_wp2_with (first
            | (go_at_call 35; refine (put_big name.size _ n0 n1).mono ?_; rintro e w2 ⟨A2, k2, c2, rfl, hr2, hk2, hb2⟩; (have HR2 := Aside0.mk hr2); (have HB2 := Aside0.mk hb2); clear hr2 hb2)
            | (at_builtin; refine print_append_row (w0 := w1) w1.heap.size (by rfl) (.tmp 49) (.tmp 53) 82 5 .u8 1 (by rfl) Tryd.underlying82 infoB (by decide) v (nb (encN (numJ ⟨id, name, rule, payload, status, due, tries, worker, token, til⟩) ++ encT ((txtJ ⟨id, name, rule, payload, status, due, tries, worker, token, til⟩).take 0))) (nb (putI name.size)) A2 k2 c2 (by rfl) (by rfl) (pw_own_below HRW.out.1 HB2.out) HR2.out (bthen HRW.out.2.2 HB2.out) (bthen HRW.out.2.2 HB2.out).size (by have := HRW.out.2.1; rw [nb_len]; omega) ?_; intro v3 w3 ho3 hb3 _ _; (have HO3 := Aside0.mk ho3); (have HB3 := Aside0.mk hb3); clear ho3 hb3)
            | (at_builtin; refine print_append_str (w0 := w1) w1.heap.size (by rfl) (.tmp 54) (.tmp 55) 82 9 5 (by rfl) Tryd.underlying82 Tryd.underlying9 infoB v3 (nb (encN (numJ ⟨id, name, rule, payload, status, due, tries, worker, token, til⟩) ++ encT ((txtJ ⟨id, name, rule, payload, status, due, tries, worker, token, til⟩).take 0)) ++ nb (putI name.size)) name (by rfl) (by rfl) HO3.out HB3.out HB3.out.size (by have := HRW.out.2.1; have := putI_len n0 n1; rw [List.length_append, nb_len, nb_len]; omega) ?_; intro v4 w4 ho4 hb4 _; (have HO4 := Aside0.mk ho4); (have HB4 := Aside0.mk hb4); clear ho4 hb4))
          go_roundg 2
          case measure => omega
          case rel =>
            have e1 : (txtJ ⟨id, name, rule, payload, status, due, tries, worker, token, til⟩).take 1 = (txtJ ⟨id, name, rule, payload, status, due, tries, worker, token, til⟩).take 0 ++ [name] := rfl
            refine ⟨1, v4, rfl, by omega, rfl, ⟨?_, ?_, HB4.out⟩⟩
            · rw [e1, encT_snoc, putS, ← List.append_assoc, ← List.append_assoc, nb_app, nb_app, nb_strB]; exact HO4.out
            · rw [e1, encT_snoc, putS, ← List.append_assoc, ← List.append_assoc, List.length_append, List.length_append, strB_len]
              have := HRW.out.2.1
              have := putI_len n0 n1
              omega
        · have ix := sidx3_1 name rule payload wr
          have HSZ : rule.size ≤ 200 := by have := HBD.out.2.2.2.2.2.2.2.2.1; omega
          have n0 : 0 ≤ (rule.size : Int) := by omega
          have n1 : (rule.size : Int) ≤ 1099511627776 := by omega
          go_wp2_with (first
            | (go_at_call 35; refine (put_big rule.size _ n0 n1).mono ?_; rintro e w2 ⟨A2, k2, c2, rfl, hr2, hk2, hb2⟩; (have HR2 := Aside0.mk hr2); (have HB2 := Aside0.mk hb2); clear hr2 hb2)
            | (at_builtin; refine print_append_row (w0 := w1) w1.heap.size (by rfl) (.tmp 49) (.tmp 53) 82 5 .u8 1 (by rfl) Tryd.underlying82 infoB (by decide) v (nb (encN (numJ ⟨id, name, rule, payload, status, due, tries, worker, token, til⟩) ++ encT ((txtJ ⟨id, name, rule, payload, status, due, tries, worker, token, til⟩).take 1))) (nb (putI rule.size)) A2 k2 c2 (by rfl) (by rfl) (pw_own_below HRW.out.1 HB2.out) HR2.out (bthen HRW.out.2.2 HB2.out) (bthen HRW.out.2.2 HB2.out).size (by have := HRW.out.2.1; rw [nb_len]; omega) ?_; intro v3 w3 ho3 hb3 _ _; (have HO3 := Aside0.mk ho3); (have HB3 := Aside0.mk hb3); clear ho3 hb3)
            | (at_builtin; refine print_append_str (w0 := w1) w1.heap.size (by rfl) (.tmp 54) (.tmp 55) 82 9 5 (by rfl) Tryd.underlying82 Tryd.underlying9 infoB v3 (nb (encN (numJ ⟨id, name, rule, payload, status, due, tries, worker, token, til⟩) ++ encT ((txtJ ⟨id, name, rule, payload, status, due, tries, worker, token, til⟩).take 1)) ++ nb (putI rule.size)) rule (by rfl) (by rfl) HO3.out HB3.out HB3.out.size (by have := HRW.out.2.1; have := putI_len n0 n1; rw [List.length_append, nb_len, nb_len]; omega) ?_; intro v4 w4 ho4 hb4 _; (have HO4 := Aside0.mk ho4); (have HB4 := Aside0.mk hb4); clear ho4 hb4))
          go_roundg 1
          case measure => omega
          case rel =>
            have e1 : (txtJ ⟨id, name, rule, payload, status, due, tries, worker, token, til⟩).take 2 = (txtJ ⟨id, name, rule, payload, status, due, tries, worker, token, til⟩).take 1 ++ [rule] := rfl
            refine ⟨2, v4, rfl, by omega, rfl, ⟨?_, ?_, HB4.out⟩⟩
            · rw [e1, encT_snoc, putS, ← List.append_assoc, ← List.append_assoc, nb_app, nb_app, nb_strB]; exact HO4.out
            · rw [e1, encT_snoc, putS, ← List.append_assoc, ← List.append_assoc, List.length_append, List.length_append, strB_len]
              have := HRW.out.2.1
              have := putI_len n0 n1
              omega
        · have ix := sidx3_2 name rule payload wr
          have HSZ : payload.size ≤ 200 := by have := HBD.out.2.2.2.2.2.2.2.2.2; omega
          have n0 : 0 ≤ (payload.size : Int) := by omega
          have n1 : (payload.size : Int) ≤ 1099511627776 := by omega
          go_wp2_with (first
            | (go_at_call 35; refine (put_big payload.size _ n0 n1).mono ?_; rintro e w2 ⟨A2, k2, c2, rfl, hr2, hk2, hb2⟩; (have HR2 := Aside0.mk hr2); (have HB2 := Aside0.mk hb2); clear hr2 hb2)
            | (at_builtin; refine print_append_row (w0 := w1) w1.heap.size (by rfl) (.tmp 49) (.tmp 53) 82 5 .u8 1 (by rfl) Tryd.underlying82 infoB (by decide) v (nb (encN (numJ ⟨id, name, rule, payload, status, due, tries, worker, token, til⟩) ++ encT ((txtJ ⟨id, name, rule, payload, status, due, tries, worker, token, til⟩).take 2))) (nb (putI payload.size)) A2 k2 c2 (by rfl) (by rfl) (pw_own_below HRW.out.1 HB2.out) HR2.out (bthen HRW.out.2.2 HB2.out) (bthen HRW.out.2.2 HB2.out).size (by have := HRW.out.2.1; rw [nb_len]; omega) ?_; intro v3 w3 ho3 hb3 _ _; (have HO3 := Aside0.mk ho3); (have HB3 := Aside0.mk hb3); clear ho3 hb3)
            | (at_builtin; refine print_append_str (w0 := w1) w1.heap.size (by rfl) (.tmp 54) (.tmp 55) 82 9 5 (by rfl) Tryd.underlying82 Tryd.underlying9 infoB v3 (nb (encN (numJ ⟨id, name, rule, payload, status, due, tries, worker, token, til⟩) ++ encT ((txtJ ⟨id, name, rule, payload, status, due, tries, worker, token, til⟩).take 2)) ++ nb (putI payload.size)) payload (by rfl) (by rfl) HO3.out HB3.out HB3.out.size (by have := HRW.out.2.1; have := putI_len n0 n1; rw [List.length_append, nb_len, nb_len]; omega) ?_; intro v4 w4 ho4 hb4 _; (have HO4 := Aside0.mk ho4); (have HB4 := Aside0.mk hb4); clear ho4 hb4))
          go_roundg 0
          case measure => omega
          case rel =>
            have e1 : (txtJ ⟨id, name, rule, payload, status, due, tries, worker, token, til⟩).take 3 = (txtJ ⟨id, name, rule, payload, status, due, tries, worker, token, til⟩).take 2 ++ [payload] := rfl
            refine ⟨3, v4, rfl, by omega, rfl, ⟨?_, ?_, HB4.out⟩⟩
            · rw [e1, encT_snoc, putS, ← List.append_assoc, ← List.append_assoc, nb_app, nb_app, nb_strB]; exact HO4.out
            · rw [e1, encT_snoc, putS, ← List.append_assoc, ← List.append_assoc, List.length_append, List.length_append, strB_len]
              have := HRW.out.2.1
              have := putI_len n0 n1
              omega
        · obtain ⟨Av, cv, rfl, hr⟩ := RB_reads HRW.out.1
          have hstr := string_of_reads (c := cv) Tryd.underlying82 Tryd.underlying5 Tryd.underlying9 hr
          have HBY : Aside0 (Bytes (encN (numJ ⟨id, name, rule, payload, status, due, tries, worker, token, til⟩) ++ encT ((txtJ ⟨id, name, rule, payload, status, due, tries, worker, token, til⟩).take 3))) := ⟨enc_bytes HBD.out⟩
          rw [str_ofB _ HBY.out] at hstr
          have HRR : Aside0 (ofB (encN (numJ ⟨id, name, rule, payload, status, due, tries, worker, token, til⟩) ++ encT ((txtJ ⟨id, name, rule, payload, status, due, tries, worker, token, til⟩).take 3)) = R) := ⟨by rw [hR.out]; rfl⟩
          rw [HRR.out] at hstr
          clear hr
          go_wp2
          go_ret2
          exact ⟨rfl, bthen HB1.out HRW.out.2.2⟩
end Go.Proofs.YteloamnakikbbaaDoor.JEnc

/- A job comes back from its octets, and octets from the job that is read of them: plain. -/
namespace Go.Proofs.YteloamnakikbbaaDoor.JBack
set_option linter.unusedVariables false
set_option linter.unusedSimpArgs false
open Go.RowKit Go.Proofs.YteloamnakikbbaaDoorW.PrintWords Go.Proofs.YteloamnakikbbaaDoorW.PrintLast Go.Proofs.YteloamnakikbbaaDoor.Base Go.Proofs.YteloamnakikbbaaDoor.Ints Go.Proofs.YteloamnakikbbaaDoor.Var Go.Proofs.YteloamnakikbbaaDoor.VarPure Go.Proofs.YteloamnakikbbaaDoor.Codec Go.Proofs.YteloamnakikbbaaDoor.JScan Go.Proofs.YteloamnakikbbaaDoor.JobPure Go.Proofs.YteloamnakikbbaaDoor.Job Go.Proofs.YteloamnakikbbaaDoor.JDec Go.Proofs.YteloamnakikbbaaDoor.JEnc

theorem text2_put {s : ByteArray} (h : s.size ≤ 256) (r : List Nat) : text2 (putS s ++ r, 0) = (s, (r, 0)) := by
  have h1 := numS_put (most := 256) (code := 5) (n := (s.size : Int)) (by omega) (by omega) (by omega) (strB s ++ r)
  rw [text2, putS, List.append_assoc]
  simp only [h1]
  rw [if_neg (by simp), if_neg (by rw [List.length_append, strB_len]; omega), Int.toNat_natCast, List.take_append_of_le_length (by rw [strB_len]; exact Nat.le_refl _), List.take_of_length_le (by rw [strB_len]; exact Nat.le_refl _), ofB_strB]
  have hl := strB_len s
  rw [← hl, List.drop_left]
theorem text2_back {s : ByteArray} {l r : List Nat} {e : Int} (hb : Bytes l) (h : text2 (l, e) = (s, (r, 0))) : e = 0 ∧ l = putS s ++ r ∧ s.size ≤ 256 := by
  rw [text2] at h
  obtain ⟨n, l1, e1, hg⟩ : ∃ n l1 e1, numS 256 5 (l, e) = (n, (l1, e1)) := ⟨_, _, _, rfl⟩
  simp only [hg] at h
  by_cases h1 : e1 ≠ 0
  · rw [if_pos h1] at h
    exact absurd (Prod.mk.inj (Prod.mk.inj h).2).2 h1
  · rw [if_neg h1] at h
    have h1 : e1 = 0 := Decidable.not_not.1 h1
    subst h1
    obtain ⟨he, hl, h0, h96⟩ := numS_back hb (by omega) (by omega) hg
    by_cases h2 : (l1.length : Int) < n
    · rw [if_pos h2] at h
      exact absurd (Prod.mk.inj (Prod.mk.inj h).2).2 (by simp)
    · rw [if_neg h2] at h
      obtain ⟨hs, hr⟩ := Prod.mk.inj h
      have hr := (Prod.mk.inj hr).1
      have hb1 : Bytes l1 := by rw [hl] at hb; exact bytes_right hb
      have hbt : Bytes (l1.take n.toNat) := fun x hx => hb1 x (List.mem_of_mem_take hx)
      have hsz : s.size = n.toNat := by rw [← hs, ofB_size, List.length_take]; omega
      refine ⟨he, ?_, by omega⟩
      rw [putS, hsz, show ((n.toNat : Nat) : Int) = n by omega, ← hs, strB_ofB hbt, ← hr, List.append_assoc, List.take_append_drop]
      exact hl

theorem numS_bytes {most code : Int} {s : St} (h : Bytes s.1) : Bytes (numS most code s).2.1 := by
  rw [numS]
  split
  · exact h
  · split
    · exact h
    · split
      · exact h
      · exact fun x hx => h x (List.mem_of_mem_drop hx)
theorem text2_bytes {s : St} (h : Bytes s.1) : Bytes (text2 s).2.1 := by
  have h1 := numS_bytes (most := 256) (code := 5) h
  rw [text2]
  split
  · exact h1
  · split
    · exact h1
    · exact fun x hx => h1 x (List.mem_of_mem_drop hx)
theorem sN_bytes {b : List Nat} (h : Bytes b) : ∀ i, Bytes (sN b i).1
  | 0 => h
  | i + 1 => numS_bytes (sN_bytes h i)
theorem sT_bytes {b : List Nat} (h : Bytes b) : ∀ i, Bytes (sT b i).1
  | 0 => sN_bytes h 7
  | i + 1 => text2_bytes (sT_bytes h i)
theorem sN_back {b : List Nat} (h : Bytes b) (i : Nat) (he : (sN b (i + 1)).2 = 0) : (sN b i).2 = 0 ∧ (sN b i).1 = putI (nN b i) ++ (sN b (i + 1)).1 := by
  have h1 := numS_back (most := 1099511627776) (code := 4) (n := nN b i) (l := (sN b i).1) (e := (sN b i).2) (r := (sN b (i + 1)).1) (sN_bytes h i) (by omega) (by omega) (by
    have : numS 1099511627776 4 (sN b i) = (nN b i, ((sN b (i + 1)).1, (sN b (i + 1)).2)) := rfl
    rw [he] at this
    exact this)
  exact ⟨h1.1, h1.2.1⟩
theorem sT_back {b : List Nat} (h : Bytes b) (i : Nat) (he : (sT b (i + 1)).2 = 0) : (sT b i).2 = 0 ∧ (sT b i).1 = putS (tT b i) ++ (sT b (i + 1)).1 := by
  have h1 := text2_back (s := tT b i) (l := (sT b i).1) (e := (sT b i).2) (r := (sT b (i + 1)).1) (sT_bytes h i) (by
    have : text2 (sT b i) = (tT b i, ((sT b (i + 1)).1, (sT b (i + 1)).2)) := rfl
    rw [he] at this
    exact this)
  exact ⟨h1.1, h1.2.1⟩
/-- octets from the job that is read of them -/
theorem back {b : List Nat} (h : Bytes b) (he : decE b = 0) : b = encJ (jobD b) ∧ chk (Cron.parseE (tT b 1)) (jobD b) = true := by
  rw [decE] at he
  split at he
  · rename_i h1; exact absurd he h1
  · rename_i h1
    split at he
    · cases he
    · rename_i h2
      have h1 : (sT b 3).2 = 0 := Decidable.not_not.1 h1
      have h2 : (sT b 3).1 = [] := by
        have : (sT b 3).1.length = 0 := Decidable.not_not.1 h2
        exact List.length_eq_zero_iff.1 this
      obtain ⟨e2, l2⟩ := sT_back h 2 h1
      obtain ⟨e1, l1⟩ := sT_back h 1 e2
      obtain ⟨e0, l0⟩ := sT_back h 0 e1
      obtain ⟨f6, m6⟩ := sN_back h 6 e0
      obtain ⟨f5, m5⟩ := sN_back h 5 f6
      obtain ⟨f4, m4⟩ := sN_back h 4 f5
      obtain ⟨f3, m3⟩ := sN_back h 3 f4
      obtain ⟨f2, m2⟩ := sN_back h 2 f3
      obtain ⟨f1, m1⟩ := sN_back h 1 f2
      obtain ⟨f0, m0⟩ := sN_back h 0 f1
      refine ⟨?_, ?_⟩
      · have e7 : (sN b 7).1 = (sT b 0).1 := rfl
        have eb : b = (sN b 0).1 := rfl
        have key : b = putI (nN b 0) ++ (putI (nN b 1) ++ (putI (nN b 2) ++ (putI (nN b 3) ++ (putI (nN b 4) ++ (putI (nN b 5) ++ (putI (nN b 6) ++ (putS (tT b 0) ++ (putS (tT b 1) ++ (putS (tT b 2) ++ [])))))))))  := by
          rw [← h2, ← l2, ← l1, ← l0, ← e7, ← m6, ← m5, ← m4, ← m3, ← m2, ← m1, ← m0]; exact eb
        refine key.trans ?_
        simp [encJ, encN, encT, numJ, txtJ, jobD]
      · rw [chkE] at he
        split at he
        · assumption
        · cases he

theorem chk_rule {pe : Int} {j : Jb} (h : chk pe j = true) : j.name.size ≤ 32 ∧ j.rule.size ≤ 200 ∧ j.payload.size ≤ 200 := (chk_bd h).2.2.2.2.2.2.2
/-- a job comes back from its octets -/
theorem forth {j : Jb} (h : chk (Cron.parseE j.rule) j = true) : decE (encJ j) = 0 ∧ jobD (encJ j) = j := by
  obtain ⟨b1, b2, b3, b4, b5, b6, b7, t1, t2, t3⟩ := chk_bd h
  obtain ⟨id, name, rule, payload, status, due, tries, worker, token, til⟩ := j
  dsimp only at b1 b2 b3 b4 b5 b6 b7 t1 t2 t3 h
  obtain ⟨B, hB⟩ : ∃ B, B = encJ ⟨id, name, rule, payload, status, due, tries, worker, token, til⟩ := ⟨_, rfl⟩
  have k0 : sN B 0 = (putI id ++ (putI status ++ (putI due ++ (putI tries ++ (putI worker ++ (putI token ++ (putI til ++ (putS name ++ (putS rule ++ (putS payload ++ []))))))))), 0) := by
    rw [sN, hB]
    simp [encJ, encN, encT, numJ, txtJ]
  have step : ∀ i n r, 0 ≤ n → n ≤ 1099511627776 → sN B i = (putI n ++ r, 0) → nN B i = n ∧ sN B (i + 1) = (r, 0) := fun i n r h0 h1 hs => by
    have := numS_put (most := 1099511627776) (code := 4) h0 h1 (by omega) r
    rw [nN, sN, hs, this]
    exact ⟨rfl, rfl⟩
  have stepT : ∀ i t r, t.size ≤ 256 → sT B i = (putS t ++ r, 0) → tT B i = t ∧ sT B (i + 1) = (r, 0) := fun i t r ht hs => by
    have := text2_put ht r
    rw [tT, sT, hs, this]
    exact ⟨rfl, rfl⟩
  obtain ⟨n0, k1⟩ := step 0 _ _ b1.1 b1.2 k0
  obtain ⟨n1, k2⟩ := step 1 _ _ b2.1 b2.2 k1
  obtain ⟨n2, k3⟩ := step 2 _ _ b3.1 b3.2 k2
  obtain ⟨n3, k4⟩ := step 3 _ _ b4.1 b4.2 k3
  obtain ⟨n4, k5⟩ := step 4 _ _ b5.1 b5.2 k4
  obtain ⟨n5, k6⟩ := step 5 _ _ b6.1 b6.2 k5
  obtain ⟨n6, k7⟩ := step 6 _ _ b7.1 b7.2 k6
  obtain ⟨x0, q1⟩ := stepT 0 _ _ (by omega) (show sT B 0 = _ from k7)
  obtain ⟨x1, q2⟩ := stepT 1 _ _ (by omega) q1
  obtain ⟨x2, q3⟩ := stepT 2 _ _ (by omega) q2
  have hj : jobD B = ⟨id, name, rule, payload, status, due, tries, worker, token, til⟩ := by rw [jobD, n0, n1, n2, n3, n4, n5, n6, x0, x1, x2]
  rw [← hB]
  refine ⟨?_, hj⟩
  rw [decE, q3, hj, x1]
  simp [chkE, h]
theorem putI_len6 {n : Int} (h0 : 0 ≤ n) (h1 : n ≤ 1099511627776) : (putI n).length ≤ 6 := by
  have hn : n.toNat < 2 ^ 56 := by have : (2 : Nat) ^ 56 = 72057594037927936 := rfl; omega
  rw [putI, (get_put hn []).2.2]
  exact sizeN_lt (by omega) (by omega) (by have : (2 : Nat) ^ (7 * 6) = 4398046511104 := rfl; omega)
theorem enc_len {j : Jb} (h : chk (Cron.parseE j.rule) j = true) : (encJ j).length ≤ 512 := by
  obtain ⟨b1, b2, b3, b4, b5, b6, b7, t1, t2, t3⟩ := chk_bd h
  have l1 := putI_len6 b1.1 b1.2
  have l2 := putI_len6 b2.1 b2.2
  have l3 := putI_len6 b3.1 b3.2
  have l4 := putI_len6 b4.1 b4.2
  have l5 := putI_len6 b5.1 b5.2
  have l6 := putI_len6 b6.1 b6.2
  have l7 := putI_len6 b7.1 b7.2
  have m1 := putI_len6 (n := j.name.size) (by omega) (by omega)
  have m2 := putI_len6 (n := j.rule.size) (by omega) (by omega)
  have m3 := putI_len6 (n := j.payload.size) (by omega) (by omega)
  simp only [encJ, encN, encT, numJ, txtJ, List.flatMap_cons, List.flatMap_nil, List.append_nil, List.length_append, putS, strB_len]
  omega
end Go.Proofs.YteloamnakikbbaaDoor.JBack

/- The document's Delay; the law's alive: walked. -/
namespace Go.Proofs.YteloamnakikbbaaDoor.Job
set_option linter.unusedVariables false
set_option linter.unusedSimpArgs false
open Go.RowKit Go.Proofs.YteloamnakikbbaaDoorW.PrintWords Go.Proofs.YteloamnakikbbaaDoorW.PrintLast Go.Proofs.YteloamnakikbbaaDoor.Base Go.Proofs.YteloamnakikbbaaDoor.Cells Go.Proofs.YteloamnakikbbaaDoor.JobPure

theorem pow_succ_int (b : Int) (i : Nat) : b * ((2 ^ (i + 1) : Nat) : Int) = 2 * (b * ((2 ^ i : Nat) : Int)) := by
  rw [Nat.pow_succ]
  push_cast
  rw [← Int.mul_assoc, Int.mul_comm (b * 2 ^ i) 2]
theorem delay_past {b c : Int} {i k : Nat} (h : i ≤ k) (hb : 1 ≤ b) (hc : c ≤ b * ((2 ^ i : Nat) : Int)) : delayP b c k = c := by
  unfold delayP
  have h1 := Nat.pow_le_pow_right (n := 2) (by omega) h
  generalize 2 ^ i = p at h1 hc
  generalize 2 ^ k = q at h1 ⊢
  have h2 : b * (p : Int) ≤ b * (q : Int) := Int.mul_le_mul_of_nonneg_left (by omega) (by omega)
  omega
set_option maxRecDepth 100000 in
theorem rdelay_any (b c t : Int) (k : Nat) (w : World) (hl : limOk b c t = true) (hk : k ≤ 64) :
    Calls Tryd.prog 17 #[.agg #[.int .i64 b, .int .i64 c, .int .i64 t], .int .i64 k] w fun e w' => e = .returned (.tuple #[.int .i64 (delayP b c k), .int .i64 0]) ∧ Below w.heap.size w w' := by
  obtain ⟨b1, b2, bc, c2, t1, t2⟩ := limOk_iff.1 hl
  have hlE : Aside0 (limE b c t = 0) := ⟨by rw [limE, hl]; rfl⟩
  clear hl
  obtain ⟨D, hD⟩ := named (delayP b c k)
  rw [← hD.out]
  have k0 : (0 : Int) ≤ (k : Int) := by omega
  go_enter Tryd.func17, Tryd.ntmps17
  go_wp2_with (go_at_call 9; refine (rlim_any _ _ _ _).mono ?_; rw [hlE.out]; rintro e w1 ⟨rfl, hb1⟩; (have HB1 := Aside0.mk (bthen (below_alloc (Below.refl _ w) _) hb1)); (have HL1 := Aside0.mk (blk_keep (blk_new _ _) hb1)); obtain ⟨l0, l1, l2, _, _, _⟩ := all3 HL1.out; clear hb1)
  go_loopg [6, 7] k (fun g v6 v7 wr => ∃ (i : Nat) (d : Int), v7 = .int .i64 i ∧ g + i = k ∧ v6 = .int .i64 d ∧ Aside0 (d = b * ((2 ^ i : Nat) : Int)) ∧ 1 ≤ d ∧ d ≤ 4294967296 ∧ wr = w1)
  case atStart => exact ⟨0, b, rfl, by omega, rfl, ⟨by simp⟩, b1, by omega, rfl⟩
  case round =>
    obtain ⟨i, d, rfl, hg, rfl, HD, d1, d2, rfl⟩ := hrel
    by_cases hi : i < k
    · by_cases hd : d < c
      · go_wp2
        go_roundg (k - i - 1)
        case measure => omega
        case rel => exact ⟨i + 1, 2 * d, by go_num, by omega, rfl, ⟨by rw [HD.out, pow_succ_int]⟩, by omega, by omega, rfl⟩
      · have HX : Aside0 (min d c = D) := ⟨by rw [hD.out, delay_past (Nat.le_of_lt hi) b1 (by rw [← HD.out]; omega)]; omega⟩
        go_wp2
        go_ret2
        exact ⟨by rw [← HX.out]; rfl, HB1.out⟩
    · obtain rfl : i = k := by omega
      have HX : Aside0 (min d c = D) := ⟨by rw [hD.out, delayP, HD.out]; omega⟩
      go_wp2
      go_ret2
      exact ⟨by rw [← HX.out]; rfl, HB1.out⟩

theorem num_any (n : Int) (w : World) : Calls Tryd.prog 10 #[.int .i64 n] w fun e w' => e = .returned (.int .i64 n) ∧ w = w' := by
  go_enter Tryd.func10, Tryd.ntmps10
  go_wp2
  go_ret
  exact ⟨rfl, rfl⟩
set_option maxRecDepth 100000 in
theorem alive_any (w : World) : Calls Tryd.prog 7 #[] w fun e w' => e = .returned (.bool true) ∧ Below w.heap.size w w' := by
  have CF : Aside0 (∀ W', Calls Tryd.prog 14 #[.agg #[.int .i64 1, .string ⟨#[]⟩, .string ⟨#[]⟩, .string ⟨#[]⟩, .int .i64 2, .int .i64 0, .int .i64 0, .int .i64 1, .int .i64 1, .int .i64 20], .agg #[.int .i64 3, .int .i64 9, .int .i64 4], .int .i64 10] W' fun e w' => e = .returned (.tuple #[.agg #[.int .i64 1, .string ⟨#[]⟩, .string ⟨#[]⟩, .string ⟨#[]⟩, .int .i64 1, .int .i64 13, .int .i64 1, .int .i64 0, .int .i64 0, .int .i64 0], .int .i64 0]) ∧ Below W'.heap.size W' w') := ⟨fun W' => by
    have h := fail_any Lasts.all 0 (fun _ => (0, false)) ⟨1, ⟨#[]⟩, ⟨#[]⟩, ⟨#[]⟩, 2, 0, 0, 1, 1, 20⟩ 3 9 4 10 W' trivial (CronSays.none _ _ _)
    have e1 : failE 0 ⟨1, ⟨#[]⟩, ⟨#[]⟩, ⟨#[]⟩, 2, 0, 0, 1, 1, 20⟩ 3 9 4 10 = 0 := by decide
    have e2 : failJ 0 (0, false) ⟨1, ⟨#[]⟩, ⟨#[]⟩, ⟨#[]⟩, 2, 0, 0, 1, 1, 20⟩ 3 9 4 10 = ⟨1, ⟨#[]⟩, ⟨#[]⟩, ⟨#[]⟩, 1, 13, 1, 0, 0, 0⟩ := by
      rw [failJ, e1, if_pos rfl, failG, if_pos (by decide)]
      rfl
    rw [e1, e2] at h
    exact h⟩
  go_enter Tryd.func7, Tryd.ntmps7
  go_wp2_with (first
    | (go_at_call 14; refine (CF.out _).mono ?_; rintro e w1 ⟨rfl, hb1⟩; (have HB1 := Aside0.mk (bthen (below_alloc (Below.refl _ w) _) hb1)); clear hb1)
    | (go_at_call 10; refine (num_any _ _).mono ?_; rintro e w2 ⟨rfl, rfl⟩))
  go_ret
  exact ⟨rfl, below_alloc HB1.out _⟩
end Go.Proofs.YteloamnakikbbaaDoor.Job

/- JobBack, walked. -/
namespace Go.Proofs.YteloamnakikbbaaDoor.JBack
set_option linter.unusedVariables false
set_option linter.unusedSimpArgs false
open Go.RowKit Go.Proofs.YteloamnakikbbaaDoorW.PrintWords Go.Proofs.YteloamnakikbbaaDoorW.PrintLast Go.Proofs.YteloamnakikbbaaDoor.Base Go.Proofs.YteloamnakikbbaaDoor.Cells Go.Proofs.YteloamnakikbbaaDoor.Ints Go.Proofs.YteloamnakikbbaaDoor.Var Go.Proofs.YteloamnakikbbaaDoor.VarPure Go.Proofs.YteloamnakikbbaaDoor.Codec Go.Proofs.YteloamnakikbbaaDoor.JScan Go.Proofs.YteloamnakikbbaaDoor.JobPure Go.Proofs.YteloamnakikbbaaDoor.Job Go.Proofs.YteloamnakikbbaaDoor.JDec Go.Proofs.YteloamnakikbbaaDoor.JEnc

/-- Decode of a job's octets -/
theorem dec_enc_any (j : Jb) (w : World) (hm : Cron.MaxL w) (h : chk (Cron.parseE j.rule) j = true) :
    Calls Tryd.prog 19 #[.string (ofB (encJ j))] w fun e w' => e = .returned (.tuple #[.agg #[.int .i64 j.id, .string j.name, .string j.rule, .string j.payload, .int .i64 j.status, .int .i64 j.due, .int .i64 j.tries, .int .i64 j.worker, .int .i64 j.token, .int .i64 j.til], .int .i64 0]) ∧ Below w.heap.size w w' := by
  have hl := enc_len h
  obtain ⟨f1, f2⟩ := forth h
  have c := decode_any (ofB (encJ j)) w (by rw [ofB_size]; omega) hm
  have hby : Bytes (encJ j) := enc_bytes (chk_bd h)
  rw [strB_ofB hby, f1, decJ, f1, if_pos rfl, f2] at c
  exact c
/-- Encode of what is read -/
theorem enc_dec_any (s : ByteArray) (w : World) (hm : Cron.MaxL w) (h : decE (strB s) = 0) :
    Calls Tryd.prog 18 #[.agg #[.int .i64 (jobD (strB s)).id, .string (jobD (strB s)).name, .string (jobD (strB s)).rule, .string (jobD (strB s)).payload, .int .i64 (jobD (strB s)).status, .int .i64 (jobD (strB s)).due, .int .i64 (jobD (strB s)).tries, .int .i64 (jobD (strB s)).worker, .int .i64 (jobD (strB s)).token, .int .i64 (jobD (strB s)).til]] w fun e w' => e = .returned (.tuple #[.string s, .int .i64 0]) ∧ Below w.heap.size w w' := by
  obtain ⟨b1, b2⟩ := back (strB_bytes s) h
  have hr := (chk_rule b2).2.1
  have c := encode_yes (jobD (strB s)) w hm (by omega) b2
  rw [← b1, ofB_strB] at c
  exact c

set_option maxRecDepth 100000 in
set_option maxHeartbeats 4000000 in
theorem back_walk (j : Jb) (s : ByteArray) (w : World) (hm : Cron.MaxL w) (hz : j.rule.size ≤ 9223372036854775807) (hs : s.size ≤ 1048576) :
    Calls Tryd.prog 6 #[.agg #[.int .i64 j.id, .string j.name, .string j.rule, .string j.payload, .int .i64 j.status, .int .i64 j.due, .int .i64 j.tries, .int .i64 j.worker, .int .i64 j.token, .int .i64 j.til], .string s] w fun e w' => e = .returned (.bool true) ∧ Below w.heap.size w w' := by
  have HM := Aside0.mk hm
  have CY := Aside0.mk (fun (h : chk (Cron.parseE j.rule) j = true) (W : World) (hW : Below w.heap.size w W) => encode_yes j W (hm.below hW) hz h)
  have CN := Aside0.mk (fun (h : chk (Cron.parseE j.rule) j = false) (W : World) (hW : Below w.heap.size w W) => encode_no (Cron.parseE j.rule) j W (hm.below hW) hz h)
  have CD := Aside0.mk (fun (h : chk (Cron.parseE j.rule) j = true) (W : World) (hW : Below w.heap.size w W) => dec_enc_any j W (hm.below hW) h)
  have HX : Aside0 (chk (Cron.parseE j.rule) j = true → (ofB (encJ j)).size ≤ 512) := ⟨fun h => by rw [ofB_size]; exact enc_len h⟩
  obtain ⟨X, hX⟩ := named (ofB (encJ j))
  rw [← hX.out] at CY CD HX
  have HCK : chk (Cron.parseE j.rule) j = true ∨ chk (Cron.parseE j.rule) j = false := by cases chk (Cron.parseE j.rule) j <;> simp
  have HCK := Aside0.mk HCK
  obtain ⟨DE, hDE⟩ := named (decE (strB s))
  obtain ⟨XJ, hXJ⟩ := named (jobD (strB s))
  obtain ⟨x0, x1, x2, x3, x4, x5, x6, x7, x8, x9⟩ := XJ
  have HDC : Aside0 (DE ≠ 0 ∨ DE = 0) := ⟨by omega⟩
  obtain ⟨id, name, rule, payload, status, due, tries, worker, token, til⟩ := j
  dsimp only at CY CN CD HX HCK hz ⊢
  clear hm
  go_enter Tryd.func6, Tryd.ntmps6
  go_upto_region 3 with (go_at_call 7; refine (alive_any _).mono ?_; rintro e w1 ⟨rfl, hb1⟩; (have HB1 := Aside0.mk (bthen (below_alloc (Below.refl _ w) _) hb1)); (have HJ1 := Aside0.mk (blk_keep (blk_new _ _) hb1)); clear hb1)
  obtain ⟨j0, j1, j2, j3, j4, j5, j6, j7, j8, j9⟩ := all10 HJ1.out
  rcases HCK.out with hck | hck
  · have CY1 := Aside0.mk (CY.out hck)
    have CD1 := Aside0.mk (CD.out hck)
    have hx := HX.out hck
    clear hck CY CN CD
    go_upto_region 8 with (first
      | (go_at_call 18; refine (CY1.out _ HB1.out).mono ?_; rintro e w2 ⟨rfl, hb2⟩; (have HB2 := Aside0.mk (bthen HB1.out hb2)); (have HJ2 := Aside0.mk (blk_keep HJ1.out hb2)); clear j0 j1 j2 j3 j4 j5 j6 j7 j8 j9 hb2)
      | (go_at_call 19; refine (CD1.out _ HB2.out).mono ?_; rintro e w3 ⟨rfl, hb3⟩; (have HB3 := Aside0.mk (below_alloc (bthen HB2.out hb3) (.cells #[.int .i64 id, .string name, .string rule, .string payload, .int .i64 status, .int .i64 due, .int .i64 tries, .int .i64 worker, .int .i64 token, .int .i64 til] 35))); (have HJ3 := Aside0.mk (blk_keep HJ2.out hb3)); (have hlt := blk_lt HJ3.out); obtain ⟨j0, j1, j2, j3, j4, j5, j6, j7, j8, j9⟩ := all10 HJ3.out; clear hb3)
      | (go_at_call 10; refine (num_any _ _).mono ?_; rintro e w9 ⟨rfl, rfl⟩))
    rcases HDC.out with hd | hd
    · have CS := Aside0.mk (fun (W : World) (hW : Below w.heap.size w W) => (show Calls Tryd.prog 19 #[.string s] W fun e w' => e = .returned (.tuple #[.agg #[.int .i64 0, .string ⟨#[]⟩, .string ⟨#[]⟩, .string ⟨#[]⟩, .int .i64 0, .int .i64 0, .int .i64 0, .int .i64 0, .int .i64 0, .int .i64 0], .int .i64 DE]) ∧ Below W.heap.size W w' from by
        have c := decode_any s W hs (HM.out.below hW)
        rw [decJ, ← hDE.out, if_neg hd] at c
        exact c))
      have hb1 : (DE != 0) = true := by simpa using hd
      clear hd
      go_wp2_with (first
        | (go_at_call 19; refine (CS.out _ HB3.out).mono ?_; rintro e w5 ⟨rfl, hb5⟩; (have HB5 := Aside0.mk (bthen HB3.out hb5)); clear hb5)
        | (go_at_call 10; refine (num_any _ _).mono ?_; rintro e w9 ⟨rfl, rfl⟩))
      go_ret
      exact ⟨rfl, below_alloc HB5.out _⟩
    · have CS := Aside0.mk (fun (W : World) (hW : Below w.heap.size w W) => (show Calls Tryd.prog 19 #[.string s] W fun e w' => e = .returned (.tuple #[.agg #[.int .i64 x0, .string x1, .string x2, .string x3, .int .i64 x4, .int .i64 x5, .int .i64 x6, .int .i64 x7, .int .i64 x8, .int .i64 x9], .int .i64 0]) ∧ Below W.heap.size W w' from by
        have c := decode_any s W hs (HM.out.below hW)
        rw [decJ, ← hDE.out, if_pos hd, hd, ← hXJ.out] at c
        exact c))
      have CE := Aside0.mk (fun (W : World) (hW : Below w.heap.size w W) => (show Calls Tryd.prog 18 #[.agg #[.int .i64 x0, .string x1, .string x2, .string x3, .int .i64 x4, .int .i64 x5, .int .i64 x6, .int .i64 x7, .int .i64 x8, .int .i64 x9]] W fun e w' => e = .returned (.tuple #[.string s, .int .i64 0]) ∧ Below W.heap.size W w' from by
        have c := enc_dec_any s W (HM.out.below hW) (by rw [← hDE.out]; exact hd)
        rw [← hXJ.out] at c
        exact c))
      clear hd
      go_wp2_with (first
        | (go_at_call 19; refine (CS.out _ HB3.out).mono ?_; rintro e w5 ⟨rfl, hb5⟩; (have HB5 := Aside0.mk (below_alloc (bthen HB3.out hb5) (.cells #[.int .i64 x0, .string x1, .string x2, .string x3, .int .i64 x4, .int .i64 x5, .int .i64 x6, .int .i64 x7, .int .i64 x8, .int .i64 x9] 35))); clear hb5)
        | (go_at_call 18; refine (CE.out _ HB5.out).mono ?_; rintro e w6 ⟨rfl, hb6⟩; (have HB6 := Aside0.mk (bthen HB5.out hb6)); clear hb6)
        | (go_at_call 10; refine (num_any _ _).mono ?_; rintro e w9 ⟨rfl, rfl⟩))
      go_ret
      exact ⟨rfl, HB6.out⟩
  · have CN1 := Aside0.mk (CN.out hck)
    clear hck CY CN CD
    go_upto_region 8 with (first
      | (go_at_call 18; refine (CN1.out _ HB1.out).mono ?_; rintro e w2 ⟨rfl, hb2⟩; (have HB2 := Aside0.mk (bthen HB1.out hb2)); clear j0 j1 j2 j3 j4 j5 j6 j7 j8 j9 hb2)
      | (go_at_call 10; refine (num_any _ _).mono ?_; rintro e w9 ⟨rfl, rfl⟩))
    rcases HDC.out with hd | hd
    · have CS := Aside0.mk (fun (W : World) (hW : Below w.heap.size w W) => (show Calls Tryd.prog 19 #[.string s] W fun e w' => e = .returned (.tuple #[.agg #[.int .i64 0, .string ⟨#[]⟩, .string ⟨#[]⟩, .string ⟨#[]⟩, .int .i64 0, .int .i64 0, .int .i64 0, .int .i64 0, .int .i64 0, .int .i64 0], .int .i64 DE]) ∧ Below W.heap.size W w' from by
        have c := decode_any s W hs (HM.out.below hW)
        rw [decJ, ← hDE.out, if_neg hd] at c
        exact c))
      have hb1 : (DE != 0) = true := by simpa using hd
      clear hd
      go_wp2_with (first
        | (go_at_call 19; refine (CS.out _ HB2.out).mono ?_; rintro e w5 ⟨rfl, hb5⟩; (have HB5 := Aside0.mk (bthen HB2.out hb5)); clear hb5)
        | (go_at_call 10; refine (num_any _ _).mono ?_; rintro e w9 ⟨rfl, rfl⟩))
      go_ret
      exact ⟨rfl, below_alloc HB5.out _⟩
    · have CS := Aside0.mk (fun (W : World) (hW : Below w.heap.size w W) => (show Calls Tryd.prog 19 #[.string s] W fun e w' => e = .returned (.tuple #[.agg #[.int .i64 x0, .string x1, .string x2, .string x3, .int .i64 x4, .int .i64 x5, .int .i64 x6, .int .i64 x7, .int .i64 x8, .int .i64 x9], .int .i64 0]) ∧ Below W.heap.size W w' from by
        have c := decode_any s W hs (HM.out.below hW)
        rw [decJ, ← hDE.out, if_pos hd, hd, ← hXJ.out] at c
        exact c))
      have CE := Aside0.mk (fun (W : World) (hW : Below w.heap.size w W) => (show Calls Tryd.prog 18 #[.agg #[.int .i64 x0, .string x1, .string x2, .string x3, .int .i64 x4, .int .i64 x5, .int .i64 x6, .int .i64 x7, .int .i64 x8, .int .i64 x9]] W fun e w' => e = .returned (.tuple #[.string s, .int .i64 0]) ∧ Below W.heap.size W w' from by
        have c := enc_dec_any s W (HM.out.below hW) (by rw [← hDE.out]; exact hd)
        rw [← hXJ.out] at c
        exact c))
      clear hd
      go_wp2_with (first
        | (go_at_call 19; refine (CS.out _ HB2.out).mono ?_; rintro e w5 ⟨rfl, hb5⟩; (have HB5 := Aside0.mk (below_alloc (bthen HB2.out hb5) (.cells #[.int .i64 x0, .string x1, .string x2, .string x3, .int .i64 x4, .int .i64 x5, .int .i64 x6, .int .i64 x7, .int .i64 x8, .int .i64 x9] 35))); clear hb5)
        | (go_at_call 18; refine (CE.out _ HB5.out).mono ?_; rintro e w6 ⟨rfl, hb6⟩; (have HB6 := Aside0.mk (bthen HB5.out hb6)); clear hb6)
        | (go_at_call 10; refine (num_any _ _).mono ?_; rintro e w9 ⟨rfl, rfl⟩))
      go_ret
      exact ⟨rfl, HB6.out⟩
end Go.Proofs.YteloamnakikbbaaDoor.JBack

/- JobBack: for every input within the bulk the law returns true, and what it is given stays (the library's tables as their initialisers lay them). -/
namespace Go.Proofs.YteloamnakikbbaaDoor.rowBack
open Go.ChangeShapes Go.WideShapes Go.ChangeAt Go.RowKit Go.Proofs.YteloamnakikbbaaDoor.Laid Go.Proofs.YteloamnakikbbaaDoor.LiftJ
open Go.ChangeMaps (open_string shut_string)
set_option linter.unusedVariables false
set_option linter.unusedSimpArgs false
set_option maxRecDepth 100000

theorem laid_met (os : Os) : laidMet Tryd.prog Rows.jobBackUptoRow.laid ((laidWorld os).forCall (fun _ _ => 0) ⟨#[], #[.agg #[.int .i64 0, .string ⟨#[]⟩, .string ⟨#[]⟩, .string ⟨#[]⟩, .int .i64 0, .int .i64 0, .int .i64 0, .int .i64 0, .int .i64 0, .int .i64 0], .string ⟨#[]⟩], []⟩).memory :=
  laidMet_of_run' 8 (by kernel_rfl) (by kernel_rfl)
theorem reads (os : Os) {H : Type} (enc : TypeId × Value → H) : ∃ places, DataW.whole enc Tryd.prog ((laidWorld os).forCall (fun _ _ => 0) ⟨#[], #[.agg #[.int .i64 0, .string ⟨#[]⟩, .string ⟨#[]⟩, .string ⟨#[]⟩, .int .i64 0, .int .i64 0, .int .i64 0, .int .i64 0, .int .i64 0, .int .i64 0], .string ⟨#[]⟩], []⟩).memory Tryd.f6.params.toList Rows.jobBackSpec.vars false #[Value.agg #[.int .i64 0, .string ⟨#[]⟩, .string ⟨#[]⟩, .string ⟨#[]⟩, .int .i64 0, .int .i64 0, .int .i64 0, .int .i64 0, .int .i64 0, .int .i64 0], .string ⟨#[]⟩].toList 8 = some ([.agg [.lit (.int .i64 0), .lit (.string []), .lit (.string []), .lit (.string []), .lit (.int .i64 0), .lit (.int .i64 0), .lit (.int .i64 0), .lit (.int .i64 0), .lit (.int .i64 0), .lit (.int .i64 0)], .lit (.string [])], [], places) :=
  ⟨[], by kernel_rfl⟩

theorem contract (H : Type) (enc : TypeId × Value → H) (W : World) (base : Nat) (args : Array Value) (ds gs : List (DataW H)) (before : List MemPlace)
    (hval : ∀ (j : Nat) t v, Tryd.f6.params[j]? = some t → args[j]? = some v → Value.okWide Tryd.prog W .any base t v)
    (hW : DataW.Whole enc Tryd.prog Tryd.f6.params.toList Rows.jobBackSpec.vars false W args.toList ds gs before)
    (hcond : ∀ k, some Rows.uptoSmall = some k → k H (ds ++ gs) = true) (hsh : W.ShapedOpen Tryd.prog) :
    Calls Tryd.prog 6 args W fun e W' => ∃ v, e = .returned v ∧ Rows.jobBackSpec.post enc Tryd.prog Tryd.f6 false true false false W args v W' := by
  have hW' := hW
  obtain ⟨p, q, hA0, hV, rfl, hfz, hnd⟩ := hW
  have hA : DataW.TrodAll enc Tryd.prog W 0 (fun _ => true) true Tryd.f6.params.toList args.toList ds p := hA0
  rw [Tryd.params6] at hA hval
  obtain ⟨v0, vs0, d0, ds0, p0, q0, hargs, rfl, rfl, h0, r0⟩ := trodAll_cons hA
  obtain ⟨v1, vs1, d1, ds1, p1, q1, rfl, rfl, rfl, h1, r1⟩ := trodAll_cons r0
  obtain ⟨rfl, rfl, rfl⟩ := trodAll_nil r1
  obtain rfl : args = #[v0, v1] := by cases args; simp_all
  obtain ⟨rfl, rfl⟩ := trodVars_none hV
  have k0 := h0
  have lt0 : ∀ x ∈ p0, x.block < W.heap.size := by obtain ⟨m, hm⟩ := k0; exact DataW.trod_lt m _ _ _ hm
  obtain ⟨cs, hcs, _⟩ := okWide_struct Tryd.underlying49 (hval 0 49 v0 rfl rfl)
  obtain ⟨fuel, hf⟩ := h0
  obtain ⟨id, name, rule, payload, status, due, tries, worker, token, til, parts, rfl, rfl, hmem⟩ := trod_job ⟨cs, hcs⟩ hf
  obtain ⟨a1, rfl, rfl, rfl, y1⟩ := open_string Tryd.underlying9 (hval 1 9 v1 rfl rfl) h1
  clear hA0
  have hB := bound (hcond _ rfl)
  have b1 : a1.size ≤ 1048576 := Nat.le_trans (str_le (l := _) (by simp)) hB
  have b0 : rule.size ≤ 1048576 := by
    have e := str_le hmem
    have e2 := Nat.le_trans (part_le (d := DataW.agg parts) (List.mem_cons_self)) hB
    simp only [Rows.uptoBulk] at e2
    omega
  have walk : Calls Tryd.prog 6 #[.agg #[.int .i64 id, .string name, .string rule, .string payload, .int .i64 status, .int .i64 due, .int .i64 tries, .int .i64 worker, .int .i64 token, .int .i64 til], .string a1] W fun e w' => e = .returned (.bool true) ∧ Below W.heap.size W w' :=
    JBack.back_walk ⟨id, name, rule, payload, status, due, tries, worker, token, til⟩ a1 W (maxL hsh) (by show rule.size ≤ _; omega) b1
  refine walk.mono fun e W' ⟨he, bel⟩ => ?_
  subst he
  exact ⟨_, rfl, _, _, _, [], _, [], hW', trodAll_mk1 (shut_bool Tryd.underlying4 _), (trodAll_cons_mk (Below.trod laidOut (by kernel_rfl) (of_decide_eq_true (by kernel_rfl)) k0 bel lt0) (trodAll_cons_mk (shut_string Tryd.underlying9 y1) trodAll_mk0)), rfl, bel.frame _, fun h => by cases h⟩

theorem lifted (os : Os) (started : os.Started) (H : Type) (enc : TypeId × Value → H) (F : Stop.Interp) :
    ReturnsInHanded {} Tryd.checked os 6 .any ((Rows.OpenSpec.upto Rows.jobBackSpec).preRow enc Tryd.prog Tryd.f6 Rows.jobBackUptoRow.domain false Rows.jobBackUptoRow.laid) (((Rows.OpenSpec.upto Rows.jobBackSpec).at F).post enc Tryd.prog Tryd.f6 false true false false) := by
  obtain ⟨places, hx⟩ := reads os enc
  refine returnsInHanded_of_row (C := Tryd.checked) (s := Rows.OpenSpec.upto Rows.jobBackSpec) own started (by kernel_rfl) Tryd.func6
    (witness_row_at (enc := enc) (C := Tryd.checked) false (laidWorld os) #[.agg #[.int .i64 0, .string ⟨#[]⟩, .string ⟨#[]⟩, .string ⟨#[]⟩, .int .i64 0, .int .i64 0, .int .i64 0, .int .i64 0, .int .i64 0, .int .i64 0], .string ⟨#[]⟩] rfl (by kernel_rfl) (by kernel_rfl) (by kernel_rfl)
      (OpenSpec.preRow_of_cond 8 hx (by kernel_rfl) (fun k hk => by cases hk; kernel_rfl) (by kernel_rfl) (laid_met os))) ?_
  intro W base args ds gs before hval hW _ hcond _ hL hsh _
  exact contract H enc W base args ds gs before hval hW hcond hsh

theorem said : Rows.JobBackUptoSaid :=
  OpenClaim.holds_of_cond 6 Tryd.f6 rfl rfl rfl rfl rfl rfl rfl ⟨rfl, rfl, rfl, rfl, rfl⟩ rfl rfl rfl rfl rfl (by kernel_rfl) Tryd.func6 (by kernel_rfl)
    (of_decide_eq_true (by kernel_rfl)) (by unfold Func.isWrapper; first | (rw [if_pos (by decide +kernel)]; kernel_rfl) | (rw [if_neg (by decide +kernel)]; exact ⟨rfl, rfl⟩))
    (fun os started H enc _ F => by rw [OpenClaim.pre_eq_preRow]; exact lifted os started H enc F)

theorem plain (f : FuncId) (fn : Func) (hf : Tryd.pinned.checked.prog.funcNamed "tickler/ticklerlaw19.JobBack" = some f) (hfn : Tryd.pinned.checked.prog.funcs[f]? = some fn) :
    false = Tryd.pinned.checked.prog.looks [] ∧ ∀ (j : Nat) t, fn.params[j]? = some t → Tryd.pinned.checked.prog.wantsStandIn t = false := by
  obtain rfl : f = 6 := Option.some.inj ((show Tryd.prog.funcNamed "tickler/ticklerlaw19.JobBack" = some 6 by kernel_rfl).symm.trans hf) |>.symm
  obtain rfl : fn = Tryd.f6 := (Option.some.inj (Tryd.func6.symm.trans hfn)).symm
  refine ⟨by kernel_rfl, fun j t ht => ?_⟩
  rw [Tryd.params6] at ht
  have hm := Array.mem_of_getElem? ht
  simp only [List.mem_toArray, List.mem_cons, List.not_mem_nil, or_false] at hm
  rcases hm with rfl | rfl
  · exact (show Tryd.prog.wantsStandIn 49 = false by kernel_rfl)
  · exact (show Tryd.prog.wantsStandIn 9 = false by kernel_rfl)

theorem card : Rows.JobBackUptoCardSaid :=
  Claim7.holds_tied_plain_at .later [] _ _ _ _ said (fun _ h => by cases h) (by kernel_rfl) (fun _ h => by cases h) jobBackUpto_row_tie rfl ⟨rfl, rfl⟩ (by kernel_rfl) rfl plain (by kernel_rfl)
end Go.Proofs.YteloamnakikbbaaDoor.rowBack
namespace Go.Proofs.YteloamnakikbbaaDoor
theorem jobBack_holds : Rows.JobBackUptoCardSaid := rowBack.card
#print axioms jobBack_holds
end Go.Proofs.YteloamnakikbbaaDoor
