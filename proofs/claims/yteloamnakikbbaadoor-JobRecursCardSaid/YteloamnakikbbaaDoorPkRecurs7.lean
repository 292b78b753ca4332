/- JobRecurs: for every input the law returns true, and what it is given stays (the library's tables as their initialisers lay them). -/
import Derived.Test.YteloamnakikbbaaDoorPkRecurs6
import Derived.Test.YteloamnakikbbaaDoorPkRecurs5
import Derived.Test.YteloamnakikbbaaDoorPkRecurs4
import Derived.Test.YteloamnakikbbaaDoorPkRecurs1
import Derived.Deep.RegionHeld3

/- The document's Parse, walked. -/
namespace Go.Proofs.YteloamnakikbbaaDoor.Cron
set_option linter.unusedVariables false
set_option linter.unusedSimpArgs false
open Go.RowKit Go.Proofs.YteloamnakikbbaaDoorW.PrintWords Go.Proofs.YteloamnakikbbaaDoorW.PrintLast Go.Proofs.YteloamnakikbbaaDoor.Base Go.Proofs.YteloamnakikbbaaDoor.Cells Go.Proofs.YteloamnakikbbaaDoor.CronPure Go.Proofs.YteloamnakikbbaaDoor.NamesPure Go.Proofs.YteloamnakikbbaaDoor.StrRows

theorem rwords_five (s : ByteArray) (w : World) (hs : s.size ≤ 1000) (hn : (wordsP s).length = 5) :
    Calls Tryd.prog 20 #[.string s] w fun e w' => ∃ g cap, e = .returned (.slice (some ⟨g, 0, none⟩) 5 cap) ∧ (∀ i, i < 5 → w'.cell? ⟨g, i, none⟩ = some (.string (wordAt s i))) ∧ Below w.heap.size w w' := by
  refine (rwords_any s w hs).mono ?_
  rintro e w' ⟨v, rfl, hR, hb⟩
  rcases RS_cases hR with ⟨_, h⟩ | ⟨g, cap, rfl, _, _, hS⟩
  · rw [h] at hn; cases hn
  · refine ⟨g, cap, by rw [hn], fun i hi => ?_, hb⟩
    refine hS.at i _ ?_
    rw [wordAt, List.getD_eq_getElem?_getD, List.getElem?_eq_getElem (by omega)]
    rfl
theorem rwords_not (s : ByteArray) (w : World) (hs : s.size ≤ 1000) (hn : (wordsP s).length ≠ 5) :
    Calls Tryd.prog 20 #[.string s] w fun e w' => ∃ A n cap, e = .returned (.slice A n cap) ∧ n ≠ 5 ∧ Below w.heap.size w w' := by
  refine (rwords_any s w hs).mono ?_
  rintro e w' ⟨v, rfl, hR, hb⟩
  obtain ⟨A, c, rfl, _, _⟩ := RS_reads hR
  exact ⟨A, _, c, rfl, hn, hb⟩
theorem spread_hi {lo hi : Int} {l : List UInt8} (h : (spreadP lo hi l).2.2.2 = true) : (spreadP lo hi l).2.1 ≤ hi := by
  unfold spreadP at h ⊢
  split
  · exact Int.le_refl _
  · rename_i hne
    rw [if_neg hne] at h
    simp only [Bool.and_eq_true, decide_eq_true_eq] at h
    exact h.2.2.2.1
theorem item_lt8 {lo hi : Int} {l : List UInt8} {x n : Nat} (h0 : 0 ≤ lo) (h1 : lo ≤ hi) (h2 : hi < n) (hn : n ≤ 64) (h : itemP lo hi l = some x) : x < 2 ^ n := by
  unfold itemP at h
  dsimp only at h
  generalize Lib.cut l [47] = X at h
  have nb := numV_bd X.2.1
  split at h
  · cases h
  · rename_i hn
    split at h
    · cases h
    · rename_i hs
      injection h with h
      subst h
      have hok : (spreadP lo hi X.1).2.2.2 = true := by
        cases hk : (spreadP lo hi X.1).2.2.2 with
        | true => rfl
        | false => rw [hk] at hs; simp at hs
      have hb := spread_bd h0 h1 (by omega) hok
      have hb2 := spread_hi hok
      have hst : 0 < (if X.2.2 then (numV X.2.1).toNat else 1) := by
        split
        · rename_i hx
          rw [hx] at hn
          simp at hn
          have := hn.2
          omega
        · omega
      refine setTo_lt _ _ _ _ fun j hj => ?_
      have := (many_iff hst).1 hj
      omega
theorem fieldF_lt8 {lo hi : Int} {n : Nat} (h0 : 0 ≤ lo) (h1 : lo ≤ hi) (h2 : hi < n) (hn : n ≤ 64) : ∀ (f set : Nat) (l : List UInt8) (x : Nat), set < 2 ^ n → fieldF lo hi f set l = some x → x < 2 ^ n
  | 0, _, _, _, _, h => by cases h
  | f + 1, set, l, x, hs, h => by
    rw [fieldF] at h
    split at h
    · cases h
    · rename_i y hy
      have := Nat.or_lt_two_pow hs (item_lt8 h0 h1 h2 hn hy)
      split at h
      · exact fieldF_lt8 h0 h1 h2 hn f _ _ x this h
      · injection h with h
        rw [← h]; exact this
theorem fieldF_pos {lo hi : Int} (h0 : 0 ≤ lo) (h1 : lo ≤ hi) (h2 : hi ≤ 63) : ∀ (f set : Nat) (l : List UInt8) (x : Nat), fieldF lo hi f set l = some x → x ≠ 0
  | 0, _, _, _, h => by cases h
  | f + 1, set, l, x, h => by
    rw [fieldF] at h
    split at h
    · cases h
    · rename_i y hy
      have hy0 := item_pos h0 h1 h2 hy
      split at h
      · exact fieldF_pos h0 h1 h2 f _ _ x h
      · injection h with h
        rw [← h]
        intro e
        have : set ||| y = 0 := e
        rw [Nat.or_eq_zero_iff] at this
        exact hy0 this.2
theorem week_lt (s : ByteArray) : setN s 4 < 256 := by
  rw [setN]
  cases h : setAt s 4 with
  | none => decide
  | some x => exact fieldF_lt8 (n := 8) (by decide) (by decide) (by decide) (by decide) _ 0 _ x (by decide) h
theorem set_zero (s : ByteArray) (i : Nat) : setN s i = 0 ↔ (setAt s i).isSome = false := by
  rw [setN]
  cases h : setAt s i with
  | none => exact ⟨fun _ => rfl, fun _ => rfl⟩
  | some x =>
    have : x ≠ 0 := by
      rcases i with _ | _ | _ | _ | i
      all_goals exact fieldF_pos (by decide) (by decide) (by decide) _ 0 _ x h
    exact ⟨fun h => absurd h this, fun h => by cases h⟩
theorem week_doc (x : Nat) (h : x < 256) : bits .or .u64 (bits .and .u64 (x : Int) 127) (bits .and .u64 ((x : Int) / 128) 1) = ((weekOf x : Nat) : Int) := by
  have h1 := bits_and_u64_nat x 127 (by omega) (by decide)
  have h2 := bits_and_u64_nat (x / 128) 1 (by omega) (by decide)
  rw [show ((127 : Nat) : Int) = 127 from rfl] at h1
  rw [show ((1 : Nat) : Int) = 1 from rfl] at h2
  have e : (x : Int) / 128 = ((x / 128 : Nat) : Int) := by omega
  rw [e, h1, h2]
  have e2 : x / 128 &&& 1 = x >>> 7 := by
    rw [Nat.and_one_is_mod, Nat.shiftRight_eq_div_pow]
    omega
  rw [e2]
  exact bits_or_u64_nat _ _ (Nat.lt_of_le_of_lt Nat.and_le_left (by omega)) (by rw [Nat.shiftRight_eq_div_pow]; omega)
theorem star_field : fieldP 0 7 [42] = some 255 := by decide
theorem week_star {s : ByteArray} (h : (wordAt s 4).toList = [42]) : setN s 4 = 255 := by
  have h' : (wordAt s 4).data.toList = [42] := by rw [← ByteArray.toList_eq]; exact h
  show (fieldP 0 7 (wordAt s 4).data.toList).getD 0 = 255
  rw [h', star_field]; rfl
set_option maxRecDepth 100000 in
set_option maxHeartbeats 4000000 in
theorem rparse_no (s : ByteArray) (w : World) (h : 400 < s.size ∨ s.size ≤ 400 ∧ (wordsP s).length ≠ 5) :
    Calls Tryd.prog 8 #[.string s] w fun e w' => e = .returned (.tuple #[.agg #[.int .u64 0, .int .u64 0, .int .u64 0, .int .u64 0, .int .u64 0, .bool false, .bool false], .int .i64 (if 400 < s.size then 5 else 3)]) ∧ Below w.heap.size w w' := by
  obtain ⟨W, hW⟩ : ∃ W, W = w.alloc (.cells #[.int .u64 0, .int .u64 0, .int .u64 0, .int .u64 0, .int .u64 0, .bool false, .bool false] 27) := ⟨_, rfl⟩
  have HB0 := Aside0.mk (below_alloc (Below.refl _ w) (.cells #[.int .u64 0, .int .u64 0, .int .u64 0, .int .u64 0, .int .u64 0, .bool false, .bool false] 27))
  have HK0 := Aside0.mk (blk_new w (.cells #[.int .u64 0, .int .u64 0, .int .u64 0, .int .u64 0, .int .u64 0, .bool false, .bool false] 27))
  rcases h with h | ⟨h, hn⟩
  · rw [if_pos h]
    go_enter Tryd.func8, Tryd.ntmps8
    go_upto_region 1 with (fail)
    rw [← hW] at HB0 HK0 ⊢
    clear hW
    obtain ⟨_, f0, f1, f2, f3, f4, f5, f6⟩ := all7 HK0.out
    go_wp2
    refine bodyPost_ret (results_ct rfl _ _ w.heap.size 27 #[.int .u64 0, .int .u64 0, .int .u64 0, .int .u64 0, .int .u64 0, .bool false, .bool false] (0, 0) _ rfl (blk7 HK0.out) Tryd.underlying27 rfl (by kernel_rfl)) rfl ?_
    exact ⟨rfl, below_set7 HB0.out (Nat.le_refl _) _ _ _ _ _ _ _⟩
  · have h' : ¬ 400 < s.size := by omega
    rw [if_neg h']
    have CW := Aside0.mk (fun W => rwords_not s W (by omega) hn)
    go_enter Tryd.func8, Tryd.ntmps8
    go_upto_region 1 with (fail)
    rw [← hW] at HB0 HK0 ⊢
    clear hW hn
    go_wp2_with (go_at_call 20; with_reducible refine (CW.out _).mono ?_; rintro e w1 ⟨A, n, cap, rfl, hn5, hb⟩; (have HB1 := Aside0.mk (bthen HB0.out hb)); (have HK1 := Aside0.mk (blk_keep HK0.out hb)); (have hne : ((n : Int) != 5) = true := by (rw [bne_iff_ne]; omega)); clear hb hn5; obtain ⟨_, f0, f1, f2, f3, f4, f5, f6⟩ := all7 HK1.out)
    refine bodyPost_ret (results_ct rfl _ _ w.heap.size 27 #[.int .u64 0, .int .u64 0, .int .u64 0, .int .u64 0, .int .u64 0, .bool false, .bool false] (0, 0) _ rfl (blk7 HK1.out) Tryd.underlying27 rfl (by kernel_rfl)) rfl ?_
    exact ⟨rfl, below_set7 HB1.out (Nat.le_refl _) _ _ _ _ _ _ _⟩
/-- what stands behind the fields -/
def RuleAt (W : World) (n : Nat) (S0 S1 S2 S3 : Nat) (X Y : Bool) (v : Value) (wc : World) : Prop := ∃ G, v = .pointer (some ⟨G, 0, none⟩) ∧ n < G ∧ wc.heap[G]? = some (.cells #[.int .u64 S0, .int .u64 S1, .int .u64 S2, .int .u64 S3, .int .u64 0, .bool X, .bool Y] 27 (0, 0)) ∧ Below W.heap.size W wc
set_option maxRecDepth 100000 in
set_option maxHeartbeats 8000000 in
theorem rparse_main (s : ByteArray) (w : World) (h : s.size ≤ 400) (hn : (wordsP s).length = 5) (a0 a1 a2 a3 a4 : ByteArray) (S0 S1 S2 S3 S4 : Nat) (X Y : Bool) (R : Array Value) (E : Int)
    (ea0 : wordAt s 0 = a0) (ea1 : wordAt s 1 = a1) (ea2 : wordAt s 2 = a2) (ea3 : wordAt s 3 = a3) (ea4 : wordAt s 4 = a4) (eX : (a2.toList == [42]) = X) (eY : (a4.toList == [42]) = Y)
    (CF0 : Aside0 (∀ W, Calls Tryd.prog 21 #[.string a0, .int .i64 0, .int .i64 59] W fun e w' => e = .returned (.int .u64 S0) ∧ Below W.heap.size W w'))
    (CF1 : Aside0 (∀ W, Calls Tryd.prog 21 #[.string a1, .int .i64 0, .int .i64 23] W fun e w' => e = .returned (.int .u64 S1) ∧ Below W.heap.size W w'))
    (CF2 : Aside0 (∀ W, Calls Tryd.prog 21 #[.string a2, .int .i64 1, .int .i64 31] W fun e w' => e = .returned (.int .u64 S2) ∧ Below W.heap.size W w'))
    (CF3 : Aside0 (∀ W, Calls Tryd.prog 21 #[.string a3, .int .i64 1, .int .i64 12] W fun e w' => e = .returned (.int .u64 S3) ∧ Below W.heap.size W w'))
    (CF4 : Aside0 (∀ W, Calls Tryd.prog 21 #[.string a4, .int .i64 0, .int .i64 7] W fun e w' => e = .returned (.int .u64 S4) ∧ Below W.heap.size W w'))
    (hS4 : S4 < 256) (hY4 : Y = true → S4 = 255)
    (HR : Aside0 (if S0 ≠ 0 ∧ S1 ≠ 0 ∧ S2 ≠ 0 ∧ S3 ≠ 0 ∧ S4 ≠ 0 then R = #[.int .u64 S0, .int .u64 S1, .int .u64 S2, .int .u64 S3, .int .u64 (weekOf S4 : Nat), .bool X, .bool Y] ∧ E = 0 else R = #[.int .u64 0, .int .u64 0, .int .u64 0, .int .u64 0, .int .u64 0, .bool false, .bool false] ∧ E = 12)) :
    Calls Tryd.prog 8 #[.string s] w fun e w' => e = .returned (.tuple #[.agg R, .int .i64 E]) ∧ Below w.heap.size w w' := by
  obtain ⟨V, hV⟩ : ∃ V, V = w.alloc (.cells #[.int .u64 0, .int .u64 0, .int .u64 0, .int .u64 0, .int .u64 0, .bool false, .bool false] 27) := ⟨_, rfl⟩
  have HB0 := Aside0.mk (below_alloc (Below.refl _ w) (.cells #[.int .u64 0, .int .u64 0, .int .u64 0, .int .u64 0, .int .u64 0, .bool false, .bool false] 27))
  have HK0 := Aside0.mk (blk_new w (.cells #[.int .u64 0, .int .u64 0, .int .u64 0, .int .u64 0, .int .u64 0, .bool false, .bool false] 27))
  have h' : ¬ 400 < s.size := by omega
  have CW : Aside0 (∀ W, Calls Tryd.prog 20 #[.string s] W fun e w' => ∃ g cap, e = .returned (.slice (some ⟨g, 0, none⟩) 5 cap) ∧ (w'.cell? ⟨g, 0, none⟩ = some (.string a0) ∧ w'.cell? ⟨g, 1, none⟩ = some (.string a1) ∧ w'.cell? ⟨g, 2, none⟩ = some (.string a2) ∧ w'.cell? ⟨g, 3, none⟩ = some (.string a3) ∧ w'.cell? ⟨g, 4, none⟩ = some (.string a4)) ∧ Below W.heap.size W w') := ⟨fun W => by
    refine (rwords_five s W (by omega) hn).mono ?_
    rintro e w' ⟨g, cap, rfl, hc, hb⟩
    exact ⟨g, cap, rfl, ⟨by rw [hc 0 (by omega), ea0], by rw [hc 1 (by omega), ea1], by rw [hc 2 (by omega), ea2], by rw [hc 3 (by omega), ea3], by rw [hc 4 (by omega), ea4]⟩, hb⟩⟩
  have HX := Aside0.mk hY4
  have HW4 := Aside0.mk hS4
  have HYY := Aside0.mk eY
  clear hn ea0 ea1 ea2 ea3 ea4 hY4 hS4 eY
  go_enter Tryd.func8, Tryd.ntmps8
  go_upto_region 1 with (fail)
  rw [← hV] at HB0 HK0 ⊢
  clear hV
  go_upto_region 6 with (go_at_call 20; with_reducible refine (CW.out _).mono ?_; rintro e w1 ⟨g, cap, rfl, hc, hb⟩; (have HC1 := Aside0.mk hc); (have HB1 := Aside0.mk (bthen HB0.out hb)); (have HK1 := Aside0.mk (blk_keep HK0.out hb)); clear hc hb)
  obtain ⟨W, hW⟩ : ∃ W, W = w1 := ⟨_, rfl⟩
  rw [← hW] at HC1 HB1 HK1 ⊢
  clear hW
  have FK : Aside0 (∀ w', Below W.heap.size W w' → w'.cell? ⟨g, 0, none⟩ = some (.string a0) ∧ w'.cell? ⟨g, 1, none⟩ = some (.string a1) ∧ w'.cell? ⟨g, 2, none⟩ = some (.string a2) ∧ w'.cell? ⟨g, 3, none⟩ = some (.string a3) ∧ w'.cell? ⟨g, 4, none⟩ = some (.string a4)) := ⟨fun w' hb => by
    obtain ⟨c0, c1, c2, c3, c4⟩ := HC1.out
    exact ⟨pw_cell_below hb c0, pw_cell_below hb c1, pw_cell_below hb c2, pw_cell_below hb c3, pw_cell_below hb c4⟩⟩
  go_cut [5] (fun v5 wc => Aside0 (RuleAt W w.heap.size S0 S1 S2 S3 X Y v5 wc))
  case first =>
    have hlt := blk_lt HK1.out
    obtain ⟨c0, c1, c2, c3, c4⟩ := FK.out _ (below_drew (Below.refl _ W))
    subst eX
    have eY := HYY.out
    subst eY
    go_region_held3 (fun w' => w'.cell? ⟨g, 0, none⟩ = some (.string a0) ∧ w'.cell? ⟨g, 1, none⟩ = some (.string a1) ∧ w'.cell? ⟨g, 2, none⟩ = some (.string a2) ∧ w'.cell? ⟨g, 3, none⟩ = some (.string a3) ∧ w'.cell? ⟨g, 4, none⟩ = some (.string a4)) (first | with_reducible exact ⟨c0, c1, c2, c3, c4⟩ | (refine FK.out _ ?_; (repeat (first | with_reducible exact Below.refl _ _ | with_reducible exact BX3.out | with_reducible exact BX2.out | with_reducible exact BX1.out | with_reducible exact BX0.out | with_reducible apply below_drew | with_reducible apply below_alloc | with_reducible apply below_set7 | (show _ ≤ _; omega) | (show _ ≤ _; simp only [World.size_alloc, World.size_drew]; omega))); done) | go_keep) (first | (go_at_call 21; with_reducible refine (CF0.out _).mono ?_; rintro e w4 ⟨rfl, hb⟩; (have BX0 : Aside0 (Below W.heap.size W w4) := ⟨bthen (by (repeat (first | with_reducible exact Below.refl _ _ | with_reducible exact BX3.out | with_reducible exact BX2.out | with_reducible exact BX1.out | with_reducible exact BX0.out | with_reducible apply below_drew | with_reducible apply below_alloc | with_reducible apply below_set7 | (show _ ≤ _; omega) | (show _ ≤ _; simp only [World.size_alloc, World.size_drew]; omega)))) hb⟩); (have z0 := BX0.out.size); (first | (have k5 := blk_keep (t := 27) (by (repeat (first | with_reducible exact blk_new _ _ | with_reducible exact k5 | with_reducible apply blk_drew))) hb; obtain ⟨⟨p0, p1, p2, p3, p4, p5, p6⟩, f0, f1, f2, f3, f4, f5, f6⟩ := all7 k5) | skip); clear hb) | (go_at_call 21; with_reducible refine (CF1.out _).mono ?_; rintro e w5 ⟨rfl, hb⟩; (have BX1 : Aside0 (Below W.heap.size W w5) := ⟨bthen (by (repeat (first | with_reducible exact Below.refl _ _ | with_reducible exact BX3.out | with_reducible exact BX2.out | with_reducible exact BX1.out | with_reducible exact BX0.out | with_reducible apply below_drew | with_reducible apply below_alloc | with_reducible apply below_set7 | (show _ ≤ _; omega) | (show _ ≤ _; simp only [World.size_alloc, World.size_drew]; omega)))) hb⟩); (have z1 := BX1.out.size); (first | (have k5 := blk_keep (t := 27) (by (repeat (first | with_reducible exact blk_new _ _ | with_reducible exact k5 | with_reducible apply blk_drew))) hb; obtain ⟨⟨p0, p1, p2, p3, p4, p5, p6⟩, f0, f1, f2, f3, f4, f5, f6⟩ := all7 k5) | skip); clear hb) | (go_at_call 21; with_reducible refine (CF2.out _).mono ?_; rintro e w6 ⟨rfl, hb⟩; (have BX2 : Aside0 (Below W.heap.size W w6) := ⟨bthen (by (repeat (first | with_reducible exact Below.refl _ _ | with_reducible exact BX3.out | with_reducible exact BX2.out | with_reducible exact BX1.out | with_reducible exact BX0.out | with_reducible apply below_drew | with_reducible apply below_alloc | with_reducible apply below_set7 | (show _ ≤ _; omega) | (show _ ≤ _; simp only [World.size_alloc, World.size_drew]; omega)))) hb⟩); (have z2 := BX2.out.size); (first | (have k5 := blk_keep (t := 27) (by (repeat (first | with_reducible exact blk_new _ _ | with_reducible exact k5 | with_reducible apply blk_drew))) hb; obtain ⟨⟨p0, p1, p2, p3, p4, p5, p6⟩, f0, f1, f2, f3, f4, f5, f6⟩ := all7 k5) | skip); clear hb) | (go_at_call 21; with_reducible refine (CF3.out _).mono ?_; rintro e w7 ⟨rfl, hb⟩; (have BX3 : Aside0 (Below W.heap.size W w7) := ⟨bthen (by (repeat (first | with_reducible exact Below.refl _ _ | with_reducible exact BX3.out | with_reducible exact BX2.out | with_reducible exact BX1.out | with_reducible exact BX0.out | with_reducible apply below_drew | with_reducible apply below_alloc | with_reducible apply below_set7 | (show _ ≤ _; omega) | (show _ ≤ _; simp only [World.size_alloc, World.size_drew]; omega)))) hb⟩); (have z3 := BX3.out.size); (first | (have k5 := blk_keep (t := 27) (by (repeat (first | with_reducible exact blk_new _ _ | with_reducible exact k5 | with_reducible apply blk_drew))) hb; obtain ⟨⟨p0, p1, p2, p3, p4, p5, p6⟩, f0, f1, f2, f3, f4, f5, f6⟩ := all7 k5) | skip); clear hb))
    all_goals go_wp2_with fail
    all_goals go_meet
    all_goals refine ⟨⟨_, rfl, ?_, ?_, ?_⟩⟩
    all_goals first | omega | (with_reducible exact blk_new _ _) | (with_reducible exact blk7 k5) | (repeat (first | with_reducible exact Below.refl _ _ | with_reducible exact BX3.out | with_reducible exact BX2.out | with_reducible exact BX1.out | with_reducible exact BX0.out | with_reducible apply below_drew | with_reducible apply below_alloc | with_reducible apply below_set7 | (show _ ≤ _; omega) | (show _ ≤ _; simp only [World.size_alloc, World.size_drew]; omega)))
  case rest =>
    have hRA := hcut.out
    obtain ⟨G, rfl, hG, hK, hB⟩ := hRA
    obtain ⟨c0, c1, c2, c3, c4⟩ := FK.out _ hB
    have HRG := Aside0.mk hK
    have HR2 := Aside0.mk (blk_keep HK1.out hB)
    have HB2 := Aside0.mk (bthen HB1.out hB)
    have HBW := Aside0.mk hB
    have HG := Aside0.mk hG
    clear hK hB hG CF0 CF1 CF2 CF3 eX HK1 HB1
    go_upto_region 8 with (go_at_call 21; with_reducible refine (CF4.out _).mono ?_; rintro e w9 ⟨rfl, hb⟩; (have HRG9 := Aside0.mk (blk_keep HRG.out hb)); (have HR9 := Aside0.mk (blk_keep HR2.out hb)); (have HB9 := Aside0.mk (bthen HB2.out hb)); (have HC9 := Aside0.mk (FK.out _ (bthen HBW.out hb))); clear hb c0 c1 c2 c3 c4)
    clear HRG HR2 HB2 HBW
    obtain ⟨c0, c1, c2, c3, c4⟩ := HC9.out
    have eY := HYY.out
    obtain ⟨⟨k0, k1, k2, k3, k4, k5, k6⟩, f0, f1, f2, f3, f4, f5, f6⟩ := all7 HRG9.out
    cases Y with
    | false =>
      have HWK := Aside0.mk (week_doc S4 HW4.out)
      go_upto_region 11 with (fail)
      rw [HWK.out]
      obtain ⟨WX, hWX⟩ : ∃ WX, WX = w9.setCell ⟨G, 4, none⟩ (.int .u64 (weekOf S4 : Nat)) := ⟨_, rfl⟩
      have HGX : Aside0 (WX.heap[G]? = some (.cells #[.int .u64 S0, .int .u64 S1, .int .u64 S2, .int .u64 S3, .int .u64 (weekOf S4 : Nat), .bool X, .bool false] 27 (0, 0))) := ⟨by rw [hWX]; exact blk_put HRG9.out 4 _ rfl⟩
      have HRX : Aside0 (WX.heap[w.heap.size]? = some (.cells #[.int .u64 0, .int .u64 0, .int .u64 0, .int .u64 0, .int .u64 0, .bool false, .bool false] 27 (0, 0))) := ⟨by rw [hWX]; exact (Below.heap_setCell _ ⟨G, 4, none⟩ _ _ (by have := HG.out; show w.heap.size ≠ G; omega)).trans HR9.out⟩
      have HBX : Aside0 (Below w.heap.size w WX) := ⟨by rw [hWX]; exact HB9.out.setCell (p := ⟨G, 4, none⟩) (by have := HG.out; show w.heap.size ≤ G; omega) _⟩
      rw [← hWX]
      clear hWX k0 k1 k2 k3 k4 k5 k6 f0 f1 f2 f3 f4 f5 f6 c0 c1 c2 c3 c4
      obtain ⟨⟨k0, k1, k2, k3, k4, k5, k6⟩, _⟩ := all7 HGX.out
      obtain ⟨_, f0, f1, f2, f3, f4, f5, f6⟩ := all7 HRX.out
      by_cases q0 : S0 = 0
      · obtain ⟨rfl, rfl⟩ : R = #[.int .u64 0, .int .u64 0, .int .u64 0, .int .u64 0, .int .u64 0, .bool false, .bool false] ∧ E = 12 := by
          have := HR.out
          rwa [if_neg (fun hh => hh.1 q0)] at this
        have z0 : ((S0 : Int) == 0) = true := by simpa using q0
        clear q0
        go_wp2
        refine bodyPost_ret (results_ct rfl _ _ w.heap.size 27 #[.int .u64 0, .int .u64 0, .int .u64 0, .int .u64 0, .int .u64 0, .bool false, .bool false] (0, 0) _ rfl (blk7 HRX.out) Tryd.underlying27 rfl (by kernel_rfl)) rfl ?_
        exact ⟨rfl, below_set7 HBX.out (Nat.le_refl _) _ _ _ _ _ _ _⟩
      by_cases q1 : S1 = 0
      · obtain ⟨rfl, rfl⟩ : R = #[.int .u64 0, .int .u64 0, .int .u64 0, .int .u64 0, .int .u64 0, .bool false, .bool false] ∧ E = 12 := by
          have := HR.out
          rwa [if_neg (fun hh => hh.2.1 q1)] at this
        have z0 : ((S0 : Int) == 0) = false := by simpa using q0
        have z1 : ((S1 : Int) == 0) = true := by simpa using q1
        clear q0 q1
        go_wp2
        refine bodyPost_ret (results_ct rfl _ _ w.heap.size 27 #[.int .u64 0, .int .u64 0, .int .u64 0, .int .u64 0, .int .u64 0, .bool false, .bool false] (0, 0) _ rfl (blk7 HRX.out) Tryd.underlying27 rfl (by kernel_rfl)) rfl ?_
        exact ⟨rfl, below_set7 HBX.out (Nat.le_refl _) _ _ _ _ _ _ _⟩
      by_cases q2 : S2 = 0
      · obtain ⟨rfl, rfl⟩ : R = #[.int .u64 0, .int .u64 0, .int .u64 0, .int .u64 0, .int .u64 0, .bool false, .bool false] ∧ E = 12 := by
          have := HR.out
          rwa [if_neg (fun hh => hh.2.2.1 q2)] at this
        have z0 : ((S0 : Int) == 0) = false := by simpa using q0
        have z1 : ((S1 : Int) == 0) = false := by simpa using q1
        have z2 : ((S2 : Int) == 0) = true := by simpa using q2
        clear q0 q1 q2
        go_wp2
        refine bodyPost_ret (results_ct rfl _ _ w.heap.size 27 #[.int .u64 0, .int .u64 0, .int .u64 0, .int .u64 0, .int .u64 0, .bool false, .bool false] (0, 0) _ rfl (blk7 HRX.out) Tryd.underlying27 rfl (by kernel_rfl)) rfl ?_
        exact ⟨rfl, below_set7 HBX.out (Nat.le_refl _) _ _ _ _ _ _ _⟩
      by_cases q3 : S3 = 0
      · obtain ⟨rfl, rfl⟩ : R = #[.int .u64 0, .int .u64 0, .int .u64 0, .int .u64 0, .int .u64 0, .bool false, .bool false] ∧ E = 12 := by
          have := HR.out
          rwa [if_neg (fun hh => hh.2.2.2.1 q3)] at this
        have z0 : ((S0 : Int) == 0) = false := by simpa using q0
        have z1 : ((S1 : Int) == 0) = false := by simpa using q1
        have z2 : ((S2 : Int) == 0) = false := by simpa using q2
        have z3 : ((S3 : Int) == 0) = true := by simpa using q3
        clear q0 q1 q2 q3
        go_wp2
        refine bodyPost_ret (results_ct rfl _ _ w.heap.size 27 #[.int .u64 0, .int .u64 0, .int .u64 0, .int .u64 0, .int .u64 0, .bool false, .bool false] (0, 0) _ rfl (blk7 HRX.out) Tryd.underlying27 rfl (by kernel_rfl)) rfl ?_
        exact ⟨rfl, below_set7 HBX.out (Nat.le_refl _) _ _ _ _ _ _ _⟩
      by_cases q4 : S4 = 0
      · obtain ⟨rfl, rfl⟩ : R = #[.int .u64 0, .int .u64 0, .int .u64 0, .int .u64 0, .int .u64 0, .bool false, .bool false] ∧ E = 12 := by
          have := HR.out
          rwa [if_neg (fun hh => hh.2.2.2.2 q4)] at this
        have z0 : ((S0 : Int) == 0) = false := by simpa using q0
        have z1 : ((S1 : Int) == 0) = false := by simpa using q1
        have z2 : ((S2 : Int) == 0) = false := by simpa using q2
        have z3 : ((S3 : Int) == 0) = false := by simpa using q3
        have z4 : ((S4 : Int) == 0) = true := by simpa using q4
        clear q0 q1 q2 q3 q4
        go_wp2
        refine bodyPost_ret (results_ct rfl _ _ w.heap.size 27 #[.int .u64 0, .int .u64 0, .int .u64 0, .int .u64 0, .int .u64 0, .bool false, .bool false] (0, 0) _ rfl (blk7 HRX.out) Tryd.underlying27 rfl (by kernel_rfl)) rfl ?_
        exact ⟨rfl, below_set7 HBX.out (Nat.le_refl _) _ _ _ _ _ _ _⟩
      obtain ⟨rfl, rfl⟩ : R = #[.int .u64 S0, .int .u64 S1, .int .u64 S2, .int .u64 S3, .int .u64 (weekOf S4 : Nat), .bool X, .bool false] ∧ E = 0 := by
        have := HR.out
        rwa [if_pos ⟨q0, q1, q2, q3, q4⟩] at this
      have z0 : ((S0 : Int) == 0) = false := by simpa using q0
      have z1 : ((S1 : Int) == 0) = false := by simpa using q1
      have z2 : ((S2 : Int) == 0) = false := by simpa using q2
      have z3 : ((S3 : Int) == 0) = false := by simpa using q3
      have z4 : ((S4 : Int) == 0) = false := by simpa using q4
      clear q0 q1 q2 q3 q4
      go_wp2
      refine bodyPost_ret (results_ct rfl _ _ w.heap.size 27 #[.int .u64 S0, .int .u64 S1, .int .u64 S2, .int .u64 S3, .int .u64 (weekOf S4 : Nat), .bool X, .bool false] (0, 0) _ rfl (blk7 HRX.out) Tryd.underlying27 rfl (by kernel_rfl)) rfl ?_
      exact ⟨rfl, below_set7 HBX.out (Nat.le_refl _) _ _ _ _ _ _ _⟩
    | true =>
      have h255 := HX.out rfl
      have HWK : Aside0 (bits .or .u64 (bits .and .u64 127 127) (bits .and .u64 0 1) = ((weekOf S4 : Nat) : Int)) := ⟨by rw [h255]; rfl⟩
      have HQ4 : S4 ≠ 0 := by omega
      have HH255 := Aside0.mk h255
      clear h255
      go_upto_region 11 with (fail)
      rw [HWK.out]
      obtain ⟨WX, hWX⟩ : ∃ WX, WX = w9.setCell ⟨G, 4, none⟩ (.int .u64 (weekOf S4 : Nat)) := ⟨_, rfl⟩
      have HGX : Aside0 (WX.heap[G]? = some (.cells #[.int .u64 S0, .int .u64 S1, .int .u64 S2, .int .u64 S3, .int .u64 (weekOf S4 : Nat), .bool X, .bool true] 27 (0, 0))) := ⟨by rw [hWX]; exact blk_put HRG9.out 4 _ rfl⟩
      have HRX : Aside0 (WX.heap[w.heap.size]? = some (.cells #[.int .u64 0, .int .u64 0, .int .u64 0, .int .u64 0, .int .u64 0, .bool false, .bool false] 27 (0, 0))) := ⟨by rw [hWX]; exact (Below.heap_setCell _ ⟨G, 4, none⟩ _ _ (by have := HG.out; show w.heap.size ≠ G; omega)).trans HR9.out⟩
      have HBX : Aside0 (Below w.heap.size w WX) := ⟨by rw [hWX]; exact HB9.out.setCell (p := ⟨G, 4, none⟩) (by have := HG.out; show w.heap.size ≤ G; omega) _⟩
      rw [← hWX]
      clear hWX k0 k1 k2 k3 k4 k5 k6 f0 f1 f2 f3 f4 f5 f6 c0 c1 c2 c3 c4
      obtain ⟨⟨k0, k1, k2, k3, k4, k5, k6⟩, _⟩ := all7 HGX.out
      obtain ⟨_, f0, f1, f2, f3, f4, f5, f6⟩ := all7 HRX.out
      by_cases q0 : S0 = 0
      · obtain ⟨rfl, rfl⟩ : R = #[.int .u64 0, .int .u64 0, .int .u64 0, .int .u64 0, .int .u64 0, .bool false, .bool false] ∧ E = 12 := by
          have := HR.out
          rwa [if_neg (fun hh => hh.1 q0)] at this
        have z0 : ((S0 : Int) == 0) = true := by simpa using q0
        clear q0
        go_wp2
        refine bodyPost_ret (results_ct rfl _ _ w.heap.size 27 #[.int .u64 0, .int .u64 0, .int .u64 0, .int .u64 0, .int .u64 0, .bool false, .bool false] (0, 0) _ rfl (blk7 HRX.out) Tryd.underlying27 rfl (by kernel_rfl)) rfl ?_
        exact ⟨rfl, below_set7 HBX.out (Nat.le_refl _) _ _ _ _ _ _ _⟩
      by_cases q1 : S1 = 0
      · obtain ⟨rfl, rfl⟩ : R = #[.int .u64 0, .int .u64 0, .int .u64 0, .int .u64 0, .int .u64 0, .bool false, .bool false] ∧ E = 12 := by
          have := HR.out
          rwa [if_neg (fun hh => hh.2.1 q1)] at this
        have z0 : ((S0 : Int) == 0) = false := by simpa using q0
        have z1 : ((S1 : Int) == 0) = true := by simpa using q1
        clear q0 q1
        go_wp2
        refine bodyPost_ret (results_ct rfl _ _ w.heap.size 27 #[.int .u64 0, .int .u64 0, .int .u64 0, .int .u64 0, .int .u64 0, .bool false, .bool false] (0, 0) _ rfl (blk7 HRX.out) Tryd.underlying27 rfl (by kernel_rfl)) rfl ?_
        exact ⟨rfl, below_set7 HBX.out (Nat.le_refl _) _ _ _ _ _ _ _⟩
      by_cases q2 : S2 = 0
      · obtain ⟨rfl, rfl⟩ : R = #[.int .u64 0, .int .u64 0, .int .u64 0, .int .u64 0, .int .u64 0, .bool false, .bool false] ∧ E = 12 := by
          have := HR.out
          rwa [if_neg (fun hh => hh.2.2.1 q2)] at this
        have z0 : ((S0 : Int) == 0) = false := by simpa using q0
        have z1 : ((S1 : Int) == 0) = false := by simpa using q1
        have z2 : ((S2 : Int) == 0) = true := by simpa using q2
        clear q0 q1 q2
        go_wp2
        refine bodyPost_ret (results_ct rfl _ _ w.heap.size 27 #[.int .u64 0, .int .u64 0, .int .u64 0, .int .u64 0, .int .u64 0, .bool false, .bool false] (0, 0) _ rfl (blk7 HRX.out) Tryd.underlying27 rfl (by kernel_rfl)) rfl ?_
        exact ⟨rfl, below_set7 HBX.out (Nat.le_refl _) _ _ _ _ _ _ _⟩
      by_cases q3 : S3 = 0
      · obtain ⟨rfl, rfl⟩ : R = #[.int .u64 0, .int .u64 0, .int .u64 0, .int .u64 0, .int .u64 0, .bool false, .bool false] ∧ E = 12 := by
          have := HR.out
          rwa [if_neg (fun hh => hh.2.2.2.1 q3)] at this
        have z0 : ((S0 : Int) == 0) = false := by simpa using q0
        have z1 : ((S1 : Int) == 0) = false := by simpa using q1
        have z2 : ((S2 : Int) == 0) = false := by simpa using q2
        have z3 : ((S3 : Int) == 0) = true := by simpa using q3
        clear q0 q1 q2 q3
        go_wp2
        refine bodyPost_ret (results_ct rfl _ _ w.heap.size 27 #[.int .u64 0, .int .u64 0, .int .u64 0, .int .u64 0, .int .u64 0, .bool false, .bool false] (0, 0) _ rfl (blk7 HRX.out) Tryd.underlying27 rfl (by kernel_rfl)) rfl ?_
        exact ⟨rfl, below_set7 HBX.out (Nat.le_refl _) _ _ _ _ _ _ _⟩
      obtain ⟨rfl, rfl⟩ : R = #[.int .u64 S0, .int .u64 S1, .int .u64 S2, .int .u64 S3, .int .u64 (weekOf S4 : Nat), .bool X, .bool true] ∧ E = 0 := by
        have := HR.out
        rwa [if_pos ⟨q0, q1, q2, q3, HQ4⟩] at this
      have z0 : ((S0 : Int) == 0) = false := by simpa using q0
      have z1 : ((S1 : Int) == 0) = false := by simpa using q1
      have z2 : ((S2 : Int) == 0) = false := by simpa using q2
      have z3 : ((S3 : Int) == 0) = false := by simpa using q3
      clear q0 q1 q2 q3
      go_wp2
      refine bodyPost_ret (results_ct rfl _ _ w.heap.size 27 #[.int .u64 S0, .int .u64 S1, .int .u64 S2, .int .u64 S3, .int .u64 (weekOf S4 : Nat), .bool X, .bool true] (0, 0) _ rfl (blk7 HRX.out) Tryd.underlying27 rfl (by kernel_rfl)) rfl ?_
      exact ⟨rfl, below_set7 HBX.out (Nat.le_refl _) _ _ _ _ _ _ _⟩
end Go.Proofs.YteloamnakikbbaaDoor.Cron

/- The document's next is the program's, of a rule that may be. No program. -/
namespace Go.Proofs.YteloamnakikbbaaDoor.Cron
set_option linter.unusedVariables false
set_option linter.unusedSimpArgs false
open Go.RowKit Go.Proofs.YteloamnakikbbaaDoorW.PrintWords Go.Proofs.YteloamnakikbbaaDoor.Base Go.Proofs.YteloamnakikbbaaDoor.CronPure

theorem star_bits : (∀ n : Nat, 1 ≤ n → n ≤ 31 → (4294967294 : Nat).testBit n = true) ∧ (∀ n : Nat, n ≤ 6 → (127 : Nat).testBit n = true) := by
  constructor
  · intro n h1 h2
    have : ∀ m, m < 32 → 1 ≤ m → (4294967294 : Nat).testBit m = true := by decide
    exact this n (by omega) h1
  · intro n h
    have : ∀ m, m < 7 → (127 : Nat).testBit m = true := by decide
    exact this n (by omega)
theorem onDay_eq {a b c d f : Nat} {x y : Bool} (hk : chkR a b c d f x y = true) (hc : c < 18446744073709551616) (hd : d < 18446744073709551616) (hf : f < 18446744073709551616) (D : Int) : onDayR c d f x y D = onDay c d f x y D := by
  obtain ⟨m1, m2, d1, d2⟩ := month_bounds D
  obtain ⟨w1, w2⟩ := week_bounds D
  unfold chkR starOk at hk
  simp only [Bool.and_eq_true, Bool.not_eq_true', Bool.and_eq_false_iff, bne_eq_false_iff_eq] at hk
  obtain ⟨_, hx, hy⟩ := hk
  unfold onDayR onDay dayP
  obtain ⟨M, hM⟩ : ∃ M : Nat, (M : Int) = monthP D := ⟨(monthP D).toNat, by rw [Int.toNat_of_nonneg]; exact Int.le_trans (by decide) m1⟩
  obtain ⟨K, hK⟩ : ∃ K : Nat, (K : Int) = domP D := ⟨(domP D).toNat, by rw [Int.toNat_of_nonneg]; exact Int.le_trans (by decide) d1⟩
  obtain ⟨V, hV⟩ : ∃ V : Nat, (V : Int) = weekP D := ⟨(weekP D).toNat, by rw [Int.toNat_of_nonneg]; exact w1⟩
  rw [← hM] at m1 m2
  rw [← hK] at d1 d2
  rw [← hV] at w1 w2
  rw [← hM, ← hK, ← hV, Int.toNat_natCast, Int.toNat_natCast, Int.toNat_natCast]
  clear hM hK hV
  rw [hasB_bit d M hd (by omega), hasB_bit c K hc (by omega), hasB_bit f V hf (by omega)]
  cases x with
  | true =>
    have hc2 : c = 4294967294 := by
      rcases hx with h | h
      · cases h
      · omega
    have hb : c.testBit K = true := by rw [hc2]; exact star_bits.1 K (by omega) (by omega)
    rw [hb]
    cases y with
    | true =>
      have hf2 : f = 127 := by
        rcases hy with h | h
        · cases h
        · omega
      have hb2 : f.testBit V = true := by rw [hf2]; exact star_bits.2 V (by omega)
      rw [hb2]
      cases d.testBit M <;> rfl
    | false => cases d.testBit M <;> cases f.testBit V <;> rfl
  | false =>
    cases y with
    | true =>
      have hf2 : f = 127 := by
        rcases hy with h | h
        · cases h
        · omega
      have hb2 : f.testBit V = true := by rw [hf2]; exact star_bits.2 V (by omega)
      rw [hb2]
      cases d.testBit M <;> cases c.testBit K <;> rfl
    | false => cases d.testBit M <;> cases c.testBit K <;> cases f.testBit V <;> rfl
theorem docT_eq {a b c d f : Nat} {x y : Bool} (hk : chkR a b c d f x y = true) (ha : a < 18446744073709551616) (hb : b < 18446744073709551616) (hc : c < 18446744073709551616) (hd : d < 18446744073709551616) (hf : f < 18446744073709551616) (t : Int) (t0 : -1 ≤ t) (t1 : t < 32503680000) : docT a b c d f x y t = nextT a b c d f x y t := by
  obtain ⟨h1, h2⟩ := chkR_sets ha hb hk
  have ha0 : a ≠ 0 := fun h => by
    subst h
    simp [chkR, setOk, badS] at hk
  have e : (fun D : Nat => onDayR c d f x y (D : Int)) = fun D : Nat => onDay c d f x y (D : Int) := by
    funext D
    exact onDay_eq hk hc hd hf D
  rw [docT, nextT, nextP_Q, e]
  exact doc_next h1 h2 ha0 t0 t1
end Go.Proofs.YteloamnakikbbaaDoor.Cron

/- The document's Parse and Next of a rule's text: the program's. -/
namespace Go.Proofs.YteloamnakikbbaaDoor.Cron
set_option linter.unusedVariables false
set_option linter.unusedSimpArgs false
open Go.RowKit Go.Proofs.YteloamnakikbbaaDoorW.PrintWords Go.Proofs.YteloamnakikbbaaDoorW.PrintLast Go.Proofs.YteloamnakikbbaaDoor.Base Go.Proofs.YteloamnakikbbaaDoor.Cells Go.Proofs.YteloamnakikbbaaDoor.CronPure Go.Proofs.YteloamnakikbbaaDoor.NamesPure

theorem sets_all (s : ByteArray) : sets5 s = true ↔ (setN s 0 ≠ 0 ∧ setN s 1 ≠ 0 ∧ setN s 2 ≠ 0 ∧ setN s 3 ≠ 0 ∧ setN s 4 ≠ 0) := by
  have h := fun i => set_zero s i
  unfold sets5
  simp only [Bool.and_eq_true]
  have hk : ∀ i, (setAt s i).isSome = true ↔ setN s i ≠ 0 := fun i => by
    rw [Ne, h i]
    cases (setAt s i).isSome <;> simp
  rw [hk 0, hk 1, hk 2, hk 3, hk 4]
theorem rparse_any (s : ByteArray) (w : World) :
    Calls Tryd.prog 8 #[.string s] w fun e w' => e = .returned (.tuple #[.agg (ruleV s), .int .i64 (parseE s)]) ∧ Below w.heap.size w w' := by
  by_cases h1 : 400 < s.size
  · have h := rparse_no s w (.inl h1)
    have e : parseE s = 5 := by rw [parseE, if_pos h1]
    rw [if_pos h1] at h
    rw [ruleV, e]
    exact h
  by_cases h2 : (wordsP s).length = 5
  · have hw : ∀ i, (wordAt s i).size ≤ 1000 := fun i => by have := word_size s i (by omega); omega
    refine rparse_main s w (by omega) h2 (wordAt s 0) (wordAt s 1) (wordAt s 2) (wordAt s 3) (wordAt s 4) (setN s 0) (setN s 1) (setN s 2) (setN s 3) (setN s 4) _ _ (ruleV s) (parseE s) rfl rfl rfl rfl rfl rfl rfl
      ⟨fun W => rfield_any 0 59 (wordAt s 0) W (hw 0) (by decide) (by decide) (by decide)⟩ ⟨fun W => rfield_any 0 23 (wordAt s 1) W (hw 1) (by decide) (by decide) (by decide)⟩ ⟨fun W => rfield_any 1 31 (wordAt s 2) W (hw 2) (by decide) (by decide) (by decide)⟩
      ⟨fun W => rfield_any 1 12 (wordAt s 3) W (hw 3) (by decide) (by decide) (by decide)⟩ ⟨fun W => rfield_any 0 7 (wordAt s 4) W (hw 4) (by decide) (by decide) (by decide)⟩ (week_lt s) (fun hy => week_star (by simpa using hy)) ⟨?_⟩
    have hE : parseE s = if sets5 s then 0 else 12 := by rw [parseE, if_neg h1, if_neg (by omega)]
    split
    · rename_i q
      have h5 := (sets_all s).2 q
      have e : parseE s = 0 := by rw [hE, h5]; rfl
      refine ⟨?_, e⟩
      rw [ruleV, if_pos e]
    · rename_i q
      have h5 : sets5 s = false := Bool.eq_false_iff.2 fun g => q ((sets_all s).1 g)
      have e : parseE s = 12 := by rw [hE, h5]; rfl
      refine ⟨?_, e⟩
      rw [ruleV, e]
      rfl
  · have h := rparse_no s w (.inr ⟨by omega, h2⟩)
    have e : parseE s = 3 := by rw [parseE, if_neg h1, if_pos h2]
    rw [if_neg h1] at h
    rw [ruleV, e]
    exact h
theorem rF_lt (s : ByteArray) : rF s < 18446744073709551616 := by
  unfold rF
  split
  · have h := week_lt s
    have : weekOf (setN s 4) < 2 ^ 8 := Nat.or_lt_two_pow (Nat.lt_of_le_of_lt Nat.and_le_left h) (by rw [Nat.shiftRight_eq_div_pow]; omega)
    omega
  · decide
/-- the document's Next of a rule's text -/
theorem rnext_rule (s : ByteArray) (now : Int) (w : World) (n0 : -1 ≤ now) (n1 : now < 32503680000) :
    Calls Tryd.prog 12 #[.agg (ruleV s), .int .i64 now] w fun e w' => ∃ ne, e = .returned (.tuple #[.int .i64 (nxP s now).1, .bool (nxP s now).2, .int .i64 ne]) ∧ Below w.heap.size w w' := by
  rw [ruleV_eq]
  cases hk : chkR (rA s 0 : Nat) (rA s 1 : Nat) (rA s 2 : Nat) (rA s 3 : Nat) (rF s : Nat) (rX s) (rY s) with
  | false =>
    refine (rnext_bad _ _ _ _ _ _ _ now w hk).mono fun e w' q => ⟨9, ?_, q.2⟩
    have h0 : nextR s now = none := by rw [nextR, hk]; rfl
    rw [q.1, nxP, h0]
    rfl
  | true =>
    refine (rnext_good _ _ _ _ _ _ _ now w hk n0 n1 (rA_lt s 0) (rA_lt s 1) (rA_lt s 2) (rA_lt s 3) (rF_lt s)).mono fun e w' q => ⟨0, ?_, q.2⟩
    have h0 : nextR s now = nextT (rA s 0) (rA s 1) (rA s 2) (rA s 3) (rF s) (rX s) (rY s) now := by rw [nextR, hk]; rfl
    rw [q.1, nxP, h0, docT_eq hk (rA_lt s 0) (rA_lt s 1) (rA_lt s 2) (rA_lt s 3) (rF_lt s) now n0 n1]
end Go.Proofs.YteloamnakikbbaaDoor.Cron

/- JobRecurs, walked. -/
namespace Go.Proofs.YteloamnakikbbaaDoor.JRec
set_option linter.unusedVariables false
set_option linter.unusedSimpArgs false
open Go.RowKit Go.Proofs.YteloamnakikbbaaDoorW.PrintWords Go.Proofs.YteloamnakikbbaaDoorW.PrintLast Go.Proofs.YteloamnakikbbaaDoor.Base Go.Proofs.YteloamnakikbbaaDoor.Cells Go.Proofs.YteloamnakikbbaaDoor.JobPure Go.Proofs.YteloamnakikbbaaDoor.Job

theorem now_bd (now : Int) : 0 ≤ (wrap64 (now.tmod 1000000000 + 1000000000)).tmod 1000000000 ∧ (wrap64 (now.tmod 1000000000 + 1000000000)).tmod 1000000000 < 1000000000 := by
  have h1 : -1000000000 < now.tmod 1000000000 := Int.lt_tmod_of_pos _ (by decide)
  have h2 : now.tmod 1000000000 < 1000000000 := Int.tmod_lt_of_pos _ (by decide)
  have h3 : wrap64 (now.tmod 1000000000 + 1000000000) = now.tmod 1000000000 + 1000000000 := by
    unfold wrap64
    omega
  rw [h3, Int.tmod_eq_emod_of_nonneg (by omega)]
  omega
set_option maxRecDepth 100000 in
set_option maxHeartbeats 4000000 in
theorem rec_empty (rule : ByteArray) (b c t now : Int) (w : World) (E LE CE : Int) (v0 v1 v2 v3 v4 : Int) (vx vy : Bool) (CP : Aside0 (∀ W, Calls Tryd.prog 8 #[.string rule] W fun e w' => e = .returned (.tuple #[.agg #[.int .u64 v0, .int .u64 v1, .int .u64 v2, .int .u64 v3, .int .u64 v4, .bool vx, .bool vy], .int .i64 E]) ∧ Below W.heap.size W w')) (CL : Aside0 (∀ W, Calls Tryd.prog 9 #[.agg #[.int .i64 b, .int .i64 c, .int .i64 t]] W fun e w' => e = .returned (.int .i64 LE) ∧ Below W.heap.size W w')) (CC : Aside0 (∀ W, Below w.heap.size w W → Calls Tryd.prog 11 #[.agg #[.int .i64 1, .string ⟨#[]⟩, .string rule, .string ⟨#[]⟩, .int .i64 1, .int .i64 0, .int .i64 0, .int .i64 0, .int .i64 0, .int .i64 0]] W fun e w' => e = .returned (.int .i64 CE) ∧ Below W.heap.size W w')) (hE : (E != 0) = true) (hr : rule = ⟨#[]⟩) :
    Calls Tryd.prog 3 #[.string rule, .agg #[.int .i64 b, .int .i64 c, .int .i64 t], .int .i64 now] w fun e w' => e = .returned (.bool true) ∧ Below w.heap.size w w' := by
  subst hr
  go_enter Tryd.func3, Tryd.ntmps3
  go_wp2_with (first | (go_at_call 7; with_reducible refine (alive_any _).mono ?_; rintro e w1 ⟨rfl, hb⟩; (have HB1 := Aside0.mk (bthen (below_alloc (Below.refl _ w) _) hb)); (have HL1 := Aside0.mk (blk_keep (blk_new w (.cells #[.int .i64 b, .int .i64 c, .int .i64 t] 23)) hb)); clear hb) | (go_at_call 8; with_reducible refine (CP.out _).mono ?_; rintro e w2 ⟨rfl, hb⟩; (have HB2 := Aside0.mk (below_alloc (bthen HB1.out hb) (.cells #[.int .u64 v0, .int .u64 v1, .int .u64 v2, .int .u64 v3, .int .u64 v4, .bool vx, .bool vy] 27))); (have HL2 := Aside0.mk (blk_alloc (blk_keep HL1.out hb) (.cells #[.int .u64 v0, .int .u64 v1, .int .u64 v2, .int .u64 v3, .int .u64 v4, .bool vx, .bool vy] 27))); (have HR2 := Aside0.mk (blk_new w2 (.cells #[.int .u64 v0, .int .u64 v1, .int .u64 v2, .int .u64 v3, .int .u64 v4, .bool vx, .bool vy] 27))); clear hb; obtain ⟨l0, l1, l2, _, _, _⟩ := all3 HL2.out))
  go_ret
  exact ⟨rfl, HB2.out⟩
set_option maxRecDepth 100000 in
set_option maxHeartbeats 4000000 in
theorem rec_bad (rule : ByteArray) (b c t now : Int) (w : World) (E LE CE : Int) (v0 v1 v2 v3 v4 : Int) (vx vy : Bool) (CP : Aside0 (∀ W, Calls Tryd.prog 8 #[.string rule] W fun e w' => e = .returned (.tuple #[.agg #[.int .u64 v0, .int .u64 v1, .int .u64 v2, .int .u64 v3, .int .u64 v4, .bool vx, .bool vy], .int .i64 E]) ∧ Below W.heap.size W w')) (CL : Aside0 (∀ W, Calls Tryd.prog 9 #[.agg #[.int .i64 b, .int .i64 c, .int .i64 t]] W fun e w' => e = .returned (.int .i64 LE) ∧ Below W.heap.size W w')) (CC : Aside0 (∀ W, Below w.heap.size w W → Calls Tryd.prog 11 #[.agg #[.int .i64 1, .string ⟨#[]⟩, .string rule, .string ⟨#[]⟩, .int .i64 1, .int .i64 0, .int .i64 0, .int .i64 0, .int .i64 0, .int .i64 0]] W fun e w' => e = .returned (.int .i64 CE) ∧ Below W.heap.size W w')) (hE : (E != 0) = true) (r1 : ¬ rule.toList = []) (r2 : rule.toList.isEmpty = false) (hC : (CE != 0) = true) :
    Calls Tryd.prog 3 #[.string rule, .agg #[.int .i64 b, .int .i64 c, .int .i64 t], .int .i64 now] w fun e w' => e = .returned (.bool true) ∧ Below w.heap.size w w' := by
  go_enter Tryd.func3, Tryd.ntmps3
  go_wp2_with (first | (go_at_call 7; with_reducible refine (alive_any _).mono ?_; rintro e w1 ⟨rfl, hb⟩; (have HB1 := Aside0.mk (bthen (below_alloc (Below.refl _ w) _) hb)); (have HL1 := Aside0.mk (blk_keep (blk_new w (.cells #[.int .i64 b, .int .i64 c, .int .i64 t] 23)) hb)); clear hb) | (go_at_call 8; with_reducible refine (CP.out _).mono ?_; rintro e w2 ⟨rfl, hb⟩; (have HB2 := Aside0.mk (below_alloc (bthen HB1.out hb) (.cells #[.int .u64 v0, .int .u64 v1, .int .u64 v2, .int .u64 v3, .int .u64 v4, .bool vx, .bool vy] 27))); (have HL2 := Aside0.mk (blk_alloc (blk_keep HL1.out hb) (.cells #[.int .u64 v0, .int .u64 v1, .int .u64 v2, .int .u64 v3, .int .u64 v4, .bool vx, .bool vy] 27))); (have HR2 := Aside0.mk (blk_new w2 (.cells #[.int .u64 v0, .int .u64 v1, .int .u64 v2, .int .u64 v3, .int .u64 v4, .bool vx, .bool vy] 27))); clear hb; obtain ⟨l0, l1, l2, _, _, _⟩ := all3 HL2.out) | (go_at_call 11; with_reducible refine (CC.out _ HB2.out).mono ?_; rintro e w4 ⟨rfl, hb⟩; (have HB4 := Aside0.mk (bthen HB2.out hb)); (have HL4 := Aside0.mk (blk_keep HL2.out hb)); clear hb; (try clear l0 l1 l2); obtain ⟨l0, l1, l2, _, _, _⟩ := all3 HL4.out) | (go_at_call 10; with_reducible refine (num_any _ _).mono ?_; rintro e w9 ⟨rfl, rfl⟩))
  go_ret
  exact ⟨rfl, HB4.out⟩
set_option maxRecDepth 100000 in
set_option maxHeartbeats 4000000 in
theorem rec_lim0 (rule : ByteArray) (b c t now : Int) (w : World) (E LE CE : Int) (v0 v1 v2 v3 v4 : Int) (vx vy : Bool) (CP : Aside0 (∀ W, Calls Tryd.prog 8 #[.string rule] W fun e w' => e = .returned (.tuple #[.agg #[.int .u64 v0, .int .u64 v1, .int .u64 v2, .int .u64 v3, .int .u64 v4, .bool vx, .bool vy], .int .i64 E]) ∧ Below W.heap.size W w')) (CL : Aside0 (∀ W, Calls Tryd.prog 9 #[.agg #[.int .i64 b, .int .i64 c, .int .i64 t]] W fun e w' => e = .returned (.int .i64 LE) ∧ Below W.heap.size W w')) (CC : Aside0 (∀ W, Below w.heap.size w W → Calls Tryd.prog 11 #[.agg #[.int .i64 1, .string ⟨#[]⟩, .string rule, .string ⟨#[]⟩, .int .i64 1, .int .i64 0, .int .i64 0, .int .i64 0, .int .i64 0, .int .i64 0]] W fun e w' => e = .returned (.int .i64 CE) ∧ Below W.heap.size W w')) (hE : E = 0) (r1 : ¬ rule.toList = []) (r2 : rule.toList.isEmpty = false) (hL : (LE != 0) = true) (hC : CE = 0) :
    Calls Tryd.prog 3 #[.string rule, .agg #[.int .i64 b, .int .i64 c, .int .i64 t], .int .i64 now] w fun e w' => e = .returned (.bool true) ∧ Below w.heap.size w w' := by
  subst hE hC
  go_enter Tryd.func3, Tryd.ntmps3
  go_wp2_with (first | (go_at_call 7; with_reducible refine (alive_any _).mono ?_; rintro e w1 ⟨rfl, hb⟩; (have HB1 := Aside0.mk (bthen (below_alloc (Below.refl _ w) _) hb)); (have HL1 := Aside0.mk (blk_keep (blk_new w (.cells #[.int .i64 b, .int .i64 c, .int .i64 t] 23)) hb)); clear hb) | (go_at_call 8; with_reducible refine (CP.out _).mono ?_; rintro e w2 ⟨rfl, hb⟩; (have HB2 := Aside0.mk (below_alloc (bthen HB1.out hb) (.cells #[.int .u64 v0, .int .u64 v1, .int .u64 v2, .int .u64 v3, .int .u64 v4, .bool vx, .bool vy] 27))); (have HL2 := Aside0.mk (blk_alloc (blk_keep HL1.out hb) (.cells #[.int .u64 v0, .int .u64 v1, .int .u64 v2, .int .u64 v3, .int .u64 v4, .bool vx, .bool vy] 27))); (have HR2 := Aside0.mk (blk_new w2 (.cells #[.int .u64 v0, .int .u64 v1, .int .u64 v2, .int .u64 v3, .int .u64 v4, .bool vx, .bool vy] 27))); clear hb; obtain ⟨l0, l1, l2, _, _, _⟩ := all3 HL2.out) | (go_at_call 9; with_reducible refine (CL.out _).mono ?_; rintro e w3 ⟨rfl, hb⟩; (have HB3 := Aside0.mk (bthen HB2.out hb)); (have HLX := Aside0.mk (blk_keep HL2.out hb)); (have HR3 := Aside0.mk (blk_keep HR2.out hb)); clear hb l0 l1 l2; obtain ⟨l0, l1, l2, _, _, _⟩ := all3 HLX.out) | (go_at_call 11; with_reducible refine (CC.out _ HB3.out).mono ?_; rintro e w4 ⟨rfl, hb⟩; (have HB4 := Aside0.mk (bthen HB3.out hb)); (have HL4 := Aside0.mk (blk_keep HLX.out hb)); clear hb; (try clear l0 l1 l2); obtain ⟨l0, l1, l2, _, _, _⟩ := all3 HL4.out) | (go_at_call 10; with_reducible refine (num_any _ _).mono ?_; rintro e w9 ⟨rfl, rfl⟩) | (go_at_call 9; with_reducible refine (CL.out _).mono ?_; rintro e w5 ⟨rfl, hb⟩; (have HB5 := Aside0.mk (bthen HB4.out hb)); clear hb))
  go_ret
  exact ⟨rfl, HB5.out⟩
set_option maxRecDepth 100000 in
set_option maxHeartbeats 4000000 in
theorem rec_lim9 (rule : ByteArray) (b c t now : Int) (w : World) (E LE CE : Int) (v0 v1 v2 v3 v4 : Int) (vx vy : Bool) (CP : Aside0 (∀ W, Calls Tryd.prog 8 #[.string rule] W fun e w' => e = .returned (.tuple #[.agg #[.int .u64 v0, .int .u64 v1, .int .u64 v2, .int .u64 v3, .int .u64 v4, .bool vx, .bool vy], .int .i64 E]) ∧ Below W.heap.size W w')) (CL : Aside0 (∀ W, Calls Tryd.prog 9 #[.agg #[.int .i64 b, .int .i64 c, .int .i64 t]] W fun e w' => e = .returned (.int .i64 LE) ∧ Below W.heap.size W w')) (CC : Aside0 (∀ W, Below w.heap.size w W → Calls Tryd.prog 11 #[.agg #[.int .i64 1, .string ⟨#[]⟩, .string rule, .string ⟨#[]⟩, .int .i64 1, .int .i64 0, .int .i64 0, .int .i64 0, .int .i64 0, .int .i64 0]] W fun e w' => e = .returned (.int .i64 CE) ∧ Below W.heap.size W w')) (hE : E = 0) (r1 : ¬ rule.toList = []) (r2 : rule.toList.isEmpty = false) (hL : (LE != 0) = true) (hC : (CE != 0) = true) :
    Calls Tryd.prog 3 #[.string rule, .agg #[.int .i64 b, .int .i64 c, .int .i64 t], .int .i64 now] w fun e w' => e = .returned (.bool true) ∧ Below w.heap.size w w' := by
  subst hE
  go_enter Tryd.func3, Tryd.ntmps3
  go_wp2_with (first | (go_at_call 7; with_reducible refine (alive_any _).mono ?_; rintro e w1 ⟨rfl, hb⟩; (have HB1 := Aside0.mk (bthen (below_alloc (Below.refl _ w) _) hb)); (have HL1 := Aside0.mk (blk_keep (blk_new w (.cells #[.int .i64 b, .int .i64 c, .int .i64 t] 23)) hb)); clear hb) | (go_at_call 8; with_reducible refine (CP.out _).mono ?_; rintro e w2 ⟨rfl, hb⟩; (have HB2 := Aside0.mk (below_alloc (bthen HB1.out hb) (.cells #[.int .u64 v0, .int .u64 v1, .int .u64 v2, .int .u64 v3, .int .u64 v4, .bool vx, .bool vy] 27))); (have HL2 := Aside0.mk (blk_alloc (blk_keep HL1.out hb) (.cells #[.int .u64 v0, .int .u64 v1, .int .u64 v2, .int .u64 v3, .int .u64 v4, .bool vx, .bool vy] 27))); (have HR2 := Aside0.mk (blk_new w2 (.cells #[.int .u64 v0, .int .u64 v1, .int .u64 v2, .int .u64 v3, .int .u64 v4, .bool vx, .bool vy] 27))); clear hb; obtain ⟨l0, l1, l2, _, _, _⟩ := all3 HL2.out) | (go_at_call 9; with_reducible refine (CL.out _).mono ?_; rintro e w3 ⟨rfl, hb⟩; (have HB3 := Aside0.mk (bthen HB2.out hb)); (have HLX := Aside0.mk (blk_keep HL2.out hb)); (have HR3 := Aside0.mk (blk_keep HR2.out hb)); clear hb l0 l1 l2; obtain ⟨l0, l1, l2, _, _, _⟩ := all3 HLX.out) | (go_at_call 11; with_reducible refine (CC.out _ HB3.out).mono ?_; rintro e w4 ⟨rfl, hb⟩; (have HB4 := Aside0.mk (bthen HB3.out hb)); (have HL4 := Aside0.mk (blk_keep HLX.out hb)); clear hb; (try clear l0 l1 l2); obtain ⟨l0, l1, l2, _, _, _⟩ := all3 HL4.out) | (go_at_call 10; with_reducible refine (num_any _ _).mono ?_; rintro e w9 ⟨rfl, rfl⟩))
  go_ret
  exact ⟨rfl, HB4.out⟩
set_option maxRecDepth 100000 in
set_option maxHeartbeats 4000000 in
theorem rec_long (rule : ByteArray) (b c t now : Int) (w : World) (E LE CE : Int) (v0 v1 v2 v3 v4 : Int) (vx vy : Bool) (CP : Aside0 (∀ W, Calls Tryd.prog 8 #[.string rule] W fun e w' => e = .returned (.tuple #[.agg #[.int .u64 v0, .int .u64 v1, .int .u64 v2, .int .u64 v3, .int .u64 v4, .bool vx, .bool vy], .int .i64 E]) ∧ Below W.heap.size W w')) (CL : Aside0 (∀ W, Calls Tryd.prog 9 #[.agg #[.int .i64 b, .int .i64 c, .int .i64 t]] W fun e w' => e = .returned (.int .i64 LE) ∧ Below W.heap.size W w')) (CC : Aside0 (∀ W, Below w.heap.size w W → Calls Tryd.prog 11 #[.agg #[.int .i64 1, .string ⟨#[]⟩, .string rule, .string ⟨#[]⟩, .int .i64 1, .int .i64 0, .int .i64 0, .int .i64 0, .int .i64 0, .int .i64 0]] W fun e w' => e = .returned (.int .i64 CE) ∧ Below W.heap.size W w')) (hE : E = 0) (r1 : ¬ rule.toList = []) (r2 : rule.toList.isEmpty = false) (hL : LE = 0) (hz : 200 < rule.size) (hC : (CE != 0) = true) :
    Calls Tryd.prog 3 #[.string rule, .agg #[.int .i64 b, .int .i64 c, .int .i64 t], .int .i64 now] w fun e w' => e = .returned (.bool true) ∧ Below w.heap.size w w' := by
  subst hE hL
  go_enter Tryd.func3, Tryd.ntmps3
  go_wp2_with (first | (go_at_call 7; with_reducible refine (alive_any _).mono ?_; rintro e w1 ⟨rfl, hb⟩; (have HB1 := Aside0.mk (bthen (below_alloc (Below.refl _ w) _) hb)); (have HL1 := Aside0.mk (blk_keep (blk_new w (.cells #[.int .i64 b, .int .i64 c, .int .i64 t] 23)) hb)); clear hb) | (go_at_call 8; with_reducible refine (CP.out _).mono ?_; rintro e w2 ⟨rfl, hb⟩; (have HB2 := Aside0.mk (below_alloc (bthen HB1.out hb) (.cells #[.int .u64 v0, .int .u64 v1, .int .u64 v2, .int .u64 v3, .int .u64 v4, .bool vx, .bool vy] 27))); (have HL2 := Aside0.mk (blk_alloc (blk_keep HL1.out hb) (.cells #[.int .u64 v0, .int .u64 v1, .int .u64 v2, .int .u64 v3, .int .u64 v4, .bool vx, .bool vy] 27))); (have HR2 := Aside0.mk (blk_new w2 (.cells #[.int .u64 v0, .int .u64 v1, .int .u64 v2, .int .u64 v3, .int .u64 v4, .bool vx, .bool vy] 27))); clear hb; obtain ⟨l0, l1, l2, _, _, _⟩ := all3 HL2.out) | (go_at_call 9; with_reducible refine (CL.out _).mono ?_; rintro e w3 ⟨rfl, hb⟩; (have HB3 := Aside0.mk (bthen HB2.out hb)); (have HLX := Aside0.mk (blk_keep HL2.out hb)); (have HR3 := Aside0.mk (blk_keep HR2.out hb)); clear hb l0 l1 l2; obtain ⟨l0, l1, l2, _, _, _⟩ := all3 HLX.out) | (go_at_call 11; with_reducible refine (CC.out _ HB3.out).mono ?_; rintro e w4 ⟨rfl, hb⟩; (have HB4 := Aside0.mk (bthen HB3.out hb)); (have HL4 := Aside0.mk (blk_keep HLX.out hb)); clear hb; (try clear l0 l1 l2); obtain ⟨l0, l1, l2, _, _, _⟩ := all3 HL4.out) | (go_at_call 10; with_reducible refine (num_any _ _).mono ?_; rintro e w9 ⟨rfl, rfl⟩))
  go_ret
  exact ⟨rfl, HB4.out⟩
set_option maxRecDepth 100000 in
set_option maxHeartbeats 4000000 in
theorem rec_main (rule : ByteArray) (b c t now : Int) (w : World) (E LE CE : Int) (v0 v1 v2 v3 v4 : Int) (vx vy : Bool) (CP : Aside0 (∀ W, Calls Tryd.prog 8 #[.string rule] W fun e w' => e = .returned (.tuple #[.agg #[.int .u64 v0, .int .u64 v1, .int .u64 v2, .int .u64 v3, .int .u64 v4, .bool vx, .bool vy], .int .i64 E]) ∧ Below W.heap.size W w')) (CL : Aside0 (∀ W, Calls Tryd.prog 9 #[.agg #[.int .i64 b, .int .i64 c, .int .i64 t]] W fun e w' => e = .returned (.int .i64 LE) ∧ Below W.heap.size W w')) (CC : Aside0 (∀ W, Below w.heap.size w W → Calls Tryd.prog 11 #[.agg #[.int .i64 1, .string ⟨#[]⟩, .string rule, .string ⟨#[]⟩, .int .i64 1, .int .i64 0, .int .i64 0, .int .i64 0, .int .i64 0, .int .i64 0]] W fun e w' => e = .returned (.int .i64 CE) ∧ Below W.heap.size W w')) (hE : E = 0) (hL : LE = 0) (r1 : ¬ rule.toList = []) (r2 : rule.toList.isEmpty = false) (hz : rule.size ≤ 200) (t1 : 1 ≤ t) (t16 : t ≤ 16) (NT : Int → Int) (NB : Int → Bool)
    (CN : Aside0 (∀ n W, 0 ≤ n → n < 1000000000 → Calls Tryd.prog 12 #[.agg #[.int .u64 v0, .int .u64 v1, .int .u64 v2, .int .u64 v3, .int .u64 v4, .bool vx, .bool vy], .int .i64 n] W fun e w' => ∃ ne, e = .returned (.tuple #[.int .i64 (NT n), .bool (NB n), .int .i64 ne]) ∧ Below W.heap.size W w'))
    (CFI : Aside0 (∀ n W, 0 ≤ n → n < 1000000000 → Below w.heap.size w W → Calls Tryd.prog 13 #[.agg #[.int .i64 1, .string ⟨#[]⟩, .string rule, .string ⟨#[]⟩, .int .i64 2, .int .i64 0, .int .i64 (t - 1), .int .i64 1, .int .i64 1, .int .i64 n], .int .i64 n] W fun e w' => e = .returned (.tuple #[.agg (if NB n then #[.int .i64 1, .string ⟨#[]⟩, .string rule, .string ⟨#[]⟩, .int .i64 1, .int .i64 (NT n), .int .i64 0, .int .i64 0, .int .i64 0, .int .i64 0] else #[.int .i64 0, .string ⟨#[]⟩, .string ⟨#[]⟩, .string ⟨#[]⟩, .int .i64 0, .int .i64 0, .int .i64 0, .int .i64 0, .int .i64 0, .int .i64 0]), .bool (NB n), .int .i64 0]) ∧ Below W.heap.size W w'))
    (CFA : Aside0 (∀ n W, 0 ≤ n → n < 1000000000 → Below w.heap.size w W → Calls Tryd.prog 14 #[.agg #[.int .i64 1, .string ⟨#[]⟩, .string rule, .string ⟨#[]⟩, .int .i64 2, .int .i64 0, .int .i64 (t - 1), .int .i64 1, .int .i64 1, .int .i64 n], .agg #[.int .i64 b, .int .i64 c, .int .i64 t], .int .i64 n] W fun e w' => e = .returned (.tuple #[.agg (if NB n then #[.int .i64 1, .string ⟨#[]⟩, .string rule, .string ⟨#[]⟩, .int .i64 1, .int .i64 (NT n), .int .i64 0, .int .i64 0, .int .i64 0, .int .i64 0] else #[.int .i64 1, .string ⟨#[]⟩, .string ⟨#[]⟩, .string ⟨#[]⟩, .int .i64 3, .int .i64 n, .int .i64 t, .int .i64 0, .int .i64 0, .int .i64 0]), .int .i64 0]) ∧ Below W.heap.size W w')) :
    Calls Tryd.prog 3 #[.string rule, .agg #[.int .i64 b, .int .i64 c, .int .i64 t], .int .i64 now] w fun e w' => e = .returned (.bool true) ∧ Below w.heap.size w w' := by
  subst hE hL
  have tw : IntKind.i64.wrap (t - 1) = t - 1 := by rw [IntKind.wrap_i64]; omega
  clear CC
  go_enter Tryd.func3, Tryd.ntmps3
  go_upto_region 4 with (go_at_call 7; with_reducible refine (alive_any _).mono ?_; rintro e w1 ⟨rfl, hb⟩; (have HB1 := Aside0.mk (bthen (below_alloc (Below.refl _ w) _) hb)); (have HL1 := Aside0.mk (blk_keep (blk_new w (.cells #[.int .i64 b, .int .i64 c, .int .i64 t] 23)) hb)); clear hb)
  obtain ⟨n, hn⟩ : ∃ n, (wrap64 (now.tmod 1000000000 + 1000000000)).tmod 1000000000 = n := ⟨_, rfl⟩
  have hnb : 0 ≤ n ∧ n < 1000000000 := by rw [← hn]; exact now_bd now
  obtain ⟨n0, n1⟩ := hnb
  rw [hn]
  clear hn
  have hz' : ¬ 200 < rule.size := by omega
  obtain ⟨T, hT⟩ := named (NT n)
  cases hBv : NB n with
  | false =>
    have CX : Aside0 (∀ W, Calls Tryd.prog 12 #[.agg #[.int .u64 v0, .int .u64 v1, .int .u64 v2, .int .u64 v3, .int .u64 v4, .bool vx, .bool vy], .int .i64 n] W fun e w' => ∃ ne, e = .returned (.tuple #[.int .i64 T, .bool false, .int .i64 ne]) ∧ Below W.heap.size W w') := ⟨fun W => by rw [hT.out, ← hBv]; exact CN.out n W n0 n1⟩
    have CF : Aside0 (∀ W, Below w.heap.size w W → Calls Tryd.prog 13 #[.agg #[.int .i64 1, .string ⟨#[]⟩, .string rule, .string ⟨#[]⟩, .int .i64 2, .int .i64 0, .int .i64 (t - 1), .int .i64 1, .int .i64 1, .int .i64 n], .int .i64 n] W fun e w' => e = .returned (.tuple #[.agg #[.int .i64 0, .string ⟨#[]⟩, .string ⟨#[]⟩, .string ⟨#[]⟩, .int .i64 0, .int .i64 0, .int .i64 0, .int .i64 0, .int .i64 0, .int .i64 0], .bool false, .int .i64 0]) ∧ Below W.heap.size W w') := ⟨fun W hW => by have := CFI.out n W n0 n1 hW; rw [hBv, ← hT.out] at this; exact this⟩
    have CG : Aside0 (∀ W, Below w.heap.size w W → Calls Tryd.prog 14 #[.agg #[.int .i64 1, .string ⟨#[]⟩, .string rule, .string ⟨#[]⟩, .int .i64 2, .int .i64 0, .int .i64 (t - 1), .int .i64 1, .int .i64 1, .int .i64 n], .agg #[.int .i64 b, .int .i64 c, .int .i64 t], .int .i64 n] W fun e w' => e = .returned (.tuple #[.agg #[.int .i64 1, .string ⟨#[]⟩, .string ⟨#[]⟩, .string ⟨#[]⟩, .int .i64 3, .int .i64 n, .int .i64 t, .int .i64 0, .int .i64 0, .int .i64 0], .int .i64 0]) ∧ Below W.heap.size W w') := ⟨fun W hW => by have := CFA.out n W n0 n1 hW; rw [hBv, ← hT.out] at this; exact this⟩
    clear CN CFI CFA hT hBv
    go_wp2_with (first | (go_at_call 8; with_reducible refine (CP.out _).mono ?_; rintro e w2 ⟨rfl, hb⟩; (have HB2 := Aside0.mk (below_alloc (bthen HB1.out hb) (.cells #[.int .u64 v0, .int .u64 v1, .int .u64 v2, .int .u64 v3, .int .u64 v4, .bool vx, .bool vy] 27))); (have HL2 := Aside0.mk (blk_alloc (blk_keep HL1.out hb) (.cells #[.int .u64 v0, .int .u64 v1, .int .u64 v2, .int .u64 v3, .int .u64 v4, .bool vx, .bool vy] 27))); (have HR2 := Aside0.mk (blk_new w2 (.cells #[.int .u64 v0, .int .u64 v1, .int .u64 v2, .int .u64 v3, .int .u64 v4, .bool vx, .bool vy] 27))); clear hb; obtain ⟨l0, l1, l2, _, _, _⟩ := all3 HL2.out) | (go_at_call 9; with_reducible refine (CL.out _).mono ?_; rintro e w3 ⟨rfl, hb⟩; (have HB3 := Aside0.mk (bthen HB2.out hb)); (have HL3 := Aside0.mk (blk_keep HL2.out hb)); (have HR3 := Aside0.mk (blk_keep HR2.out hb)); clear hb l0 l1 l2; obtain ⟨l0, l1, l2, _, _, _⟩ := all3 HL3.out; obtain ⟨⟨k0, k1, k2, k3, k4, k5, k6⟩, _⟩ := Cron.all7 HR3.out) | (go_at_call 12; with_reducible refine (CX.out _).mono ?_; rintro e w4 ⟨ne, rfl, hb⟩; (have HB4 := Aside0.mk (below_alloc (bthen HB3.out hb) (.cells #[.int .i64 1, .string ⟨#[]⟩, .string rule, .string ⟨#[]⟩, .int .i64 2, .int .i64 0, .int .i64 (t - 1), .int .i64 1, .int .i64 1, .int .i64 n] 35))); (have HL4 := Aside0.mk (blk_alloc (blk_keep HL3.out hb) (.cells #[.int .i64 1, .string ⟨#[]⟩, .string rule, .string ⟨#[]⟩, .int .i64 2, .int .i64 0, .int .i64 (t - 1), .int .i64 1, .int .i64 1, .int .i64 n] 35))); (have HJ4 := Aside0.mk (blk_new w4 (.cells #[.int .i64 1, .string ⟨#[]⟩, .string rule, .string ⟨#[]⟩, .int .i64 2, .int .i64 0, .int .i64 (t - 1), .int .i64 1, .int .i64 1, .int .i64 n] 35))); clear l0 l1 l2 k0 k1 k2 k3 k4 k5 k6; obtain ⟨l0, l1, l2, _, _, _⟩ := all3 (blk_keep HL3.out hb); obtain ⟨j0, j1, j2, j3, j4, j5, j6, j7, j8, j9⟩ := all10 HJ4.out; clear hb) | (go_at_call 13; with_reducible refine (CF.out _ HB4.out).mono ?_; rintro e w5 ⟨rfl, hb⟩; (have HB5 := Aside0.mk (below_alloc (bthen HB4.out hb) (.cells #[.int .i64 0, .string ⟨#[]⟩, .string ⟨#[]⟩, .string ⟨#[]⟩, .int .i64 0, .int .i64 0, .int .i64 0, .int .i64 0, .int .i64 0, .int .i64 0] 35))); (have HL5 := Aside0.mk (blk_alloc (blk_keep HL4.out hb) (.cells #[.int .i64 0, .string ⟨#[]⟩, .string ⟨#[]⟩, .string ⟨#[]⟩, .int .i64 0, .int .i64 0, .int .i64 0, .int .i64 0, .int .i64 0, .int .i64 0] 35))); (have HJ5 := Aside0.mk (blk_alloc (blk_keep HJ4.out hb) (.cells #[.int .i64 0, .string ⟨#[]⟩, .string ⟨#[]⟩, .string ⟨#[]⟩, .int .i64 0, .int .i64 0, .int .i64 0, .int .i64 0, .int .i64 0, .int .i64 0] 35))); (have HA5 := Aside0.mk (blk_new w5 (.cells #[.int .i64 0, .string ⟨#[]⟩, .string ⟨#[]⟩, .string ⟨#[]⟩, .int .i64 0, .int .i64 0, .int .i64 0, .int .i64 0, .int .i64 0, .int .i64 0] 35))); clear hb l0 l1 l2 j0 j1 j2 j3 j4 j5 j6 j7 j8 j9; obtain ⟨l0, l1, l2, _, _, _⟩ := all3 HL5.out; obtain ⟨j0, j1, j2, j3, j4, j5, j6, j7, j8, j9⟩ := all10 HJ5.out) | (go_at_call 14; with_reducible refine (CG.out _ HB5.out).mono ?_; rintro e w6 ⟨rfl, hb⟩; (have HB6 := Aside0.mk (below_alloc (bthen HB5.out hb) (.cells #[.int .i64 1, .string ⟨#[]⟩, .string ⟨#[]⟩, .string ⟨#[]⟩, .int .i64 3, .int .i64 n, .int .i64 t, .int .i64 0, .int .i64 0, .int .i64 0] 35))); (have HA6 := Aside0.mk (blk_alloc (blk_keep HA5.out hb) (.cells #[.int .i64 1, .string ⟨#[]⟩, .string ⟨#[]⟩, .string ⟨#[]⟩, .int .i64 3, .int .i64 n, .int .i64 t, .int .i64 0, .int .i64 0, .int .i64 0] 35))); (have HF6 := Aside0.mk (blk_new w6 (.cells #[.int .i64 1, .string ⟨#[]⟩, .string ⟨#[]⟩, .string ⟨#[]⟩, .int .i64 3, .int .i64 n, .int .i64 t, .int .i64 0, .int .i64 0, .int .i64 0] 35))); clear hb l0 l1 l2 j0 j1 j2 j3 j4 j5 j6 j7 j8 j9; obtain ⟨a0, a1, a2, a3, a4, a5, a6, a7, a8, a9⟩ := all10 HA6.out; obtain ⟨b0, b1, b2, b3, b4, b5, b6, b7, b8, b9⟩ := all10 HF6.out) | (go_at_call 10; with_reducible refine (num_any _ _).mono ?_; rintro e w9 ⟨rfl, rfl⟩))
    go_ret
    exact ⟨rfl, HB6.out⟩
  | true =>
    have CX : Aside0 (∀ W, Calls Tryd.prog 12 #[.agg #[.int .u64 v0, .int .u64 v1, .int .u64 v2, .int .u64 v3, .int .u64 v4, .bool vx, .bool vy], .int .i64 n] W fun e w' => ∃ ne, e = .returned (.tuple #[.int .i64 T, .bool true, .int .i64 ne]) ∧ Below W.heap.size W w') := ⟨fun W => by rw [hT.out, ← hBv]; exact CN.out n W n0 n1⟩
    have CF : Aside0 (∀ W, Below w.heap.size w W → Calls Tryd.prog 13 #[.agg #[.int .i64 1, .string ⟨#[]⟩, .string rule, .string ⟨#[]⟩, .int .i64 2, .int .i64 0, .int .i64 (t - 1), .int .i64 1, .int .i64 1, .int .i64 n], .int .i64 n] W fun e w' => e = .returned (.tuple #[.agg #[.int .i64 1, .string ⟨#[]⟩, .string rule, .string ⟨#[]⟩, .int .i64 1, .int .i64 T, .int .i64 0, .int .i64 0, .int .i64 0, .int .i64 0], .bool true, .int .i64 0]) ∧ Below W.heap.size W w') := ⟨fun W hW => by have := CFI.out n W n0 n1 hW; rw [hBv, ← hT.out] at this; exact this⟩
    have CG : Aside0 (∀ W, Below w.heap.size w W → Calls Tryd.prog 14 #[.agg #[.int .i64 1, .string ⟨#[]⟩, .string rule, .string ⟨#[]⟩, .int .i64 2, .int .i64 0, .int .i64 (t - 1), .int .i64 1, .int .i64 1, .int .i64 n], .agg #[.int .i64 b, .int .i64 c, .int .i64 t], .int .i64 n] W fun e w' => e = .returned (.tuple #[.agg #[.int .i64 1, .string ⟨#[]⟩, .string rule, .string ⟨#[]⟩, .int .i64 1, .int .i64 T, .int .i64 0, .int .i64 0, .int .i64 0, .int .i64 0], .int .i64 0]) ∧ Below W.heap.size W w') := ⟨fun W hW => by have := CFA.out n W n0 n1 hW; rw [hBv, ← hT.out] at this; exact this⟩
    clear CN CFI CFA hT hBv
    go_wp2_with (first | (go_at_call 8; with_reducible refine (CP.out _).mono ?_; rintro e w2 ⟨rfl, hb⟩; (have HB2 := Aside0.mk (below_alloc (bthen HB1.out hb) (.cells #[.int .u64 v0, .int .u64 v1, .int .u64 v2, .int .u64 v3, .int .u64 v4, .bool vx, .bool vy] 27))); (have HL2 := Aside0.mk (blk_alloc (blk_keep HL1.out hb) (.cells #[.int .u64 v0, .int .u64 v1, .int .u64 v2, .int .u64 v3, .int .u64 v4, .bool vx, .bool vy] 27))); (have HR2 := Aside0.mk (blk_new w2 (.cells #[.int .u64 v0, .int .u64 v1, .int .u64 v2, .int .u64 v3, .int .u64 v4, .bool vx, .bool vy] 27))); clear hb; obtain ⟨l0, l1, l2, _, _, _⟩ := all3 HL2.out) | (go_at_call 9; with_reducible refine (CL.out _).mono ?_; rintro e w3 ⟨rfl, hb⟩; (have HB3 := Aside0.mk (bthen HB2.out hb)); (have HL3 := Aside0.mk (blk_keep HL2.out hb)); (have HR3 := Aside0.mk (blk_keep HR2.out hb)); clear hb l0 l1 l2; obtain ⟨l0, l1, l2, _, _, _⟩ := all3 HL3.out; obtain ⟨⟨k0, k1, k2, k3, k4, k5, k6⟩, _⟩ := Cron.all7 HR3.out) | (go_at_call 12; with_reducible refine (CX.out _).mono ?_; rintro e w4 ⟨ne, rfl, hb⟩; (have HB4 := Aside0.mk (below_alloc (bthen HB3.out hb) (.cells #[.int .i64 1, .string ⟨#[]⟩, .string rule, .string ⟨#[]⟩, .int .i64 2, .int .i64 0, .int .i64 (t - 1), .int .i64 1, .int .i64 1, .int .i64 n] 35))); (have HL4 := Aside0.mk (blk_alloc (blk_keep HL3.out hb) (.cells #[.int .i64 1, .string ⟨#[]⟩, .string rule, .string ⟨#[]⟩, .int .i64 2, .int .i64 0, .int .i64 (t - 1), .int .i64 1, .int .i64 1, .int .i64 n] 35))); (have HJ4 := Aside0.mk (blk_new w4 (.cells #[.int .i64 1, .string ⟨#[]⟩, .string rule, .string ⟨#[]⟩, .int .i64 2, .int .i64 0, .int .i64 (t - 1), .int .i64 1, .int .i64 1, .int .i64 n] 35))); clear l0 l1 l2 k0 k1 k2 k3 k4 k5 k6; obtain ⟨l0, l1, l2, _, _, _⟩ := all3 (blk_keep HL3.out hb); obtain ⟨j0, j1, j2, j3, j4, j5, j6, j7, j8, j9⟩ := all10 HJ4.out; clear hb) | (go_at_call 13; with_reducible refine (CF.out _ HB4.out).mono ?_; rintro e w5 ⟨rfl, hb⟩; (have HB5 := Aside0.mk (below_alloc (bthen HB4.out hb) (.cells #[.int .i64 1, .string ⟨#[]⟩, .string rule, .string ⟨#[]⟩, .int .i64 1, .int .i64 T, .int .i64 0, .int .i64 0, .int .i64 0, .int .i64 0] 35))); (have HL5 := Aside0.mk (blk_alloc (blk_keep HL4.out hb) (.cells #[.int .i64 1, .string ⟨#[]⟩, .string rule, .string ⟨#[]⟩, .int .i64 1, .int .i64 T, .int .i64 0, .int .i64 0, .int .i64 0, .int .i64 0] 35))); (have HJ5 := Aside0.mk (blk_alloc (blk_keep HJ4.out hb) (.cells #[.int .i64 1, .string ⟨#[]⟩, .string rule, .string ⟨#[]⟩, .int .i64 1, .int .i64 T, .int .i64 0, .int .i64 0, .int .i64 0, .int .i64 0] 35))); (have HA5 := Aside0.mk (blk_new w5 (.cells #[.int .i64 1, .string ⟨#[]⟩, .string rule, .string ⟨#[]⟩, .int .i64 1, .int .i64 T, .int .i64 0, .int .i64 0, .int .i64 0, .int .i64 0] 35))); clear hb l0 l1 l2 j0 j1 j2 j3 j4 j5 j6 j7 j8 j9; obtain ⟨l0, l1, l2, _, _, _⟩ := all3 HL5.out; obtain ⟨j0, j1, j2, j3, j4, j5, j6, j7, j8, j9⟩ := all10 HJ5.out) | (go_at_call 14; with_reducible refine (CG.out _ HB5.out).mono ?_; rintro e w6 ⟨rfl, hb⟩; (have HB6 := Aside0.mk (below_alloc (bthen HB5.out hb) (.cells #[.int .i64 1, .string ⟨#[]⟩, .string rule, .string ⟨#[]⟩, .int .i64 1, .int .i64 T, .int .i64 0, .int .i64 0, .int .i64 0, .int .i64 0] 35))); (have HA6 := Aside0.mk (blk_alloc (blk_keep HA5.out hb) (.cells #[.int .i64 1, .string ⟨#[]⟩, .string rule, .string ⟨#[]⟩, .int .i64 1, .int .i64 T, .int .i64 0, .int .i64 0, .int .i64 0, .int .i64 0] 35))); (have HF6 := Aside0.mk (blk_new w6 (.cells #[.int .i64 1, .string ⟨#[]⟩, .string rule, .string ⟨#[]⟩, .int .i64 1, .int .i64 T, .int .i64 0, .int .i64 0, .int .i64 0, .int .i64 0] 35))); clear hb l0 l1 l2 j0 j1 j2 j3 j4 j5 j6 j7 j8 j9; obtain ⟨a0, a1, a2, a3, a4, a5, a6, a7, a8, a9⟩ := all10 HA6.out; obtain ⟨b0, b1, b2, b3, b4, b5, b6, b7, b8, b9⟩ := all10 HF6.out) | (go_at_call 10; with_reducible refine (num_any _ _).mono ?_; rintro e w9 ⟨rfl, rfl⟩))
    go_ret
    exact ⟨rfl, HB6.out⟩
end Go.Proofs.YteloamnakikbbaaDoor.JRec

/- JobRecurs: it answers true. -/
namespace Go.Proofs.YteloamnakikbbaaDoor.JRec
set_option linter.unusedVariables false
set_option linter.unusedSimpArgs false
open Go.RowKit Go.Proofs.YteloamnakikbbaaDoorW.PrintWords Go.Proofs.YteloamnakikbbaaDoorW.PrintLast Go.Proofs.YteloamnakikbbaaDoor.Base Go.Proofs.YteloamnakikbbaaDoor.Cells Go.Proofs.YteloamnakikbbaaDoor.JobPure Go.Proofs.YteloamnakikbbaaDoor.Job Go.Proofs.YteloamnakikbbaaDoor.JKeeps

theorem chk_rule_no {pe : Int} {r : ByteArray} (h0 : r ≠ ⟨#[]⟩) (h : pe ≠ 0 ∨ 200 < r.size) : chkE pe ⟨1, ⟨#[]⟩, r, ⟨#[]⟩, 1, 0, 0, 0, 0, 0⟩ = 9 := by
  have hc : chkC pe ⟨1, ⟨#[]⟩, r, ⟨#[]⟩, 1, 0, 0, 0, 0, 0⟩ = false := by
    have h1 : decide (r.size = 0) = false := decide_eq_false fun g => h0 (size0.1 g)
    unfold chkC
    simp only [h1, Bool.false_or]
    rcases h with h | h
    · have : (pe == 0) = false := by simpa using h
      rw [this, Bool.false_and]
    · have : decide (r.size ≤ 200) = false := decide_eq_false (by omega)
      rw [this, Bool.and_false]
  have : chk pe ⟨1, ⟨#[]⟩, r, ⟨#[]⟩, 1, 0, 0, 0, 0, 0⟩ = false := by rw [chk, hc, Bool.and_false]
  rw [chkE, this]
  rfl
theorem chk_held {r : ByteArray} {t n : Int} (hz : r.size ≤ 200) (t1 : 1 ≤ t) (t16 : t ≤ 16) (n0 : 0 ≤ n) (n1 : n < 1000000000) : chk 0 ⟨1, ⟨#[]⟩, r, ⟨#[]⟩, 2, 0, t - 1, 1, 1, n⟩ = true := by
  refine chk_iff.2 ⟨⟨by show (1 : Int) ≤ 1; omega, by show (1 : Int) ≤ 1099511627776; omega, by show (0 : Nat) ≤ 32; omega, by show (0 : Nat) ≤ 200; omega, by show (0 : Int) ≤ 0; omega, by show (0 : Int) ≤ 32503680000; omega, by show 0 ≤ t - 1; omega, by show t - 1 ≤ 16; omega⟩, ?_, ?_⟩
  · show (hmay 1 1 n && decide ((0 : Int) = 0)) = true
    have : hmay 1 1 n = true := decide_eq_true ⟨by omega, by omega, by omega, by omega, n0, by omega⟩
    rw [this]; rfl
  · unfold chkC
    have : decide (r.size ≤ 200) = true := decide_eq_true hz
    simp only [this]
    simp
theorem leased_held {r : ByteArray} {t n : Int} (n0 : 0 ≤ n) (n1 : n < 1000000000) : leasedE ⟨1, ⟨#[]⟩, r, ⟨#[]⟩, 2, 0, t - 1, 1, 1, n⟩ n = 0 := by
  rw [leasedE, if_pos rfl, if_pos ⟨n0, by omega⟩]
theorem again_held {r : ByteArray} {t n x : Int} (h0 : r ≠ ⟨#[]⟩) (nx : Int × Bool) : againJ nx ⟨1, ⟨#[]⟩, r, ⟨#[]⟩, 2, 0, x, 1, 1, n⟩ = (⟨1, ⟨#[]⟩, r, ⟨#[]⟩, 1, nx.1, 0, 0, 0, 0⟩, nx.2) := by
  rw [againJ, if_neg (fun h => h0 (size0.1 h))]
  rfl
theorem fin_held {r : ByteArray} {t n : Int} (h0 : r ≠ ⟨#[]⟩) (hz : r.size ≤ 200) (t1 : 1 ≤ t) (t16 : t ≤ 16) (n0 : 0 ≤ n) (n1 : n < 1000000000) (nx : Int × Bool) :
    finE 0 ⟨1, ⟨#[]⟩, r, ⟨#[]⟩, 2, 0, t - 1, 1, 1, n⟩ n = 0 ∧ finB 0 nx ⟨1, ⟨#[]⟩, r, ⟨#[]⟩, 2, 0, t - 1, 1, 1, n⟩ n = nx.2 ∧ finJ 0 nx ⟨1, ⟨#[]⟩, r, ⟨#[]⟩, 2, 0, t - 1, 1, 1, n⟩ n = if nx.2 then ⟨1, ⟨#[]⟩, r, ⟨#[]⟩, 1, nx.1, 0, 0, 0, 0⟩ else JobPure.j0 := by
  have e1 : finE 0 ⟨1, ⟨#[]⟩, r, ⟨#[]⟩, 2, 0, t - 1, 1, 1, n⟩ n = 0 := by rw [finE, chk_held hz t1 t16 n0 n1, if_pos rfl, leased_held n0 n1]
  have e2 : finB 0 nx ⟨1, ⟨#[]⟩, r, ⟨#[]⟩, 2, 0, t - 1, 1, 1, n⟩ n = nx.2 := by rw [finB, e1, again_held (t := t) h0]; simp
  refine ⟨e1, e2, ?_⟩
  rw [finJ, e2, again_held (t := t) h0]
theorem fail_held {r : ByteArray} {b c t n : Int} (h0 : r ≠ ⟨#[]⟩) (hz : r.size ≤ 200) (hl : limOk b c t = true) (n0 : 0 ≤ n) (n1 : n < 1000000000) (nx : Int × Bool) :
    failE 0 ⟨1, ⟨#[]⟩, r, ⟨#[]⟩, 2, 0, t - 1, 1, 1, n⟩ b c t n = 0 ∧ failJ 0 nx ⟨1, ⟨#[]⟩, r, ⟨#[]⟩, 2, 0, t - 1, 1, 1, n⟩ b c t n = if nx.2 then ⟨1, ⟨#[]⟩, r, ⟨#[]⟩, 1, nx.1, 0, 0, 0, 0⟩ else ⟨1, ⟨#[]⟩, ⟨#[]⟩, ⟨#[]⟩, 3, n, t, 0, 0, 0⟩ := by
  obtain ⟨_, _, _, _, t1, t16⟩ := limOk_iff.1 hl
  have e1 : failE 0 ⟨1, ⟨#[]⟩, r, ⟨#[]⟩, 2, 0, t - 1, 1, 1, n⟩ b c t n = 0 := by rw [failE, chk_held hz t1 t16 n0 n1, if_pos rfl, hl, if_pos rfl, leased_held n0 n1]
  have eT : failT ⟨1, ⟨#[]⟩, r, ⟨#[]⟩, 2, 0, t - 1, 1, 1, n⟩ = t := by show min (t - 1 + 1) 16 = t; omega
  refine ⟨e1, ?_⟩
  rw [failJ, if_pos e1, failG, eT, if_neg (fun h => by omega)]
  simp only [again_held (t := t) h0]
  split <;> rfl
theorem jc_if (c : Bool) (a b : Jb) : jc (if c then a else b) = if c then jc a else jc b := by cases c <;> rfl
theorem parse_empty : Cron.parseE ⟨#[]⟩ = 3 := by
  rw [Cron.parseE, if_neg (by decide), if_pos (by decide)]
theorem recurs_walk (rule : ByteArray) (b c t now : Int) (w : World) (hw : Cron.Laid w) (hz : rule.size ≤ 9223372036854775807) :
    Calls Tryd.prog 3 #[.string rule, .agg #[.int .i64 b, .int .i64 c, .int .i64 t], .int .i64 now] w fun e w' => e = .returned (.bool true) ∧ Below w.heap.size w w' := by
  have HTW : ∀ W, Below w.heap.size w W → Cron.Laid W := fun W h => Cron.laid_lasts _ _ hw h
  have HS := Cron.cron_says rule hz
  have hv := Cron.ruleV_eq rule
  have CP : Aside0 (∀ W, Calls Tryd.prog 8 #[.string rule] W fun e w' => e = .returned (.tuple #[.agg #[.int .u64 (Cron.rA rule 0 : Nat), .int .u64 (Cron.rA rule 1 : Nat), .int .u64 (Cron.rA rule 2 : Nat), .int .u64 (Cron.rA rule 3 : Nat), .int .u64 (Cron.rF rule : Nat), .bool (Cron.rX rule), .bool (Cron.rY rule)], .int .i64 (Cron.parseE rule)]) ∧ Below W.heap.size W w') :=
    ⟨fun W => by rw [← hv]; exact Cron.rparse_any rule W⟩
  have CL := Aside0.mk (fun W => rlim_any b c t W)
  have CC := Aside0.mk (fun W (h : Below w.heap.size w W) => check_any Cron.laid_lasts (Cron.parseE rule) ⟨1, ⟨#[]⟩, rule, ⟨#[]⟩, 1, 0, 0, 0, 0, 0⟩ W (HTW W h) HS.parse)
  by_cases h0 : rule = ⟨#[]⟩
  · refine rec_empty rule b c t now w _ _ _ _ _ _ _ _ _ _ CP CL CC ?_ h0
    rw [h0, parse_empty]; rfl
  obtain ⟨r1, r2⟩ := tl0 h0
  by_cases hE : Cron.parseE rule = 0
  · by_cases hL : limOk b c t = true
    · have hL0 : limE b c t = 0 := by rw [limE, hL]; rfl
      by_cases hsz : 200 < rule.size
      · have hC := chk_rule_no (pe := Cron.parseE rule) h0 (.inr hsz)
        exact rec_long rule b c t now w _ _ _ _ _ _ _ _ _ _ CP CL CC hE r1 r2 hL0 hsz (by rw [hC]; rfl)
      · obtain ⟨_, _, _, _, t1, t16⟩ := limOk_iff.1 hL
        have hz2 : rule.size ≤ 200 := by omega
        refine rec_main rule b c t now w _ _ _ _ _ _ _ _ _ _ CP CL CC hE hL0 r1 r2 hz2 t1 t16 (fun n => (Cron.nxP rule n).1) (fun n => (Cron.nxP rule n).2) ⟨fun n W n0 n1 => ?_⟩ ⟨fun n W n0 n1 hW => ?_⟩ ⟨fun n W n0 n1 hW => ?_⟩
        · rw [← hv]
          exact Cron.rnext_rule rule n W (by omega) (by omega)
        · have h := finish_any Cron.laid_lasts (Cron.parseE rule) (Cron.nxP rule) ⟨1, ⟨#[]⟩, rule, ⟨#[]⟩, 2, 0, t - 1, 1, 1, n⟩ n W (HTW W hW) HS
          obtain ⟨e1, e2, e3⟩ := fin_held (t := t) h0 hz2 t1 t16 n0 n1 (Cron.nxP rule n)
          rw [hE, e1, e2, e3, jc_if] at h
          exact h
        · have h := fail_any Cron.laid_lasts (Cron.parseE rule) (Cron.nxP rule) ⟨1, ⟨#[]⟩, rule, ⟨#[]⟩, 2, 0, t - 1, 1, 1, n⟩ b c t n W (HTW W hW) HS
          obtain ⟨e1, e2⟩ := fail_held (b := b) (c := c) h0 hz2 hL n0 n1 (Cron.nxP rule n)
          rw [hE, e1, e2, jc_if] at h
          exact h
    · have hL9 : (limE b c t != 0) = true := by
        have : limOk b c t = false := Bool.eq_false_iff.2 hL
        rw [limE, this]; rfl
      cases hck : chk (Cron.parseE rule) ⟨1, ⟨#[]⟩, rule, ⟨#[]⟩, 1, 0, 0, 0, 0, 0⟩ with
      | true => exact rec_lim0 rule b c t now w _ _ _ _ _ _ _ _ _ _ CP CL CC hE r1 r2 hL9 (by rw [chkE, hck]; rfl)
      | false => exact rec_lim9 rule b c t now w _ _ _ _ _ _ _ _ _ _ CP CL CC hE r1 r2 hL9 (by rw [chkE, hck]; rfl)
  · have hC := chk_rule_no (pe := Cron.parseE rule) h0 (.inl hE)
    exact rec_bad rule b c t now w _ _ _ _ _ _ _ _ _ _ CP CL CC (by simpa using hE) r1 r2 (by rw [hC]; rfl)
end Go.Proofs.YteloamnakikbbaaDoor.JRec

/- JobRecurs: for every input the law returns true, and what it is given stays (the library's tables as their initialisers lay them). -/
namespace Go.Proofs.YteloamnakikbbaaDoor.rowRecurs
open Go.ChangeShapes Go.WideShapes Go.ChangeAt Go.RowKit Go.Proofs.YteloamnakikbbaaDoor.Laid Go.Proofs.YteloamnakikbbaaDoor.LiftJ
open Go.ChangeMaps (open_string shut_string)
set_option linter.unusedVariables false
set_option linter.unusedSimpArgs false
set_option maxRecDepth 100000

theorem laid_met (os : Os) : laidMet Tryd.prog Rows.jobRecursRow.laid ((laidWorld os).forCall (fun _ _ => 0) ⟨#[], #[.string ⟨#[]⟩, .agg #[.int .i64 0, .int .i64 0, .int .i64 0], .int .i64 0], []⟩).memory :=
  laidMet_of_run' 8 (by kernel_rfl) (by kernel_rfl)
theorem reads (os : Os) {H : Type} (enc : TypeId × Value → H) : ∃ places, DataW.whole enc Tryd.prog ((laidWorld os).forCall (fun _ _ => 0) ⟨#[], #[.string ⟨#[]⟩, .agg #[.int .i64 0, .int .i64 0, .int .i64 0], .int .i64 0], []⟩).memory Tryd.f3.params.toList Rows.jobRecursSpec.vars false #[Value.string ⟨#[]⟩, .agg #[.int .i64 0, .int .i64 0, .int .i64 0], .int .i64 0].toList 8 = some ([.lit (.string []), .agg [.lit (.int .i64 0), .lit (.int .i64 0), .lit (.int .i64 0)], .lit (.int .i64 0)], [], places) :=
  ⟨[], by kernel_rfl⟩

theorem contract (H : Type) (enc : TypeId × Value → H) (W : World) (base : Nat) (args : Array Value) (ds gs : List (DataW H)) (before : List MemPlace)
    (hval : ∀ (j : Nat) t v, Tryd.f3.params[j]? = some t → args[j]? = some v → Value.okWide Tryd.prog W .any base t v)
    (hW : DataW.Whole enc Tryd.prog Tryd.f3.params.toList Rows.jobRecursSpec.vars false W args.toList ds gs before) (hL : laidMet Tryd.prog Rows.jobRecursRow.laid W) (hsh : W.ShapedOpen Tryd.prog) :
    Calls Tryd.prog 3 args W fun e W' => ∃ v, e = .returned v ∧ Rows.jobRecursSpec.post enc Tryd.prog Tryd.f3 false true false false W args v W' := by
  have hW' := hW
  obtain ⟨p, q, hA0, hV, rfl, hfz, hnd⟩ := hW
  have hA : DataW.TrodAll enc Tryd.prog W 0 (fun _ => true) true Tryd.f3.params.toList args.toList ds p := hA0
  rw [Tryd.params3] at hA hval
  obtain ⟨v0, vs0, d0, ds0, p0, q0, hargs, rfl, rfl, h0, r0⟩ := trodAll_cons hA
  obtain ⟨v1, vs1, d1, ds1, p1, q1, rfl, rfl, rfl, h1, r1⟩ := trodAll_cons r0
  obtain ⟨v2, vs2, d2, ds2, p2, q2, rfl, rfl, rfl, h2, r2⟩ := trodAll_cons r1
  obtain ⟨rfl, rfl, rfl⟩ := trodAll_nil r2
  obtain rfl : args = #[v0, v1, v2] := by cases args; simp_all
  obtain ⟨rfl, rfl⟩ := trodVars_none hV
  have k1 := h1
  have lt1 : ∀ x ∈ p1, x.block < W.heap.size := by obtain ⟨m, hm⟩ := k1; exact DataW.trod_lt m _ _ _ hm
  obtain ⟨a0, rfl, rfl, rfl, y0⟩ := open_string Tryd.underlying9 (hval 0 9 v0 rfl rfl) h0
  obtain ⟨cs, hcs, _⟩ := okWide_struct Tryd.underlying23 (hval 1 23 v1 rfl rfl)
  obtain ⟨fuel, hf⟩ := h1
  obtain ⟨b, c, t, rfl⟩ := trod_lim ⟨cs, hcs⟩ hf
  obtain ⟨a2, rfl, rfl, rfl, w2⟩ := open_int Tryd.underlying3 (hval 2 3 v2 rfl rfl) h2
  clear hA0
  have walk : Calls Tryd.prog 3 #[.string a0, .agg #[.int .i64 b, .int .i64 c, .int .i64 t], .int .i64 a2] W fun e w' => e = .returned (.bool true) ∧ Below W.heap.size W w' :=
    JRec.recurs_walk a0 b c t a2 W ⟨maxL hsh, tab64 hL⟩ (by unfold maxLen at y0; omega)
  refine walk.mono fun e W' ⟨he, bel⟩ => ?_
  subst he
  exact ⟨_, rfl, _, _, _, [], _, [], hW', trodAll_mk1 (shut_bool Tryd.underlying4 _), (trodAll_cons_mk (shut_string Tryd.underlying9 y0) (trodAll_cons_mk (Below.trod laidOut (by kernel_rfl) (of_decide_eq_true (by kernel_rfl)) k1 bel lt1) (trodAll_cons_mk (shut_int Tryd.underlying3 w2) trodAll_mk0))), rfl, bel.frame _, fun h => by cases h⟩

theorem lifted (os : Os) (started : os.Started) (H : Type) (enc : TypeId × Value → H) (F : Stop.Interp) :
    ReturnsInHanded {} Tryd.checked os 3 .any ((OpenSpec.ofChange Rows.jobRecursSpec).preRow enc Tryd.prog Tryd.f3 Rows.jobRecursRow.domain false Rows.jobRecursRow.laid) (((OpenSpec.ofChange Rows.jobRecursSpec).at F).post enc Tryd.prog Tryd.f3 false true false false) := by
  obtain ⟨places, hx⟩ := reads os enc
  refine returnsInHanded_of_row (C := Tryd.checked) (s := OpenSpec.ofChange Rows.jobRecursSpec) own started (by kernel_rfl) Tryd.func3
    (witness_row_at (enc := enc) (C := Tryd.checked) false (laidWorld os) #[.string ⟨#[]⟩, .agg #[.int .i64 0, .int .i64 0, .int .i64 0], .int .i64 0] rfl (by kernel_rfl) (by kernel_rfl) (by kernel_rfl)
      (OpenSpec.preRow_of_cond 8 hx (by kernel_rfl) (fun k hk => by cases hk) (by kernel_rfl) (laid_met os))) ?_
  intro W base args ds gs before hval hW _ _ _ hL hsh _
  exact contract H enc W base args ds gs before hval hW hL hsh

theorem said : Rows.JobRecursSaid :=
  OpenClaim.holds_of_cond 3 Tryd.f3 rfl rfl rfl rfl rfl rfl rfl ⟨rfl, rfl, rfl, rfl, rfl⟩ rfl rfl rfl rfl rfl (by kernel_rfl) Tryd.func3 (by kernel_rfl)
    (of_decide_eq_true (by kernel_rfl)) (by unfold Func.isWrapper; first | (rw [if_pos (by decide +kernel)]; kernel_rfl) | (rw [if_neg (by decide +kernel)]; exact ⟨rfl, rfl⟩))
    (fun os started H enc _ F => by rw [OpenClaim.pre_eq_preRow]; exact lifted os started H enc F)

theorem plain (f : FuncId) (fn : Func) (hf : Tryd.pinned.checked.prog.funcNamed "tickler/ticklerlaw19.JobRecurs" = some f) (hfn : Tryd.pinned.checked.prog.funcs[f]? = some fn) :
    false = Tryd.pinned.checked.prog.looks [] ∧ ∀ (j : Nat) t, fn.params[j]? = some t → Tryd.pinned.checked.prog.wantsStandIn t = false := by
  obtain rfl : f = 3 := Option.some.inj ((show Tryd.prog.funcNamed "tickler/ticklerlaw19.JobRecurs" = some 3 by kernel_rfl).symm.trans hf) |>.symm
  obtain rfl : fn = Tryd.f3 := (Option.some.inj (Tryd.func3.symm.trans hfn)).symm
  refine ⟨by kernel_rfl, fun j t ht => ?_⟩
  rw [Tryd.params3] at ht
  have hm := Array.mem_of_getElem? ht
  simp only [List.mem_toArray, List.mem_cons, List.not_mem_nil, or_false] at hm
  rcases hm with rfl | rfl | rfl
  · exact (show Tryd.prog.wantsStandIn 9 = false by kernel_rfl)
  · exact (show Tryd.prog.wantsStandIn 23 = false by kernel_rfl)
  · exact (show Tryd.prog.wantsStandIn 3 = false by kernel_rfl)

theorem card : Rows.JobRecursCardSaid :=
  Claim7.holds_tied_plain_at .later [] _ _ _ _ said (fun _ h => by cases h) (by kernel_rfl) (fun _ h => by cases h) jobRecurs_row_tie rfl ⟨rfl, rfl⟩ (by kernel_rfl) rfl plain (by kernel_rfl)
end Go.Proofs.YteloamnakikbbaaDoor.rowRecurs
namespace Go.Proofs.YteloamnakikbbaaDoor
theorem jobRecurs_holds : Rows.JobRecursCardSaid := rowRecurs.card
#print axioms jobRecurs_holds
end Go.Proofs.YteloamnakikbbaaDoor
