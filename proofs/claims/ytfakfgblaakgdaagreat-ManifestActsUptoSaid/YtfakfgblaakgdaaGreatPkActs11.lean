/- A part of the proof: The document's Size and Put of a number: walked. (Printed by wip/gen_rvar.py.) -/
import Derived.Test.YtfakfgblaakgdaaGreatPkActs10
import Derived.Deep.RegionLaw
import Derived.Deep.RegionHeld3
import Derived.Test.YtfakfgblaakgdaaGreatWEqStruct

/- The document's Size and Put of a number: walked. (Printed by wip/gen_rvar.py.) -/
namespace Go.Proofs.YtfakfgblaakgdaaGreat.Var
set_option linter.unusedVariables false
set_option linter.unusedSimpArgs false
open Go.RowKit Go.Proofs.YtfakfgblaakgdaaGreatW.PrintWords Go.Proofs.YtfakfgblaakgdaaGreatW.PrintLast Go.Proofs.YtfakfgblaakgdaaGreat.Base Go.Proofs.YtfakfgblaakgdaaGreat.Cells Go.Proofs.YtfakfgblaakgdaaGreat.VarPure

set_option maxRecDepth 100000 in
set_option maxHeartbeats 2000000 in
theorem rsize_any (n : Int) (h0 : 0 ≤ n) (h1 : n ≤ 18446744073709551615) (w : World) :
    Calls Tryz.prog 125 #[.int .u64 n] w fun e w' => e = .returned (.int .i64 (sizeN n.toNat)) ∧ w' = w := by
  obtain ⟨m, rfl⟩ : ∃ m : Nat, n = m := ⟨n.toNat, by omega⟩
  have HM : Aside0 (m < 2 ^ 64) := ⟨by have : (2 : Nat) ^ 64 = 18446744073709551616 := rfl; omega⟩
  obtain ⟨s, hs⟩ := named (sizeN m)
  have hsb := sizeN_pos m
  rw [← hs.out] at hsb
  rw [Int.toNat_natCast, ← hs.out]
  have HE : Aside0 (∀ k, 1 ≤ k → k ≤ 8 → (((m : Int) / ((2 ^ (7 * k) : Nat) : Int) == 0) = decide (s ≤ k))) := ⟨fun k hk hk8 => by
    have e1 : (m : Int) / ((2 ^ (7 * k) : Nat) : Int) = ((m / 2 ^ (7 * k) : Nat) : Int) := by simp
    rw [e1]
    by_cases h : m < 2 ^ (7 * k)
    · have h1 : s ≤ k := by rw [hs.out]; exact sizeN_lt hk hk8 h
      rw [Nat.div_eq_of_lt h]; simp [h1]
    · have h1 : ¬ s ≤ k := by have := sizeN_gt hk8 (by omega) HM.out; rw [hs.out]; omega
      have h2 : m / 2 ^ (7 * k) ≠ 0 := by
        have := Nat.div_pos (Nat.le_of_not_lt h) (Nat.pow_pos (n := 7 * k) (by decide : 0 < 2)); omega
      have h3 : ¬ ((m / 2 ^ (7 * k) : Nat) : Int) = 0 := by omega
      rw [decide_eq_false h1]
      exact beq_eq_false_iff_ne.2 h3⟩
  go_enter Tryz.func125, Tryz.ntmps125
  go_wp2
  go_loopg [3] 8 (fun g v3 wr => ∃ k : Nat, v3 = .int .i64 k ∧ g + k = 9 ∧ 1 ≤ k ∧ k ≤ s ∧ w = wr)
  case atStart => exact ⟨1, rfl, rfl, by omega, by omega, rfl⟩
  case round =>
    obtain ⟨k, rfl, hg, hk1, hks, rfl⟩ := hrel
    rcases (show k = 1 ∨ k = 2 ∨ k = 3 ∨ k = 4 ∨ k = 5 ∨ k = 6 ∨ k = 7 ∨ k = 8 ∨ k = 9 by omega) with rfl | rfl | rfl | rfl | rfl | rfl | rfl | rfl | rfl
    · have hd : ((m : Int) / 128 == 0) = decide (s ≤ 1) := HE.out 1 (by omega) (by omega)
      by_cases hsk : s ≤ 1
      · have hE : Aside0 (s = 1) := ⟨by omega⟩
        rw [decide_eq_true hsk] at hd
        go_wp2
        go_ret
        exact ⟨by rw [hE.out]; rfl, rfl⟩
      · rw [decide_eq_false hsk] at hd
        have hkn : 1 + 1 ≤ s := by omega
        go_wp2
        go_roundg 7
        case measure => omega
        case rel => exact ⟨2, rfl, rfl, by omega, by omega, rfl⟩
    · have hd : ((m : Int) / 16384 == 0) = decide (s ≤ 2) := HE.out 2 (by omega) (by omega)
      by_cases hsk : s ≤ 2
      · have hE : Aside0 (s = 2) := ⟨by omega⟩
        rw [decide_eq_true hsk] at hd
        go_wp2
        go_ret
        exact ⟨by rw [hE.out]; rfl, rfl⟩
      · rw [decide_eq_false hsk] at hd
        have hkn : 2 + 1 ≤ s := by omega
        go_wp2
        go_roundg 6
        case measure => omega
        case rel => exact ⟨3, rfl, rfl, by omega, by omega, rfl⟩
    · have hd : ((m : Int) / 2097152 == 0) = decide (s ≤ 3) := HE.out 3 (by omega) (by omega)
      by_cases hsk : s ≤ 3
      · have hE : Aside0 (s = 3) := ⟨by omega⟩
        rw [decide_eq_true hsk] at hd
        go_wp2
        go_ret
        exact ⟨by rw [hE.out]; rfl, rfl⟩
      · rw [decide_eq_false hsk] at hd
        have hkn : 3 + 1 ≤ s := by omega
        go_wp2
        go_roundg 5
        case measure => omega
        case rel => exact ⟨4, rfl, rfl, by omega, by omega, rfl⟩
    · have hd : ((m : Int) / 268435456 == 0) = decide (s ≤ 4) := HE.out 4 (by omega) (by omega)
      by_cases hsk : s ≤ 4
      · have hE : Aside0 (s = 4) := ⟨by omega⟩
        rw [decide_eq_true hsk] at hd
        go_wp2
        go_ret
        exact ⟨by rw [hE.out]; rfl, rfl⟩
      · rw [decide_eq_false hsk] at hd
        have hkn : 4 + 1 ≤ s := by omega
        go_wp2
        go_roundg 4
        case measure => omega
        case rel => exact ⟨5, rfl, rfl, by omega, by omega, rfl⟩
    · have hd : ((m : Int) / 34359738368 == 0) = decide (s ≤ 5) := HE.out 5 (by omega) (by omega)
      by_cases hsk : s ≤ 5
      · have hE : Aside0 (s = 5) := ⟨by omega⟩
        rw [decide_eq_true hsk] at hd
        go_wp2
        go_ret
        exact ⟨by rw [hE.out]; rfl, rfl⟩
      · rw [decide_eq_false hsk] at hd
        have hkn : 5 + 1 ≤ s := by omega
        go_wp2
        go_roundg 3
        case measure => omega
        case rel => exact ⟨6, rfl, rfl, by omega, by omega, rfl⟩
    · have hd : ((m : Int) / 4398046511104 == 0) = decide (s ≤ 6) := HE.out 6 (by omega) (by omega)
      by_cases hsk : s ≤ 6
      · have hE : Aside0 (s = 6) := ⟨by omega⟩
        rw [decide_eq_true hsk] at hd
        go_wp2
        go_ret
        exact ⟨by rw [hE.out]; rfl, rfl⟩
      · rw [decide_eq_false hsk] at hd
        have hkn : 6 + 1 ≤ s := by omega
        go_wp2
        go_roundg 2
        case measure => omega
        case rel => exact ⟨7, rfl, rfl, by omega, by omega, rfl⟩
    · have hd : ((m : Int) / 562949953421312 == 0) = decide (s ≤ 7) := HE.out 7 (by omega) (by omega)
      by_cases hsk : s ≤ 7
      · have hE : Aside0 (s = 7) := ⟨by omega⟩
        rw [decide_eq_true hsk] at hd
        go_wp2
        go_ret
        exact ⟨by rw [hE.out]; rfl, rfl⟩
      · rw [decide_eq_false hsk] at hd
        have hkn : 7 + 1 ≤ s := by omega
        go_wp2
        go_roundg 1
        case measure => omega
        case rel => exact ⟨8, rfl, rfl, by omega, by omega, rfl⟩
    · have hd : ((m : Int) / 72057594037927936 == 0) = decide (s ≤ 8) := HE.out 8 (by omega) (by omega)
      by_cases hsk : s ≤ 8
      · have hE : Aside0 (s = 8) := ⟨by omega⟩
        rw [decide_eq_true hsk] at hd
        go_wp2
        go_ret
        exact ⟨by rw [hE.out]; rfl, rfl⟩
      · rw [decide_eq_false hsk] at hd
        have hkn : 8 + 1 ≤ s := by omega
        go_wp2
        go_roundg 0
        case measure => omega
        case rel => exact ⟨9, rfl, rfl, by omega, by omega, rfl⟩
    · have hE : Aside0 (s = 9) := ⟨by omega⟩
      go_wp2
      go_ret
      exact ⟨by rw [hE.out]; rfl, rfl⟩

theorem rd_cons' (b : Nat) (r : List Nat) : rd (nb (b :: r)) 0 = (b : Int) := rfl
set_option maxRecDepth 100000 in
set_option maxHeartbeats 4000000 in
theorem rput_any (n : Int) (h0 : 0 ≤ n) (h1 : n < 72057594037927936) (w : World) :
    Calls Tryz.prog 91 #[.int .u64 n] w fun e w' => ∃ v, e = .returned v ∧ RB w' w.heap.size v (nb (putN n.toNat)) ∧ Below w.heap.size w w' := by
  obtain ⟨m, rfl⟩ : ∃ m : Nat, n = m := ⟨n.toNat, by omega⟩
  rw [Int.toNat_natCast]
  obtain ⟨k, hk⟩ := named (sizeN m)
  have hk9 := sizeN_pos m
  rw [← hk.out] at hk9
  have hk8 : k ≤ 8 := by
    have h56 : m < 2 ^ 56 := by have : (2 : Nat) ^ 56 = 72057594037927936 := rfl; omega
    rw [hk.out]; exact sizeN_lt (n := m) (k := 8) (by omega) (by omega) (by simpa using h56)
  have HM : Aside0 (m < 2 ^ 64) := ⟨by have : (2 : Nat) ^ 64 = 18446744073709551616 := rfl; omega⟩
  go_enter Tryz.func91, Tryz.ntmps91
  go_wp2_with fail
  refine (rsize_any (m : Int) h0 (by omega) _).mono ?_
  rw [Int.toNat_natCast, ← hk.out]
  rintro e w1 ⟨rfl, rfl⟩
  clear h1
  have hk0 : (0 : Int) ≤ (k : Int) := by omega
  go_wp2_with (refine Kd.R_make (Kd.int .u8) (w0 := w1) w1.heap.size 5 rfl rfl 88 (.tmp 9) (.tmp 9) rfl (k : Int) rfl rfl Tryz.underlying88 (.int .u8 0) 1 infoB rfl (by decide) (by decide) (0 : Int) (ok := fun _ => True) (okp := fun _ => True) rfl (fun _ _ => trivial) trivial hk0 (by omega) (Below.refl _ _) (Nat.le_refl _) ?_; rintro v1 w2 hown hB1 hg1 hat; have HO1 := Aside0.mk hown; have HB1 := Aside0.mk hB1; clear hown hB1 hg1 hat)
  obtain ⟨g2, cap, rfl, hgb, hgl, _⟩ := Kd.R_form HO1.out (by simp; omega)
  have hrl : (List.replicate ((k : Int)).toNat (0 : Int)).length = k := by simp
  rw [hrl]
  have HO2 : Aside0 (RB w2 w1.heap.size (.slice (some ⟨g2, 0, none⟩) k cap) (nb (fillP k m 0))) := ⟨by
    have h := Kd.own_of_R HO1.out
    rw [fillP_zero, nb_replicate]
    simp only [Int.toNat_natCast, List.length_replicate] at h
    rw [RB, List.length_replicate]
    exact h⟩
  clear HO1 hrl
  go_loopg [0, 5] k (fun gk v0 v5 wr => ∃ (j : Nat) (t q : Int), v5 = .int .i64 t ∧ Aside0 (t = (k : Int) - 1 - j) ∧ gk + j = k ∧ v0 = .int .u64 q ∧ 0 ≤ q ∧ Aside0 (q = ((m / 256 ^ j : Nat) : Int)) ∧ Aside0 (RB wr w1.heap.size (.slice (some ⟨g2, 0, none⟩) k cap) (nb (fillP k m j))) ∧ Aside0 (Below w1.heap.size w1 wr))
  case atStart => exact ⟨0, _, _, rfl, ⟨by omega⟩, rfl, rfl, h0, ⟨by simp⟩, HO2, HB1⟩
  case round =>
    obtain ⟨j, t, q, rfl, HTJ, hg, rfl, hq0, HQ, HO, HB⟩ := hrel
    by_cases hj : j < k
    · have ht0 : 0 ≤ t := by have := HTJ.out; omega
      have ht1 : t < (k : Int) := by have := HTJ.out; omega
      have hO : wr.ownsRow w1.heap.size 5 1 (.slice (some ⟨g2, 0, none⟩) k cap) k (nums .u8 (nb (fillP k m j))) := by
        have h := HO.out
        rwa [RB, nb_len, fillP_len] at h
      obtain ⟨c0, f0⟩ := own_at hO t (by omega) (by omega)
      have HS := Aside0.mk (own_store hO t (((m / 256 ^ j % 256 : Nat)) : Int)).1
      have HT : Aside0 (t.toNat = k - 1 - j) := ⟨by have := HTJ.out; omega⟩
      have HQ8 : Aside0 (q % 256 = ((m / 256 ^ j % 256 : Nat) : Int)) := ⟨by rw [HQ.out]; simp⟩
      have HN : Aside0 (RB (wr.setCell ⟨g2, t.toNat, none⟩ (.int .u8 (q % 256))) w1.heap.size (.slice (some ⟨g2, 0, none⟩) k cap) (nb (fillP k m (j + 1)))) := ⟨by
        have h := HS.out
        rw [HT.out, nb_set, fillP_set k m j hj] at h
        rw [RB, nb_len, fillP_len, HT.out, HQ8.out]
        exact h⟩
      have HW := Aside0.mk (HB.out.setCell (p := ⟨g2, t.toNat, none⟩) hgb (.int .u8 (q % 256)))
      clear hO
      go_wp2
      go_roundg (k - (j + 1))
      case measure => omega
      case rel => exact ⟨j + 1, _, _, rfl, ⟨by have := HTJ.out; omega⟩, by omega, rfl, by omega, ⟨by rw [HQ.out, ← div_pow]; simp⟩, HN, HW⟩
    · have ht : t < 0 := by have := HTJ.out; omega
      have HF : Aside0 (RB wr w1.heap.size (.slice (some ⟨g2, 0, none⟩) k cap) (nb (be k m))) := ⟨by
        have hjk : j = k := by omega
        have h := HO.out
        rwa [hjk, fillP_all] at h⟩
      obtain ⟨b, r, hbe, hbl⟩ := be_head hk.out.symm hk9.1 hk8 HM.out
      have HE := Aside0.mk hbe
      have HL : Aside0 (r.length + 1 = k) := ⟨by have h := be_len k m; rw [hbe] at h; simpa using h⟩
      have HBL := Aside0.mk hbl
      clear hbe hbl
      go_wp2
      go_loopg [6] k (fun gk v6 wr => ∃ i : Nat, v6 = .int .i64 i ∧ gk + i = k ∧ i + 1 ≤ k ∧ Aside0 (RB wr w1.heap.size (.slice (some ⟨g2, 0, none⟩) k cap) (nb ((b + (256 - 2 ^ (8 - i))) :: r))) ∧ Aside0 (Below w1.heap.size w1 wr))
      case atStart => exact ⟨0, rfl, by omega, by omega, ⟨by have h := HF.out; rw [HE.out] at h; simpa using h⟩, HB⟩
      case round =>
        obtain ⟨i, rfl, hgi, hik, HOi, HBi⟩ := hrel
        by_cases hi : i + 1 < k
        · have hi' : (i : Int) < (k : Int) - 1 := by omega
          have hO : wr.ownsRow w1.heap.size 5 1 (.slice (some ⟨g2, 0, none⟩) k cap) k (nums .u8 (nb ((b + (256 - 2 ^ (8 - i))) :: r))) := by
            have h := HOi.out
            rw [RB, nb_len, List.length_cons, HL.out] at h
            exact h
          obtain ⟨c0, f0⟩ := own_at hO 0 (by omega) (by omega)
          rw [rd_cons'] at c0
          have hb7 : b < 2 ^ (7 - i) := Nat.lt_of_lt_of_le HBL.out (Nat.pow_le_pow_right (by decide) (by omega))
          have hor := or_one (i := i) (b := b) (by omega) hb7
          have HN : Aside0 (RB (wr.setCell ⟨g2, 0, none⟩ (.int .u8 (bits .or .u8 ((b + (256 - 2 ^ (8 - i)) : Nat) : Int) (128 / 2 ^ i)))) w1.heap.size (.slice (some ⟨g2, 0, none⟩) k cap) (nb ((b + (256 - 2 ^ (8 - (i + 1)))) :: r))) := ⟨by
            have h := (own_store hO 0 ((b + (256 - 2 ^ (8 - (i + 1))) : Nat) : Int)).1
            rw [hor]
            rw [RB, nb_len, List.length_cons, HL.out]
            exact h⟩
          have HB7 := Aside0.mk hb7
          clear hb7
          have HW := Aside0.mk (HBi.out.setCell (p := ⟨g2, 0, none⟩) hgb (.int .u8 (bits .or .u8 ((b + (256 - 2 ^ (8 - i)) : Nat) : Int) (128 / 2 ^ i))))
          obtain ⟨x, hx⟩ : ∃ x, ((b + (256 - 2 ^ (8 - i)) : Nat) : Int) = x := ⟨_, rfl⟩
          rw [hx] at c0 HN HW
          have hk3 : (0 : Int) < (k : Int) := by omega
          have hkN : 0 < k := by omega
          have c0' := c0
          have f0' := f0
          replace c0' : wr.drew.cell? ⟨g2, 0, none⟩ = some (.int .u8 x) := c0'
          replace f0' : wr.drew.frozen? ⟨g2, 0, none⟩ = false := f0'
          clear hO hor hx
          rcases (show i = 0 ∨ i = 1 ∨ i = 2 ∨ i = 3 ∨ i = 4 ∨ i = 5 ∨ i = 6 by omega) with rfl | rfl | rfl | rfl | rfl | rfl | rfl
          · go_wp2_with fail
            go_region_law (fail)
            all_goals go_wp2
            all_goals go_roundg (k - 1)
            case measure => omega
            case rel => exact ⟨1, rfl, by omega, by omega, ⟨HN.out⟩, ⟨below_drew HW.out⟩⟩
          · go_wp2_with fail
            go_region_law (fail)
            all_goals go_wp2
            all_goals go_roundg (k - 2)
            case measure => omega
            case rel => exact ⟨2, rfl, by omega, by omega, ⟨HN.out⟩, ⟨below_drew HW.out⟩⟩
          · go_wp2_with fail
            go_region_law (fail)
            all_goals go_wp2
            all_goals go_roundg (k - 3)
            case measure => omega
            case rel => exact ⟨3, rfl, by omega, by omega, ⟨HN.out⟩, ⟨below_drew HW.out⟩⟩
          · go_wp2_with fail
            go_region_law (fail)
            all_goals go_wp2
            all_goals go_roundg (k - 4)
            case measure => omega
            case rel => exact ⟨4, rfl, by omega, by omega, ⟨HN.out⟩, ⟨below_drew HW.out⟩⟩
          · go_wp2_with fail
            go_region_law (fail)
            all_goals go_wp2
            all_goals go_roundg (k - 5)
            case measure => omega
            case rel => exact ⟨5, rfl, by omega, by omega, ⟨HN.out⟩, ⟨below_drew HW.out⟩⟩
          · go_wp2_with fail
            go_region_law (fail)
            all_goals go_wp2
            all_goals go_roundg (k - 6)
            case measure => omega
            case rel => exact ⟨6, rfl, by omega, by omega, ⟨HN.out⟩, ⟨below_drew HW.out⟩⟩
          · go_wp2_with fail
            go_region_law (fail)
            all_goals go_wp2
            all_goals go_roundg (k - 7)
            case measure => omega
            case rel => exact ⟨7, rfl, by omega, by omega, ⟨HN.out⟩, ⟨below_drew HW.out⟩⟩
        · have hnf : ¬ ((i : Int) < (k : Int) - 1) := by omega
          have HR : Aside0 (RB wr w1.heap.size (.slice (some ⟨g2, 0, none⟩) k cap) (nb (putN m))) := ⟨by
            have h := HOi.out
            have e : putN m = (b + (256 - 2 ^ (8 - i))) :: r := by
              have hi1 : 9 - k = 8 - i := by omega
              rw [putN, ← hk.out, HE.out, mask, hi1]
            rw [e]
            exact h⟩
          go_wp2
          go_ret
          exact ⟨_, rfl, HR.out, HBi.out⟩
end Go.Proofs.YtfakfgblaakgdaaGreat.Var

/- Octets with their sum; a record as octets: the program's and the document's, walked. -/
namespace Go.Proofs.YtfakfgblaakgdaaGreat.Crc
set_option linter.unusedVariables false
set_option linter.unusedSimpArgs false
open Go.RowKit Go.Proofs.YtfakfgblaakgdaaGreatW.PrintWords Go.Proofs.YtfakfgblaakgdaaGreatW.PrintLast Go.Proofs.YtfakfgblaakgdaaGreat.Base Go.Proofs.YtfakfgblaakgdaaGreat.Cells Go.Proofs.YtfakfgblaakgdaaGreat.Ints Go.Proofs.YtfakfgblaakgdaaGreat.Var Go.Proofs.YtfakfgblaakgdaaGreat.Cat Go.Proofs.YtfakfgblaakgdaaGreat.VarPure

theorem octC {w : World} {A : Option Addr} {n : Nat} {l : List Int} (h : ReadsInt w .u8 A n l) : (Kd.int .u8).C w A n l := Kd.C_of_reads (d := (0 : Int)) h
theorem rb_of {w : World} {base : Nat} {v : Value} {l : List Int} (h : (Kd.int .u8).R 5 w base (fun _ => True) v l) : RB w base v l := Kd.own_of_R h
theorem reads4 {w : World} {g : Nat} {t : TypeId} {a b c d : Int} (h : w.heap[g]? = some (.cells #[.int .u8 a, .int .u8 b, .int .u8 c, .int .u8 d] t (0, 0))) : ReadsInt w .u8 (some ⟨g, 0, none⟩) 4 [a, b, c, d] := by
  refine ⟨rfl, by decide, fun _ => ⟨_, rfl, fun j hj => ?_⟩⟩
  rw [add_plain]
  obtain ⟨h0, h1, h2, h3, _⟩ := all4 h
  rcases (show j = 0 ∨ j = 1 ∨ j = 2 ∨ j = 3 by omega) with rfl | rfl | rfl | rfl
  · exact h0
  · exact h1
  · exact h2
  · exact h3
theorem reads1 {w : World} {g : Nat} {t : TypeId} {a : Int} (h : w.heap[g]? = some (.cells #[.int .u8 a] t (0, 0))) : ReadsInt w .u8 (some ⟨g, 0, none⟩) 1 [a] := by
  refine ⟨rfl, by decide, fun _ => ⟨_, rfl, fun j hj => ?_⟩⟩
  rw [add_plain]
  obtain rfl : j = 0 := by omega
  exact blk_cell h 0
theorem new_cell1 (w : World) (o : Obj) (cs : Array Value) (e : TypeId) (j : Nat) (v : Value) (h : cs[j]? = some v) : ((w.alloc o).alloc (.cells cs e)).cell? ⟨w.heap.size + 1, j, none⟩ = some v := by
  rw [blk_cell (blk_new1 w o cs e)]; exact h

set_option maxRecDepth 100000 in
set_option maxHeartbeats 1000000 in
theorem copied_any (A : Option Addr) (n c : Nat) (l : List Int) (w : World) (hr : ReadsInt w .u8 A n l) (hb : n ≤ 1048576) :
    Calls Tryz.prog 103 #[.slice A n c] w fun e w' => ∃ v, e = .returned v ∧ RB w' w.heap.size v l ∧ Below w.heap.size w w' := by
  have hn : l.length = n := hr.1
  subst hn
  have HR := Aside0.mk hr
  clear hr
  go_enter Tryz.func103, Tryz.ntmps103
  go_wp2_with (at_builtin; refine print_append_row (w0 := w) w.heap.size (by rfl) (.tmp 4) (.tmp 5) 88 5 .u8 1 (by rfl) Tryz.underlying88 Var.infoB (by decide) (.slice none 0 0) [] l A l.length c (by rfl) (by rfl) ?aO ?aR ?aB ?aS ?c1 ?_; (case aO => exact own_nil _ _ _ _); (case aR => exact HR.out); (case aB => exact Below.refl _ _); (case aS => exact Nat.le_refl _); (case c1 => simp only [List.length_nil]; omega); intro v1 w1 hown hB1 hg1 hat; have HO1 := Aside0.mk hown; have HB1 := Aside0.mk hB1; clear hown hB1 hg1 hat)
  go_ret
  exact ⟨_, rfl, by have := HO1.out; rwa [List.nil_append] at this, HB1.out⟩

set_option maxRecDepth 100000 in
set_option maxHeartbeats 2000000 in
theorem guard_any (A : Option Addr) (n ac : Nat) (l : List Int) (w : World) (hr : ReadsInt w .u8 A n l) (ho : OctL l) (hn : n ≤ 1048576) :
    Calls Tryz.prog 121 #[.slice A n ac] w fun e w' => ∃ v, e = .returned v ∧ RB w' w.heap.size v (guardL l) ∧ Below w.heap.size w w' := by
  have HR := Aside0.mk hr
  have HO := Aside0.mk ho
  have LN : Aside0 (l.length = n) := ⟨hr.1⟩
  obtain ⟨s, hs⟩ := named (sumL l)
  obtain ⟨s0, s1⟩ := sumL_bd l
  rw [← hs.out] at s0 s1
  clear hr ho
  go_enter Tryz.func121, Tryz.ntmps121
  go_wp2_with fail
  refine (sum_any A n ac l w HR.out HO.out).mono ?_
  rw [← hs.out]
  rintro e w1 ⟨rfl, rfl⟩
  go_wp2_with fail
  refine (octets_any s _ s0 s1).mono ?_
  rintro e w2 ⟨rfl, hb2⟩
  have HB2 := Aside0.mk hb2
  clear hb2
  go_wp2_with fail
  have hz := new_cell1 w2 (.cells #[.int .u8 (s / 16777216), .int .u8 (s / 65536 % 256), .int .u8 (s / 256 % 256), .int .u8 (s % 256)] 234) #[.slice A n ac, .slice (some ⟨w2.heap.size, 0, none⟩) 4 4] 88
  have hb3 := below_alloc (below_alloc (Below.refl _ w2) (.cells #[.int .u8 (s / 16777216), .int .u8 (s / 65536 % 256), .int .u8 (s / 256 % 256), .int .u8 (s % 256)] 234)) (.cells #[.slice A n ac, .slice (some ⟨w2.heap.size, 0, none⟩) 4 4] 88)
  refine (concatB2_any (w2.heap.size + 1) A (some ⟨w2.heap.size, 0, none⟩) ac 4 n 4 l (octs s) _ (hz 0 _ rfl) (hz 1 _ rfl) (octC (HR.out.below (bthen HB2.out hb3))) (octC (reads4 (blk_alloc (blk_new _ _) _))) hn (by omega)).mono ?_
  rintro e w3 ⟨v, rfl, hv, hb⟩
  have HV : Aside0 (RB w3 w.heap.size v (guardL l)) := ⟨by rw [guardL, ← hs.out]; exact rb_of (Kd.R_lower hv (Nat.le_trans HB2.out.size hb3.size))⟩
  have HB := Aside0.mk (bthen HB2.out (bthen hb3 hb))
  clear hv hb hb3 hz
  go_wp2
  go_ret
  exact ⟨_, rfl, HV.out, HB.out⟩

set_option maxRecDepth 100000 in
set_option maxHeartbeats 2000000 in
theorem rguard_any (A : Option Addr) (n ac : Nat) (l : List Int) (w : World) (hr : ReadsInt w .u8 A n l) (ho : OctL l) (hn : n ≤ 1048576) :
    Calls Tryz.prog 92 #[.slice A n ac] w fun e w' => ∃ v, e = .returned v ∧ RB w' w.heap.size v (guardL l) ∧ Below w.heap.size w w' := by
  have HR := Aside0.mk hr
  have HO := Aside0.mk ho
  have LN := hr.1
  obtain ⟨s, hs⟩ := named (sumL l)
  obtain ⟨s0, s1⟩ := sumL_bd l
  rw [← hs.out] at s0 s1
  subst LN
  have HC : Aside0 (∀ W, Below w.heap.size w W → Calls Tryz.prog 103 #[.slice A l.length ac] W fun e w' => ∃ v, e = .returned v ∧ RB w' w.heap.size v l ∧ Below W.heap.size W w') := ⟨fun W hW => by
    refine (copied_any A l.length ac l W (HR.out.below hW) hn).mono ?_
    rintro e w' ⟨v, rfl, hv, hb⟩
    exact ⟨v, rfl, own_weaken hv hW.size, hb⟩⟩
  clear hr ho
  go_enter Tryz.func92, Tryz.ntmps92
  go_wp2_with fail
  refine (rsum_any A l.length ac l w HR.out HO.out).mono ?_
  rw [← hs.out]
  rintro e w1 ⟨rfl, rfl⟩
  go_wp2_with fail
  refine (HC.out _ (Below.refl _ _)).mono ?_
  rintro e w2 ⟨v2, rfl, hv2, hb2⟩
  have HV2 := Aside0.mk hv2
  have HB2 := Aside0.mk hb2
  have hsz := hb2.size
  clear hv2 hb2
  have HS4 : Aside0 (ReadsInt (w2.alloc (.cells #[.int .u8 (s / 16777216), .int .u8 (s / 65536 % 256), .int .u8 (s / 256 % 256), .int .u8 (s % 256)] 5)) .u8 (some ⟨w2.heap.size, 0, none⟩) 4 (octs s)) := ⟨reads4 (blk_new _ _)⟩
  have hba := below_alloc (Below.refl _ w2) (.cells #[.int .u8 (s / 16777216), .int .u8 (s / 65536 % 256), .int .u8 (s / 256 % 256), .int .u8 (s % 256)] 5)
  have HBA := Aside0.mk hba
  clear hba
  go_wp2_with (at_builtin; refine print_append_row (w0 := w) w.heap.size (by rfl) (.tmp 7) (.tmp 19) 88 5 .u8 1 (by rfl) Tryz.underlying88 Var.infoB (by decide) v2 l (octs s) (some ⟨w2.heap.size, 0, none⟩) 4 4 (by rfl) (by rfl) ?aO ?aR ?aB ?aS ?c1 ?_; (case aO => exact pw_own_below HV2.out HBA.out); (case aR => exact HS4.out); (case aB => exact bthen HB2.out HBA.out); (case aS => exact Nat.le_trans hsz HBA.out.size); (case c1 => omega); intro v3 w3 hown hB3 hg3 hat; have HO3 := Aside0.mk hown; have HB3 := Aside0.mk hB3; clear hown hB3 hg3 hat)
  have HF : Aside0 (RB w3 w.heap.size v3 (guardL l)) := ⟨by rw [guardL, ← hs.out]; exact HO3.out⟩
  go_ret
  exact ⟨_, rfl, HF.out, HB3.out⟩

/-- a record as octets; nothing, if there are too many -/
def frameP (kind : Int) (l : List Int) : List Int := if 65536 < l.length then [] else guardL (nb (putN l.length) ++ ([kind] ++ l))
theorem frame_pre_oct {kind : Int} {l : List Int} (k0 : 0 ≤ kind) (k1 : kind < 256) (ho : OctL l) (hl : l.length ≤ 65536) : OctL (nb (putN l.length) ++ ([kind] ++ l)) := by
  refine OctL.append (fun b hb => ?_) (OctL.append (fun b hb => ?_) ho)
  · obtain ⟨x, hx, rfl⟩ := List.mem_map.1 hb
    have h := (get_put (n := l.length) (by have : (2 : Nat) ^ 56 = 72057594037927936 := rfl; omega) []).2.1 x hx
    omega
  · rw [List.mem_singleton.1 hb]; exact ⟨k0, k1⟩
theorem putN_len9 (n : Nat) (hn : n < 2 ^ 56) : (putN n).length ≤ 9 := by
  have h := (get_put hn []).2.2
  have := sizeN_pos n
  omega

set_option maxRecDepth 100000 in
set_option maxHeartbeats 1000000 in
theorem framePut_any (kind : Int) (A : Option Addr) (n ac : Nat) (l : List Int) (w : World) (k0 : 0 ≤ kind) (k1 : kind < 256) (hr : ReadsInt w .u8 A n l) (ho : OctL l) (hn : n ≤ 1048576) :
    Calls Tryz.prog 83 #[.agg #[.int .i64 kind, .slice A n ac]] w fun e w' => ∃ v, e = .returned (.tuple #[v, .int .i64 (if 65536 < n then 5 else 0)]) ∧ RB w' w.heap.size v (frameP kind l) ∧ Below w.heap.size w w' := by
  have HR := Aside0.mk hr
  have HO := Aside0.mk ho
  have LN : Aside0 (l.length = n) := ⟨hr.1⟩
  clear hr ho
  by_cases hlong : 65536 < n
  · have HF : Aside0 (frameP kind l = []) := ⟨by rw [frameP, if_pos (by rw [LN.out]; exact hlong)]⟩
    have hlong' : (65536 : Int) < (n : Int) := by omega
    rw [if_pos hlong]
    go_enter Tryz.func83, Tryz.ntmps83
    go_wp2
    refine bodyPost_ret (results_tmp2 rfl _ _ _) rfl ?_
    exact ⟨.slice none 0 0, rfl, by rw [HF.out]; exact own_nil _ _ _ _, below_alloc (Below.refl _ _) _⟩
  · have HF : Aside0 (frameP kind l = guardL (nb (putN n) ++ ([kind] ++ l))) := ⟨by rw [frameP, LN.out, if_neg hlong]⟩
    have HPO : Aside0 (OctL (nb (putN n) ++ ([kind] ++ l))) := ⟨by have h := frame_pre_oct k0 k1 HO.out (by rw [LN.out]; omega); rwa [LN.out] at h⟩
    obtain ⟨P, hP⟩ := named (nb (putN n))
    have HPL : Aside0 (P.length ≤ 9) := ⟨by rw [hP.out, nb_len]; exact putN_len9 n (by have : (2 : Nat) ^ 56 = 72057594037927936 := rfl; omega)⟩
    rw [← hP.out] at HF HPO
    obtain ⟨lp, hlp⟩ : ∃ k, P.length = k := ⟨_, rfl⟩
    have LP := Aside0.mk hlp
    have hlp9 : lp ≤ 9 := by rw [← hlp]; exact HPL.out
    have hlong' : ¬ ((65536 : Int) < (n : Int)) := by omega
    rw [if_neg hlong]
    clear hlp
    go_enter Tryz.func83, Tryz.ntmps83
    go_upto_region 1 with (fail)
    obtain ⟨W, hW⟩ : ∃ W, W = w.alloc (.cells #[.int .i64 kind, .slice A n ac] 165) := ⟨_, rfl⟩
    have hk : W.heap[w.heap.size]? = some (.cells #[.int .i64 kind, .slice A n ac] 165 (0, 0)) := by rw [hW]; exact blk_new _ _
    have HB : Aside0 (Below w.heap.size w W) := ⟨by rw [hW]; exact below_alloc (Below.refl _ _) _⟩
    rw [← hW]
    clear hW
    have x0 := blk_cell hk 0
    have x1 := blk_cell hk 1
    have HK := Aside0.mk hk
    clear hk
    go_upto_region 5 with (fail)
    have CP : Aside0 (∀ W', Below W.heap.size W W' → Calls Tryz.prog 40 #[.int .u64 (n : Int)] W' fun e w' => ∃ A1 c1, e = .returned (.slice A1 lp c1) ∧ ReadsInt w' .u8 A1 lp P ∧ Below W'.heap.size W' w') := ⟨fun W' hW => by
      refine (put_any (n : Int) (by omega) (by omega) W').mono ?_
      rintro e w' ⟨v, L, rfl, hv, hl1, hl9, hL, hb⟩
      have hLe : L = P := by rw [hL (by omega), hP.out, Int.toNat_natCast]
      subst hLe
      obtain ⟨A1, c1, rfl, hr⟩ := RB_reads hv
      rw [LP.out] at hr ⊢
      exact ⟨A1, c1, rfl, hr, hb⟩⟩
    have CC : Aside0 (∀ W' b A1 c1 gk, Below W.heap.size W W' → W'.cell? ⟨b, 0, none⟩ = some (.slice A1 lp c1) → W'.cell? ⟨b, 1, none⟩ = some (.slice (some ⟨gk, 0, none⟩) 1 1) → W'.cell? ⟨b, 2, none⟩ = some (.slice A n ac) → ReadsInt W' .u8 A1 lp P → W'.cell? ⟨gk, 0, none⟩ = some (.int .u8 kind) →
        Calls Tryz.prog 122 #[.slice (some ⟨b, 0, none⟩) 3 3] W' fun e w' => ∃ A2 c2, e = .returned (.slice A2 (lp + 1 + n) c2) ∧ ReadsInt w' .u8 A2 (lp + 1 + n) (P ++ [kind] ++ l) ∧ Below W'.heap.size W' w') := ⟨fun W' b A1 c1 gk hW h1 h2 h3 r1 hk => by
      refine (concatB3_any b A1 (some ⟨gk, 0, none⟩) A c1 1 ac lp 1 n P [kind] l W' h1 h2 h3 (octC r1) (octC ⟨rfl, by decide, fun _ => ⟨_, rfl, fun j hj => ?_⟩⟩) (octC (HR.out.below (bthen HB.out hW))) (by omega) (by omega) hn).mono ?_
      · obtain rfl : j = 0 := by omega
        rw [add_plain]; exact hk
      · rintro e w' ⟨v, rfl, hv, hb⟩
        obtain ⟨A2, c2, rfl, hr⟩ := RB_reads (rb_of hv)
        have hl : (P ++ [kind] ++ l).length = lp + 1 + n := by rw [List.length_append, List.length_append, LP.out, LN.out]; rfl
        rw [hl] at hr ⊢
        exact ⟨A2, c2, rfl, hr, hb⟩⟩
    have CG : Aside0 (∀ W' A2 c2, ReadsInt W' .u8 A2 (lp + 1 + n) (P ++ [kind] ++ l) → Calls Tryz.prog 121 #[.slice A2 (lp + 1 + n) c2] W' fun e w' => ∃ v, e = .returned v ∧ RB w' W'.heap.size v (frameP kind l) ∧ Below W'.heap.size W' w') := ⟨fun W' A2 c2 hr => by
      rw [HF.out, ← List.append_assoc]
      exact guard_any A2 (lp + 1 + n) c2 _ W' hr (by rw [List.append_assoc]; exact HPO.out) (by omega)⟩
    have e1 : IntKind.u64.wrap (n : Int) = (n : Int) := by rw [IntKind.wrap_u64]; omega
    have e2 : IntKind.u8.wrap kind = kind := by rw [IntKind.wrap_u8]; omega
    have d0 : W.drew.cell? ⟨w.heap.size, 0, none⟩ = some (.int .i64 kind) := x0
    have d1 : W.drew.cell? ⟨w.heap.size, 1, none⟩ = some (.slice A n ac) := x1
    have FK : Aside0 (∀ w', Below W.heap.size W w' → w'.cell? ⟨w.heap.size, 0, none⟩ = some (.int .i64 kind) ∧ w'.cell? ⟨w.heap.size, 1, none⟩ = some (.slice A n ac)) := ⟨fun w' h => ⟨blk_cell (blk_keep HK.out h) 0, blk_cell (blk_keep HK.out h) 1⟩⟩
    go_region_held3 (fun w' => w'.cell? ⟨w.heap.size, 0, none⟩ = some (.int .i64 kind) ∧ w'.cell? ⟨w.heap.size, 1, none⟩ = some (.slice A n ac)) (first | with_reducible exact ⟨d0, d1⟩ | with_reducible exact FK.out _ (by repeat (first | with_reducible exact Below.refl _ _ | with_reducible exact HB2.out | with_reducible exact HB3.out | with_reducible exact HB4.out | with_reducible apply below_drew | with_reducible apply below_alloc)) | go_keep) (first
      | (go_at_call 40; refine (CP.out _ (by repeat (first | with_reducible exact Below.refl _ _ | with_reducible exact HB2.out | with_reducible exact HB3.out | with_reducible exact HB4.out | with_reducible apply below_drew | with_reducible apply below_alloc))).mono ?_; rintro e w2 ⟨A1, c1, rfl, hr2, hb2⟩; (have HX2 := Aside0.mk hb2); (have HR2 := Aside0.mk hr2); (have HB2 : Aside0 (Below W.heap.size W w2) := ⟨bthen (by repeat (first | with_reducible exact Below.refl _ _ | with_reducible exact HB2.out | with_reducible exact HB3.out | with_reducible exact HB4.out | with_reducible apply below_drew | with_reducible apply below_alloc)) hb2⟩); clear hr2 hb2)
      | (go_at_call 122; refine (CC.out _ _ A1 c1 _ (by repeat (first | with_reducible exact Below.refl _ _ | with_reducible exact HB2.out | with_reducible exact HB3.out | with_reducible exact HB4.out | with_reducible apply below_drew | with_reducible apply below_alloc)) (by first | exact new_cell _ _ _ 0 _ rfl | exact new_cell1 _ _ _ _ 0 _ rfl) (by first | exact new_cell _ _ _ 1 _ rfl | exact new_cell1 _ _ _ _ 1 _ rfl) (by first | exact new_cell _ _ _ 2 _ rfl | exact new_cell1 _ _ _ _ 2 _ rfl) (by first | exact HR2.out.below (below_alloc (Below.refl _ _) _) | exact HR2.out.below (below_alloc (below_alloc (Below.refl _ _) _) _)) (by first | exact pw_cell_below (below_alloc (Below.refl _ _) _) (new_cell _ _ _ 0 _ rfl) | exact pw_cell_below (below_alloc HX2.out _) (new_cell _ _ _ 0 _ rfl))).mono ?_; rintro e w3 ⟨A2, c2, rfl, hr3, hb3⟩; (have HR3 := Aside0.mk hr3); (have HB3 : Aside0 (Below W.heap.size W w3) := ⟨bthen (by repeat (first | with_reducible exact Below.refl _ _ | with_reducible exact HB2.out | with_reducible exact HB3.out | with_reducible exact HB4.out | with_reducible apply below_drew | with_reducible apply below_alloc)) hb3⟩); clear hr3 hb3)
      | (go_at_call 121; refine (CG.out _ _ _ HR3.out).mono ?_; rintro e w4 ⟨v4, rfl, hv4, hb4⟩; (have HV4 := Aside0.mk hv4); (have HB4 := Aside0.mk (bthen HB3.out hb4)); clear hv4 hb4))
    all_goals go_wp2
    all_goals refine bodyPost_ret (results_tmp2 rfl _ _ _) rfl ?_
    all_goals exact ⟨v4, rfl, own_weaken HV4.out (Nat.le_trans HB.out.size HB3.out.size), bthen HB.out HB4.out⟩
end Go.Proofs.YtfakfgblaakgdaaGreat.Crc

/- A record as octets, the document's; framed, pointer: walked. -/
namespace Go.Proofs.YtfakfgblaakgdaaGreat.Crc
set_option linter.unusedVariables false
set_option linter.unusedSimpArgs false
open Go.RowKit Go.Proofs.YtfakfgblaakgdaaGreatW.PrintWords Go.Proofs.YtfakfgblaakgdaaGreatW.PrintLast Go.Proofs.YtfakfgblaakgdaaGreat.Base Go.Proofs.YtfakfgblaakgdaaGreat.Cells Go.Proofs.YtfakfgblaakgdaaGreat.Ints Go.Proofs.YtfakfgblaakgdaaGreat.Var Go.Proofs.YtfakfgblaakgdaaGreat.Cat Go.Proofs.YtfakfgblaakgdaaGreat.VarPure

theorem own_R {w : World} {base : Nat} {v : Value} {l : List Int} (h : RB w base v l) : (Kd.int .u8).R 5 w base (fun _ => True) v l := Kd.R_of_own h (fun _ _ => trivial)

set_option maxRecDepth 100000 in
set_option maxHeartbeats 2000000 in
theorem rframePut_any (kind : Int) (A : Option Addr) (n ac : Nat) (l : List Int) (w : World) (k0 : 0 ≤ kind) (k1 : kind < 256) (hr : ReadsInt w .u8 A n l) (ho : OctL l) (hn : n ≤ 1048576) :
    Calls Tryz.prog 45 #[.agg #[.int .i64 kind, .slice A n ac]] w fun e w' => ∃ v, e = .returned (.tuple #[v, .int .i64 (if 65536 < n then 5 else 0)]) ∧ RB w' w.heap.size v (frameP kind l) ∧ Below w.heap.size w w' := by
  have HR := Aside0.mk hr
  have HO := Aside0.mk ho
  have LN : Aside0 (l.length = n) := ⟨hr.1⟩
  clear hr ho
  have k2 : ¬ (kind < 0) := by omega
  have k3 : ¬ (255 < kind) := by omega
  by_cases hlong : 65536 < n
  · have HF : Aside0 (frameP kind l = []) := ⟨by rw [frameP, if_pos (by rw [LN.out]; exact hlong)]⟩
    have hlong' : (65536 : Int) < (n : Int) := by omega
    rw [if_pos hlong]
    go_enter Tryz.func45, Tryz.ntmps45
    go_wp2
    refine bodyPost_ret (results_tmp2 rfl _ _ _) rfl ?_
    exact ⟨.slice none 0 0, rfl, by rw [HF.out]; exact own_nil _ _ _ _, below_alloc (Below.refl _ _) _⟩
  · have HF : Aside0 (frameP kind l = guardL (nb (putN n) ++ ([kind] ++ l))) := ⟨by rw [frameP, LN.out, if_neg hlong]⟩
    have HPO : Aside0 (OctL (nb (putN n) ++ ([kind] ++ l))) := ⟨by have h := frame_pre_oct k0 k1 HO.out (by rw [LN.out]; omega); rwa [LN.out] at h⟩
    obtain ⟨P, hP⟩ := named (nb (putN n))
    have HPL : Aside0 (P.length ≤ 9) := ⟨by rw [hP.out, nb_len]; exact putN_len9 n (by have : (2 : Nat) ^ 56 = 72057594037927936 := rfl; omega)⟩
    rw [← hP.out] at HF HPO
    obtain ⟨lp, hlp⟩ : ∃ k, P.length = k := ⟨_, rfl⟩
    have LP := Aside0.mk hlp
    have hlp9 : lp ≤ 9 := by rw [← hlp]; exact HPL.out
    have hlong' : ¬ ((65536 : Int) < (n : Int)) := by omega
    rw [if_neg hlong]
    clear hlp
    go_enter Tryz.func45, Tryz.ntmps45
    go_upto_region 1 with (fail)
    obtain ⟨W, hW⟩ : ∃ W, W = w.alloc (.cells #[.int .i64 kind, .slice A n ac] 107) := ⟨_, rfl⟩
    have hk : W.heap[w.heap.size]? = some (.cells #[.int .i64 kind, .slice A n ac] 107 (0, 0)) := by rw [hW]; exact blk_new _ _
    have HB : Aside0 (Below w.heap.size w W) := ⟨by rw [hW]; exact below_alloc (Below.refl _ _) _⟩
    rw [← hW]
    clear hW
    have x0 := blk_cell hk 0
    have x1 := blk_cell hk 1
    have HK := Aside0.mk hk
    clear hk
    go_upto_region 5 with (fail)
    have CP : Aside0 (∀ W', Below W.heap.size W W' → Calls Tryz.prog 91 #[.int .u64 (n : Int)] W' fun e w' => ∃ A1 c1, e = .returned (.slice A1 lp c1) ∧ (Kd.int .u8).R 5 w' W.heap.size (fun _ => True) (.slice A1 lp c1) P ∧ Below W'.heap.size W' w') := ⟨fun W' hW => by
      refine (rput_any (n : Int) (by omega) (by omega) W').mono ?_
      rw [Int.toNat_natCast, ← hP.out]
      rintro e w' ⟨v, rfl, hv, hb⟩
      obtain ⟨A1, c1, rfl, _⟩ := RB_reads hv
      refine ⟨A1, c1, by rw [LP.out], own_R ?_, hb⟩
      rw [← LP.out]
      exact own_weaken hv hW.size⟩
    have e1 : IntKind.u64.wrap (n : Int) = (n : Int) := by rw [IntKind.wrap_u64]; omega
    have e2 : IntKind.u8.wrap kind = kind := by rw [IntKind.wrap_u8]; omega
    have d0 : W.drew.cell? ⟨w.heap.size, 0, none⟩ = some (.int .i64 kind) := x0
    have d1 : W.drew.cell? ⟨w.heap.size, 1, none⟩ = some (.slice A n ac) := x1
    have FK : Aside0 (∀ w', Below W.heap.size W w' → w'.cell? ⟨w.heap.size, 0, none⟩ = some (.int .i64 kind) ∧ w'.cell? ⟨w.heap.size, 1, none⟩ = some (.slice A n ac)) := ⟨fun w' h => ⟨blk_cell (blk_keep HK.out h) 0, blk_cell (blk_keep HK.out h) 1⟩⟩
    have hsW : W.heap.size ≤ W.heap.size := Nat.le_refl _
    go_cut [4] (fun v4 wc => ∃ A3 c3, v4 = .slice A3 (lp + 1) c3 ∧ Aside0 ((Kd.int .u8).R 5 wc W.heap.size (fun _ => True) (.slice A3 (lp + 1) c3) (P ++ [kind]) ∧ Below W.heap.size W wc))
    case first =>
      have hzW : w.heap.size < W.heap.size := blk_lt HK.out
      go_region_law (first
        | (refine Kd.R_append_rows_step (Kd.int .u8) (Rr := (Kd.int .u8).K (w2.alloc (.cells #[.int .u8 kind] 5))) (w0 := W) (W := w2.alloc (.cells #[.int .u8 kind] 5)) W.heap.size (by rfl) (.tmp 23) (.tmp 27) 88 5 (.int .u8 0) 1 rfl Tryz.underlying88 Var.infoB rfl (by decide) (by omega) (.slice A1 lp c1) P [kind] (some ⟨w2.heap.size, 0, none⟩) 1 1 (fun _ => True) (fun _ => False) rfl rfl ?aO ?aR ?aK (fun _ hk => hk.elim) (fun _ _ => trivial) ?aB ?aS ?c1 ?_; (case aO => exact Kd.R_below HV2.out (below_alloc (Below.refl _ _) _)); (case aR => exact octC (reads1 (blk_new _ _))); (case aK => intro x cs hx; exact hx); (case aB => exact below_alloc HB2.out _); (case aS => exact (below_alloc HB2.out _).size); (case c1 => rw [LP.out]; omega); intro v3 w3 hown hB3 hg3 hat; (have HO3 := Aside0.mk hown); (have HB3 := Aside0.mk hB3); clear hown hB3 hg3 hat)
        | (refine Kd.R_append_rows_step (Kd.int .u8) (Rr := (Kd.int .u8).K (w2)) (w0 := W) (W := w2) W.heap.size (by rfl) (.tmp 23) (.tmp 27) 88 5 (.int .u8 0) 1 rfl Tryz.underlying88 Var.infoB rfl (by decide) (by omega) (.slice A1 lp c1) P [kind] (some ⟨W.heap.size, 0, none⟩) 1 1 (fun _ => True) (fun _ => False) rfl rfl ?aO ?aR ?aK (fun _ hk => hk.elim) (fun _ _ => trivial) ?aB ?aS ?c1 ?_; (case aO => exact HV2.out); (case aR => exact octC (reads1 (g := W.heap.size) (blk_keep (w := W.drew.alloc (.cells #[.int .u8 kind] 5)) (blk_new W.drew _) HX2.out))); (case aK => intro x cs hx; exact hx); (case aB => exact HB2.out); (case aS => exact HB2.out.size); (case c1 => rw [LP.out]; omega); intro v3 w3 hown hB3 hg3 hat; (have HO3 := Aside0.mk hown); (have HB3 := Aside0.mk hB3); clear hown hB3 hg3 hat)
        | (go_simp; go_wp2_with (go_at_call 91; refine (CP.out _ (by repeat (first | with_reducible exact Below.refl _ _ | with_reducible apply below_drew | with_reducible apply below_alloc))).mono ?_; rintro e w2 ⟨A1, c1, rfl, hv2, hb2⟩; (have HX2 := Aside0.mk hb2); (have HV2 := Aside0.mk hv2); (have HB2 : Aside0 (Below W.heap.size W w2) := ⟨bthen (by repeat (first | with_reducible exact Below.refl _ _ | with_reducible apply below_drew | with_reducible apply below_alloc)) hb2⟩); obtain ⟨m0, m1⟩ := FK.out _ HB2.out; (have hz2 : w.heap.size < w2.heap.size := Nat.lt_of_lt_of_le hzW HB2.out.size); clear hv2 hb2)))
      all_goals go_wp2
      all_goals go_meet
      all_goals
        obtain ⟨A3, c3, rfl, _⟩ := Kd.R_slice HO3.out
        have hl3 : (P ++ [kind]).length = lp + 1 := by rw [List.length_append, LP.out]; rfl
        exact ⟨A3, c3, by rw [hl3], ⟨by have := HO3.out; rwa [hl3] at this, HB3.out⟩⟩
    case rest =>
      obtain ⟨A3, c3, rfl, HC⟩ := hcut
      have hl3 : Aside0 ((P ++ [kind]).length = lp + 1) := ⟨by rw [List.length_append, LP.out]; rfl⟩
      clear d0 d1 x0 x1 e1 e2
      obtain ⟨x0, x1⟩ := FK.out _ HC.out.2
      go_wp2_with (first
        | (at_builtin; go_loud (refine Kd.R_append_rows (Kd.int .u8) (Rr := (Kd.int .u8).K wc) (w0 := W) W.heap.size rfl (.tmp 29) (.tmp 31) 88 5 (.int .u8 0) 1 rfl Tryz.underlying88 Var.infoB rfl (by decide) (by omega) (.slice A3 (lp + 1) c3) (P ++ [kind]) l A n ac (fun _ => True) (fun _ => False) rfl rfl ?aO ?aR ?aK (fun _ hk => hk.elim) (fun _ _ => trivial) ?aB ?aS ?c1 ?_; (case aO => exact HC.out.1); (case aR => exact octC (HR.out.below (bthen HB.out HC.out.2))); (case aK => intro x cs hx; exact hx); (case aB => exact HC.out.2); (case aS => exact HC.out.2.size); (case c1 => rw [hl3.out]; omega); intro v4 w4 hown hB4 hg4 hat; have HO4 := Aside0.mk hown; have HB4 := Aside0.mk hB4; obtain ⟨A4, c4, hv4⟩ := Kd.R_slice hown; have hl4 : (P ++ [kind] ++ l).length = lp + 1 + n := (by rw [List.length_append, hl3.out, LN.out]); rw [hl4] at hv4; subst hv4; have HL4 := Aside0.mk hl4; clear hl4 hown hB4 hg4 hat))
        | (go_at_call 92; refine (rguard_any A4 (lp + 1 + n) c4 (P ++ [kind] ++ l) _ (by have h := Kd.reads_of_C (d := (0 : Int)) (Kd.R_reads' HO4.out).2.2; rwa [HL4.out] at h) (by rw [List.append_assoc]; exact HPO.out) (by omega)).mono ?_; rintro e w5 ⟨v5, rfl, hv5, hb5⟩; (have HV5 : Aside0 (RB w5 w.heap.size v5 (frameP kind l)) := ⟨by rw [HF.out, ← List.append_assoc]; exact own_weaken hv5 (Nat.le_trans HB.out.size HB4.out.size)⟩); (have HB5 := Aside0.mk (bthen HB4.out hb5)); clear hv5 hb5))
      refine bodyPost_ret (results_tmp2 rfl _ _ _) rfl ?_
      exact ⟨v5, rfl, HV5.out, bthen HB.out HB5.out⟩

set_option maxRecDepth 100000 in
set_option maxHeartbeats 1000000 in
theorem framed_any (kind : Int) (A : Option Addr) (n ac : Nat) (l : List Int) (w : World) (k0 : 0 ≤ kind) (k1 : kind < 256) (hr : ReadsInt w .u8 A n l) (ho : OctL l) (hn : n ≤ 1048576) :
    Calls Tryz.prog 39 #[.int .i64 kind, .slice A n ac] w fun e w' => ∃ v, e = .returned v ∧ RB w' w.heap.size v (frameP kind l) ∧ Below w.heap.size w w' := by
  have hcf := framePut_any kind A n ac l w k0 k1 hr ho hn
  obtain ⟨er, her⟩ := named (if 65536 < n then (5 : Int) else 0)
  rw [← her.out] at hcf
  have CF := Aside0.mk hcf
  clear hcf
  clear hr ho
  go_enter Tryz.func39, Tryz.ntmps39
  go_wp2_with fail
  refine CF.out.mono ?_
  rintro e w1 ⟨v1, rfl, hv1, hb1⟩
  have HV1 := Aside0.mk hv1
  have HB1 := Aside0.mk hb1
  clear hv1 hb1
  go_wp2
  go_ret
  exact ⟨_, rfl, HV1.out, HB1.out⟩

/-- which manifest is the one: its octets -/
def pointP (id : Int) : List Int := frameP 4 (nb (putN id.toNat))
theorem putN_oct {n : Nat} (hn : n < 72057594037927936) : OctL (nb (putN n)) := by
  intro b hb
  obtain ⟨x, hx, rfl⟩ := List.mem_map.1 hb
  have h := (get_put (n := n) (by have : (2 : Nat) ^ 56 = 72057594037927936 := rfl; omega) []).2.1 x hx
  omega
set_option maxRecDepth 100000 in
set_option maxHeartbeats 1000000 in
theorem pointer_any (id : Int) (w : World) (h0 : 0 ≤ id) (h1 : id ≤ 2147483647) :
    Calls Tryz.prog 47 #[.int .i64 id] w fun e w' => ∃ v, e = .returned v ∧ RB w' w.heap.size v (pointP id) ∧ Below w.heap.size w w' := by
  obtain ⟨P, hP⟩ := named (nb (putN id.toNat))
  have hpl : P.length ≤ 9 := by rw [hP.out, nb_len]; exact putN_len9 _ (by have : (2 : Nat) ^ 56 = 72057594037927936 := rfl; omega)
  have HPO : Aside0 (OctL P) := ⟨by rw [hP.out]; exact putN_oct (by omega)⟩
  have hpp : Aside0 (pointP id = frameP 4 P) := ⟨by rw [pointP, hP.out]⟩
  go_enter Tryz.func47, Tryz.ntmps47
  go_wp2_with fail
  refine (rput_any id h0 (by omega) w).mono ?_
  rw [← hP.out]
  rintro e w1 ⟨v1, rfl, hv1, hb1⟩
  obtain ⟨A1, c1, rfl, hr1⟩ := RB_reads hv1
  have HR1 := Aside0.mk hr1
  have HB1 := Aside0.mk hb1
  clear hv1 hb1 hr1
  go_wp2_with fail
  have hcf := rframePut_any 4 A1 P.length c1 P w1 (by decide) (by decide) HR1.out HPO.out (by omega)
  rw [if_neg (by omega)] at hcf
  refine hcf.mono ?_
  clear hcf
  rw [← hpp.out]
  rintro e w2 ⟨v2, rfl, hv2, hb2⟩
  have HV2 := Aside0.mk (own_weaken hv2 HB1.out.size)
  have HB2 := Aside0.mk (bthen HB1.out hb2)
  clear hv2 hb2
  go_wp2
  go_ret
  exact ⟨_, rfl, HV2.out, HB2.out⟩
end Go.Proofs.YtfakfgblaakgdaaGreat.Crc

/- The document's Encode of an edit: walked. (Printed by wip/gen_renc.py.) -/
namespace Go.Proofs.YtfakfgblaakgdaaGreat.Var
set_option linter.unusedVariables false
set_option linter.unusedSimpArgs false
open Go.RowKit Go.Proofs.YtfakfgblaakgdaaGreatW.PrintWords Go.Proofs.YtfakfgblaakgdaaGreatW.PrintLast Go.Proofs.YtfakfgblaakgdaaGreat.Base Go.Proofs.YtfakfgblaakgdaaGreat.Cells Go.Proofs.YtfakfgblaakgdaaGreat.Ints Go.Proofs.YtfakfgblaakgdaaGreat.VarPure Go.Proofs.YtfakfgblaakgdaaGreat.Codec Go.Proofs.YtfakfgblaakgdaaGreat.EditPure Go.Proofs.YtfakfgblaakgdaaGreat.Edit Go.Proofs.YtfakfgblaakgdaaGreat.Sets

/-- an edit's octets; none, if it can't be written -/
def encO (drop : List Int) (add : List Meta) (seq next : Int) : List Int := if encE drop add seq next = 0 then nb (encB drop add seq next) else []

/-- what is neither octets nor whole numbers stays -/
def Ot (w w' : World) : Prop := ∀ (k : Nat) (cs : Array Value) (t : TypeId), w.heap[k]? = some (.cells cs t (0, 0)) → t ≠ 5 → t ≠ 3 → w'.heap[k]? = some (.cells cs t (0, 0))
theorem Ot.refl (w : World) : Ot w w := fun _ _ _ h _ _ => h
theorem Ot.trans {a b c : World} (h : Ot a b) (k : Ot b c) : Ot a c := fun i cs t h1 h2 h3 => k i cs t (h i cs t h1 h2 h3) h2 h3
theorem Ot.of_below {a b : World} (h : Below a.heap.size a b) : Ot a b := fun _ _ _ h1 _ _ => blk_keep h1 h
theorem Ot.grown {a b c : World} (h : Ot a b) {base : Nat} {e : TypeId} {sz n : Nat} {v : Value} {xs : List Value} (ho : b.ownsRow base e sz v n xs) (he : e = 5 ∨ e = 3) (hg : b.grownBy c v.ownBlock) : Ot a c := fun i cs t h1 h2 h3 => by
  have hi := h i cs t h1 h2 h3
  refine blk_grown hi hg ?_
  rcases he with rfl | rfl
  · exact own_ne ho hi (Ne.symm h2)
  · exact own_ne ho hi (Ne.symm h3)
/-- octets that are being written: the row, and that nothing else has turned -/
structure Wr (W0 w : World) (v : Value) (P : List Int) (b : Nat) : Prop where
  row : kB.R 5 w W0.heap.size (fun _ => True) v P
  oth : Ot W0 w
  bel : Below W0.heap.size W0 w
  few : P.length ≤ b
theorem Wr.show_ {W0 w : World} {v : Value} {P : List Int} {b : Nat} (h : Wr W0 w v P b) : ∃ A n c, v = .slice A n c := by
  obtain ⟨A, c, e⟩ := Kd.R_slice h.row
  exact ⟨A, _, c, e⟩
theorem Wr.put {W0 w w1 : World} {v : Value} {P : List Int} {b : Nat} (h : Wr W0 w v P b) (hb : Below w.heap.size w w1) : Wr W0 w1 v P b :=
  ⟨Kd.R_below h.row hb, h.oth.trans (Ot.of_below hb), bthen h.bel hb, h.few⟩
theorem Wr.app {W0 w w1 : World} {v v1 : Value} {P Q : List Int} {b q : Nat} (h : Wr W0 w v P b) (hq : Q.length ≤ q) (hR : kB.R 5 w1 W0.heap.size (fun _ => True) v1 (P ++ Q)) (hB : Below W0.heap.size W0 w1) (hg : w.grownBy w1 v.ownBlock) : Wr W0 w1 v1 (P ++ Q) (b + q) :=
  ⟨hR, (by obtain ⟨inner, ho⟩ := Kd.R_own h.row; exact h.oth.grown ho (.inl rfl) hg), hB, by rw [List.length_append]; have := h.few; omega⟩
/-- numbers that are gathered: the row, and that nothing else has turned -/
structure Nu (W0 w : World) (v : Value) (L : List Int) : Prop where
  row : RI w W0.heap.size v L
  oth : Ot W0 w
  bel : Below W0.heap.size W0 w
theorem Nu.put {W0 w w1 : World} {v : Value} {L : List Int} (h : Nu W0 w v L) (hb : Below w.heap.size w w1) : Nu W0 w1 v L :=
  ⟨pw_own_below h.row hb, h.oth.trans (Ot.of_below hb), bthen h.bel hb⟩
theorem putI_len (n : Int) (h0 : 0 ≤ n) (h1 : n ≤ 1099511627776) : (nb (putI n)).length ≤ 9 := by
  rw [nb_len]; exact Crc.putN_len9 _ (by have : (2 : Nat) ^ 56 = 72057594037927936 := rfl; omega)
theorem okN_iff {n : Int} : okN n = true ↔ 0 ≤ n ∧ n ≤ 1099511627776 := by simp [okN, within]
theorem bytesOf_len (s : ByteArray) : (bytesOf s).length = s.size := by simp [bytesOf]
theorem strB_bytes (s : ByteArray) : nb (strB s) = bytesOf s := by simp [nb, strB, bytesOf]

set_option maxRecDepth 100000 in
theorem rnumber_any (n : Int) (w : World) : Calls Tryz.prog 90 #[.int .i64 n] w fun e w' => e = .returned (.bool (okN n)) ∧ w = w' := by
  by_cases h : 0 ≤ n
  · have hb : Aside0 (okN n = decide (n ≤ 1099511627776)) := ⟨by simp [okN, within, h]⟩
    go_enter Tryz.func90, Tryz.ntmps90
    go_wp2
    go_ret
    exact ⟨by rw [hb.out]; rfl, rfl⟩
  · have hb : Aside0 (okN n = false) := ⟨by simp [okN, within, h]⟩
    have h' : n < 0 := by omega
    go_enter Tryz.func90, Tryz.ntmps90
    go_wp2
    go_ret
    exact ⟨by rw [hb.out]; rfl, rfl⟩

/-- the numbers that are looked at -/
def numsOf (add : List Meta) : List Int := add.flatMap fun m => [m.id, m.level, m.count]
theorem numsOf_snoc (l : List Meta) (m : Meta) : numsOf (l ++ [m]) = numsOf l ++ [m.id, m.level, m.count] := by simp [numsOf]
theorem numsOf_len (l : List Meta) : (numsOf l).length = 3 * l.length := by
  induction l with
  | nil => rfl
  | cons m l ih => simp only [numsOf, List.flatMap_cons, List.length_append, List.length_cons, List.length_nil] at ih ⊢; omega
def txtOk (m : Meta) : Bool := decide (m.low.size ≤ 96) && decide (m.high.size ≤ 96)
theorem encOk_eq (drop : List Int) (add : List Meta) (seq next : Int) : encOk drop add seq next = (([seq, next] ++ drop ++ numsOf add).all okN && add.all txtOk) := by
  have h : add.all okM = ((numsOf add).all okN && add.all txtOk) := by
    induction add with
    | nil => rfl
    | cons m l ih =>
      simp only [numsOf, List.flatMap_cons, List.all_cons, List.all_append, ih, okM, txtOk, List.all_nil, Bool.and_true]
      cases okN m.id <;> cases okN m.level <;> cases okN m.count <;> cases decide (m.low.size ≤ 96) <;> cases decide (m.high.size ≤ 96) <;> simp [numsOf]
  rw [encOk, h]
  simp only [List.all_append, List.all_cons, List.all_nil, Bool.and_true]
  cases okN seq <;> cases okN next <;> cases drop.all okN <;> cases (numsOf add).all okN <;> simp
theorem enc_bad {drop : List Int} {add : List Meta} {seq next : Int} (h : ¬ (256 < drop.length ∨ 256 < add.length)) (hb : encOk drop add seq next = false) : encE drop add seq next = 1 ∧ encO drop add seq next = [] := by
  have h1 : encE drop add seq next = 1 := by rw [encE, if_neg h, hb]; rfl
  exact ⟨h1, by rw [encO, h1]; rfl⟩
theorem enc_good {drop : List Int} {add : List Meta} {seq next : Int} (h : ¬ (256 < drop.length ∨ 256 < add.length)) (hb : encOk drop add seq next = true) : encE drop add seq next = 0 ∧ encO drop add seq next = nb (encB drop add seq next) := by
  have h1 : encE drop add seq next = 0 := by rw [encE, if_neg h, hb]; rfl
  exact ⟨h1, by rw [encO, h1]; rfl⟩
theorem enc_long {drop : List Int} {add : List Meta} {seq next : Int} (h : 256 < drop.length ∨ 256 < add.length) : encE drop add seq next = 3 ∧ encO drop add seq next = [] := by
  have h1 : encE drop add seq next = 3 := by rw [encE, if_pos h]
  exact ⟨h1, by rw [encO, h1]; rfl⟩
theorem infoI : (Tryz.prog.info? 3).map (fun i => (i.zero, i.size, i.bytes)) = some (some (.int .i64 0), 1, 8) := by kernel_rfl

set_option maxRecDepth 100000 in
set_option maxHeartbeats 8000000 in
theorem rencode_any (D B : Option Addr) (dc bc ld la : Nat) (drop : List Int) (add : List Meta) (seq next : Int) (w : World) (hd : ReadsInt w .i64 D ld drop) (hr : Kd.C kMeta w B la add) (hms : ∀ m ∈ add, m.low.size ≤ 1048576 ∧ m.high.size ≤ 1048576) (hdl : ld ≤ 1048576) (hal : la ≤ 1048576) :
    Calls Tryz.prog 44 #[.agg #[.slice D ld dc, .slice B la bc, .int .i64 seq, .int .i64 next]] w fun e w' => ∃ v, e = .returned (.tuple #[v, .int .i64 (encE drop add seq next)]) ∧ RB w' w.heap.size v (encO drop add seq next) ∧ Below w.heap.size w w' := by
  have HD := Aside0.mk hd
  have HR := Aside0.mk hr
  have HM := Aside0.mk hms
  have LD : Aside0 (drop.length = ld) := ⟨hd.1⟩
  have LA : Aside0 (add.length = la) := ⟨Kd.C_len hr⟩
  obtain ⟨E, hE⟩ := named (encE drop add seq next)
  obtain ⟨O, hO⟩ := named (encO drop add seq next)
  rw [← hE.out, ← hO.out]
  clear hd hr hms
  by_cases hlong : 256 < ld ∨ 256 < la
  · have HE : Aside0 (E = 3 ∧ O = []) := ⟨by rw [hE.out, hO.out]; exact enc_long (by rw [LD.out, LA.out]; exact hlong)⟩
    obtain ⟨rfl, rfl⟩ := HE.out
    by_cases h1 : 256 < ld
    · have h1' : (256 : Int) < (ld : Int) := by omega
      clear hlong
      go_enter Tryz.func44, Tryz.ntmps44
      go_wp2
      refine bodyPost_ret (results_tmp2 rfl _ _ _) rfl ?_
      exact ⟨.slice none 0 0, rfl, own_nil _ _ _ _, below_alloc (Below.refl _ _) _⟩
    · have h1' : ¬ ((256 : Int) < (ld : Int)) := by omega
      have h2' : (256 : Int) < (la : Int) := by omega
      clear hlong
      go_enter Tryz.func44, Tryz.ntmps44
      go_wp2
      refine bodyPost_ret (results_tmp2 rfl _ _ _) rfl ?_
      exact ⟨.slice none 0 0, rfl, own_nil _ _ _ _, below_alloc (Below.refl _ _) _⟩
  have HSH : Aside0 (¬ (256 < drop.length ∨ 256 < add.length)) := ⟨by rw [LD.out, LA.out]; exact hlong⟩
  have h1 : ld ≤ 256 := by omega
  have h2 : la ≤ 256 := by omega
  have h1' : ¬ ((256 : Int) < (ld : Int)) := by omega
  have h2' : ¬ ((256 : Int) < (la : Int)) := by omega
  clear hlong
  go_enter Tryz.func44, Tryz.ntmps44
  go_upto_region 1 with (fail)
  obtain ⟨W0, hW0⟩ : ∃ W, W = w.alloc (.cells #[.slice D ld dc, .slice B la bc, .int .i64 seq, .int .i64 next] 31) := ⟨_, rfl⟩
  have hk : W0.heap[w.heap.size]? = some (.cells #[.slice D ld dc, .slice B la bc, .int .i64 seq, .int .i64 next] 31 (0, 0)) := by rw [hW0]; exact blk_new _ _
  have HB : Aside0 (Below w.heap.size w W0) := ⟨by rw [hW0]; exact below_alloc (Below.refl _ _) _⟩
  rw [← hW0]
  clear hW0
  have HK := Aside0.mk hk
  have FY : Aside0 (∀ w', Ot W0 w' → w'.cell? ⟨w.heap.size, 0, none⟩ = some (.slice D ld dc) ∧ w'.cell? ⟨w.heap.size, 1, none⟩ = some (.slice B la bc) ∧ w'.cell? ⟨w.heap.size, 2, none⟩ = some (.int .i64 seq) ∧ w'.cell? ⟨w.heap.size, 3, none⟩ = some (.int .i64 next)) := ⟨fun w' h => by
    have hk' := h _ _ _ HK.out (by decide) (by decide)
    exact ⟨blk_cell hk' 0, blk_cell hk' 1, blk_cell hk' 2, blk_cell hk' 3⟩⟩
  obtain ⟨y0, y1, y2, y3⟩ := FY.out _ (Ot.refl _)
  clear hk
  have HBA := Aside0.mk (below_alloc (Below.refl _ W0) (.cells #[.int .i64 seq, .int .i64 next] 3))
  obtain ⟨z0, z1, z2, z3⟩ := FY.out _ (Ot.of_below HBA.out)
  have HN0 : Aside0 (RI (W0.alloc (.cells #[.int .i64 seq, .int .i64 next] 3)) W0.heap.size (.slice (some ⟨W0.heap.size, 0, none⟩) 2 2) [seq, next]) := ⟨own_lit W0 W0.heap.size 3 .i64 [seq, next] (Nat.le_refl _) (by simp)⟩
  go_upto_region 5 with (at_builtin; refine print_append_row (w0 := W0) W0.heap.size (by rfl) (.tmp 27) (.tmp 29) 29 3 .i64 8 (by rfl) Tryz.underlying29 infoI (by decide) (.slice (some ⟨W0.heap.size, 0, none⟩) 2 2) [seq, next] drop D ld dc (by rfl) (by rfl) ?aO ?aR ?aB ?aS ?c1 ?_; (case aO => exact HN0.out); (case aR => exact HD.out.below (bthen HB.out HBA.out)); (case aB => exact HBA.out); (case aS => exact HBA.out.size); (case c1 => simp only [List.length_cons, List.length_nil]; omega); intro v1 w1 hown hB1 hg1 hat; have HO1 := Aside0.mk hown; have HB1 := Aside0.mk hB1; have HG1 := Aside0.mk hg1; clear hown hB1 hg1 hat)
  clear y0 y1 y2 y3 z0 z1 z2 z3
  have HNU : Aside0 (Nu W0 w1 v1 ([seq, next] ++ drop)) := ⟨⟨HO1.out, (Ot.of_below HBA.out).grown HN0.out (.inr rfl) HG1.out, HB1.out⟩⟩
  clear HO1 HB1 HG1 HN0
  go_wp2
  go_loopg [4, 5] la (fun g v4 v5 wr => ∃ i : Nat, v5 = .int .i64 i ∧ g + i = la ∧ Aside0 (Nu W0 wr v4 (([seq, next] ++ drop) ++ numsOf (add.take i))) ∧ Aside0 ((add.take i).all txtOk = true))
  case atStart => exact ⟨0, rfl, by omega, ⟨by simpa [numsOf] using HNU.out⟩, ⟨rfl⟩⟩
  case round =>
    obtain ⟨i, rfl, hg, HN, HT⟩ := hrel
    obtain ⟨y0, y1, y2, y3⟩ := FY.out _ HN.out.oth
    by_cases hlt : i < la
    · have hlt' : (i : Int) < (la : Int) := by omega
      obtain ⟨m, hm⟩ : ∃ m, add[i]? = some m := ⟨_, List.getElem?_eq_getElem (by rw [LA.out]; exact hlt)⟩
      obtain ⟨ad, hB0, c0, c1, c2, c3, c4⟩ := atMeta (Kd.C_below HR.out (bthen HB.out HN.out.bel)) i m hm
      subst hB0
      have ht : Aside0 (add.take (i + 1) = add.take i ++ [m]) := ⟨by rw [List.take_add_one, hm]; rfl⟩
      have hLL : Aside0 ((([seq, next] ++ drop) ++ numsOf (add.take i)).length ≤ 4096) := ⟨by
        simp only [List.length_append, List.length_cons, List.length_nil, numsOf_len, LD.out]
        have := List.length_take_le i add
        omega⟩
      obtain ⟨NL, hNL⟩ := named (([seq, next] ++ drop) ++ numsOf (add.take i))
      rw [← hNL.out] at HN hLL
      have HMM := Aside0.mk hm
      clear hm
      go_upto_region 9 with (fail)
      obtain ⟨wE, hwE⟩ : ∃ wE, wE = wr.alloc (.cells #[.int .i64 m.id, .int .i64 m.level, .int .i64 m.count, .string m.low, .string m.high] 139) := ⟨_, rfl⟩
      have HKE : Aside0 (wE.heap[wr.heap.size]? = some (.cells #[.int .i64 m.id, .int .i64 m.level, .int .i64 m.count, .string m.low, .string m.high] 139 (0, 0))) := ⟨by rw [hwE]; exact blk_new _ _⟩
      have HBE : Aside0 (Below wr.heap.size wr wE) := ⟨by rw [hwE]; exact below_alloc (Below.refl _ _) _⟩
      rw [← hwE]
      clear hwE c0 c1 c2 c3 c4 y0 y1 y2 y3
      have HNE := Aside0.mk (HN.out.put HBE.out)
      obtain ⟨e0, e1, e2, e3, e4, _, _, _, _, _⟩ := all5 HKE.out
      have HBI := Aside0.mk (below_alloc (Below.refl _ wE) (.cells #[.int .i64 m.id, .int .i64 m.level, .int .i64 m.count] 3))
      have HN3 : Aside0 (ReadsInt (wE.alloc (.cells #[.int .i64 m.id, .int .i64 m.level, .int .i64 m.count] 3)) .i64 (some ⟨wE.heap.size, 0, none⟩) 3 [m.id, m.level, m.count]) := ⟨by
        obtain ⟨A, c, e, hr⟩ := own_reads (own_lit wE wE.heap.size 3 .i64 [m.id, m.level, m.count] (Nat.le_refl _) (by simp))
        injection e with e1 _ _
        subst e1
        exact hr⟩
      have HNI := Aside0.mk (HNE.out.put HBI.out)
      have FE : Aside0 (∀ w', Ot wE w' → w'.cell? ⟨wr.heap.size, 3, none⟩ = some (.string m.low) ∧ w'.cell? ⟨wr.heap.size, 4, none⟩ = some (.string m.high)) := ⟨fun w' h => by
        have hk' := h _ _ _ HKE.out (by decide) (by decide)
        exact ⟨blk_cell hk' 3, blk_cell hk' 4⟩⟩
      go_upto_region 10 with (at_builtin; refine print_append_row (w0 := W0) W0.heap.size (by rfl) (.tmp 43) (.tmp 50) 29 3 .i64 8 (by rfl) Tryz.underlying29 infoI (by decide) u4 NL [m.id, m.level, m.count] (some ⟨wE.heap.size, 0, none⟩) 3 3 (by rfl) (by rfl) ?aO ?aR ?aB ?aS ?c1 ?_; (case aO => exact HNI.out.row); (case aR => exact HN3.out); (case aB => exact HNI.out.bel); (case aS => exact HNI.out.bel.size); (case c1 => have := hLL.out; omega); intro v2 w2 hown hB2 hg2 hat; have HN2 : Aside0 (Nu W0 w2 v2 (NL ++ [m.id, m.level, m.count])) := ⟨⟨hown, HNI.out.oth.grown HNI.out.row (.inr rfl) hg2, hB2⟩⟩; have HOE : Aside0 (Ot wE w2) := ⟨(Ot.of_below HBI.out).grown HNI.out.row (.inr rfl) hg2⟩; clear hown hB2 hg2 hat)
      clear e0 e1 e2 e3 e4
      obtain ⟨e3, e4⟩ := FE.out _ HOE.out
      have hlm := (HM.out m (List.mem_of_getElem? HMM.out)).1
      have hhm := (HM.out m (List.mem_of_getElem? HMM.out)).2
      obtain ⟨sl, hsl⟩ : ∃ n, m.low.size = n := ⟨_, rfl⟩
      obtain ⟨sh, hsh⟩ : ∃ n, m.high.size = n := ⟨_, rfl⟩
      have HSZ := Aside0.mk (And.intro hsl hsh)
      have hszl : ((m.low.size : Nat) : Int) = sl := by rw [hsl]
      have hszh : ((m.high.size : Nat) : Int) = sh := by rw [hsh]
      clear hsl hsh
      have hbad : (96 < sl ∨ 96 < sh) → Aside0 (E = 1 ∧ O = []) := fun h => ⟨by
        rw [hE.out, hO.out]
        refine enc_bad HSH.out ?_
        rw [encOk_eq]
        have : add.all txtOk = false := by
          apply List.all_eq_false.2
          refine ⟨m, List.mem_of_getElem? HMM.out, ?_⟩
          simp only [txtOk, HSZ.out.1, HSZ.out.2, Bool.and_eq_true, decide_eq_true_eq]
          omega
        rw [this, Bool.and_false]⟩
      by_cases hl1 : 96 < sl
      · obtain ⟨rfl, rfl⟩ := (hbad (.inl hl1)).out
        have hl1' : (96 : Int) < (sl : Int) := by omega
        clear hbad
        go_wp2
        refine bodyPost_ret (results_tmp2 rfl _ _ _) rfl ?_
        exact ⟨.slice none 0 0, rfl, own_nil _ _ _ _, bthen HB.out HN2.out.bel⟩
      · by_cases hl2 : 96 < sh
        · obtain ⟨rfl, rfl⟩ := (hbad (.inr hl2)).out
          have hl1' : ¬ ((96 : Int) < (sl : Int)) := by omega
          have hl2' : (96 : Int) < (sh : Int) := by omega
          clear hbad
          go_wp2
          refine bodyPost_ret (results_tmp2 rfl _ _ _) rfl ?_
          exact ⟨.slice none 0 0, rfl, own_nil _ _ _ _, bthen HB.out HN2.out.bel⟩
        · have hl1' : ¬ ((96 : Int) < (sl : Int)) := by omega
          have hl2' : ¬ ((96 : Int) < (sh : Int)) := by omega
          clear hbad
          go_wp2
          go_roundg (la - (i + 1))
          case measure => omega
          case rel => exact ⟨i + 1, by go_num, by omega, ⟨by rw [ht.out, numsOf_snoc, ← List.append_assoc, ← hNL.out]; exact HN2.out⟩, ⟨by rw [ht.out, List.all_append, HT.out]; simp only [List.all_cons, List.all_nil, txtOk, HSZ.out.1, HSZ.out.2]; simp; omega⟩⟩
    · have hnf : ¬ ((i : Int) < (la : Int)) := by omega
      have hfull : Aside0 (add.take i = add) := ⟨List.take_of_length_le (by rw [LA.out]; omega)⟩
      have HTX : Aside0 (add.all txtOk = true) := ⟨by rw [← hfull.out]; exact HT.out⟩
      obtain ⟨NL, hNL⟩ := named (([seq, next] ++ drop) ++ numsOf add)
      rw [hfull.out, ← hNL.out] at HN
      have hok : encOk drop add seq next = NL.all okN := by rw [encOk_eq, HTX.out, Bool.and_true, ← hNL.out]
      have HOK := Aside0.mk hok
      clear hok
      obtain ⟨NA, nc, hv4, hrn⟩ := RI_reads HN.out.row
      subst hv4
      obtain ⟨nl, hnl⟩ : ∃ n, NL.length = n := ⟨_, rfl⟩
      have hnl2 : nl ≤ 4096 := by
        rw [← hnl, hNL.out]
        simp only [List.length_append, List.length_cons, List.length_nil, numsOf_len, LD.out, LA.out]
        omega
      rw [hnl] at hrn ⊢
      have NLL := Aside0.mk hnl
      have HRN := Aside0.mk hrn
      clear hrn hnl
      go_wp2
      go_loopg [7] nl (fun g v7 wq => ∃ k : Nat, v7 = .int .i64 k ∧ g + k = nl ∧ Aside0 ((NL.take k).all okN = true) ∧ wr = wq)
      case atStart => exact ⟨0, rfl, by omega, ⟨rfl⟩, rfl⟩
      case round =>
        obtain ⟨k, rfl, hgk, HTK, rfl⟩ := hrel
        by_cases hlk : k < nl
        · have hlk' : (k : Int) < (nl : Int) := by omega
          obtain ⟨x, hx⟩ : ∃ x, NL[k]? = some x := ⟨_, List.getElem?_eq_getElem (by rw [NLL.out]; exact hlk)⟩
          obtain ⟨adn, hNA, n0⟩ := HRN.out.at_ k (by omega) (by omega)
          subst hNA
          have hrd : rd NL k = x := by simp [rd, List.getD_eq_getElem?_getD, hx]
          rw [Int.toNat_natCast, hrd] at n0
          have HXX := Aside0.mk hx
          obtain ⟨b, hb⟩ := named (okN x)
          clear hx hrd
          go_wp2_with fail
          refine (rnumber_any x _).mono ?_
          rw [← hb.out]
          rintro e wz ⟨rfl, rfl⟩
          cases hbb : b with
          | false =>
            have HBAD : Aside0 (E = 1 ∧ O = []) := ⟨by
              rw [hE.out, hO.out]
              refine enc_bad HSH.out ?_
              rw [HOK.out]
              exact List.all_eq_false.2 ⟨x, List.mem_of_getElem? HXX.out, by rw [← hb.out, hbb]; decide⟩⟩
            obtain ⟨rfl, rfl⟩ := HBAD.out
            clear hbb
            go_wp2
            refine bodyPost_ret (results_tmp2 rfl _ _ _) rfl ?_
            exact ⟨.slice none 0 0, rfl, own_nil _ _ _ _, bthen HB.out HN.out.bel⟩
          | true =>
            have HTS : Aside0 ((NL.take (k + 1)).all okN = true) := ⟨by rw [List.take_add_one, HXX.out, List.all_append, HTK.out]; simp only [Option.toList_some, List.all_cons, List.all_nil, ← hb.out, hbb]; rfl⟩
            clear hbb
            go_wp2
            go_roundg (nl - (k + 1))
            case measure => omega
            case rel => exact ⟨k + 1, by go_num, by omega, HTS, rfl⟩
        · have hnk : ¬ ((k : Int) < (nl : Int)) := by omega
          have HALL : Aside0 (NL.all okN = true) := ⟨by
            have h := HTK.out
            rwa [List.take_of_length_le (by rw [NLL.out]; omega)] at h⟩
          have HGOOD : Aside0 (E = 0 ∧ O = nb (encB drop add seq next)) := ⟨by
            rw [hE.out, hO.out]
            exact enc_good HSH.out (by rw [HOK.out]; exact HALL.out)⟩
          have HMEM : Aside0 (∀ x ∈ NL, 0 ≤ x ∧ x ≤ 1099511627776) := ⟨fun x hx => okN_iff.1 (List.all_eq_true.1 HALL.out x hx)⟩
          obtain ⟨sq0, sq1⟩ := HMEM.out seq (by rw [hNL.out]; simp)
          obtain ⟨nx0, nx1⟩ := HMEM.out next (by rw [hNL.out]; simp)
          have HDR : Aside0 (∀ x ∈ drop, 0 ≤ x ∧ x ≤ 1099511627776) := ⟨fun x hx => HMEM.out x (by rw [hNL.out]; simp [hx])⟩
          have HAR : Aside0 (∀ m ∈ add, (0 ≤ m.id ∧ m.id ≤ 1099511627776) ∧ (0 ≤ m.level ∧ m.level ≤ 1099511627776) ∧ (0 ≤ m.count ∧ m.count ≤ 1099511627776) ∧ m.low.size ≤ 96 ∧ m.high.size ≤ 96) := ⟨fun m hm => by
            have h1 : ∀ x, x = m.id ∨ x = m.level ∨ x = m.count → x ∈ NL := fun x hx => by
              rw [hNL.out]
              refine List.mem_append.2 (.inr ?_)
              rw [numsOf, List.mem_flatMap]
              exact ⟨m, hm, by simpa using hx⟩
            have h2 := List.all_eq_true.1 HTX.out m hm
            simp only [txtOk, Bool.and_eq_true, decide_eq_true_eq] at h2
            exact ⟨HMEM.out _ (h1 _ (.inl rfl)), HMEM.out _ (h1 _ (.inr (.inl rfl))), HMEM.out _ (h1 _ (.inr (.inr rfl))), h2.1, h2.2⟩⟩
          obtain ⟨rfl, hO2⟩ := HGOOD.out
          have HOO := Aside0.mk hO2
          have HBW := Aside0.mk HN.out.bel
          have HOW := Aside0.mk HN.out.oth
          clear hO2 HALL HMEM
          obtain ⟨y0, y1, y2, y3⟩ := FY.out _ HOW.out
          obtain ⟨Q1, hQ1⟩ := named (nb (putI seq))
          obtain ⟨Q2, hQ2⟩ := named (nb (putI next))
          have hq1 : Q1.length ≤ 9 := by rw [hQ1.out]; exact putI_len _ sq0 sq1
          have hq2 : Q2.length ≤ 9 := by rw [hQ2.out]; exact putI_len _ nx0 nx1
          go_upto_region 17 with (fail)
          go_cut [8] (fun v8 wc => Aside0 (Wr W0 wc v8 (Q1 ++ Q2) 18))
          case first =>
            have e1 : IntKind.u64.wrap seq = seq := by rw [IntKind.wrap_u64]; omega
            have e2 : IntKind.u64.wrap next = next := by rw [IntKind.wrap_u64]; omega
            have z2 : wr.drew.cell? ⟨w.heap.size, 2, none⟩ = some (.int .i64 seq) := y2
            have z3 : wr.drew.cell? ⟨w.heap.size, 3, none⟩ = some (.int .i64 next) := y3
            have CP1 : ∀ W', Below wr.heap.size wr W' → Calls Tryz.prog 91 #[.int .u64 seq] W' fun e w' => ∃ v, e = .returned v ∧ Aside0 (Wr W0 w' v Q1 9) ∧ Below W'.heap.size W' w' := fun W' hW => by
              refine (rput_any seq sq0 (by omega) W').mono ?_
              rintro e w' ⟨v, rfl, hv, hb⟩
              have hb2 := bthen HBW.out (bthen hW hb)
              refine ⟨v, rfl, ⟨⟨?_, HOW.out.trans (Ot.of_below (bthen hW hb)), hb2, hq1⟩⟩, hb⟩
              rw [hQ1.out]
              exact Crc.own_R (own_weaken hv (Nat.le_trans HBW.out.size hW.size))
            have CP2 : ∀ W', Calls Tryz.prog 91 #[.int .u64 next] W' fun e w' => ∃ A n c, e = .returned (.slice A n c) ∧ Aside0 (ReadsInt w' .u8 A n Q2) ∧ n ≤ 9 ∧ Below W'.heap.size W' w' := fun W' => by
              refine (rput_any next nx0 (by omega) W').mono ?_
              rintro e w' ⟨v, rfl, hv, hb⟩
              obtain ⟨A, c, rfl, hr⟩ := RB_reads hv
              exact ⟨A, _, c, rfl, ⟨by rw [hQ2.out]; exact hr⟩, putI_len next nx0 nx1, hb⟩
            clear y0 y1 y2 y3
            go_region_law (first
              | (refine Kd.R_append_rows_step kB (Rr := kB.K w3) (w0 := W0) (W := w3) W0.heap.size (by rfl) (.tmp 77) (.tmp 81) 88 5 (.int .u8 0) 1 rfl Tryz.underlying88 Var.infoB rfl (by decide) (by omega) v1 Q1 Q2 A2 n2 c2 (fun _ => True) (fun _ => False) rfl rfl ?aO ?aR ?aK (fun _ hk => hk.elim) (fun _ _ => trivial) ?aB ?aS ?c1 ?_; (case aO => exact HX3.out.row); (case aR => exact Crc.octC HR2.out); (case aK => intro x cs hx; exact hx); (case aB => exact HX3.out.bel); (case aS => exact HX3.out.bel.size); (case c1 => omega); intro v4 w4 hown hB4 hg4 hat; (have HX4 := Aside0.mk (HX3.out.app hq2 hown hB4 hg4)); clear hown hB4 hg4 hat)
              | (go_simp; go_wp2_with (first
                | (go_at_call 91; with_reducible refine (CP1 _ (by repeat (first | with_reducible exact Below.refl _ _ | with_reducible apply below_drew))).mono ?_; rintro e w2 ⟨v1, rfl, HX1, hb2⟩; (have z2 := (FY.out _ HX1.out.oth).2.2.1); (have z3 := (FY.out _ HX1.out.oth).2.2.2); clear hb2)
                | (go_at_call 91; with_reducible refine (CP2 _).mono ?_; rintro e w3 ⟨A2, n2, c2, rfl, HR2, hn2, hb3⟩; (have HX3 := Aside0.mk (HX1.out.put hb3)); clear hb3)))) 
            all_goals go_wp2
            all_goals go_meet
            all_goals exact HX4
          case rest =>
            have HX := hcut
            clear hcut
            obtain ⟨P0, hP0⟩ := named (Q1 ++ Q2)
            rw [← hP0.out] at HX
            clear y0 y1 y2 y3
            have HX0 := HX
            obtain ⟨y0, y1, y2, y3⟩ := FY.out _ HX0.out.oth
            obtain ⟨V0, hV0⟩ : ∃ V, V = u8 := ⟨_, rfl⟩
            rw [← hV0] at HX0 ⊢
            clear HX hV0
            have ld0 : (0 : Int) ≤ (ld : Int) := by omega
            have ld1 : (ld : Int) ≤ 1099511627776 := by omega
            have la0 : (0 : Int) ≤ (la : Int) := by omega
            have la1 : (la : Int) ≤ 1099511627776 := by omega
            obtain ⟨R1, hR1⟩ := named (nb (putI (ld : Int)))
            have hr1 : R1.length ≤ 9 := by rw [hR1.out]; exact putI_len _ ld0 ld1
            go_wp2_with fail
            refine (rput_any (ld : Int) ld0 (Int.lt_of_le_of_lt ld1 (by decide)) _).mono ?_
            rintro e wp1 ⟨vp1, rfl, hvp, hbp⟩
            obtain ⟨Ap1, cp1, rfl, hrp⟩ := RB_reads hvp
            have HP1 := Aside0.mk (HX0.out.put hbp)
            have hrp2 : ReadsInt wp1 .u8 Ap1 R1.length R1 := by rw [hR1.out]; exact hrp
            have HRP1 := Aside0.mk hrp2
            have hle : (nb (putN (Int.toNat (ld : Int)))).length = R1.length := by rw [hR1.out]; rfl
            rw [hle]
            have HC1 := Aside0.mk HX0.out.few
            clear hvp hbp hrp hrp2 hle y0 y1 y2 y3
            go_wp2_with ((at_builtin; refine Kd.R_append_rows kB (Rr := kB.K wp1) (w0 := W0) W0.heap.size rfl (.tmp 83) (.tmp 88) 88 5 (.int .u8 0) 1 rfl Tryz.underlying88 Var.infoB rfl (by decide) (by omega) V0 P0 R1 Ap1 R1.length cp1 (fun _ => True) (fun _ => False) rfl rfl ?aO ?aR ?aK (fun _ hk => hk.elim) (fun _ _ => trivial) ?aB ?aS ?c1 ?_; (case aO => exact HP1.out.row); (case aR => exact Crc.octC HRP1.out); (case aK => intro x cs hx; exact hx); (case aB => exact HP1.out.bel); (case aS => exact HP1.out.bel.size); (case c1 => have := HC1.out; omega); intro V1 w1q hown hB hg4 hat; obtain ⟨P1, hP1⟩ := named (P0 ++ R1); have HX1 : Aside0 (Wr W0 w1q V1 P1 (18 + 9)) := ⟨by rw [hP1.out]; exact HP1.out.app hr1 hown hB hg4⟩; obtain ⟨y0, y1, y2, y3⟩ := FY.out _ HX1.out.oth; clear hown hB hg4 hat))
            clear y0 y1 y2 y3
            go_loopg [8, 9] ld (fun g v8 v9 wq => ∃ q : Nat, v9 = .int .i64 q ∧ g + q = ld ∧ Aside0 (Wr W0 wq v8 (P1 ++ nb ((drop.take q).flatMap putI)) (27 + 9 * q)))
            case atStart => exact ⟨0, rfl, by omega, ⟨by simpa [nb] using HX1.out⟩⟩
            case round =>
              obtain ⟨q, rfl, hgq, HXq⟩ := hrel
              obtain ⟨y0, y1, y2, y3⟩ := FY.out _ HXq.out.oth
              by_cases hlq : q < ld
              · have hlq' : (q : Int) < (ld : Int) := by omega
                obtain ⟨x, hx⟩ : ∃ x, drop[q]? = some x := ⟨_, List.getElem?_eq_getElem (by rw [LD.out]; exact hlq)⟩
                obtain ⟨adn, hDD, n0⟩ := (HD.out.below (bthen HB.out HXq.out.bel)).at_ q (by omega) (by omega)
                subst hDD
                have hrd : rd drop q = x := by simp [rd, List.getD_eq_getElem?_getD, hx]
                rw [Int.toNat_natCast, hrd] at n0
                obtain ⟨xx0, xx1⟩ := HDR.out x (List.mem_of_getElem? hx)
                have ht : Aside0 (drop.take (q + 1) = drop.take q ++ [x]) := ⟨by rw [List.take_add_one, hx]; rfl⟩
                obtain ⟨P10, hP10⟩ := named (P1 ++ nb ((drop.take q).flatMap putI))
                obtain ⟨V10, hV10⟩ : ∃ V, V = u8 := ⟨_, rfl⟩
                have HX10 : Aside0 (Wr W0 wr V10 P10 (27 + 9 * q)) := ⟨by rw [hV10, hP10.out]; exact HXq.out⟩
                rw [← hV10]
                clear hx hrd hV10
                obtain ⟨R11, hR11⟩ := named (nb (putI x))
                have hr11 : R11.length ≤ 9 := by rw [hR11.out]; exact putI_len _ xx0 xx1
                go_wp2_with fail
                refine (rput_any x xx0 (Int.lt_of_le_of_lt xx1 (by decide)) _).mono ?_
                rintro e wp11 ⟨vp11, rfl, hvp, hbp⟩
                obtain ⟨Ap11, cp11, rfl, hrp⟩ := RB_reads hvp
                have HP11 := Aside0.mk (HX10.out.put hbp)
                have hrp2 : ReadsInt wp11 .u8 Ap11 R11.length R11 := by rw [hR11.out]; exact hrp
                have HRP11 := Aside0.mk hrp2
                have hle : (nb (putN (Int.toNat x))).length = R11.length := by rw [hR11.out]; rfl
                rw [hle]
                have HC11 := Aside0.mk HX10.out.few
                clear hvp hbp hrp hrp2 hle y0 y1 y2 y3 n0
                go_wp2_with ((at_builtin; refine Kd.R_append_rows kB (Rr := kB.K wp11) (w0 := W0) W0.heap.size rfl (.tmp 97) (.tmp 104) 88 5 (.int .u8 0) 1 rfl Tryz.underlying88 Var.infoB rfl (by decide) (by omega) V10 P10 R11 Ap11 R11.length cp11 (fun _ => True) (fun _ => False) rfl rfl ?aO ?aR ?aK (fun _ hk => hk.elim) (fun _ _ => trivial) ?aB ?aS ?c1 ?_; (case aO => exact HP11.out.row); (case aR => exact Crc.octC HRP11.out); (case aK => intro x cs hx; exact hx); (case aB => exact HP11.out.bel); (case aS => exact HP11.out.bel.size); (case c1 => have := HC11.out; omega); intro V11 w11q hown hB hg4 hat; obtain ⟨P11, hP11⟩ := named (P10 ++ R11); have HX11 : Aside0 (Wr W0 w11q V11 P11 (27 + 9 * q + 9)) := ⟨by rw [hP11.out]; exact HP11.out.app hr11 hown hB hg4⟩; obtain ⟨y0, y1, y2, y3⟩ := FY.out _ HX11.out.oth; clear hown hB hg4 hat))
                go_roundg (ld - (q + 1))
                case measure => omega
                case rel =>
                  refine ⟨q + 1, by go_num, by omega, ⟨?_⟩⟩
                  have h := HX11.out
                  rw [hP11.out, hP10.out, hR11.out] at h
                  rw [ht.out, List.flatMap_append, nb_app, ← List.append_assoc, show 27 + 9 * (q + 1) = 27 + 9 * q + 9 by omega]
                  simpa using h
              · have hnq : ¬ ((q : Int) < (ld : Int)) := by omega
                obtain ⟨P2, hP2⟩ := named (P1 ++ nb (drop.flatMap putI))
                obtain ⟨V2, hV2⟩ : ∃ V, V = u8 := ⟨_, rfl⟩
                have HX2 : Aside0 (Wr W0 wr V2 P2 2331) := ⟨by
                  have h := HXq.out
                  rw [List.take_of_length_le (by rw [LD.out]; omega), ← hP2.out, ← hV2] at h
                  exact ⟨h.row, h.oth, h.bel, by have := h.few; omega⟩⟩
                rw [← hV2]
                clear hV2 HXq
                obtain ⟨R3, hR3⟩ := named (nb (putI (la : Int)))
                have hr3 : R3.length ≤ 9 := by rw [hR3.out]; exact putI_len _ la0 la1
                go_wp2_with fail
                refine (rput_any (la : Int) la0 (Int.lt_of_le_of_lt la1 (by decide)) _).mono ?_
                rintro e wp3 ⟨vp3, rfl, hvp, hbp⟩
                obtain ⟨Ap3, cp3, rfl, hrp⟩ := RB_reads hvp
                have HP3 := Aside0.mk (HX2.out.put hbp)
                have hrp2 : ReadsInt wp3 .u8 Ap3 R3.length R3 := by rw [hR3.out]; exact hrp
                have HRP3 := Aside0.mk hrp2
                have hle : (nb (putN (Int.toNat (la : Int)))).length = R3.length := by rw [hR3.out]; rfl
                rw [hle]
                have HC3 := Aside0.mk HX2.out.few
                clear hvp hbp hrp hrp2 hle y0 y1 y2 y3
                go_wp2_with ((at_builtin; refine Kd.R_append_rows kB (Rr := kB.K wp3) (w0 := W0) W0.heap.size rfl (.tmp 106) (.tmp 111) 88 5 (.int .u8 0) 1 rfl Tryz.underlying88 Var.infoB rfl (by decide) (by omega) V2 P2 R3 Ap3 R3.length cp3 (fun _ => True) (fun _ => False) rfl rfl ?aO ?aR ?aK (fun _ hk => hk.elim) (fun _ _ => trivial) ?aB ?aS ?c1 ?_; (case aO => exact HP3.out.row); (case aR => exact Crc.octC HRP3.out); (case aK => intro x cs hx; exact hx); (case aB => exact HP3.out.bel); (case aS => exact HP3.out.bel.size); (case c1 => have := HC3.out; omega); intro V3 w3q hown hB hg4 hat; obtain ⟨P3, hP3⟩ := named (P2 ++ R3); have HX3 : Aside0 (Wr W0 w3q V3 P3 (2331 + 9)) := ⟨by rw [hP3.out]; exact HP3.out.app hr3 hown hB hg4⟩; obtain ⟨y0, y1, y2, y3⟩ := FY.out _ HX3.out.oth; clear hown hB hg4 hat))
                clear y0 y1 y2 y3
                go_loopg [8, 10] la (fun g v8 v10 wq => ∃ r : Nat, v10 = .int .i64 r ∧ g + r = la ∧ Aside0 (Wr W0 wq v8 (P3 ++ nb ((add.take r).flatMap putM)) (2340 + 237 * r)))
                case atStart => exact ⟨0, rfl, by omega, ⟨by simpa [nb] using HX3.out⟩⟩
                case round =>
                  obtain ⟨r, rfl, hgr, HXr⟩ := hrel
                  obtain ⟨y0, y1, y2, y3⟩ := FY.out _ HXr.out.oth
                  by_cases hlr : r < la
                  · have hlr' : (r : Int) < (la : Int) := by omega
                    obtain ⟨m, hm⟩ : ∃ m, add[r]? = some m := ⟨_, List.getElem?_eq_getElem (by rw [LA.out]; exact hlr)⟩
                    obtain ⟨ad, hB0, c0, c1, c2, c3, c4⟩ := atMeta (Kd.C_below HR.out (bthen HB.out HXr.out.bel)) r m hm
                    subst hB0
                    have ht : Aside0 (add.take (r + 1) = add.take r ++ [m]) := ⟨by rw [List.take_add_one, hm]; rfl⟩
                    obtain ⟨⟨i0, i1⟩, ⟨v0, v1'⟩, ⟨k0, k1⟩, hlo, hhi⟩ := HAR.out m (List.mem_of_getElem? hm)
                    obtain ⟨P20, hP20⟩ := named (P3 ++ nb ((add.take r).flatMap putM))
                    obtain ⟨V20, hV20⟩ : ∃ V, V = u8 := ⟨_, rfl⟩
                    have HXR : Aside0 (Wr W0 wr V20 P20 (2340 + 237 * r)) := ⟨by rw [hV20, hP20.out]; exact HXr.out⟩
                    rw [← hV20]
                    clear hm hV20
                    go_upto_region 28 with (fail)
                    obtain ⟨wE, hwE⟩ : ∃ wE, wE = wr.alloc (.cells #[.int .i64 m.id, .int .i64 m.level, .int .i64 m.count, .string m.low, .string m.high] 139) := ⟨_, rfl⟩
                    have HKE : Aside0 (wE.heap[wr.heap.size]? = some (.cells #[.int .i64 m.id, .int .i64 m.level, .int .i64 m.count, .string m.low, .string m.high] 139 (0, 0))) := ⟨by rw [hwE]; exact blk_new _ _⟩
                    have HX20 : Aside0 (Wr W0 wE V20 P20 (2340 + 237 * r)) := ⟨by rw [hwE]; exact HXR.out.put (below_alloc (Below.refl _ _) _)⟩
                    rw [← hwE]
                    clear hwE c0 c1 c2 c3 c4 y0 y1 y2 y3
                    have FE : Aside0 (∀ w', Ot wE w' → w'.cell? ⟨wr.heap.size, 0, none⟩ = some (.int .i64 m.id) ∧ w'.cell? ⟨wr.heap.size, 1, none⟩ = some (.int .i64 m.level) ∧ w'.cell? ⟨wr.heap.size, 2, none⟩ = some (.int .i64 m.count) ∧ w'.cell? ⟨wr.heap.size, 3, none⟩ = some (.string m.low) ∧ w'.cell? ⟨wr.heap.size, 4, none⟩ = some (.string m.high)) := ⟨fun w' h => by
                      have hk' := h _ _ _ HKE.out (by decide) (by decide)
                      exact ⟨blk_cell hk' 0, blk_cell hk' 1, blk_cell hk' 2, blk_cell hk' 3, blk_cell hk' 4⟩⟩
                    have HOE20 := Aside0.mk (Ot.refl wE)
                    obtain ⟨e0, e1, e2, e3, e4⟩ := FE.out _ HOE20.out
                    have sl0 : (0 : Int) ≤ (m.low.size : Int) := by omega
                    have sl1 : (m.low.size : Int) ≤ 1099511627776 := by omega
                    have sh0 : (0 : Int) ≤ (m.high.size : Int) := by omega
                    have sh1 : (m.high.size : Int) ≤ 1099511627776 := by omega
                    obtain ⟨R21, hR21⟩ := named (nb (putI m.id))
                    have hr21 : R21.length ≤ 9 := by rw [hR21.out]; exact putI_len _ i0 i1
                    go_wp2_with fail
                    refine (rput_any m.id i0 (Int.lt_of_le_of_lt i1 (by decide)) _).mono ?_
                    rintro e wp21 ⟨vp21, rfl, hvp, hbp⟩
                    obtain ⟨Ap21, cp21, rfl, hrp⟩ := RB_reads hvp
                    have HP21 := Aside0.mk (HX20.out.put hbp)
                    have HEa21 : Aside0 (Ot wE wp21) := ⟨HOE20.out.trans (Ot.of_below hbp)⟩
                    have hrp2 : ReadsInt wp21 .u8 Ap21 R21.length R21 := by rw [hR21.out]; exact hrp
                    have HRP21 := Aside0.mk hrp2
                    have hle : (nb (putN (Int.toNat m.id))).length = R21.length := by rw [hR21.out]; rfl
                    rw [hle]
                    have HC21 := Aside0.mk HX20.out.few
                    clear hvp hbp hrp hrp2 hle e0 e1 e2 e3 e4
                    go_wp2_with ((at_builtin; refine Kd.R_append_rows kB (Rr := kB.K wp21) (w0 := W0) W0.heap.size rfl (.tmp 125) (.tmp 129) 88 5 (.int .u8 0) 1 rfl Tryz.underlying88 Var.infoB rfl (by decide) (by omega) V20 P20 R21 Ap21 R21.length cp21 (fun _ => True) (fun _ => False) rfl rfl ?aO ?aR ?aK (fun _ hk => hk.elim) (fun _ _ => trivial) ?aB ?aS ?c1 ?_; (case aO => exact HP21.out.row); (case aR => exact Crc.octC HRP21.out); (case aK => intro x cs hx; exact hx); (case aB => exact HP21.out.bel); (case aS => exact HP21.out.bel.size); (case c1 => have := HC21.out; omega); intro V21 w21q hown hB hg4 hat; obtain ⟨P21, hP21⟩ := named (P20 ++ R21); have HX21 : Aside0 (Wr W0 w21q V21 P21 (2340 + 237 * r + 9)) := ⟨by rw [hP21.out]; exact HP21.out.app hr21 hown hB hg4⟩; have HOE21 : Aside0 (Ot wE w21q) := ⟨by obtain ⟨inner, ho⟩ := Kd.R_own HP21.out.row; exact HEa21.out.grown ho (.inl rfl) hg4⟩; obtain ⟨e0, e1, e2, e3, e4⟩ := FE.out _ HOE21.out; clear hown hB hg4 hat))
                    obtain ⟨R22, hR22⟩ := named (nb (putI m.level))
                    have hr22 : R22.length ≤ 9 := by rw [hR22.out]; exact putI_len _ v0 v1'
                    go_wp2_with fail
                    refine (rput_any m.level v0 (Int.lt_of_le_of_lt v1' (by decide)) _).mono ?_
                    rintro e wp22 ⟨vp22, rfl, hvp, hbp⟩
                    obtain ⟨Ap22, cp22, rfl, hrp⟩ := RB_reads hvp
                    have HP22 := Aside0.mk (HX21.out.put hbp)
                    have HEa22 : Aside0 (Ot wE wp22) := ⟨HOE21.out.trans (Ot.of_below hbp)⟩
                    have hrp2 : ReadsInt wp22 .u8 Ap22 R22.length R22 := by rw [hR22.out]; exact hrp
                    have HRP22 := Aside0.mk hrp2
                    have hle : (nb (putN (Int.toNat m.level))).length = R22.length := by rw [hR22.out]; rfl
                    rw [hle]
                    have HC22 := Aside0.mk HX21.out.few
                    clear hvp hbp hrp hrp2 hle e0 e1 e2 e3 e4
                    go_wp2_with ((at_builtin; refine Kd.R_append_rows kB (Rr := kB.K wp22) (w0 := W0) W0.heap.size rfl (.tmp 131) (.tmp 135) 88 5 (.int .u8 0) 1 rfl Tryz.underlying88 Var.infoB rfl (by decide) (by omega) V21 P21 R22 Ap22 R22.length cp22 (fun _ => True) (fun _ => False) rfl rfl ?aO ?aR ?aK (fun _ hk => hk.elim) (fun _ _ => trivial) ?aB ?aS ?c1 ?_; (case aO => exact HP22.out.row); (case aR => exact Crc.octC HRP22.out); (case aK => intro x cs hx; exact hx); (case aB => exact HP22.out.bel); (case aS => exact HP22.out.bel.size); (case c1 => have := HC22.out; omega); intro V22 w22q hown hB hg4 hat; obtain ⟨P22, hP22⟩ := named (P21 ++ R22); have HX22 : Aside0 (Wr W0 w22q V22 P22 (2340 + 237 * r + 9 + 9)) := ⟨by rw [hP22.out]; exact HP22.out.app hr22 hown hB hg4⟩; have HOE22 : Aside0 (Ot wE w22q) := ⟨by obtain ⟨inner, ho⟩ := Kd.R_own HP22.out.row; exact HEa22.out.grown ho (.inl rfl) hg4⟩; obtain ⟨e0, e1, e2, e3, e4⟩ := FE.out _ HOE22.out; clear hown hB hg4 hat))
                    obtain ⟨R23, hR23⟩ := named (nb (putI m.count))
                    have hr23 : R23.length ≤ 9 := by rw [hR23.out]; exact putI_len _ k0 k1
                    go_wp2_with fail
                    refine (rput_any m.count k0 (Int.lt_of_le_of_lt k1 (by decide)) _).mono ?_
                    rintro e wp23 ⟨vp23, rfl, hvp, hbp⟩
                    obtain ⟨Ap23, cp23, rfl, hrp⟩ := RB_reads hvp
                    have HP23 := Aside0.mk (HX22.out.put hbp)
                    have HEa23 : Aside0 (Ot wE wp23) := ⟨HOE22.out.trans (Ot.of_below hbp)⟩
                    have hrp2 : ReadsInt wp23 .u8 Ap23 R23.length R23 := by rw [hR23.out]; exact hrp
                    have HRP23 := Aside0.mk hrp2
                    have hle : (nb (putN (Int.toNat m.count))).length = R23.length := by rw [hR23.out]; rfl
                    rw [hle]
                    have HC23 := Aside0.mk HX22.out.few
                    clear hvp hbp hrp hrp2 hle e0 e1 e2 e3 e4
                    go_wp2_with ((at_builtin; refine Kd.R_append_rows kB (Rr := kB.K wp23) (w0 := W0) W0.heap.size rfl (.tmp 137) (.tmp 141) 88 5 (.int .u8 0) 1 rfl Tryz.underlying88 Var.infoB rfl (by decide) (by omega) V22 P22 R23 Ap23 R23.length cp23 (fun _ => True) (fun _ => False) rfl rfl ?aO ?aR ?aK (fun _ hk => hk.elim) (fun _ _ => trivial) ?aB ?aS ?c1 ?_; (case aO => exact HP23.out.row); (case aR => exact Crc.octC HRP23.out); (case aK => intro x cs hx; exact hx); (case aB => exact HP23.out.bel); (case aS => exact HP23.out.bel.size); (case c1 => have := HC23.out; omega); intro V23 w23q hown hB hg4 hat; obtain ⟨P23, hP23⟩ := named (P22 ++ R23); have HX23 : Aside0 (Wr W0 w23q V23 P23 (2340 + 237 * r + 9 + 9 + 9)) := ⟨by rw [hP23.out]; exact HP23.out.app hr23 hown hB hg4⟩; have HOE23 : Aside0 (Ot wE w23q) := ⟨by obtain ⟨inner, ho⟩ := Kd.R_own HP23.out.row; exact HEa23.out.grown ho (.inl rfl) hg4⟩; obtain ⟨e0, e1, e2, e3, e4⟩ := FE.out _ HOE23.out; clear hown hB hg4 hat))
                    obtain ⟨R24, hR24⟩ := named (nb (putI (m.low.size : Int)))
                    have hr24 : R24.length ≤ 9 := by rw [hR24.out]; exact putI_len _ sl0 sl1
                    go_wp2_with fail
                    refine (rput_any (m.low.size : Int) sl0 (Int.lt_of_le_of_lt sl1 (by decide)) _).mono ?_
                    rintro e wp24 ⟨vp24, rfl, hvp, hbp⟩
                    obtain ⟨Ap24, cp24, rfl, hrp⟩ := RB_reads hvp
                    have HP24 := Aside0.mk (HX23.out.put hbp)
                    have HEa24 : Aside0 (Ot wE wp24) := ⟨HOE23.out.trans (Ot.of_below hbp)⟩
                    have hrp2 : ReadsInt wp24 .u8 Ap24 R24.length R24 := by rw [hR24.out]; exact hrp
                    have HRP24 := Aside0.mk hrp2
                    have hle : (nb (putN (Int.toNat (m.low.size : Int)))).length = R24.length := by rw [hR24.out]; rfl
                    rw [hle]
                    have HC24 := Aside0.mk HX23.out.few
                    clear hvp hbp hrp hrp2 hle e0 e1 e2 e3 e4
                    go_wp2_with (first | (at_builtin; refine Kd.R_append_rows kB (Rr := kB.K wp24) (w0 := W0) W0.heap.size rfl (.tmp 143) (.tmp 148) 88 5 (.int .u8 0) 1 rfl Tryz.underlying88 Var.infoB rfl (by decide) (by omega) V23 P23 R24 Ap24 R24.length cp24 (fun _ => True) (fun _ => False) rfl rfl ?aO ?aR ?aK (fun _ hk => hk.elim) (fun _ _ => trivial) ?aB ?aS ?c1 ?_; (case aO => exact HP24.out.row); (case aR => exact Crc.octC HRP24.out); (case aK => intro x cs hx; exact hx); (case aB => exact HP24.out.bel); (case aS => exact HP24.out.bel.size); (case c1 => have := HC24.out; omega); intro V24 w24q hown hB hg4 hat; obtain ⟨P24, hP24⟩ := named (P23 ++ R24); have HX24 : Aside0 (Wr W0 w24q V24 P24 (2340 + 237 * r + 9 + 9 + 9 + 9)) := ⟨by rw [hP24.out]; exact HP24.out.app hr24 hown hB hg4⟩; have HOE24 : Aside0 (Ot wE w24q) := ⟨by obtain ⟨inner, ho⟩ := Kd.R_own HP24.out.row; exact HEa24.out.grown ho (.inl rfl) hg4⟩; obtain ⟨e0, e1, e2, e3, e4⟩ := FE.out _ HOE24.out; clear hown hB hg4 hat) | (at_builtin; clear e0 e1 e2 e3 e4; refine print_append_str (w0 := W0) W0.heap.size rfl (.tmp 150) (.tmp 152) 88 9 5 rfl Tryz.underlying88 Tryz.underlying9 Var.infoB V24 P24 m.low rfl rfl ?aO ?aB ?aS ?c1 ?_; (case aO => exact Kd.own_of_R HX24.out.row); (case aB => exact HX24.out.bel); (case aS => exact HX24.out.bel.size); (case c1 => have := HX24.out.few; omega); intro V25 w25q hown hB hg4; obtain ⟨P25, hP25⟩ := named (P24 ++ bytesOf m.low); have HX25 : Aside0 (Wr W0 w25q V25 P25 (2340 + 237 * r + 9 + 9 + 9 + 9 + 96)) := ⟨by rw [hP25.out]; exact HX24.out.app (by rw [bytesOf_len]; exact hlo) (Crc.own_R hown) hB hg4⟩; have HOE25 : Aside0 (Ot wE w25q) := ⟨by obtain ⟨inner, ho⟩ := Kd.R_own HX24.out.row; exact HOE24.out.grown ho (.inl rfl) hg4⟩; obtain ⟨e0, e1, e2, e3, e4⟩ := FE.out _ HOE25.out; clear hown hB hg4))
                    obtain ⟨R26, hR26⟩ := named (nb (putI (m.high.size : Int)))
                    have hr26 : R26.length ≤ 9 := by rw [hR26.out]; exact putI_len _ sh0 sh1
                    go_wp2_with fail
                    refine (rput_any (m.high.size : Int) sh0 (Int.lt_of_le_of_lt sh1 (by decide)) _).mono ?_
                    rintro e wp26 ⟨vp26, rfl, hvp, hbp⟩
                    obtain ⟨Ap26, cp26, rfl, hrp⟩ := RB_reads hvp
                    have HP26 := Aside0.mk (HX25.out.put hbp)
                    have HEa26 : Aside0 (Ot wE wp26) := ⟨HOE25.out.trans (Ot.of_below hbp)⟩
                    have hrp2 : ReadsInt wp26 .u8 Ap26 R26.length R26 := by rw [hR26.out]; exact hrp
                    have HRP26 := Aside0.mk hrp2
                    have hle : (nb (putN (Int.toNat (m.high.size : Int)))).length = R26.length := by rw [hR26.out]; rfl
                    rw [hle]
                    have HC26 := Aside0.mk HX25.out.few
                    clear hvp hbp hrp hrp2 hle e0 e1 e2 e3 e4
                    go_wp2_with (first | (at_builtin; refine Kd.R_append_rows kB (Rr := kB.K wp26) (w0 := W0) W0.heap.size rfl (.tmp 154) (.tmp 159) 88 5 (.int .u8 0) 1 rfl Tryz.underlying88 Var.infoB rfl (by decide) (by omega) V25 P25 R26 Ap26 R26.length cp26 (fun _ => True) (fun _ => False) rfl rfl ?aO ?aR ?aK (fun _ hk => hk.elim) (fun _ _ => trivial) ?aB ?aS ?c1 ?_; (case aO => exact HP26.out.row); (case aR => exact Crc.octC HRP26.out); (case aK => intro x cs hx; exact hx); (case aB => exact HP26.out.bel); (case aS => exact HP26.out.bel.size); (case c1 => have := HC26.out; omega); intro V26 w26q hown hB hg4 hat; obtain ⟨P26, hP26⟩ := named (P25 ++ R26); have HX26 : Aside0 (Wr W0 w26q V26 P26 (2340 + 237 * r + 9 + 9 + 9 + 9 + 96 + 9)) := ⟨by rw [hP26.out]; exact HP26.out.app hr26 hown hB hg4⟩; have HOE26 : Aside0 (Ot wE w26q) := ⟨by obtain ⟨inner, ho⟩ := Kd.R_own HP26.out.row; exact HEa26.out.grown ho (.inl rfl) hg4⟩; obtain ⟨e0, e1, e2, e3, e4⟩ := FE.out _ HOE26.out; clear hown hB hg4 hat) | (at_builtin; clear e0 e1 e2 e3 e4; refine print_append_str (w0 := W0) W0.heap.size rfl (.tmp 161) (.tmp 163) 88 9 5 rfl Tryz.underlying88 Tryz.underlying9 Var.infoB V26 P26 m.high rfl rfl ?aO ?aB ?aS ?c1 ?_; (case aO => exact Kd.own_of_R HX26.out.row); (case aB => exact HX26.out.bel); (case aS => exact HX26.out.bel.size); (case c1 => have := HX26.out.few; omega); intro V27 w27q hown hB hg4; obtain ⟨P27, hP27⟩ := named (P26 ++ bytesOf m.high); have HX27 : Aside0 (Wr W0 w27q V27 P27 (2340 + 237 * r + 9 + 9 + 9 + 9 + 96 + 9 + 96)) := ⟨by rw [hP27.out]; exact HX26.out.app (by rw [bytesOf_len]; exact hhi) (Crc.own_R hown) hB hg4⟩; have HOE27 : Aside0 (Ot wE w27q) := ⟨by obtain ⟨inner, ho⟩ := Kd.R_own HX26.out.row; exact HOE26.out.grown ho (.inl rfl) hg4⟩; obtain ⟨e0, e1, e2, e3, e4⟩ := FE.out _ HOE27.out; clear hown hB hg4))
                    go_roundg (la - (r + 1))
                    case measure => omega
                    case rel =>
                      refine ⟨r + 1, by go_num, by omega, ⟨?_⟩⟩
                      have h := HX27.out
                      have hE : P27 = P20 ++ nb (putM m) := by
                        rw [hP27.out, hP26.out, hP25.out, hP24.out, hP23.out, hP22.out, hP21.out, hR26.out, hR24.out, hR23.out, hR22.out, hR21.out]
                        simp only [putM, putS, nb_app, strB_bytes, List.append_assoc]
                      rw [hE, hP20.out] at h
                      rw [ht.out, List.flatMap_append, nb_app, ← List.append_assoc]
                      refine ⟨by simpa using h.row, h.oth, h.bel, ?_⟩
                      have := h.few
                      simp only [List.flatMap_cons, List.flatMap_nil, List.append_nil]
                      omega
                  · have hnr : ¬ ((r : Int) < (la : Int)) := by omega
                    have HFIN : Aside0 (RB wr W0.heap.size u8 O) := ⟨by
                      have h := HXr.out.row
                      rw [List.take_of_length_le (by rw [LA.out]; omega)] at h
                      have hO3 : O = P3 ++ nb (add.flatMap putM) := by
                        rw [HOO.out, hP3.out, hP2.out, hP1.out, hP0.out, hR3.out, hR1.out, hQ1.out, hQ2.out, encB, LD.out, LA.out]
                        simp only [nb_app, List.append_assoc]
                      rw [hO3]
                      exact Kd.own_of_R h⟩
                    go_wp2
                    refine bodyPost_ret (results_tmp2 rfl _ _ _) rfl ?_
                    exact ⟨u8, rfl, own_weaken HFIN.out HB.out.size, bthen HB.out HXr.out.bel⟩
end Go.Proofs.YtfakfgblaakgdaaGreat.Var

/- Tables compared; small ones of chapter 11's law. -/
namespace Go.Proofs.YtfakfgblaakgdaaGreat.Edit
set_option linter.unusedVariables false
set_option linter.unusedSimpArgs false
open Go.RowKit Go.Proofs.YtfakfgblaakgdaaGreatW.PrintWords Go.Proofs.YtfakfgblaakgdaaGreatW.PrintLast Go.Proofs.YtfakfgblaakgdaaGreat.Base Go.Proofs.YtfakfgblaakgdaaGreat.EditPure Go.Proofs.YtfakfgblaakgdaaGreat.Sets Go.Proofs.YtfakfgblaakgdaaGreat.Wide Go.Proofs.YtfakfgblaakgdaaGreat.Cells

theorem eqMr (d : Nat) (w : World) (x0 y0 : Int) (x1 y1 : Int) (x2 y2 : Int) (x3 y3 : ByteArray) (x4 y4 : ByteArray) :
    (Op.equalIn (d + 2) 139 (.agg #[.int .i64 x0, .int .i64 x1, .int .i64 x2, .string x3, .string x4]) (.agg #[.int .i64 y0, .int .i64 y1, .int .i64 y2, .string y3, .string y4])).run Tryz.prog w = .ok (x0 == y0 && (x1 == y1 && (x2 == y2 && (x3.toList == y3.toList && (x4.toList == y4.toList))))) w := by
  refine eqA_of Tryz.underlying139 (by kernel_rfl) ?_
  refine eqf_cons (by rfl) (by go_simp; rfl) (by go_simp; rfl) (by go_simp) ?_
  refine eqf_cons (by rfl) (by go_simp; rfl) (by go_simp; rfl) (by go_simp) ?_
  refine eqf_cons (by rfl) (by go_simp; rfl) (by go_simp; rfl) (by go_simp) ?_
  refine eqf_cons (by rfl) (by go_simp; rfl) (by go_simp; rfl) (by go_simp) ?_
  exact eqf_last (by rfl) (by go_simp; rfl) (by go_simp; rfl) (by go_simp)

theorem neqM (m : Meta) (w : World) : (binOp .neq 139 (.agg #[.int .i64 m.id, .int .i64 m.level, .int .i64 m.count, .string m.low, .string m.high]) (.agg #[.int .i64 m.id, .int .i64 m.level, .int .i64 m.count, .string m.low, .string m.high])).run Tryz.prog w = .ok (.bool false) w := by
  have h := eqMr 9998 w m.id m.id m.level m.level m.count m.count m.low m.low m.high m.high
  simp only [beq_self_eq_true, Bool.and_self] at h
  simp only [binOp]
  simp [Op.equal, Op.maxDepth, h]

set_option maxRecDepth 100000 in
set_option maxHeartbeats 1000000 in
/-- the same tables -/
theorem sameMetas_any (A B : Option Addr) (c d : Nat) (l : List Meta) (w : World) (hA : Kd.C kMeta w A l.length l) (hB : Kd.C kMeta w B l.length l) (hb : l.length ≤ 1048576) :
    Calls Tryz.prog 50 #[.slice A l.length c, .slice B l.length d] w fun e w' => e = .returned (.bool true) ∧ Below w.heap.size w w' := by
  have HA := Aside0.mk hA
  have HB := Aside0.mk hB
  clear hA hB
  go_enter Tryz.func50, Tryz.ntmps50
  go_wp2
  go_loopg [5] l.length (fun g v5 wr => ∃ i : Nat, v5 = .int .i64 i ∧ g + i = l.length ∧ Aside0 (Below w.heap.size w wr))
  case atStart => exact ⟨0, rfl, by omega, ⟨Below.refl _ _⟩⟩
  case round =>
    obtain ⟨i, rfl, hg, HW⟩ := hrel
    by_cases hlt : i < l.length
    · obtain ⟨m, hm⟩ : ∃ m, l[i]? = some m := ⟨_, List.getElem?_eq_getElem hlt⟩
      obtain ⟨ad, rfl, a0, a1, a2, a3, a4⟩ := atMeta (Kd.C_below HA.out HW.out) i m hm
      obtain ⟨bd, rfl, b0, b1, b2, b3, b4⟩ := atMeta (Kd.C_below HB.out HW.out) i m hm
      have hn := neqM m
      clear hm
      go_wp2_with fail
      go_quiet (fail)
      go_wp2
      go_roundg (l.length - (i + 1))
      case measure => omega
      case rel => exact ⟨i + 1, by go_num, by omega, ⟨pw_below_drewN HW.out nq⟩⟩
    · go_wp2
      go_ret
      exact ⟨rfl, HW.out⟩

end Go.Proofs.YtfakfgblaakgdaaGreat.Edit

/- Alike, Whole, the document's Whole. -/
namespace Go.Proofs.YtfakfgblaakgdaaGreat.Edit
set_option linter.unusedVariables false
set_option linter.unusedSimpArgs false
open Go.RowKit Go.Proofs.YtfakfgblaakgdaaGreatW.PrintWords Go.Proofs.YtfakfgblaakgdaaGreatW.PrintLast Go.Proofs.YtfakfgblaakgdaaGreat.Base Go.Proofs.YtfakfgblaakgdaaGreat.EditPure Go.Proofs.YtfakfgblaakgdaaGreat.Sets Go.Proofs.YtfakfgblaakgdaaGreat.Wide Go.Proofs.YtfakfgblaakgdaaGreat.Cells

set_option maxRecDepth 100000 in
set_option maxHeartbeats 1000000 in
theorem alike_any (A B : Option Addr) (c d : Nat) (l : List Meta) (seq next : Int) (w : World) (hA : Kd.C kMeta w A l.length l) (hB : Kd.C kMeta w B l.length l) (hb : l.length ≤ 1048576) :
    Calls Tryz.prog 17 #[.agg #[.slice A l.length c, .int .i64 seq, .int .i64 next], .agg #[.slice B l.length d, .int .i64 seq, .int .i64 next]] w fun e w' => e = .returned (.int .i64 0) ∧ Below w.heap.size w w' := by
  have HA := Aside0.mk hA
  have HB := Aside0.mk hB
  clear hA hB
  go_enter Tryz.func17, Tryz.ntmps17
  go_upto_region 1 with (fail)
  obtain ⟨W, hW⟩ : ∃ W, W = ((w.alloc (Obj.cells #[Value.slice A l.length c, Value.int IntKind.i64 seq, Value.int IntKind.i64 next] 39)).alloc
      (Obj.cells #[Value.slice B l.length d, Value.int IntKind.i64 seq, Value.int IntKind.i64 next] 28)) := ⟨_, rfl⟩
  have HW : Aside0 (Below w.heap.size w W) := ⟨by rw [hW]; exact below_alloc (below_alloc (Below.refl _ _) _) _⟩
  have hk1 : W.heap[w.heap.size]? = some (.cells #[.slice A l.length c, .int .i64 seq, .int .i64 next] 39 (0, 0)) := by rw [hW]; exact blk_alloc (blk_new _ _) _
  have hk2 : W.heap[w.heap.size + 1]? = some (.cells #[.slice B l.length d, .int .i64 seq, .int .i64 next] 28 (0, 0)) := by
    rw [hW]; exact blk_new1 _ _ _ _
  rw [← hW]
  clear hW
  have x0 : W.cell? ⟨w.heap.size, 0, none⟩ = some (.slice A l.length c) := blk_cell hk1 0
  have y0 : W.cell? ⟨w.heap.size + 1, 0, none⟩ = some (.slice B l.length d) := blk_cell hk2 0
  have K1 := Aside0.mk hk1
  have K2 := Aside0.mk hk2
  clear hk1 hk2
  go_wp2_with fail
  refine (sameMetas_any A B c d l _ (Kd.C_below HA.out HW.out) (Kd.C_below HB.out HW.out) hb).mono ?_
  rintro e w1 ⟨rfl, hb1⟩
  have x1 : w1.cell? ⟨w.heap.size, 1, none⟩ = some (.int .i64 seq) := blk_cell (blk_keep K1.out hb1) 1
  have x2 : w1.cell? ⟨w.heap.size, 2, none⟩ = some (.int .i64 next) := blk_cell (blk_keep K1.out hb1) 2
  have y1 : w1.cell? ⟨w.heap.size + 1, 1, none⟩ = some (.int .i64 seq) := blk_cell (blk_keep K2.out hb1) 1
  have y2 : w1.cell? ⟨w.heap.size + 1, 2, none⟩ = some (.int .i64 next) := blk_cell (blk_keep K2.out hb1) 2
  go_wp2
  go_ret
  exact ⟨rfl, bthen HW.out hb1⟩

set_option maxRecDepth 100000 in
set_option maxHeartbeats 1000000 in
theorem whole_no (A : Option Addr) (c : Nat) (l : List Meta) (seq next : Int) (w : World) (hr : Kd.C kMeta w A l.length l) (hc : l.length ≤ c) (hw : ∀ m ∈ l, inI64 m.id) (hv : verOk l seq next = false) :
    Calls Tryz.prog 34 #[.agg #[.slice A l.length c, .int .i64 seq, .int .i64 next]] w fun e w' => e = .returned (.tuple #[.agg #[.slice none 0 0, .slice none 0 0, .int .i64 0, .int .i64 0], .int .i64 9]) ∧ Below w.heap.size w w' := by
  have HR := Aside0.mk hr
  have he : verE l seq next = 9 := by rw [verE, if_neg (by simp [hv])]
  have HE := Aside0.mk he
  clear hr he hv
  go_enter Tryz.func34, Tryz.ntmps34
  go_wp2_with fail
  refine (check_any A c l seq next _ (Kd.C_below HR.out (below_alloc (below_alloc (Below.refl _ _) _) _)) hc hw).mono ?_
  rintro e w1 ⟨rfl, hb1⟩
  have hk := blk_keep (blk_new1 _ _ _ _) hb1
  rw [HE.out]
  obtain ⟨z0, z1, z2, z3, f0, f1, f2, f3⟩ := all4 hk
  have HK := Aside0.mk hk
  have HB1 := Aside0.mk hb1
  clear hk hb1
  go_wp2
  refine bodyPost_ret (results_ct rfl _ _ (w.heap.size + 1) 42 #[.slice none 0 0, .slice none 0 0, .int .i64 0, .int .i64 0] (0, 0) _ rfl (blk4 HK.out) Tryz.underlying42 rfl (by kernel_rfl)) rfl ?_
  exact ⟨rfl, below_set4 (bthen (below_alloc (below_alloc (Below.refl _ _) _) _) HB1.out) (Nat.le_succ _) _ _ _ _⟩

set_option maxRecDepth 100000 in
set_option maxHeartbeats 1000000 in
theorem whole_yes (A : Option Addr) (c : Nat) (l : List Meta) (seq next : Int) (w : World) (hr : Kd.C kMeta w A l.length l) (hc : l.length ≤ c) (hw : ∀ m ∈ l, inI64 m.id) (hb : l.length ≤ 1048576) (hv : verOk l seq next = true) :
    Calls Tryz.prog 34 #[.agg #[.slice A l.length c, .int .i64 seq, .int .i64 next]] w fun e w' => ∃ v, e = .returned (.tuple #[.agg #[.slice none 0 0, v, .int .i64 seq, .int .i64 next], .int .i64 0]) ∧ RM 132 w' w.heap.size v l ∧ Below w.heap.size w w' := by
  have HR := Aside0.mk hr
  have he : verE l seq next = 0 := by rw [verE, if_pos (by simp [hv])]
  have HE := Aside0.mk he
  clear hr he hv
  go_enter Tryz.func34, Tryz.ntmps34
  go_wp2_with fail
  refine (check_any A c l seq next _ (Kd.C_below HR.out (below_alloc (below_alloc (Below.refl _ _) _) _)) hc hw).mono ?_
  rintro e W ⟨rfl, hb1⟩
  have hk := blk_keep (blk_new1 _ _ _ _) hb1
  have hj := blk_keep (blk_alloc (blk_new w (Obj.cells #[Value.slice A l.length c, Value.int IntKind.i64 seq, Value.int IntKind.i64 next] 39)) _) hb1
  have hB : Aside0 (Below w.heap.size w W) := ⟨bthen (below_alloc (below_alloc (Below.refl _ _) _) _) hb1⟩
  rw [HE.out]
  obtain ⟨z0, z1, z2, z3, f0, f1, f2, f3⟩ := all4 hk
  obtain ⟨h0, h1, h2, _, _, _⟩ := all3 hj
  have hlt := blk_lt hk
  have HK := Aside0.mk hk
  clear hb1 hk hj
  go_upto_region 4 with (fail)
  have d0 : W.drew.cell? ⟨w.heap.size, 0, none⟩ = some (.slice A l.length c) := h0
  have d1 : W.drew.cell? ⟨w.heap.size, 1, none⟩ = some (.int .i64 seq) := h1
  have d2 : W.drew.cell? ⟨w.heap.size, 2, none⟩ = some (.int .i64 next) := h2
  clear h0 h1 h2
  go_region_held3 (fun w' => w'.cell? ⟨w.heap.size, 0, none⟩ = some (.slice A l.length c) ∧ w'.cell? ⟨w.heap.size, 1, none⟩ = some (.int .i64 seq) ∧ w'.cell? ⟨w.heap.size, 2, none⟩ = some (.int .i64 next)) (first | with_reducible exact ⟨d0, d1, d2⟩ | with_reducible exact ⟨k0, k1, k2⟩ | go_keep) (first | (go_at_call 75; refine (clone_any _ _ _ _ ?c1 hb).mono ?_; (case c1 => exact Kd.C_below HR.out (bthen hB.out (below_drew (Below.refl _ _)))); rintro e w' ⟨v, rfl, ho, hbe⟩; obtain ⟨A', c', rfl, hc', hC'⟩ := RM_reads ho; have k0 := pw_cell_below hbe d0; have k1 := pw_cell_below hbe d1; have k2 := pw_cell_below hbe d2; have q0 := pw_cell_below hbe z0; have q1 := pw_cell_below hbe z1; have q2 := pw_cell_below hbe z2; have q3 := pw_cell_below hbe z3; have r0 := ((bcell hbe).2 _ _ hlt).trans f0; have r1 := ((bcell hbe).2 _ _ hlt).trans f1; have r2 := ((bcell hbe).2 _ _ hlt).trans f2; have r3 := ((bcell hbe).2 _ _ hlt).trans f3))
  have hsz : w.heap.size ≤ W.heap.size := by omega
  have hbk := blk4 (x := .slice none 0 0) (y := .slice A' l.length c') (z := .int .i64 seq) (u := .int .i64 next) (blk_keep (w := W.drew) HK.out hbe)
  have hres := Rset4 ho hlt (.slice none 0 0) (.slice A' l.length c') (.int .i64 seq) (.int .i64 next)
  have hbel := below_set4 (g := w.heap.size + 1) (bthen hB.out (bthen (below_drew (Below.refl W.heap.size W)) hbe)) (Nat.le_succ _) (.slice none 0 0) (.slice A' l.length c') (.int .i64 seq) (.int .i64 next)
  go_wp2
  refine bodyPost_ret (results_ct rfl _ _ (w.heap.size + 1) 42 #[.slice none 0 0, .slice A' l.length c', .int .i64 seq, .int .i64 next] (0, 0) _ rfl hbk Tryz.underlying42 rfl (by kernel_rfl)) rfl ?_
  exact ⟨_, rfl, Kd.R_lower hres hsz, hbel⟩

set_option maxRecDepth 100000 in
set_option maxHeartbeats 1000000 in
theorem refWhole_no (A : Option Addr) (c : Nat) (l : List Meta) (seq next : Int) (w : World) (hr : Kd.C kMeta w A l.length l) (hc : l.length ≤ c) (hw : ∀ m ∈ l, inI64 m.id) (hv : verOk l seq next = false) :
    Calls Tryz.prog 42 #[.agg #[.slice A l.length c, .int .i64 seq, .int .i64 next]] w fun e w' => e = .returned (.tuple #[.agg #[.slice none 0 0, .slice none 0 0, .int .i64 0, .int .i64 0], .int .i64 9]) ∧ Below w.heap.size w w' := by
  have HR := Aside0.mk hr
  have he : verE l seq next = 9 := by rw [verE, if_neg (by simp [hv])]
  have HE := Aside0.mk he
  clear hr he hv
  go_enter Tryz.func42, Tryz.ntmps42
  go_wp2_with fail
  refine (refCheck_any A c l seq next _ (Kd.C_below HR.out (below_alloc (below_alloc (Below.refl _ _) _) _)) hc).mono ?_
  rintro e w1 ⟨rfl, hb1⟩
  have hk := blk_keep (blk_new1 _ _ _ _) hb1
  rw [HE.out]
  obtain ⟨z0, z1, z2, z3, f0, f1, f2, f3⟩ := all4 hk
  have HK := Aside0.mk hk
  have HB1 := Aside0.mk hb1
  clear hk hb1
  go_wp2
  refine bodyPost_ret (results_ct rfl _ _ (w.heap.size + 1) 31 #[.slice none 0 0, .slice none 0 0, .int .i64 0, .int .i64 0] (0, 0) _ rfl (blk4 HK.out) Tryz.underlying31 rfl (by kernel_rfl)) rfl ?_
  exact ⟨rfl, below_set4 (bthen (below_alloc (below_alloc (Below.refl _ _) _) _) HB1.out) (Nat.le_succ _) _ _ _ _⟩

set_option maxRecDepth 100000 in
set_option maxHeartbeats 1000000 in
theorem refWhole_yes (A : Option Addr) (c : Nat) (l : List Meta) (seq next : Int) (w : World) (hr : Kd.C kMeta w A l.length l) (hc : l.length ≤ c) (hw : ∀ m ∈ l, inI64 m.id) (hb : l.length ≤ 1048576) (hv : verOk l seq next = true) :
    Calls Tryz.prog 42 #[.agg #[.slice A l.length c, .int .i64 seq, .int .i64 next]] w fun e w' => ∃ v, e = .returned (.tuple #[.agg #[.slice none 0 0, v, .int .i64 seq, .int .i64 next], .int .i64 0]) ∧ RM 139 w' w.heap.size v l ∧ Below w.heap.size w w' := by
  have HR := Aside0.mk hr
  have he : verE l seq next = 0 := by rw [verE, if_pos (by simp [hv])]
  have HE := Aside0.mk he
  clear hr he hv
  go_enter Tryz.func42, Tryz.ntmps42
  go_wp2_with fail
  refine (refCheck_any A c l seq next _ (Kd.C_below HR.out (below_alloc (below_alloc (Below.refl _ _) _) _)) hc).mono ?_
  rintro e W ⟨rfl, hb1⟩
  have hk := blk_keep (blk_new1 _ _ _ _) hb1
  have hj := blk_keep (blk_alloc (blk_new w (Obj.cells #[Value.slice A l.length c, Value.int IntKind.i64 seq, Value.int IntKind.i64 next] 28)) _) hb1
  have hB : Aside0 (Below w.heap.size w W) := ⟨bthen (below_alloc (below_alloc (Below.refl _ _) _) _) hb1⟩
  rw [HE.out]
  obtain ⟨z0, z1, z2, z3, f0, f1, f2, f3⟩ := all4 hk
  obtain ⟨h0, h1, h2, _, _, _⟩ := all3 hj
  have hlt := blk_lt hk
  have HK := Aside0.mk hk
  clear hb1 hk hj
  go_upto_region 3 with (fail)
  have d0 : W.drew.cell? ⟨w.heap.size, 0, none⟩ = some (.slice A l.length c) := h0
  have d1 : W.drew.cell? ⟨w.heap.size, 1, none⟩ = some (.int .i64 seq) := h1
  have d2 : W.drew.cell? ⟨w.heap.size, 2, none⟩ = some (.int .i64 next) := h2
  clear h0 h1 h2
  go_region_held3 (fun w' => w'.cell? ⟨w.heap.size, 0, none⟩ = some (.slice A l.length c) ∧ w'.cell? ⟨w.heap.size, 1, none⟩ = some (.int .i64 seq) ∧ w'.cell? ⟨w.heap.size, 2, none⟩ = some (.int .i64 next)) (first | with_reducible exact ⟨d0, d1, d2⟩ | with_reducible exact ⟨k0, k1, k2⟩ | go_keep) (first | (go_at_call 70; refine (refMetas_any _ _ _ _ ?c1 hb).mono ?_; (case c1 => exact Kd.C_below HR.out (bthen hB.out (below_drew (Below.refl _ _)))); rintro e w' ⟨v, rfl, ho, hbe⟩; obtain ⟨A', c', rfl, hc', hC'⟩ := RM_reads ho; have k0 := pw_cell_below hbe d0; have k1 := pw_cell_below hbe d1; have k2 := pw_cell_below hbe d2; have q0 := pw_cell_below hbe z0; have q1 := pw_cell_below hbe z1; have q2 := pw_cell_below hbe z2; have q3 := pw_cell_below hbe z3; have r0 := ((bcell hbe).2 _ _ hlt).trans f0; have r1 := ((bcell hbe).2 _ _ hlt).trans f1; have r2 := ((bcell hbe).2 _ _ hlt).trans f2; have r3 := ((bcell hbe).2 _ _ hlt).trans f3))
  have hsz : w.heap.size ≤ W.heap.size := by omega
  have hbk := blk4 (x := .slice none 0 0) (y := .slice A' l.length c') (z := .int .i64 seq) (u := .int .i64 next) (blk_keep (w := W.drew) HK.out hbe)
  have hres := Rset4 ho hlt (.slice none 0 0) (.slice A' l.length c') (.int .i64 seq) (.int .i64 next)
  have hbel := below_set4 (g := w.heap.size + 1) (bthen hB.out (bthen (below_drew (Below.refl W.heap.size W)) hbe)) (Nat.le_succ _) (.slice none 0 0) (.slice A' l.length c') (.int .i64 seq) (.int .i64 next)
  go_wp2
  refine bodyPost_ret (results_ct rfl _ _ (w.heap.size + 1) 31 #[.slice none 0 0, .slice A' l.length c', .int .i64 seq, .int .i64 next] (0, 0) _ rfl hbk Tryz.underlying31 rfl (by kernel_rfl)) rfl ?_
  exact ⟨_, rfl, Kd.R_lower hres hsz, hbel⟩
end Go.Proofs.YtfakfgblaakgdaaGreat.Edit
