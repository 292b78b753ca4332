/- varint.Get: walked. -/
import Derived.Test.YtelnhecpcjoonaaVarA
import Derived.Laws.Bits64b
namespace Go.Proofs.Ytelnhecpcjoonaa.Var
set_option linter.unusedVariables false
set_option linter.unusedSimpArgs false
open Go.RowKit Go.Proofs.YtelnhecpcjoonaaW.PrintWords Go.Proofs.YtelnhecpcjoonaaW.PrintLast Go.Proofs.Ytelnhecpcjoonaa.Base Go.Proofs.Ytelnhecpcjoonaa.Cells Go.Proofs.Ytelnhecpcjoonaa.Ints Go.Proofs.Ytelnhecpcjoonaa.VarPure

theorem xor_max : ∀ b : Fin 256, bits .xor .u8 IntKind.u8.max (b.val : Int) = ((255 - b.val : Nat) : Int) := by decide +kernel
theorem lz_any (b : Nat) (hb : b < 256) (w : World) : Calls Try.prog 89 #[.int .u8 (bits .xor .u8 IntKind.u8.max (b : Int))] w fun e w' => e = .returned (.int .i64 (lead b)) ∧ w' = w := by
  have h := xor_max ⟨b, hb⟩
  simp only at h
  rw [h]
  refine (Try.bits_LeadingZeros8 _ w (by omega) (by omega)).mono fun e w' ⟨he, hw⟩ => ⟨?_, hw⟩
  rw [he, Int.toNat_natCast, lead]
  have := Lib.bitLen_le8 ⟨255 - b, by omega⟩
  simp only at this
  congr 2
  omega
theorem rd_cons (b : Nat) (r : List Nat) : rd (nb (b :: r)) 0 = (b : Int) := rfl
theorem rd_nb (l : List Nat) (j : Nat) (x : Nat) (h : l[j]? = some x) : rd (nb l) (j : Int) = (x : Int) := by
  simp [rd, nb, List.getD_eq_getElem?_getD, List.getElem?_map, h]

theorem infoBx : ∃ i0, Try.prog.info? 5 = some i0 ∧ i0.size = 1 := by
  have h := infoB
  obtain ⟨i0, h1, h2⟩ := Option.map_eq_some_iff.1 h
  exact ⟨i0, h1, congrArg (fun x => x.2.1) h2⟩
theorem and_top0 : ∀ b : Fin 256, bits .and .u8 (b.val : Int) 127 = ((b.val % 2 ^ (7 - 0) : Nat) : Int) := by decide +kernel
theorem and_top1 : ∀ b : Fin 256, bits .and .u8 (b.val : Int) 63 = ((b.val % 2 ^ (7 - 1) : Nat) : Int) := by decide +kernel
theorem and_top2 : ∀ b : Fin 256, bits .and .u8 (b.val : Int) 31 = ((b.val % 2 ^ (7 - 2) : Nat) : Int) := by decide +kernel
theorem and_top3 : ∀ b : Fin 256, bits .and .u8 (b.val : Int) 15 = ((b.val % 2 ^ (7 - 3) : Nat) : Int) := by decide +kernel
theorem and_top4 : ∀ b : Fin 256, bits .and .u8 (b.val : Int) 7 = ((b.val % 2 ^ (7 - 4) : Nat) : Int) := by decide +kernel
theorem and_top5 : ∀ b : Fin 256, bits .and .u8 (b.val : Int) 3 = ((b.val % 2 ^ (7 - 5) : Nat) : Int) := by decide +kernel
theorem and_top6 : ∀ b : Fin 256, bits .and .u8 (b.val : Int) 1 = ((b.val % 2 ^ (7 - 6) : Nat) : Int) := by decide +kernel
theorem and_top7 : ∀ b : Fin 256, bits .and .u8 (b.val : Int) 0 = ((b.val % 2 ^ (7 - 7) : Nat) : Int) := by decide +kernel
theorem and_top8 : ∀ b : Fin 256, bits .and .u8 (b.val : Int) 0 = ((b.val % 2 ^ (7 - 8) : Nat) : Int) := by decide +kernel
/-- the number so far stays below the next shift -/
theorem val_bound {b L j : Nat} {r : List Nat} (hr : Bytes r) (hj : j < L) (hL : L ≤ 8) (hjl : j ≤ r.length) : val (b % 2 ^ (7 - L) :: r.take j) < 72057594037927936 := by
  have h1 : Bytes (r.take j) := fun x hx => hr x (List.mem_of_mem_take hx)
  have h2 := val_lt _ h1
  have hl : (r.take j).length = j := by rw [List.length_take]; omega
  rw [val_cons, hl]
  rw [hl] at h2
  have h3 : b % 2 ^ (7 - L) < 2 ^ (7 - L) := Nat.mod_lt _ (Nat.two_pow_pos _)
  have h4 : b % 2 ^ (7 - L) * 256 ^ j + val (r.take j) < 2 ^ (7 - L) * 256 ^ j := by
    have : (b % 2 ^ (7 - L) + 1) * 256 ^ j ≤ 2 ^ (7 - L) * 256 ^ j := Nat.mul_le_mul_right _ h3
    rw [Nat.add_mul, Nat.one_mul] at this
    omega
  have h5 : 2 ^ (7 - L) * 256 ^ j ≤ 2 ^ 56 := by
    rw [show (256 : Nat) = 2 ^ 8 by rfl, ← Nat.pow_mul, ← Nat.pow_add]
    exact Nat.pow_le_pow_right (by omega) (by omega)
  have h6 : (2 : Nat) ^ 56 = 72057594037927936 := rfl
  omega
theorem val_bound2 {b L : Nat} {r : List Nat} (hr : Bytes r) (hL : L ≤ 8) (hjl : L ≤ r.length) : val (b % 2 ^ (7 - L) :: r.take L) < 18446744073709551616 := by
  have h1 : Bytes (r.take L) := fun x hx => hr x (List.mem_of_mem_take hx)
  have h2 := val_lt _ h1
  have hl : (r.take L).length = L := by rw [List.length_take]; omega
  rw [val_cons, hl]
  rw [hl] at h2
  have h3 : b % 2 ^ (7 - L) < 2 ^ (7 - L) := Nat.mod_lt _ (Nat.two_pow_pos _)
  have h4 : b % 2 ^ (7 - L) * 256 ^ L + val (r.take L) < 2 ^ (7 - L) * 256 ^ L := by
    have : (b % 2 ^ (7 - L) + 1) * 256 ^ L ≤ 2 ^ (7 - L) * 256 ^ L := Nat.mul_le_mul_right _ h3
    rw [Nat.add_mul, Nat.one_mul] at this
    omega
  have h5 : 2 ^ (7 - L) * 256 ^ L ≤ 2 ^ 64 := by
    rw [show (256 : Nat) = 2 ^ 8 by rfl, ← Nat.pow_mul, ← Nat.pow_add]
    exact Nat.pow_le_pow_right (by omega) (by omega)
  have h6 : (2 : Nat) ^ 64 = 18446744073709551616 := rfl
  omega
theorem or_next (m x : Nat) (hm : m < 72057594037927936) (hx : x < 256) : bits .or .u64 ((m : Int) * 256) (x : Int) = ((m * 256 + x : Nat) : Int) := by
  have h := bits_or_u64_nat (m * 256) x (by omega) (by omega)
  have h2 : m * 256 ||| x = m * 256 + x := by
    have := Nat.shiftLeft_add_eq_or_of_lt (b := x) (i := 8) (by omega) m
    rw [Nat.shiftLeft_eq] at this
    exact this.symm
  rw [h2] at h
  rw [← h]
  congr 1
theorem val_next {j x : Nat} {r : List Nat} (h : r[j]? = some x) (q : Nat) : val (q :: r.take (j + 1)) = val (q :: r.take j) * 256 + x := by
  rw [List.take_add_one, h, ← List.cons_append]
  exact val_snoc _ _

set_option maxRecDepth 100000 in
set_option maxHeartbeats 4000000 in
theorem get_any (A : Option Addr) (c : Nat) (l : List Nat) (w : World) (hb : Bytes l) (hr : ReadsInt w .u8 A l.length (nb l)) (hl : l.length ≤ 1048576) (hc : l.length ≤ c) :
    Calls Try.prog 79 #[.slice A l.length c] w fun e w' => e = .returned (.tuple #[.int .u64 ((getN l).1 : Nat), .int .i64 ((getN l).2.1 : Nat), .int .i64 ((getN l).2.2 : Nat)]) ∧ Below w.heap.size w w' := by
  rcases l with _ | ⟨b, r⟩
  · simp only [List.length_nil]
    go_enter Try.func79, Try.ntmps79
    go_wp2
    refine bodyPost_ret (results_tmp3 rfl _ _ _) rfl ?_
    exact ⟨rfl, Below.refl _ _⟩
  · obtain ⟨ad, rfl, c0⟩ := hr.at_ 0 (by omega) (by simp)
    rw [rd_cons] at c0
    have hb0 : b < 256 := hb b (by simp)
    have HR := Aside0.mk hr
    obtain ⟨n, hn⟩ : ∃ n, (b :: r).length = n := ⟨_, rfl⟩
    have HRN : Aside0 (n = r.length + 1) := ⟨by rw [← hn]; simp⟩
    have hn1 : (1 : Int) ≤ n := by have := HRN.out; omega
    have hn0 : ((n : Int) == 0) = false := by simp; omega
    have ha0 : ad.add 0 = ad := by simp [Addr.add]
    rw [show (0 : Int).toNat = 0 by rfl, ha0] at c0
    have HN := Aside0.mk hn
    obtain ⟨G, hG⟩ := named (getN (b :: r))
    rw [← hG.out]
    rw [hn] at hl hc HR ⊢
    clear hr hn
    go_enter Try.func79, Try.ntmps79
    go_wp2_with fail
    refine (lz_any b hb0 _).mono ?_
    obtain ⟨L, hL⟩ : ∃ L, lead b = L := ⟨_, rfl⟩
    have hL8 := lead_le b
    rw [hL] at hL8 ⊢
    have HL := Aside0.mk hL
    clear hL
    rintro e w1 ⟨rfl, rfl⟩
    obtain ⟨i0, hi0, hz1⟩ := infoBx
    rcases (show L = 0 ∨ L = 1 ∨ L = 2 ∨ L = 3 ∨ L = 4 ∨ L = 5 ∨ L = 6 ∨ L = 7 ∨ L = 8 by omega) with rfl | rfl | rfl | rfl | rfl | rfl | rfl | rfl | rfl
    · by_cases hs : (n : Int) < 1
      · have hE : Aside0 (G = (0, 0, 8)) := ⟨by rw [hG.out, getN, HL.out, if_pos (by have := HRN.out; omega)]⟩
        go_wp2
        refine bodyPost_ret (results_tmp3 rfl _ _ _) rfl ?_
        rw [hE.out]
        exact ⟨rfl, Below.refl _ _⟩
      · have hcut := cut_mid (P := Try.prog) 83 5 .i64 .i64 Try.underlying83 hi0 1 hz1 (some ad) n c 1 1 (by omega) (by omega) (by omega) (by omega)
        obtain ⟨A7, hA7⟩ : ∃ A7, A7 = (if c = (1 : Int).toNat then some ad else (some ad).map (·.add ((1 : Int).toNat * 1))) := ⟨_, rfl⟩
        rw [← hA7] at hcut
        have HA7 := Aside0.mk hA7
        obtain ⟨m0, hm0⟩ := named (b % 2 ^ (7 - 0))
        have hand : bits .and .u8 (b : Int) 127 = (m0 : Int) := by rw [hm0.out]; exact and_top0 ⟨b, hb0⟩
        have hwr : IntKind.u64.wrap (m0 : Int) = (m0 : Int) := by rw [IntKind.wrap_u64]; have := Nat.mod_le b (2 ^ (7 - 0)); have := hm0.out; omega
        clear hA7
        go_wp2_with fail
        go_quiet (fail)
        go_wp2
        go_loopg [6, 33] 0 (fun g v6 v33 wr => ∃ j m : Nat, v33 = .int .i64 j ∧ g + j = 0 ∧ v6 = .int .u64 m ∧ Aside0 (m = val (b % 2 ^ (7 - 0) :: r.take j)) ∧ Aside0 (Below w1.heap.size w1 wr))
        case atStart => exact ⟨0, m0, rfl, rfl, rfl, ⟨by rw [hm0.out]; simp [val]⟩, ⟨pw_below_drewN (Below.refl _ _) nq⟩⟩
        case round =>
          obtain ⟨j, m, rfl, hg, rfl, HM, HB⟩ := hrel
          by_cases hj : j < 0
          · 
            exact absurd hj (by omega)
          · obtain rfl : j = 0 := by omega
            have hmb := val_bound2 (b := b) (L := 0) (fun y hy => hb y (List.mem_cons_of_mem _ hy)) (by omega) (by have := HRN.out; omega)
            rw [← HM.out] at hmb
            obtain ⟨z, hz⟩ : ∃ z, sizeN m = z := ⟨_, rfl⟩
            have HZ := Aside0.mk hz
            have hge : ¬ (r.length < 0) := by have := HRN.out; omega
            by_cases hzk : z = 1
            · have hE : Aside0 (G = (m, 1, 0)) := ⟨by rw [hG.out, getN, HL.out, if_neg hge]; simp only; rw [← HM.out, hz, hzk]; simp⟩
              subst hzk
              clear hz hge
              go_wp2_with (go_at_call 77; refine (size_any (m : Int) (by omega) (by omega) _).mono ?_; rw [Int.toNat_natCast, HZ.out]; rintro e w5 ⟨rfl, rfl⟩)
              refine bodyPost_ret (results_tmp3 rfl _ _ _) rfl ?_
              rw [hE.out]
              exact ⟨rfl, HB.out⟩
            · have hE : Aside0 (G = (0, 0, 4)) := ⟨by rw [hG.out, getN, HL.out, if_neg hge]; simp only; rw [← HM.out, hz, if_pos hzk]⟩
              have hzk' : ¬ ((z : Int) = 1) := by omega
              clear hz hge
              go_wp2_with (go_at_call 77; refine (size_any (m : Int) (by omega) (by omega) _).mono ?_; rw [Int.toNat_natCast, HZ.out]; rintro e w5 ⟨rfl, rfl⟩)
              refine bodyPost_ret (results_tmp3 rfl _ _ _) rfl ?_
              rw [hE.out]
              exact ⟨rfl, HB.out⟩
    · by_cases hs : (n : Int) < 2
      · have hE : Aside0 (G = (0, 0, 8)) := ⟨by rw [hG.out, getN, HL.out, if_pos (by have := HRN.out; omega)]⟩
        go_wp2
        refine bodyPost_ret (results_tmp3 rfl _ _ _) rfl ?_
        rw [hE.out]
        exact ⟨rfl, Below.refl _ _⟩
      · have hcut := cut_mid (P := Try.prog) 83 5 .i64 .i64 Try.underlying83 hi0 1 hz1 (some ad) n c 1 2 (by omega) (by omega) (by omega) (by omega)
        obtain ⟨A7, hA7⟩ : ∃ A7, A7 = (if c = (1 : Int).toNat then some ad else (some ad).map (·.add ((1 : Int).toNat * 1))) := ⟨_, rfl⟩
        rw [← hA7] at hcut
        have HA7 := Aside0.mk hA7
        obtain ⟨m0, hm0⟩ := named (b % 2 ^ (7 - 1))
        have hand : bits .and .u8 (b : Int) 63 = (m0 : Int) := by rw [hm0.out]; exact and_top1 ⟨b, hb0⟩
        have hwr : IntKind.u64.wrap (m0 : Int) = (m0 : Int) := by rw [IntKind.wrap_u64]; have := Nat.mod_le b (2 ^ (7 - 1)); have := hm0.out; omega
        clear hA7
        go_wp2_with fail
        go_quiet (fail)
        go_wp2
        go_loopg [6, 33] 1 (fun g v6 v33 wr => ∃ j m : Nat, v33 = .int .i64 j ∧ g + j = 1 ∧ v6 = .int .u64 m ∧ Aside0 (m = val (b % 2 ^ (7 - 1) :: r.take j)) ∧ Aside0 (Below w1.heap.size w1 wr))
        case atStart => exact ⟨0, m0, rfl, rfl, rfl, ⟨by rw [hm0.out]; simp [val]⟩, ⟨pw_below_drewN (Below.refl _ _) nq⟩⟩
        case round =>
          obtain ⟨j, m, rfl, hg, rfl, HM, HB⟩ := hrel
          by_cases hj : j < 1
          · 
            obtain ⟨x, hx⟩ : ∃ x, r[j]? = some x := ⟨_, List.getElem?_eq_getElem (by have := HRN.out; omega)⟩
            have hx256 : x < 256 := hb x (by simp [List.mem_of_getElem? hx])
            obtain ⟨ad', had, hc1⟩ := (HR.out.below HB.out).at_ (1 + j : Nat) (by omega) (by have := HRN.out; omega)
            obtain rfl : ad = ad' := by injection had
            rw [rd_nb (b :: r) (1 + j) x (by rw [Nat.add_comm]; exact hx), Int.toNat_natCast, ← add_add] at hc1
            obtain ⟨a7, hA, HA⟩ : ∃ a7, A7 = some a7 ∧ Aside0 (a7 = ad.add 1) := ⟨ad.add 1, by rw [HA7.out, if_neg (by have := HRN.out; omega)]; simp [Option.map], ⟨rfl⟩⟩
            rw [← HA.out] at hc1
            have hmb := val_bound (b := b) (L := 1) (j := j) (fun y hy => hb y (List.mem_cons_of_mem _ hy)) hj (by omega) (by have := HRN.out; omega)
            rw [← HM.out] at hmb
            have HX := Aside0.mk hx
            subst hA
            have hor := or_next m x hmb hx256
            clear hx
            go_wp2
            go_roundg (1 - (j + 1))
            case measure => omega
            case rel => exact ⟨j + 1, m * 256 + x, rfl, by omega, rfl, ⟨by rw [val_next HX.out, ← HM.out]⟩, HB⟩
          · obtain rfl : j = 1 := by omega
            have hmb := val_bound2 (b := b) (L := 1) (fun y hy => hb y (List.mem_cons_of_mem _ hy)) (by omega) (by have := HRN.out; omega)
            rw [← HM.out] at hmb
            obtain ⟨z, hz⟩ : ∃ z, sizeN m = z := ⟨_, rfl⟩
            have HZ := Aside0.mk hz
            have hge : ¬ (r.length < 1) := by have := HRN.out; omega
            by_cases hzk : z = 2
            · have hE : Aside0 (G = (m, 2, 0)) := ⟨by rw [hG.out, getN, HL.out, if_neg hge]; simp only; rw [← HM.out, hz, hzk]; simp⟩
              subst hzk
              clear hz hge
              go_wp2_with (go_at_call 77; refine (size_any (m : Int) (by omega) (by omega) _).mono ?_; rw [Int.toNat_natCast, HZ.out]; rintro e w5 ⟨rfl, rfl⟩)
              refine bodyPost_ret (results_tmp3 rfl _ _ _) rfl ?_
              rw [hE.out]
              exact ⟨rfl, HB.out⟩
            · have hE : Aside0 (G = (0, 0, 4)) := ⟨by rw [hG.out, getN, HL.out, if_neg hge]; simp only; rw [← HM.out, hz, if_pos hzk]⟩
              have hzk' : ¬ ((z : Int) = 2) := by omega
              clear hz hge
              go_wp2_with (go_at_call 77; refine (size_any (m : Int) (by omega) (by omega) _).mono ?_; rw [Int.toNat_natCast, HZ.out]; rintro e w5 ⟨rfl, rfl⟩)
              refine bodyPost_ret (results_tmp3 rfl _ _ _) rfl ?_
              rw [hE.out]
              exact ⟨rfl, HB.out⟩
    · by_cases hs : (n : Int) < 3
      · have hE : Aside0 (G = (0, 0, 8)) := ⟨by rw [hG.out, getN, HL.out, if_pos (by have := HRN.out; omega)]⟩
        go_wp2
        refine bodyPost_ret (results_tmp3 rfl _ _ _) rfl ?_
        rw [hE.out]
        exact ⟨rfl, Below.refl _ _⟩
      · have hcut := cut_mid (P := Try.prog) 83 5 .i64 .i64 Try.underlying83 hi0 1 hz1 (some ad) n c 1 3 (by omega) (by omega) (by omega) (by omega)
        obtain ⟨A7, hA7⟩ : ∃ A7, A7 = (if c = (1 : Int).toNat then some ad else (some ad).map (·.add ((1 : Int).toNat * 1))) := ⟨_, rfl⟩
        rw [← hA7] at hcut
        have HA7 := Aside0.mk hA7
        obtain ⟨m0, hm0⟩ := named (b % 2 ^ (7 - 2))
        have hand : bits .and .u8 (b : Int) 31 = (m0 : Int) := by rw [hm0.out]; exact and_top2 ⟨b, hb0⟩
        have hwr : IntKind.u64.wrap (m0 : Int) = (m0 : Int) := by rw [IntKind.wrap_u64]; have := Nat.mod_le b (2 ^ (7 - 2)); have := hm0.out; omega
        clear hA7
        go_wp2_with fail
        go_quiet (fail)
        go_wp2
        go_loopg [6, 33] 2 (fun g v6 v33 wr => ∃ j m : Nat, v33 = .int .i64 j ∧ g + j = 2 ∧ v6 = .int .u64 m ∧ Aside0 (m = val (b % 2 ^ (7 - 2) :: r.take j)) ∧ Aside0 (Below w1.heap.size w1 wr))
        case atStart => exact ⟨0, m0, rfl, rfl, rfl, ⟨by rw [hm0.out]; simp [val]⟩, ⟨pw_below_drewN (Below.refl _ _) nq⟩⟩
        case round =>
          obtain ⟨j, m, rfl, hg, rfl, HM, HB⟩ := hrel
          by_cases hj : j < 2
          · 
            obtain ⟨x, hx⟩ : ∃ x, r[j]? = some x := ⟨_, List.getElem?_eq_getElem (by have := HRN.out; omega)⟩
            have hx256 : x < 256 := hb x (by simp [List.mem_of_getElem? hx])
            obtain ⟨ad', had, hc1⟩ := (HR.out.below HB.out).at_ (1 + j : Nat) (by omega) (by have := HRN.out; omega)
            obtain rfl : ad = ad' := by injection had
            rw [rd_nb (b :: r) (1 + j) x (by rw [Nat.add_comm]; exact hx), Int.toNat_natCast, ← add_add] at hc1
            obtain ⟨a7, hA, HA⟩ : ∃ a7, A7 = some a7 ∧ Aside0 (a7 = ad.add 1) := ⟨ad.add 1, by rw [HA7.out, if_neg (by have := HRN.out; omega)]; simp [Option.map], ⟨rfl⟩⟩
            rw [← HA.out] at hc1
            have hmb := val_bound (b := b) (L := 2) (j := j) (fun y hy => hb y (List.mem_cons_of_mem _ hy)) hj (by omega) (by have := HRN.out; omega)
            rw [← HM.out] at hmb
            have HX := Aside0.mk hx
            subst hA
            have hor := or_next m x hmb hx256
            clear hx
            go_wp2
            go_roundg (2 - (j + 1))
            case measure => omega
            case rel => exact ⟨j + 1, m * 256 + x, rfl, by omega, rfl, ⟨by rw [val_next HX.out, ← HM.out]⟩, HB⟩
          · obtain rfl : j = 2 := by omega
            have hmb := val_bound2 (b := b) (L := 2) (fun y hy => hb y (List.mem_cons_of_mem _ hy)) (by omega) (by have := HRN.out; omega)
            rw [← HM.out] at hmb
            obtain ⟨z, hz⟩ : ∃ z, sizeN m = z := ⟨_, rfl⟩
            have HZ := Aside0.mk hz
            have hge : ¬ (r.length < 2) := by have := HRN.out; omega
            by_cases hzk : z = 3
            · have hE : Aside0 (G = (m, 3, 0)) := ⟨by rw [hG.out, getN, HL.out, if_neg hge]; simp only; rw [← HM.out, hz, hzk]; simp⟩
              subst hzk
              clear hz hge
              go_wp2_with (go_at_call 77; refine (size_any (m : Int) (by omega) (by omega) _).mono ?_; rw [Int.toNat_natCast, HZ.out]; rintro e w5 ⟨rfl, rfl⟩)
              refine bodyPost_ret (results_tmp3 rfl _ _ _) rfl ?_
              rw [hE.out]
              exact ⟨rfl, HB.out⟩
            · have hE : Aside0 (G = (0, 0, 4)) := ⟨by rw [hG.out, getN, HL.out, if_neg hge]; simp only; rw [← HM.out, hz, if_pos hzk]⟩
              have hzk' : ¬ ((z : Int) = 3) := by omega
              clear hz hge
              go_wp2_with (go_at_call 77; refine (size_any (m : Int) (by omega) (by omega) _).mono ?_; rw [Int.toNat_natCast, HZ.out]; rintro e w5 ⟨rfl, rfl⟩)
              refine bodyPost_ret (results_tmp3 rfl _ _ _) rfl ?_
              rw [hE.out]
              exact ⟨rfl, HB.out⟩
    · by_cases hs : (n : Int) < 4
      · have hE : Aside0 (G = (0, 0, 8)) := ⟨by rw [hG.out, getN, HL.out, if_pos (by have := HRN.out; omega)]⟩
        go_wp2
        refine bodyPost_ret (results_tmp3 rfl _ _ _) rfl ?_
        rw [hE.out]
        exact ⟨rfl, Below.refl _ _⟩
      · have hcut := cut_mid (P := Try.prog) 83 5 .i64 .i64 Try.underlying83 hi0 1 hz1 (some ad) n c 1 4 (by omega) (by omega) (by omega) (by omega)
        obtain ⟨A7, hA7⟩ : ∃ A7, A7 = (if c = (1 : Int).toNat then some ad else (some ad).map (·.add ((1 : Int).toNat * 1))) := ⟨_, rfl⟩
        rw [← hA7] at hcut
        have HA7 := Aside0.mk hA7
        obtain ⟨m0, hm0⟩ := named (b % 2 ^ (7 - 3))
        have hand : bits .and .u8 (b : Int) 15 = (m0 : Int) := by rw [hm0.out]; exact and_top3 ⟨b, hb0⟩
        have hwr : IntKind.u64.wrap (m0 : Int) = (m0 : Int) := by rw [IntKind.wrap_u64]; have := Nat.mod_le b (2 ^ (7 - 3)); have := hm0.out; omega
        clear hA7
        go_wp2_with fail
        go_quiet (fail)
        go_wp2
        go_loopg [6, 33] 3 (fun g v6 v33 wr => ∃ j m : Nat, v33 = .int .i64 j ∧ g + j = 3 ∧ v6 = .int .u64 m ∧ Aside0 (m = val (b % 2 ^ (7 - 3) :: r.take j)) ∧ Aside0 (Below w1.heap.size w1 wr))
        case atStart => exact ⟨0, m0, rfl, rfl, rfl, ⟨by rw [hm0.out]; simp [val]⟩, ⟨pw_below_drewN (Below.refl _ _) nq⟩⟩
        case round =>
          obtain ⟨j, m, rfl, hg, rfl, HM, HB⟩ := hrel
          by_cases hj : j < 3
          · 
            obtain ⟨x, hx⟩ : ∃ x, r[j]? = some x := ⟨_, List.getElem?_eq_getElem (by have := HRN.out; omega)⟩
            have hx256 : x < 256 := hb x (by simp [List.mem_of_getElem? hx])
            obtain ⟨ad', had, hc1⟩ := (HR.out.below HB.out).at_ (1 + j : Nat) (by omega) (by have := HRN.out; omega)
            obtain rfl : ad = ad' := by injection had
            rw [rd_nb (b :: r) (1 + j) x (by rw [Nat.add_comm]; exact hx), Int.toNat_natCast, ← add_add] at hc1
            obtain ⟨a7, hA, HA⟩ : ∃ a7, A7 = some a7 ∧ Aside0 (a7 = ad.add 1) := ⟨ad.add 1, by rw [HA7.out, if_neg (by have := HRN.out; omega)]; simp [Option.map], ⟨rfl⟩⟩
            rw [← HA.out] at hc1
            have hmb := val_bound (b := b) (L := 3) (j := j) (fun y hy => hb y (List.mem_cons_of_mem _ hy)) hj (by omega) (by have := HRN.out; omega)
            rw [← HM.out] at hmb
            have HX := Aside0.mk hx
            subst hA
            have hor := or_next m x hmb hx256
            clear hx
            go_wp2
            go_roundg (3 - (j + 1))
            case measure => omega
            case rel => exact ⟨j + 1, m * 256 + x, rfl, by omega, rfl, ⟨by rw [val_next HX.out, ← HM.out]⟩, HB⟩
          · obtain rfl : j = 3 := by omega
            have hmb := val_bound2 (b := b) (L := 3) (fun y hy => hb y (List.mem_cons_of_mem _ hy)) (by omega) (by have := HRN.out; omega)
            rw [← HM.out] at hmb
            obtain ⟨z, hz⟩ : ∃ z, sizeN m = z := ⟨_, rfl⟩
            have HZ := Aside0.mk hz
            have hge : ¬ (r.length < 3) := by have := HRN.out; omega
            by_cases hzk : z = 4
            · have hE : Aside0 (G = (m, 4, 0)) := ⟨by rw [hG.out, getN, HL.out, if_neg hge]; simp only; rw [← HM.out, hz, hzk]; simp⟩
              subst hzk
              clear hz hge
              go_wp2_with (go_at_call 77; refine (size_any (m : Int) (by omega) (by omega) _).mono ?_; rw [Int.toNat_natCast, HZ.out]; rintro e w5 ⟨rfl, rfl⟩)
              refine bodyPost_ret (results_tmp3 rfl _ _ _) rfl ?_
              rw [hE.out]
              exact ⟨rfl, HB.out⟩
            · have hE : Aside0 (G = (0, 0, 4)) := ⟨by rw [hG.out, getN, HL.out, if_neg hge]; simp only; rw [← HM.out, hz, if_pos hzk]⟩
              have hzk' : ¬ ((z : Int) = 4) := by omega
              clear hz hge
              go_wp2_with (go_at_call 77; refine (size_any (m : Int) (by omega) (by omega) _).mono ?_; rw [Int.toNat_natCast, HZ.out]; rintro e w5 ⟨rfl, rfl⟩)
              refine bodyPost_ret (results_tmp3 rfl _ _ _) rfl ?_
              rw [hE.out]
              exact ⟨rfl, HB.out⟩
    · by_cases hs : (n : Int) < 5
      · have hE : Aside0 (G = (0, 0, 8)) := ⟨by rw [hG.out, getN, HL.out, if_pos (by have := HRN.out; omega)]⟩
        go_wp2
        refine bodyPost_ret (results_tmp3 rfl _ _ _) rfl ?_
        rw [hE.out]
        exact ⟨rfl, Below.refl _ _⟩
      · have hcut := cut_mid (P := Try.prog) 83 5 .i64 .i64 Try.underlying83 hi0 1 hz1 (some ad) n c 1 5 (by omega) (by omega) (by omega) (by omega)
        obtain ⟨A7, hA7⟩ : ∃ A7, A7 = (if c = (1 : Int).toNat then some ad else (some ad).map (·.add ((1 : Int).toNat * 1))) := ⟨_, rfl⟩
        rw [← hA7] at hcut
        have HA7 := Aside0.mk hA7
        obtain ⟨m0, hm0⟩ := named (b % 2 ^ (7 - 4))
        have hand : bits .and .u8 (b : Int) 7 = (m0 : Int) := by rw [hm0.out]; exact and_top4 ⟨b, hb0⟩
        have hwr : IntKind.u64.wrap (m0 : Int) = (m0 : Int) := by rw [IntKind.wrap_u64]; have := Nat.mod_le b (2 ^ (7 - 4)); have := hm0.out; omega
        clear hA7
        go_wp2_with fail
        go_quiet (fail)
        go_wp2
        go_loopg [6, 33] 4 (fun g v6 v33 wr => ∃ j m : Nat, v33 = .int .i64 j ∧ g + j = 4 ∧ v6 = .int .u64 m ∧ Aside0 (m = val (b % 2 ^ (7 - 4) :: r.take j)) ∧ Aside0 (Below w1.heap.size w1 wr))
        case atStart => exact ⟨0, m0, rfl, rfl, rfl, ⟨by rw [hm0.out]; simp [val]⟩, ⟨pw_below_drewN (Below.refl _ _) nq⟩⟩
        case round =>
          obtain ⟨j, m, rfl, hg, rfl, HM, HB⟩ := hrel
          by_cases hj : j < 4
          · 
            obtain ⟨x, hx⟩ : ∃ x, r[j]? = some x := ⟨_, List.getElem?_eq_getElem (by have := HRN.out; omega)⟩
            have hx256 : x < 256 := hb x (by simp [List.mem_of_getElem? hx])
            obtain ⟨ad', had, hc1⟩ := (HR.out.below HB.out).at_ (1 + j : Nat) (by omega) (by have := HRN.out; omega)
            obtain rfl : ad = ad' := by injection had
            rw [rd_nb (b :: r) (1 + j) x (by rw [Nat.add_comm]; exact hx), Int.toNat_natCast, ← add_add] at hc1
            obtain ⟨a7, hA, HA⟩ : ∃ a7, A7 = some a7 ∧ Aside0 (a7 = ad.add 1) := ⟨ad.add 1, by rw [HA7.out, if_neg (by have := HRN.out; omega)]; simp [Option.map], ⟨rfl⟩⟩
            rw [← HA.out] at hc1
            have hmb := val_bound (b := b) (L := 4) (j := j) (fun y hy => hb y (List.mem_cons_of_mem _ hy)) hj (by omega) (by have := HRN.out; omega)
            rw [← HM.out] at hmb
            have HX := Aside0.mk hx
            subst hA
            have hor := or_next m x hmb hx256
            clear hx
            go_wp2
            go_roundg (4 - (j + 1))
            case measure => omega
            case rel => exact ⟨j + 1, m * 256 + x, rfl, by omega, rfl, ⟨by rw [val_next HX.out, ← HM.out]⟩, HB⟩
          · obtain rfl : j = 4 := by omega
            have hmb := val_bound2 (b := b) (L := 4) (fun y hy => hb y (List.mem_cons_of_mem _ hy)) (by omega) (by have := HRN.out; omega)
            rw [← HM.out] at hmb
            obtain ⟨z, hz⟩ : ∃ z, sizeN m = z := ⟨_, rfl⟩
            have HZ := Aside0.mk hz
            have hge : ¬ (r.length < 4) := by have := HRN.out; omega
            by_cases hzk : z = 5
            · have hE : Aside0 (G = (m, 5, 0)) := ⟨by rw [hG.out, getN, HL.out, if_neg hge]; simp only; rw [← HM.out, hz, hzk]; simp⟩
              subst hzk
              clear hz hge
              go_wp2_with (go_at_call 77; refine (size_any (m : Int) (by omega) (by omega) _).mono ?_; rw [Int.toNat_natCast, HZ.out]; rintro e w5 ⟨rfl, rfl⟩)
              refine bodyPost_ret (results_tmp3 rfl _ _ _) rfl ?_
              rw [hE.out]
              exact ⟨rfl, HB.out⟩
            · have hE : Aside0 (G = (0, 0, 4)) := ⟨by rw [hG.out, getN, HL.out, if_neg hge]; simp only; rw [← HM.out, hz, if_pos hzk]⟩
              have hzk' : ¬ ((z : Int) = 5) := by omega
              clear hz hge
              go_wp2_with (go_at_call 77; refine (size_any (m : Int) (by omega) (by omega) _).mono ?_; rw [Int.toNat_natCast, HZ.out]; rintro e w5 ⟨rfl, rfl⟩)
              refine bodyPost_ret (results_tmp3 rfl _ _ _) rfl ?_
              rw [hE.out]
              exact ⟨rfl, HB.out⟩
    · by_cases hs : (n : Int) < 6
      · have hE : Aside0 (G = (0, 0, 8)) := ⟨by rw [hG.out, getN, HL.out, if_pos (by have := HRN.out; omega)]⟩
        go_wp2
        refine bodyPost_ret (results_tmp3 rfl _ _ _) rfl ?_
        rw [hE.out]
        exact ⟨rfl, Below.refl _ _⟩
      · have hcut := cut_mid (P := Try.prog) 83 5 .i64 .i64 Try.underlying83 hi0 1 hz1 (some ad) n c 1 6 (by omega) (by omega) (by omega) (by omega)
        obtain ⟨A7, hA7⟩ : ∃ A7, A7 = (if c = (1 : Int).toNat then some ad else (some ad).map (·.add ((1 : Int).toNat * 1))) := ⟨_, rfl⟩
        rw [← hA7] at hcut
        have HA7 := Aside0.mk hA7
        obtain ⟨m0, hm0⟩ := named (b % 2 ^ (7 - 5))
        have hand : bits .and .u8 (b : Int) 3 = (m0 : Int) := by rw [hm0.out]; exact and_top5 ⟨b, hb0⟩
        have hwr : IntKind.u64.wrap (m0 : Int) = (m0 : Int) := by rw [IntKind.wrap_u64]; have := Nat.mod_le b (2 ^ (7 - 5)); have := hm0.out; omega
        clear hA7
        go_wp2_with fail
        go_quiet (fail)
        go_wp2
        go_loopg [6, 33] 5 (fun g v6 v33 wr => ∃ j m : Nat, v33 = .int .i64 j ∧ g + j = 5 ∧ v6 = .int .u64 m ∧ Aside0 (m = val (b % 2 ^ (7 - 5) :: r.take j)) ∧ Aside0 (Below w1.heap.size w1 wr))
        case atStart => exact ⟨0, m0, rfl, rfl, rfl, ⟨by rw [hm0.out]; simp [val]⟩, ⟨pw_below_drewN (Below.refl _ _) nq⟩⟩
        case round =>
          obtain ⟨j, m, rfl, hg, rfl, HM, HB⟩ := hrel
          by_cases hj : j < 5
          · 
            obtain ⟨x, hx⟩ : ∃ x, r[j]? = some x := ⟨_, List.getElem?_eq_getElem (by have := HRN.out; omega)⟩
            have hx256 : x < 256 := hb x (by simp [List.mem_of_getElem? hx])
            obtain ⟨ad', had, hc1⟩ := (HR.out.below HB.out).at_ (1 + j : Nat) (by omega) (by have := HRN.out; omega)
            obtain rfl : ad = ad' := by injection had
            rw [rd_nb (b :: r) (1 + j) x (by rw [Nat.add_comm]; exact hx), Int.toNat_natCast, ← add_add] at hc1
            obtain ⟨a7, hA, HA⟩ : ∃ a7, A7 = some a7 ∧ Aside0 (a7 = ad.add 1) := ⟨ad.add 1, by rw [HA7.out, if_neg (by have := HRN.out; omega)]; simp [Option.map], ⟨rfl⟩⟩
            rw [← HA.out] at hc1
            have hmb := val_bound (b := b) (L := 5) (j := j) (fun y hy => hb y (List.mem_cons_of_mem _ hy)) hj (by omega) (by have := HRN.out; omega)
            rw [← HM.out] at hmb
            have HX := Aside0.mk hx
            subst hA
            have hor := or_next m x hmb hx256
            clear hx
            go_wp2
            go_roundg (5 - (j + 1))
            case measure => omega
            case rel => exact ⟨j + 1, m * 256 + x, rfl, by omega, rfl, ⟨by rw [val_next HX.out, ← HM.out]⟩, HB⟩
          · obtain rfl : j = 5 := by omega
            have hmb := val_bound2 (b := b) (L := 5) (fun y hy => hb y (List.mem_cons_of_mem _ hy)) (by omega) (by have := HRN.out; omega)
            rw [← HM.out] at hmb
            obtain ⟨z, hz⟩ : ∃ z, sizeN m = z := ⟨_, rfl⟩
            have HZ := Aside0.mk hz
            have hge : ¬ (r.length < 5) := by have := HRN.out; omega
            by_cases hzk : z = 6
            · have hE : Aside0 (G = (m, 6, 0)) := ⟨by rw [hG.out, getN, HL.out, if_neg hge]; simp only; rw [← HM.out, hz, hzk]; simp⟩
              subst hzk
              clear hz hge
              go_wp2_with (go_at_call 77; refine (size_any (m : Int) (by omega) (by omega) _).mono ?_; rw [Int.toNat_natCast, HZ.out]; rintro e w5 ⟨rfl, rfl⟩)
              refine bodyPost_ret (results_tmp3 rfl _ _ _) rfl ?_
              rw [hE.out]
              exact ⟨rfl, HB.out⟩
            · have hE : Aside0 (G = (0, 0, 4)) := ⟨by rw [hG.out, getN, HL.out, if_neg hge]; simp only; rw [← HM.out, hz, if_pos hzk]⟩
              have hzk' : ¬ ((z : Int) = 6) := by omega
              clear hz hge
              go_wp2_with (go_at_call 77; refine (size_any (m : Int) (by omega) (by omega) _).mono ?_; rw [Int.toNat_natCast, HZ.out]; rintro e w5 ⟨rfl, rfl⟩)
              refine bodyPost_ret (results_tmp3 rfl _ _ _) rfl ?_
              rw [hE.out]
              exact ⟨rfl, HB.out⟩
    · by_cases hs : (n : Int) < 7
      · have hE : Aside0 (G = (0, 0, 8)) := ⟨by rw [hG.out, getN, HL.out, if_pos (by have := HRN.out; omega)]⟩
        go_wp2
        refine bodyPost_ret (results_tmp3 rfl _ _ _) rfl ?_
        rw [hE.out]
        exact ⟨rfl, Below.refl _ _⟩
      · have hcut := cut_mid (P := Try.prog) 83 5 .i64 .i64 Try.underlying83 hi0 1 hz1 (some ad) n c 1 7 (by omega) (by omega) (by omega) (by omega)
        obtain ⟨A7, hA7⟩ : ∃ A7, A7 = (if c = (1 : Int).toNat then some ad else (some ad).map (·.add ((1 : Int).toNat * 1))) := ⟨_, rfl⟩
        rw [← hA7] at hcut
        have HA7 := Aside0.mk hA7
        obtain ⟨m0, hm0⟩ := named (b % 2 ^ (7 - 6))
        have hand : bits .and .u8 (b : Int) 1 = (m0 : Int) := by rw [hm0.out]; exact and_top6 ⟨b, hb0⟩
        have hwr : IntKind.u64.wrap (m0 : Int) = (m0 : Int) := by rw [IntKind.wrap_u64]; have := Nat.mod_le b (2 ^ (7 - 6)); have := hm0.out; omega
        clear hA7
        go_wp2_with fail
        go_quiet (fail)
        go_wp2
        go_loopg [6, 33] 6 (fun g v6 v33 wr => ∃ j m : Nat, v33 = .int .i64 j ∧ g + j = 6 ∧ v6 = .int .u64 m ∧ Aside0 (m = val (b % 2 ^ (7 - 6) :: r.take j)) ∧ Aside0 (Below w1.heap.size w1 wr))
        case atStart => exact ⟨0, m0, rfl, rfl, rfl, ⟨by rw [hm0.out]; simp [val]⟩, ⟨pw_below_drewN (Below.refl _ _) nq⟩⟩
        case round =>
          obtain ⟨j, m, rfl, hg, rfl, HM, HB⟩ := hrel
          by_cases hj : j < 6
          · 
            obtain ⟨x, hx⟩ : ∃ x, r[j]? = some x := ⟨_, List.getElem?_eq_getElem (by have := HRN.out; omega)⟩
            have hx256 : x < 256 := hb x (by simp [List.mem_of_getElem? hx])
            obtain ⟨ad', had, hc1⟩ := (HR.out.below HB.out).at_ (1 + j : Nat) (by omega) (by have := HRN.out; omega)
            obtain rfl : ad = ad' := by injection had
            rw [rd_nb (b :: r) (1 + j) x (by rw [Nat.add_comm]; exact hx), Int.toNat_natCast, ← add_add] at hc1
            obtain ⟨a7, hA, HA⟩ : ∃ a7, A7 = some a7 ∧ Aside0 (a7 = ad.add 1) := ⟨ad.add 1, by rw [HA7.out, if_neg (by have := HRN.out; omega)]; simp [Option.map], ⟨rfl⟩⟩
            rw [← HA.out] at hc1
            have hmb := val_bound (b := b) (L := 6) (j := j) (fun y hy => hb y (List.mem_cons_of_mem _ hy)) hj (by omega) (by have := HRN.out; omega)
            rw [← HM.out] at hmb
            have HX := Aside0.mk hx
            subst hA
            have hor := or_next m x hmb hx256
            clear hx
            go_wp2
            go_roundg (6 - (j + 1))
            case measure => omega
            case rel => exact ⟨j + 1, m * 256 + x, rfl, by omega, rfl, ⟨by rw [val_next HX.out, ← HM.out]⟩, HB⟩
          · obtain rfl : j = 6 := by omega
            have hmb := val_bound2 (b := b) (L := 6) (fun y hy => hb y (List.mem_cons_of_mem _ hy)) (by omega) (by have := HRN.out; omega)
            rw [← HM.out] at hmb
            obtain ⟨z, hz⟩ : ∃ z, sizeN m = z := ⟨_, rfl⟩
            have HZ := Aside0.mk hz
            have hge : ¬ (r.length < 6) := by have := HRN.out; omega
            by_cases hzk : z = 7
            · have hE : Aside0 (G = (m, 7, 0)) := ⟨by rw [hG.out, getN, HL.out, if_neg hge]; simp only; rw [← HM.out, hz, hzk]; simp⟩
              subst hzk
              clear hz hge
              go_wp2_with (go_at_call 77; refine (size_any (m : Int) (by omega) (by omega) _).mono ?_; rw [Int.toNat_natCast, HZ.out]; rintro e w5 ⟨rfl, rfl⟩)
              refine bodyPost_ret (results_tmp3 rfl _ _ _) rfl ?_
              rw [hE.out]
              exact ⟨rfl, HB.out⟩
            · have hE : Aside0 (G = (0, 0, 4)) := ⟨by rw [hG.out, getN, HL.out, if_neg hge]; simp only; rw [← HM.out, hz, if_pos hzk]⟩
              have hzk' : ¬ ((z : Int) = 7) := by omega
              clear hz hge
              go_wp2_with (go_at_call 77; refine (size_any (m : Int) (by omega) (by omega) _).mono ?_; rw [Int.toNat_natCast, HZ.out]; rintro e w5 ⟨rfl, rfl⟩)
              refine bodyPost_ret (results_tmp3 rfl _ _ _) rfl ?_
              rw [hE.out]
              exact ⟨rfl, HB.out⟩
    · by_cases hs : (n : Int) < 8
      · have hE : Aside0 (G = (0, 0, 8)) := ⟨by rw [hG.out, getN, HL.out, if_pos (by have := HRN.out; omega)]⟩
        go_wp2
        refine bodyPost_ret (results_tmp3 rfl _ _ _) rfl ?_
        rw [hE.out]
        exact ⟨rfl, Below.refl _ _⟩
      · have hcut := cut_mid (P := Try.prog) 83 5 .i64 .i64 Try.underlying83 hi0 1 hz1 (some ad) n c 1 8 (by omega) (by omega) (by omega) (by omega)
        obtain ⟨A7, hA7⟩ : ∃ A7, A7 = (if c = (1 : Int).toNat then some ad else (some ad).map (·.add ((1 : Int).toNat * 1))) := ⟨_, rfl⟩
        rw [← hA7] at hcut
        have HA7 := Aside0.mk hA7
        obtain ⟨m0, hm0⟩ := named (b % 2 ^ (7 - 7))
        have hand : bits .and .u8 (b : Int) 0 = (m0 : Int) := by rw [hm0.out]; exact and_top7 ⟨b, hb0⟩
        have hwr : IntKind.u64.wrap (m0 : Int) = (m0 : Int) := by rw [IntKind.wrap_u64]; have := Nat.mod_le b (2 ^ (7 - 7)); have := hm0.out; omega
        clear hA7
        go_wp2_with fail
        go_quiet (fail)
        go_wp2
        go_loopg [6, 33] 7 (fun g v6 v33 wr => ∃ j m : Nat, v33 = .int .i64 j ∧ g + j = 7 ∧ v6 = .int .u64 m ∧ Aside0 (m = val (b % 2 ^ (7 - 7) :: r.take j)) ∧ Aside0 (Below w1.heap.size w1 wr))
        case atStart => exact ⟨0, m0, rfl, rfl, rfl, ⟨by rw [hm0.out]; simp [val]⟩, ⟨pw_below_drewN (Below.refl _ _) nq⟩⟩
        case round =>
          obtain ⟨j, m, rfl, hg, rfl, HM, HB⟩ := hrel
          by_cases hj : j < 7
          · 
            obtain ⟨x, hx⟩ : ∃ x, r[j]? = some x := ⟨_, List.getElem?_eq_getElem (by have := HRN.out; omega)⟩
            have hx256 : x < 256 := hb x (by simp [List.mem_of_getElem? hx])
            obtain ⟨ad', had, hc1⟩ := (HR.out.below HB.out).at_ (1 + j : Nat) (by omega) (by have := HRN.out; omega)
            obtain rfl : ad = ad' := by injection had
            rw [rd_nb (b :: r) (1 + j) x (by rw [Nat.add_comm]; exact hx), Int.toNat_natCast, ← add_add] at hc1
            obtain ⟨a7, hA, HA⟩ : ∃ a7, A7 = some a7 ∧ Aside0 (a7 = ad.add 1) := ⟨ad.add 1, by rw [HA7.out, if_neg (by have := HRN.out; omega)]; simp [Option.map], ⟨rfl⟩⟩
            rw [← HA.out] at hc1
            have hmb := val_bound (b := b) (L := 7) (j := j) (fun y hy => hb y (List.mem_cons_of_mem _ hy)) hj (by omega) (by have := HRN.out; omega)
            rw [← HM.out] at hmb
            have HX := Aside0.mk hx
            subst hA
            have hor := or_next m x hmb hx256
            clear hx
            go_wp2
            go_roundg (7 - (j + 1))
            case measure => omega
            case rel => exact ⟨j + 1, m * 256 + x, rfl, by omega, rfl, ⟨by rw [val_next HX.out, ← HM.out]⟩, HB⟩
          · obtain rfl : j = 7 := by omega
            have hmb := val_bound2 (b := b) (L := 7) (fun y hy => hb y (List.mem_cons_of_mem _ hy)) (by omega) (by have := HRN.out; omega)
            rw [← HM.out] at hmb
            obtain ⟨z, hz⟩ : ∃ z, sizeN m = z := ⟨_, rfl⟩
            have HZ := Aside0.mk hz
            have hge : ¬ (r.length < 7) := by have := HRN.out; omega
            by_cases hzk : z = 8
            · have hE : Aside0 (G = (m, 8, 0)) := ⟨by rw [hG.out, getN, HL.out, if_neg hge]; simp only; rw [← HM.out, hz, hzk]; simp⟩
              subst hzk
              clear hz hge
              go_wp2_with (go_at_call 77; refine (size_any (m : Int) (by omega) (by omega) _).mono ?_; rw [Int.toNat_natCast, HZ.out]; rintro e w5 ⟨rfl, rfl⟩)
              refine bodyPost_ret (results_tmp3 rfl _ _ _) rfl ?_
              rw [hE.out]
              exact ⟨rfl, HB.out⟩
            · have hE : Aside0 (G = (0, 0, 4)) := ⟨by rw [hG.out, getN, HL.out, if_neg hge]; simp only; rw [← HM.out, hz, if_pos hzk]⟩
              have hzk' : ¬ ((z : Int) = 8) := by omega
              clear hz hge
              go_wp2_with (go_at_call 77; refine (size_any (m : Int) (by omega) (by omega) _).mono ?_; rw [Int.toNat_natCast, HZ.out]; rintro e w5 ⟨rfl, rfl⟩)
              refine bodyPost_ret (results_tmp3 rfl _ _ _) rfl ?_
              rw [hE.out]
              exact ⟨rfl, HB.out⟩
    · by_cases hs : (n : Int) < 9
      · have hE : Aside0 (G = (0, 0, 8)) := ⟨by rw [hG.out, getN, HL.out, if_pos (by have := HRN.out; omega)]⟩
        go_wp2
        refine bodyPost_ret (results_tmp3 rfl _ _ _) rfl ?_
        rw [hE.out]
        exact ⟨rfl, Below.refl _ _⟩
      · have hcut := cut_mid (P := Try.prog) 83 5 .i64 .i64 Try.underlying83 hi0 1 hz1 (some ad) n c 1 9 (by omega) (by omega) (by omega) (by omega)
        obtain ⟨A7, hA7⟩ : ∃ A7, A7 = (if c = (1 : Int).toNat then some ad else (some ad).map (·.add ((1 : Int).toNat * 1))) := ⟨_, rfl⟩
        rw [← hA7] at hcut
        have HA7 := Aside0.mk hA7
        obtain ⟨m0, hm0⟩ := named (b % 2 ^ (7 - 8))
        have hand : bits .and .u8 (b : Int) 0 = (m0 : Int) := by rw [hm0.out]; exact and_top8 ⟨b, hb0⟩
        have hwr : IntKind.u64.wrap (m0 : Int) = (m0 : Int) := by rw [IntKind.wrap_u64]; have := Nat.mod_le b (2 ^ (7 - 8)); have := hm0.out; omega
        clear hA7
        go_wp2_with fail
        go_quiet (fail)
        go_wp2
        go_loopg [6, 33] 8 (fun g v6 v33 wr => ∃ j m : Nat, v33 = .int .i64 j ∧ g + j = 8 ∧ v6 = .int .u64 m ∧ Aside0 (m = val (b % 2 ^ (7 - 8) :: r.take j)) ∧ Aside0 (Below w1.heap.size w1 wr))
        case atStart => exact ⟨0, m0, rfl, rfl, rfl, ⟨by rw [hm0.out]; simp [val]⟩, ⟨pw_below_drewN (Below.refl _ _) nq⟩⟩
        case round =>
          obtain ⟨j, m, rfl, hg, rfl, HM, HB⟩ := hrel
          by_cases hj : j < 8
          · 
            obtain ⟨x, hx⟩ : ∃ x, r[j]? = some x := ⟨_, List.getElem?_eq_getElem (by have := HRN.out; omega)⟩
            have hx256 : x < 256 := hb x (by simp [List.mem_of_getElem? hx])
            obtain ⟨ad', had, hc1⟩ := (HR.out.below HB.out).at_ (1 + j : Nat) (by omega) (by have := HRN.out; omega)
            obtain rfl : ad = ad' := by injection had
            rw [rd_nb (b :: r) (1 + j) x (by rw [Nat.add_comm]; exact hx), Int.toNat_natCast, ← add_add] at hc1
            obtain ⟨a7, hA, HA⟩ : ∃ a7, A7 = some a7 ∧ Aside0 (a7 = ad.add 1) := ⟨ad.add 1, by rw [HA7.out, if_neg (by have := HRN.out; omega)]; simp [Option.map], ⟨rfl⟩⟩
            rw [← HA.out] at hc1
            have hmb := val_bound (b := b) (L := 8) (j := j) (fun y hy => hb y (List.mem_cons_of_mem _ hy)) hj (by omega) (by have := HRN.out; omega)
            rw [← HM.out] at hmb
            have HX := Aside0.mk hx
            subst hA
            have hor := or_next m x hmb hx256
            clear hx
            go_wp2
            go_roundg (8 - (j + 1))
            case measure => omega
            case rel => exact ⟨j + 1, m * 256 + x, rfl, by omega, rfl, ⟨by rw [val_next HX.out, ← HM.out]⟩, HB⟩
          · obtain rfl : j = 8 := by omega
            have hmb := val_bound2 (b := b) (L := 8) (fun y hy => hb y (List.mem_cons_of_mem _ hy)) (by omega) (by have := HRN.out; omega)
            rw [← HM.out] at hmb
            obtain ⟨z, hz⟩ : ∃ z, sizeN m = z := ⟨_, rfl⟩
            have HZ := Aside0.mk hz
            have hge : ¬ (r.length < 8) := by have := HRN.out; omega
            by_cases hzk : z = 9
            · have hE : Aside0 (G = (m, 9, 0)) := ⟨by rw [hG.out, getN, HL.out, if_neg hge]; simp only; rw [← HM.out, hz, hzk]; simp⟩
              subst hzk
              clear hz hge
              go_wp2_with (go_at_call 77; refine (size_any (m : Int) (by omega) (by omega) _).mono ?_; rw [Int.toNat_natCast, HZ.out]; rintro e w5 ⟨rfl, rfl⟩)
              refine bodyPost_ret (results_tmp3 rfl _ _ _) rfl ?_
              rw [hE.out]
              exact ⟨rfl, HB.out⟩
            · have hE : Aside0 (G = (0, 0, 4)) := ⟨by rw [hG.out, getN, HL.out, if_neg hge]; simp only; rw [← HM.out, hz, if_pos hzk]⟩
              have hzk' : ¬ ((z : Int) = 9) := by omega
              clear hz hge
              go_wp2_with (go_at_call 77; refine (size_any (m : Int) (by omega) (by omega) _).mono ?_; rw [Int.toNat_natCast, HZ.out]; rintro e w5 ⟨rfl, rfl⟩)
              refine bodyPost_ret (results_tmp3 rfl _ _ _) rfl ?_
              rw [hE.out]
              exact ⟨rfl, HB.out⟩
end Go.Proofs.Ytelnhecpcjoonaa.Var
