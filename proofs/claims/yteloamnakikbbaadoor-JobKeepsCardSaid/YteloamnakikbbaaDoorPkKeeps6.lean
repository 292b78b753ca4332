/- A part of the proof: varint.Get: walked. -/
import Derived.Test.YteloamnakikbbaaDoorPkKeeps5
import Derived.Test.YteloamnakikbbaaDoorPkKeeps2
import Derived.Test.YteloamnakikbbaaDoorPkKeeps1
import Derived.Laws.Bits64b

/- varint.Get: walked. -/
namespace Go.Proofs.YteloamnakikbbaaDoor.Var
set_option linter.unusedVariables false
set_option linter.unusedSimpArgs false
open Go.RowKit Go.Proofs.YteloamnakikbbaaDoorW.PrintWords Go.Proofs.YteloamnakikbbaaDoorW.PrintLast Go.Proofs.YteloamnakikbbaaDoor.Base Go.Proofs.YteloamnakikbbaaDoor.Cells Go.Proofs.YteloamnakikbbaaDoor.Ints Go.Proofs.YteloamnakikbbaaDoor.VarPure

theorem xor_max : ∀ b : Fin 256, bits .xor .u8 IntKind.u8.max (b.val : Int) = ((255 - b.val : Nat) : Int) := by decide +kernel
theorem lz_any (b : Nat) (hb : b < 256) (w : World) : Calls Tryd.prog 64 #[.int .u8 (bits .xor .u8 IntKind.u8.max (b : Int))] w fun e w' => e = .returned (.int .i64 (lead b)) ∧ w' = w := by
  have h := xor_max ⟨b, hb⟩
  simp only at h
  rw [h]
  refine (Tryd.bits_LeadingZeros8 _ w (by omega) (by omega)).mono fun e w' ⟨he, hw⟩ => ⟨?_, hw⟩
  rw [he, Int.toNat_natCast, lead]
  have := Lib.bitLen_le8 ⟨255 - b, by omega⟩
  simp only at this
  congr 2
  omega
theorem rd_cons (b : Nat) (r : List Nat) : rd (nb (b :: r)) 0 = (b : Int) := rfl
theorem rd_nb (l : List Nat) (j : Nat) (x : Nat) (h : l[j]? = some x) : rd (nb l) (j : Int) = (x : Int) := by
  simp [rd, nb, List.getD_eq_getElem?_getD, List.getElem?_map, h]

theorem infoBx : ∃ i0, Tryd.prog.info? 5 = some i0 ∧ i0.size = 1 := by
  have h := infoB
  obtain ⟨i0, h1, h2⟩ := Option.map_eq_some_iff.1 h
  exact ⟨i0, h1, congrArg (fun x => x.2.1) h2⟩
theorem and_top0 : ∀ b : Fin 256, bits .and .u8 (b.val : Int) 127 = ((b.val % 2 ^ (7 - 0) : Nat) : Int) := by decide +kernel
theorem and_top1 : ∀ b : Fin 256, bits .and .u8 (b.val : Int) 63 = ((b.val % 2 ^ (7 - 1) : Nat) : Int) := by decide +kernel
theorem and_top2 : ∀ b : Fin 256, bits .and .u8 (b.val : Int) 31 = ((b.val % 2 ^ (7 - 2) : Nat) : Int) := by decide +kernel
theorem and_top3 : ∀ b : Fin 256, bits .and .u8 (b.val : Int) 15 = ((b.val % 2 ^ (7 - 3) : Nat) : Int) := by decide +kernel
theorem and_top4 : ∀ b : Fin 256, bits .and .u8 (b.val : Int) 7 = ((b.val % 2 ^ (7 - 4) : Nat) : Int) := by decide +kernel
theorem and_top5 : ∀ b : Fin 256, bits .and .u8 (b.val : Int) 3 = ((b.val % 2 ^ (7 - 5) : Nat) : Int) := by decide +kernel
theorem and_top6 : ∀ b : Fin 256, bits .and .u8 (b.val : Int) 1 = ((b.val % 2 ^ (7 - 6) : Nat) : Int) := by decide +kernel
theorem and_top7 : ∀ b : Fin 256, bits .and .u8 (b.val : Int) 0 = ((b.val % 2 ^ (7 - 7) : Nat) : Int) := by decide +kernel
theorem and_top8 : ∀ b : Fin 256, bits .and .u8 (b.val : Int) 0 = ((b.val % 2 ^ (7 - 8) : Nat) : Int) := by decide +kernel
/-- the number so far stays below the next shift -/
theorem val_bound {b L j : Nat} {r : List Nat} (hr : Bytes r) (hj : j < L) (hL : L ≤ 8) (hjl : j ≤ r.length) : val (b % 2 ^ (7 - L) :: r.take j) < 72057594037927936 := by
  have h1 : Bytes (r.take j) := fun x hx => hr x (List.mem_of_mem_take hx)
  have h2 := val_lt _ h1
  have hl : (r.take j).length = j := by rw [List.length_take]; omega
  rw [val_cons, hl]
  rw [hl] at h2
  have h3 : b % 2 ^ (7 - L) < 2 ^ (7 - L) := Nat.mod_lt _ (Nat.two_pow_pos _)
  have h4 : b % 2 ^ (7 - L) * 256 ^ j + val (r.take j) < 2 ^ (7 - L) * 256 ^ j := by
    have : (b % 2 ^ (7 - L) + 1) * 256 ^ j ≤ 2 ^ (7 - L) * 256 ^ j := Nat.mul_le_mul_right _ h3
    rw [Nat.add_mul, Nat.one_mul] at this
    omega
  have h5 : 2 ^ (7 - L) * 256 ^ j ≤ 2 ^ 56 := by
    rw [show (256 : Nat) = 2 ^ 8 by rfl, ← Nat.pow_mul, ← Nat.pow_add]
    exact Nat.pow_le_pow_right (by omega) (by omega)
  have h6 : (2 : Nat) ^ 56 = 72057594037927936 := rfl
  omega
theorem val_bound2 {b L : Nat} {r : List Nat} (hr : Bytes r) (hL : L ≤ 8) (hjl : L ≤ r.length) : val (b % 2 ^ (7 - L) :: r.take L) < 18446744073709551616 := by
  have h1 : Bytes (r.take L) := fun x hx => hr x (List.mem_of_mem_take hx)
  have h2 := val_lt _ h1
  have hl : (r.take L).length = L := by rw [List.length_take]; omega
  rw [val_cons, hl]
  rw [hl] at h2
  have h3 : b % 2 ^ (7 - L) < 2 ^ (7 - L) := Nat.mod_lt _ (Nat.two_pow_pos _)
  have h4 : b % 2 ^ (7 - L) * 256 ^ L + val (r.take L) < 2 ^ (7 - L) * 256 ^ L := by
    have : (b % 2 ^ (7 - L) + 1) * 256 ^ L ≤ 2 ^ (7 - L) * 256 ^ L := Nat.mul_le_mul_right _ h3
    rw [Nat.add_mul, Nat.one_mul] at this
    omega
  have h5 : 2 ^ (7 - L) * 256 ^ L ≤ 2 ^ 64 := by
    rw [show (256 : Nat) = 2 ^ 8 by rfl, ← Nat.pow_mul, ← Nat.pow_add]
    exact Nat.pow_le_pow_right (by omega) (by omega)
  have h6 : (2 : Nat) ^ 64 = 18446744073709551616 := rfl
  omega
theorem or_next (m x : Nat) (hm : m < 72057594037927936) (hx : x < 256) : bits .or .u64 ((m : Int) * 256) (x : Int) = ((m * 256 + x : Nat) : Int) := by
  have h := bits_or_u64_nat (m * 256) x (by omega) (by omega)
  have h2 : m * 256 ||| x = m * 256 + x := by
    have := Nat.shiftLeft_add_eq_or_of_lt (b := x) (i := 8) (by omega) m
    rw [Nat.shiftLeft_eq] at this
    exact this.symm
  rw [h2] at h
  rw [← h]
  congr 1
theorem val_next {j x : Nat} {r : List Nat} (h : r[j]? = some x) (q : Nat) : val (q :: r.take (j + 1)) = val (q :: r.take j) * 256 + x := by
  rw [List.take_add_one, h, ← List.cons_append]
  exact val_snoc _ _

set_option maxRecDepth 100000 in
set_option maxHeartbeats 4000000 in
theorem get_any (A : Option Addr) (c : Nat) (l : List Nat) (w : World) (hb : Bytes l) (hr : ReadsInt w .u8 A l.length (nb l)) (hl : l.length ≤ 1048576) (hc : l.length ≤ c) :
    Calls Tryd.prog 50 #[.slice A l.length c] w fun e w' => e = .returned (.tuple #[.int .u64 ((getN l).1 : Nat), .int .i64 ((getN l).2.1 : Nat), .int .i64 ((getN l).2.2 : Nat)]) ∧ Below w.heap.size w w' := by
  rcases l with _ | ⟨b, r⟩
  · simp only [List.length_nil]
    go_enter Tryd.func50, Tryd.ntmps50
    go_wp2
    refine bodyPost_ret (results_tmp3 rfl _ _ _) rfl ?_
    exact ⟨rfl, Below.refl _ _⟩
  · obtain ⟨ad, rfl, c0⟩ := hr.at_ 0 (by omega) (by simp)
    rw [rd_cons] at c0
    have hb0 : b < 256 := hb b (by simp)
    have HR := Aside0.mk hr
    obtain ⟨n, hn⟩ : ∃ n, (b :: r).length = n := ⟨_, rfl⟩
    have HRN : Aside0 (n = r.length + 1) := ⟨by rw [← hn]; simp⟩
    have hn1 : (1 : Int) ≤ n := by have := HRN.out; omega
    have hn0 : ((n : Int) == 0) = false := by simp; omega
    have ha0 : ad.add 0 = ad := by simp [Addr.add]
    rw [show (0 : Int).toNat = 0 by rfl, ha0] at c0
    have HN := Aside0.mk hn
    obtain ⟨G, hG⟩ := named (getN (b :: r))
    rw [← hG.out]
    rw [hn] at hl hc HR ⊢
    clear hr hn
    go_enter Tryd.func50, Tryd.ntmps50
    go_wp2_with fail
    refine (lz_any b hb0 _).mono ?_
    obtain ⟨L, hL⟩ : ∃ L, lead b = L := ⟨_, rfl⟩
    have hL8 := lead_le b
    rw [hL] at hL8 ⊢
    have HL := Aside0.mk hL
    clear hL
    rintro e w1 ⟨rfl, rfl⟩
    obtain ⟨i0, hi0, hz1⟩ := infoBx
    rcases (show L = 0 ∨ L = 1 ∨ L = 2 ∨ L = 3 ∨ L = 4 ∨ L = 5 ∨ L = 6 ∨ L = 7 ∨ L = 8 by omega) with rfl | rfl | rfl | rfl | rfl | rfl | rfl | rfl | rfl
    · by_cases hs : (n : Int) < 1
      · have hE : Aside0 (G = (0, 0, 8)) := ⟨by rw [hG.out, getN, HL.out, if_pos (by have := HRN.out; omega)]⟩
        go_wp2
        refine bodyPost_ret (results_tmp3 rfl _ _ _) rfl ?_
        rw [hE.out]
        exact ⟨rfl, Below.refl _ _⟩
      · have hcut := cut_mid (P := Tryd.prog) 82 5 .i64 .i64 Tryd.underlying82 hi0 1 hz1 (some ad) n c 1 1 (by omega) (by omega) (by omega) (by omega)
        obtain ⟨A7, hA7⟩ : ∃ A7, A7 = (if c = (1 : Int).toNat then some ad else (some ad).map (·.add ((1 : Int).toNat * 1))) := ⟨_, rfl⟩
        rw [← hA7] at hcut
        have HA7 := Aside0.mk hA7
        obtain ⟨m0, hm0⟩ := named (b % 2 ^ (7 - 0))
        have hand : bits .and .u8 (b : Int) 127 = (m0 : Int) := by rw [hm0.out]; exact and_top0 ⟨b, hb0⟩
        have hwr : IntKind.u64.wrap (m0 : Int) = (m0 : Int) := by rw [IntKind.wrap_u64]; have := Nat.mod_le b (2 ^ (7 - 0)); have := hm0.out; omega
        clear hA7
        go_wp2_with fail
        go_quiet (fail)
        go_wp2
        go_loopg [6, 33] 0 (fun g v6 v33 wr => ∃ j m : Nat, v33 = .int .i64 j ∧ g + j = 0 ∧ v6 = .int .u64 m ∧ Aside0 (m = val (b % 2 ^ (7 - 0) :: r.take j)) ∧ Aside0 (Below w1.heap.size w1 wr))
        case atStart => exact ⟨0, m0, rfl, rfl, rfl, ⟨by rw [hm0.out]; simp [val]⟩, ⟨pw_below_drewN (Below.refl _ _) nq⟩⟩
        case round =>
          obtain ⟨j, m, rfl, hg, rfl, HM, HB⟩ := hrel
          by_cases hj : j < 0
          · 
            exact absurd hj (by omega)
          · obtain rfl : j = 0 := by omega
            have hmb := val_bound2 (b := b) (L := 0) (fun y hy => hb y (List.mem_cons_of_mem _ hy)) (by omega) (by have := HRN.out; omega)
            rw [← HM.out] at hmb
            obtain ⟨z, hz⟩ : ∃ z, sizeN m = z := ⟨_, rfl⟩
            have HZ := Aside0.mk hz
            have hge : ¬ (r.length < 0) := by have := HRN.out; omega
            by_cases hzk : z = 1
            · have hE : Aside0 (G = (m, 1, 0)) := ⟨by rw [hG.out, getN, HL.out, if_neg hge]; simp only; rw [← HM.out, hz, hzk]; simp⟩
              subst hzk
              clear hz hge
              go_wp2_with (go_at_call 48; refine (size_any (m : Int) (by omega) (by omega) _).mono ?_; rw [Int.toNat_natCast, HZ.out]; rintro e w5 ⟨rfl, rfl⟩)
              refine bodyPost_ret (results_tmp3 rfl _ _ _) rfl ?_
              rw [hE.out]
              exact ⟨rfl, HB.out⟩
            · have hE : Aside0 (G = (0, 0, 4)) := ⟨by rw [hG.out, getN, HL.out, if_neg hge]; simp only; rw [← HM.out, hz, if_pos hzk]⟩
              have hzk' : ¬ ((z : Int) = 1) := by omega
              clear hz hge
              go_wp2_with (go_at_call 48; refine (size_any (m : Int) (by omega) (by omega) _).mono ?_; rw [Int.toNat_natCast, HZ.out]; rintro e w5 ⟨rfl, rfl⟩)
              refine bodyPost_ret (results_tmp3 rfl _ _ _) rfl ?_
              rw [hE.out]
              exact ⟨rfl, HB.out⟩
    · by_cases hs : (n : Int) < 2
      · have hE : Aside0 (G = (0, 0, 8)) := ⟨by rw [hG.out, getN, HL.out, if_pos (by have := HRN.out; omega)]⟩
        go_wp2
        refine bodyPost_ret (results_tmp3 rfl _ _ _) rfl ?_
        rw [hE.out]
        exact ⟨rfl, Below.refl _ _⟩
      · have hcut := cut_mid (P := Tryd.prog) 82 5 .i64 .i64 Tryd.underlying82 hi0 1 hz1 (some ad) n c 1 2 (by omega) (by omega) (by omega) (by omega)
        obtain ⟨A7, hA7⟩ : ∃ A7, A7 = (if c = (1 : Int).toNat then some ad else (some ad).map (·.add ((1 : Int).toNat * 1))) := ⟨_, rfl⟩
        rw [← hA7] at hcut
        have HA7 := Aside0.mk hA7
        obtain ⟨m0, hm0⟩ := named (b % 2 ^ (7 - 1))
        have hand : bits .and .u8 (b : Int) 63 = (m0 : Int) := by rw [hm0.out]; exact and_top1 ⟨b, hb0⟩
        have hwr : IntKind.u64.wrap (m0 : Int) = (m0 : Int) := by rw [IntKind.wrap_u64]; have := Nat.mod_le b (2 ^ (7 - 1)); have := hm0.out; omega
        clear hA7
        go_wp2_with fail
        go_quiet (fail)
        go_wp2
        go_loopg [6, 33] 1 (fun g v6 v33 wr => ∃ j m : Nat, v33 = .int .i64 j ∧ g + j = 1 ∧ v6 = .int .u64 m ∧ Aside0 (m = val (b % 2 ^ (7 - 1) :: r.take j)) ∧ Aside0 (Below w1.heap.size w1 wr))
        case atStart => exact ⟨0, m0, rfl, rfl, rfl, ⟨by rw [hm0.out]; simp [val]⟩, ⟨pw_below_drewN (Below.refl _ _) nq⟩⟩
        case round =>
          obtain ⟨j, m, rfl, hg, rfl, HM, HB⟩ := hrel
          by_cases hj : j < 1
          · 
            obtain ⟨x, hx⟩ : ∃ x, r[j]? = some x := ⟨_, List.getElem?_eq_getElem (by have := HRN.out; omega)⟩
            have hx256 : x < 256 := hb x (by simp [List.mem_of_getElem? hx])
            obtain ⟨ad', had, hc1⟩ := (HR.out.below HB.out).at_ (1 + j : Nat) (by omega) (by have := HRN.out; omega)
            obtain rfl : ad = ad' := by injection had
            rw [rd_nb (b :: r) (1 + j) x (by rw [Nat.add_comm]; exact hx), Int.toNat_natCast, ← add_add] at hc1
            obtain ⟨a7, hA, HA⟩ : ∃ a7, A7 = some a7 ∧ Aside0 (a7 = ad.add 1) := ⟨ad.add 1, by rw [HA7.out, if_neg (by have := HRN.out; omega)]; simp [Option.map], ⟨rfl⟩⟩
            rw [← HA.out] at hc1
            have hmb := val_bound (b := b) (L := 1) (j := j) (fun y hy => hb y (List.mem_cons_of_mem _ hy)) hj (by omega) (by have := HRN.out; omega)
            rw [← HM.out] at hmb
            have HX := Aside0.mk hx
            subst hA
            have hor := or_next m x hmb hx256
            clear hx
            go_wp2
            go_roundg (1 - (j + 1))
            case measure => omega
            case rel => exact ⟨j + 1, m * 256 + x, rfl, by omega, rfl, ⟨by rw [val_next HX.out, ← HM.out]⟩, HB⟩
          · obtain rfl : j = 1 := by omega
            have hmb := val_bound2 (b := b) (L := 1) (fun y hy => hb y (List.mem_cons_of_mem _ hy)) (by omega) (by have := HRN.out; omega)
            rw [← HM.out] at hmb
            obtain ⟨z, hz⟩ : ∃ z, sizeN m = z := ⟨_, rfl⟩
            have HZ := Aside0.mk hz
            have hge : ¬ (r.length < 1) := by have := HRN.out; omega
            by_cases hzk : z = 2
            · have hE : Aside0 (G = (m, 2, 0)) := ⟨by rw [hG.out, getN, HL.out, if_neg hge]; simp only; rw [← HM.out, hz, hzk]; simp⟩
              subst hzk
              clear hz hge
              go_wp2_with (go_at_call 48; refine (size_any (m : Int) (by omega) (by omega) _).mono ?_; rw [Int.toNat_natCast, HZ.out]; rintro e w5 ⟨rfl, rfl⟩)
              refine bodyPost_ret (results_tmp3 rfl _ _ _) rfl ?_
              rw [hE.out]
              exact ⟨rfl, HB.out⟩
            · have hE : Aside0 (G = (0, 0, 4)) := ⟨by rw [hG.out, getN, HL.out, if_neg hge]; simp only; rw [← HM.out, hz, if_pos hzk]⟩
              have hzk' : ¬ ((z : Int) = 2) := by omega
              clear hz hge
              go_wp2_with (go_at_call 48; refine (size_any (m : Int) (by omega) (by omega) _).mono ?_; rw [Int.toNat_natCast, HZ.out]; rintro e w5 ⟨rfl, rfl⟩)
              refine bodyPost_ret (results_tmp3 rfl _ _ _) rfl ?_
              rw [hE.out]
              exact ⟨rfl, HB.out⟩
    · by_cases hs : (n : Int) < 3
      · have hE : Aside0 (G = (0, 0, 8)) := ⟨by rw [hG.out, getN, HL.out, if_pos (by have := HRN.out; omega)]⟩
        go_wp2
        refine bodyPost_ret (results_tmp3 rfl _ _ _) rfl ?_
        rw [hE.out]
        exact ⟨rfl, Below.refl _ _⟩
      · have hcut := cut_mid (P := Tryd.prog) 82 5 .i64 .i64 Tryd.underlying82 hi0 1 hz1 (some ad) n c 1 3 (by omega) (by omega) (by omega) (by omega)
        obtain ⟨A7, hA7⟩ : ∃ A7, A7 = (if c = (1 : Int).toNat then some ad else (some ad).map (·.add ((1 : Int).toNat * 1))) := ⟨_, rfl⟩
        rw [← hA7] at hcut
        have HA7 := Aside0.mk hA7
        obtain ⟨m0, hm0⟩ := named (b % 2 ^ (7 - 2))
        have hand : bits .and .u8 (b : Int) 31 = (m0 : Int) := by rw [hm0.out]; exact and_top2 ⟨b, hb0⟩
        have hwr : IntKind.u64.wrap (m0 : Int) = (m0 : Int) := by rw [IntKind.wrap_u64]; have := Nat.mod_le b (2 ^ (7 - 2)); have := hm0.out; omega
        clear hA7
        go_wp2_with fail
        go_quiet (fail)
        go_wp2
        go_loopg [6, 33] 2 (fun g v6 v33 wr => ∃ j m : Nat, v33 = .int .i64 j ∧ g + j = 2 ∧ v6 = .int .u64 m ∧ Aside0 (m = val (b % 2 ^ (7 - 2) :: r.take j)) ∧ Aside0 (Below w1.heap.size w1 wr))
        case atStart => exact ⟨0, m0, rfl, rfl, rfl, ⟨by rw [hm0.out]; simp [val]⟩, ⟨pw_below_drewN (Below.refl _ _) nq⟩⟩
        case round =>
          obtain ⟨j, m, rfl, hg, rfl, HM, HB⟩ := hrel
          by_cases hj : j < 2
          · 
            obtain ⟨x, hx⟩ : ∃ x, r[j]? = some x := ⟨_, List.getElem?_eq_getElem (by have := HRN.out; omega)⟩
            have hx256 : x < 256 := hb x (by simp [List.mem_of_getElem? hx])
            obtain ⟨ad', had, hc1⟩ := (HR.out.below HB.out).at_ (1 + j : Nat) (by omega) (by have := HRN.out; omega)
            obtain rfl : ad = ad' := by injection had
            rw [rd_nb (b :: r) (1 + j) x (by rw [Nat.add_comm]; exact hx), Int.toNat_natCast, ← add_add] at hc1
            obtain ⟨a7, hA, HA⟩ : ∃ a7, A7 = some a7 ∧ Aside0 (a7 = ad.add 1) := ⟨ad.add 1, by rw [HA7.out, if_neg (by have := HRN.out; omega)]; simp [Option.map], ⟨rfl⟩⟩
            rw [← HA.out] at hc1
            have hmb := val_bound (b := b) (L := 2) (j := j) (fun y hy => hb y (List.mem_cons_of_mem _ hy)) hj (by omega) (by have := HRN.out; omega)
            rw [← HM.out] at hmb
            have HX := Aside0.mk hx
            subst hA
            have hor := or_next m x hmb hx256
            clear hx
            go_wp2
            go_roundg (2 - (j + 1))
            case measure => omega
            case rel => exact ⟨j + 1, m * 256 + x, rfl, by omega, rfl, ⟨by rw [val_next HX.out, ← HM.out]⟩, HB⟩
          · obtain rfl : j = 2 := by omega
            have hmb := val_bound2 (b := b) (L := 2) (fun y hy => hb y (List.mem_cons_of_mem _ hy)) (by omega) (by have := HRN.out; omega)
            rw [← HM.out] at hmb
            obtain ⟨z, hz⟩ : ∃ z, sizeN m = z := ⟨_, rfl⟩
            have HZ := Aside0.mk hz
            have hge : ¬ (r.length < 2) := by have := HRN.out; omega
            by_cases hzk : z = 3
            · have hE : Aside0 (G = (m, 3, 0)) := ⟨by rw [hG.out, getN, HL.out, if_neg hge]; simp only; rw [← HM.out, hz, hzk]; simp⟩
              subst hzk
              clear hz hge
              go_wp2_with (go_at_call 48; refine (size_any (m : Int) (by omega) (by omega) _).mono ?_; rw [Int.toNat_natCast, HZ.out]; rintro e w5 ⟨rfl, rfl⟩)
              refine bodyPost_ret (results_tmp3 rfl _ _ _) rfl ?_
              rw [hE.out]
              exact ⟨rfl, HB.out⟩
            · have hE : Aside0 (G = (0, 0, 4)) := ⟨by rw [hG.out, getN, HL.out, if_neg hge]; simp only; rw [← HM.out, hz, if_pos hzk]⟩
              have hzk' : ¬ ((z : Int) = 3) := by omega
              clear hz hge
              go_wp2_with (go_at_call 48; refine (size_any (m : Int) (by omega) (by omega) _).mono ?_; rw [Int.toNat_natCast, HZ.out]; rintro e w5 ⟨rfl, rfl⟩)
              refine bodyPost_ret (results_tmp3 rfl _ _ _) rfl ?_
              rw [hE.out]
              exact ⟨rfl, HB.out⟩
    · by_cases hs : (n : Int) < 4
      · have hE : Aside0 (G = (0, 0, 8)) := ⟨by rw [hG.out, getN, HL.out, if_pos (by have := HRN.out; omega)]⟩
        go_wp2
        refine bodyPost_ret (results_tmp3 rfl _ _ _) rfl ?_
        rw [hE.out]
        exact ⟨rfl, Below.refl _ _⟩
      · have hcut := cut_mid (P := Tryd.prog) 82 5 .i64 .i64 Tryd.underlying82 hi0 1 hz1 (some ad) n c 1 4 (by omega) (by omega) (by omega) (by omega)
        obtain ⟨A7, hA7⟩ : ∃ A7, A7 = (if c = (1 : Int).toNat then some ad else (some ad).map (·.add ((1 : Int).toNat * 1))) := ⟨_, rfl⟩
        rw [← hA7] at hcut
        have HA7 := Aside0.mk hA7
        obtain ⟨m0, hm0⟩ := named (b % 2 ^ (7 - 3))
        have hand : bits .and .u8 (b : Int) 15 = (m0 : Int) := by rw [hm0.out]; exact and_top3 ⟨b, hb0⟩
        have hwr : IntKind.u64.wrap (m0 : Int) = (m0 : Int) := by rw [IntKind.wrap_u64]; have := Nat.mod_le b (2 ^ (7 - 3)); have := hm0.out; omega
        clear hA7
        go_wp2_with fail
        go_quiet (fail)
        go_wp2
        go_loopg [6, 33] 3 (fun g v6 v33 wr => ∃ j m : Nat, v33 = .int .i64 j ∧ g + j = 3 ∧ v6 = .int .u64 m ∧ Aside0 (m = val (b % 2 ^ (7 - 3) :: r.take j)) ∧ Aside0 (Below w1.heap.size w1 wr))
        case atStart => exact ⟨0, m0, rfl, rfl, rfl, ⟨by rw [hm0.out]; simp [val]⟩, ⟨pw_below_drewN (Below.refl _ _) nq⟩⟩
        case round =>
          obtain ⟨j, m, rfl, hg, rfl, HM, HB⟩ := hrel
          by_cases hj : j < 3
          · 
            obtain ⟨x, hx⟩ : ∃ x, r[j]? = some x := ⟨_, List.getElem?_eq_getElem (by have := HRN.out; omega)⟩
            have hx256 : x < 256 := hb x (by simp [List.mem_of_getElem? hx])
            obtain ⟨ad', had, hc1⟩ := (HR.out.below HB.out).at_ (1 + j : Nat) (by omega) (by have := HRN.out; omega)
            obtain rfl : ad = ad' := by injection had
            rw [rd_nb (b :: r) (1 + j) x (by rw [Nat.add_comm]; exact hx), Int.toNat_natCast, ← add_add] at hc1
            obtain ⟨a7, hA, HA⟩ : ∃ a7, A7 = some a7 ∧ Aside0 (a7 = ad.add 1) := ⟨ad.add 1, by rw [HA7.out, if_neg (by have := HRN.out; omega)]; simp [Option.map], ⟨rfl⟩⟩
            rw [← HA.out] at hc1
            have hmb := val_bound (b := b) (L := 3) (j := j) (fun y hy => hb y (List.mem_cons_of_mem _ hy)) hj (by omega) (by have := HRN.out; omega)
            rw [← HM.out] at hmb
            have HX := Aside0.mk hx
            subst hA
            have hor := or_next m x hmb hx256
            clear hx
            go_wp2
            go_roundg (3 - (j + 1))
            case measure => omega
            case rel => exact ⟨j + 1, m * 256 + x, rfl, by omega, rfl, ⟨by rw [val_next HX.out, ← HM.out]⟩, HB⟩
          · obtain rfl : j = 3 := by omega
            have hmb := val_bound2 (b := b) (L := 3) (fun y hy => hb y (List.mem_cons_of_mem _ hy)) (by omega) (by have := HRN.out; omega)
            rw [← HM.out] at hmb
            obtain ⟨z, hz⟩ : ∃ z, sizeN m = z := ⟨_, rfl⟩
            have HZ := Aside0.mk hz
            have hge : ¬ (r.length < 3) := by have := HRN.out; omega
            by_cases hzk : z = 4
            · have hE : Aside0 (G = (m, 4, 0)) := ⟨by rw [hG.out, getN, HL.out, if_neg hge]; simp only; rw [← HM.out, hz, hzk]; simp⟩
              subst hzk
              clear hz hge
              go_wp2_with (go_at_call 48; refine (size_any (m : Int) (by omega) (by omega) _).mono ?_; rw [Int.toNat_natCast, HZ.out]; rintro e w5 ⟨rfl, rfl⟩)
              refine bodyPost_ret (results_tmp3 rfl _ _ _) rfl ?_
              rw [hE.out]
              exact ⟨rfl, HB.out⟩
            · have hE : Aside0 (G = (0, 0, 4)) := ⟨by rw [hG.out, getN, HL.out, if_neg hge]; simp only; rw [← HM.out, hz, if_pos hzk]⟩
              have hzk' : ¬ ((z : Int) = 4) := by omega
              clear hz hge
              go_wp2_with (go_at_call 48; refine (size_any (m : Int) (by omega) (by omega) _).mono ?_; rw [Int.toNat_natCast, HZ.out]; rintro e w5 ⟨rfl, rfl⟩)
              refine bodyPost_ret (results_tmp3 rfl _ _ _) rfl ?_
              rw [hE.out]
              exact ⟨rfl, HB.out⟩
    · by_cases hs : (n : Int) < 5
      · have hE : Aside0 (G = (0, 0, 8)) := ⟨by rw [hG.out, getN, HL.out, if_pos (by have := HRN.out; omega)]⟩
        go_wp2
        refine bodyPost_ret (results_tmp3 rfl _ _ _) rfl ?_
        rw [hE.out]
        exact ⟨rfl, Below.refl _ _⟩
      · have hcut := cut_mid (P := Tryd.prog) 82 5 .i64 .i64 Tryd.underlying82 hi0 1 hz1 (some ad) n c 1 5 (by omega) (by omega) (by omega) (by omega)
        obtain ⟨A7, hA7⟩ : ∃ A7, A7 = (if c = (1 : Int).toNat then some ad else (some ad).map (·.add ((1 : Int).toNat * 1))) := ⟨_, rfl⟩
        rw [← hA7] at hcut
        have HA7 := Aside0.mk hA7
        obtain ⟨m0, hm0⟩ := named (b % 2 ^ (7 - 4))
        have hand : bits .and .u8 (b : Int) 7 = (m0 : Int) := by rw [hm0.out]; exact and_top4 ⟨b, hb0⟩
        have hwr : IntKind.u64.wrap (m0 : Int) = (m0 : Int) := by rw [IntKind.wrap_u64]; have := Nat.mod_le b (2 ^ (7 - 4)); have := hm0.out; omega
        clear hA7
        go_wp2_with fail
        go_quiet (fail)
        go_wp2
        go_loopg [6, 33] 4 (fun g v6 v33 wr => ∃ j m : Nat, v33 = .int .i64 j ∧ g + j = 4 ∧ v6 = .int .u64 m ∧ Aside0 (m = val (b % 2 ^ (7 - 4) :: r.take j)) ∧ Aside0 (Below w1.heap.size w1 wr))
        case atStart => exact ⟨0, m0, rfl, rfl, rfl, ⟨by rw [hm0.out]; simp [val]⟩, ⟨pw_below_drewN (Below.refl _ _) nq⟩⟩
        case round =>
          obtain ⟨j, m, rfl, hg, rfl, HM, HB⟩ := hrel
          by_cases hj : j < 4
          · 
            obtain ⟨x, hx⟩ : ∃ x, r[j]? = some x := ⟨_, List.getElem?_eq_getElem (by have := HRN.out; omega)⟩
            have hx256 : x < 256 := hb x (by simp [List.mem_of_getElem? hx])
            obtain ⟨ad', had, hc1⟩ := (HR.out.below HB.out).at_ (1 + j : Nat) (by omega) (by have := HRN.out; omega)
            obtain rfl : ad = ad' := by injection had
            rw [rd_nb (b :: r) (1 + j) x (by rw [Nat.add_comm]; exact hx), Int.toNat_natCast, ← add_add] at hc1
            obtain ⟨a7, hA, HA⟩ : ∃ a7, A7 = some a7 ∧ Aside0 (a7 = ad.add 1) := ⟨ad.add 1, by rw [HA7.out, if_neg (by have := HRN.out; omega)]; simp [Option.map], ⟨rfl⟩⟩
            rw [← HA.out] at hc1
            have hmb := val_bound (b := b) (L := 4) (j := j) (fun y hy => hb y (List.mem_cons_of_mem _ hy)) hj (by omega) (by have := HRN.out; omega)
            rw [← HM.out] at hmb
            have HX := Aside0.mk hx
            subst hA
            have hor := or_next m x hmb hx256
            clear hx
            go_wp2
            go_roundg (4 - (j + 1))
            case measure => omega
            case rel => exact ⟨j + 1, m * 256 + x, rfl, by omega, rfl, ⟨by rw [val_next HX.out, ← HM.out]⟩, HB⟩
          · obtain rfl : j = 4 := by omega
            have hmb := val_bound2 (b := b) (L := 4) (fun y hy => hb y (List.mem_cons_of_mem _ hy)) (by omega) (by have := HRN.out; omega)
            rw [← HM.out] at hmb
            obtain ⟨z, hz⟩ : ∃ z, sizeN m = z := ⟨_, rfl⟩
            have HZ := Aside0.mk hz
            have hge : ¬ (r.length < 4) := by have := HRN.out; omega
            by_cases hzk : z = 5
            · have hE : Aside0 (G = (m, 5, 0)) := ⟨by rw [hG.out, getN, HL.out, if_neg hge]; simp only; rw [← HM.out, hz, hzk]; simp⟩
              subst hzk
              clear hz hge
              go_wp2_with (go_at_call 48; refine (size_any (m : Int) (by omega) (by omega) _).mono ?_; rw [Int.toNat_natCast, HZ.out]; rintro e w5 ⟨rfl, rfl⟩)
              refine bodyPost_ret (results_tmp3 rfl _ _ _) rfl ?_
              rw [hE.out]
              exact ⟨rfl, HB.out⟩
            · have hE : Aside0 (G = (0, 0, 4)) := ⟨by rw [hG.out, getN, HL.out, if_neg hge]; simp only; rw [← HM.out, hz, if_pos hzk]⟩
              have hzk' : ¬ ((z : Int) = 5) := by omega
              clear hz hge
              go_wp2_with (go_at_call 48; refine (size_any (m : Int) (by omega) (by omega) _).mono ?_; rw [Int.toNat_natCast, HZ.out]; rintro e w5 ⟨rfl, rfl⟩)
              refine bodyPost_ret (results_tmp3 rfl _ _ _) rfl ?_
              rw [hE.out]
              exact ⟨rfl, HB.out⟩
    · by_cases hs : (n : Int) < 6
      · have hE : Aside0 (G = (0, 0, 8)) := ⟨by rw [hG.out, getN, HL.out, if_pos (by have := HRN.out; omega)]⟩
        go_wp2
        refine bodyPost_ret (results_tmp3 rfl _ _ _) rfl ?_
        rw [hE.out]
        exact ⟨rfl, Below.refl _ _⟩
      · have hcut := cut_mid (P := Tryd.prog) 82 5 .i64 .i64 Tryd.underlying82 hi0 1 hz1 (some ad) n c 1 6 (by omega) (by omega) (by omega) (by omega)
        obtain ⟨A7, hA7⟩ : ∃ A7, A7 = (if c = (1 : Int).toNat then some ad else (some ad).map (·.add ((1 : Int).toNat * 1))) := ⟨_, rfl⟩
        rw [← hA7] at hcut
        have HA7 := Aside0.mk hA7
        obtain ⟨m0, hm0⟩ := named (b % 2 ^ (7 - 5))
        have hand : bits .and .u8 (b : Int) 3 = (m0 : Int) := by rw [hm0.out]; exact and_top5 ⟨b, hb0⟩
        have hwr : IntKind.u64.wrap (m0 : Int) = (m0 : Int) := by rw [IntKind.wrap_u64]; have := Nat.mod_le b (2 ^ (7 - 5)); have := hm0.out; omega
        clear hA7
        go_wp2_with fail
        go_quiet (fail)
        go_wp2
        go_loopg [6, 33] 5 (fun g v6 v33 wr => ∃ j m : Nat, v33 = .int .i64 j ∧ g + j = 5 ∧ v6 = .int .u64 m ∧ Aside0 (m = val (b % 2 ^ (7 - 5) :: r.take j)) ∧ Aside0 (Below w1.heap.size w1 wr))
        case atStart => exact ⟨0, m0, rfl, rfl, rfl, ⟨by rw [hm0.out]; simp [val]⟩, ⟨pw_below_drewN (Below.refl _ _) nq⟩⟩
        case round =>
          obtain ⟨j, m, rfl, hg, rfl, HM, HB⟩ := hrel
          by_cases hj : j < 5
          · 
            obtain ⟨x, hx⟩ : ∃ x, r[j]? = some x := ⟨_, List.getElem?_eq_getElem (by have := HRN.out; omega)⟩
            have hx256 : x < 256 := hb x (by simp [List.mem_of_getElem? hx])
            obtain ⟨ad', had, hc1⟩ := (HR.out.below HB.out).at_ (1 + j : Nat) (by omega) (by have := HRN.out; omega)
            obtain rfl : ad = ad' := by injection had
            rw [rd_nb (b :: r) (1 + j) x (by rw [Nat.add_comm]; exact hx), Int.toNat_natCast, ← add_add] at hc1
            obtain ⟨a7, hA, HA⟩ : ∃ a7, A7 = some a7 ∧ Aside0 (a7 = ad.add 1) := ⟨ad.add 1, by rw [HA7.out, if_neg (by have := HRN.out; omega)]; simp [Option.map], ⟨rfl⟩⟩
            rw [← HA.out] at hc1
            have hmb := val_bound (b := b) (L := 5) (j := j) (fun y hy => hb y (List.mem_cons_of_mem _ hy)) hj (by omega) (by have := HRN.out; omega)
            rw [← HM.out] at hmb
            have HX := Aside0.mk hx
            subst hA
            have hor := or_next m x hmb hx256
            clear hx
            go_wp2
            go_roundg (5 - (j + 1))
            case measure => omega
            case rel => exact ⟨j + 1, m * 256 + x, rfl, by omega, rfl, ⟨by rw [val_next HX.out, ← HM.out]⟩, HB⟩
          · obtain rfl : j = 5 := by omega
            have hmb := val_bound2 (b := b) (L := 5) (fun y hy => hb y (List.mem_cons_of_mem _ hy)) (by omega) (by have := HRN.out; omega)
            rw [← HM.out] at hmb
            obtain ⟨z, hz⟩ : ∃ z, sizeN m = z := ⟨_, rfl⟩
            have HZ := Aside0.mk hz
            have hge : ¬ (r.length < 5) := by have := HRN.out; omega
            by_cases hzk : z = 6
            · have hE : Aside0 (G = (m, 6, 0)) := ⟨by rw [hG.out, getN, HL.out, if_neg hge]; simp only; rw [← HM.out, hz, hzk]; simp⟩
              subst hzk
              clear hz hge
              go_wp2_with (go_at_call 48; refine (size_any (m : Int) (by omega) (by omega) _).mono ?_; rw [Int.toNat_natCast, HZ.out]; rintro e w5 ⟨rfl, rfl⟩)
              refine bodyPost_ret (results_tmp3 rfl _ _ _) rfl ?_
              rw [hE.out]
              exact ⟨rfl, HB.out⟩
            · have hE : Aside0 (G = (0, 0, 4)) := ⟨by rw [hG.out, getN, HL.out, if_neg hge]; simp only; rw [← HM.out, hz, if_pos hzk]⟩
              have hzk' : ¬ ((z : Int) = 6) := by omega
              clear hz hge
              go_wp2_with (go_at_call 48; refine (size_any (m : Int) (by omega) (by omega) _).mono ?_; rw [Int.toNat_natCast, HZ.out]; rintro e w5 ⟨rfl, rfl⟩)
              refine bodyPost_ret (results_tmp3 rfl _ _ _) rfl ?_
              rw [hE.out]
              exact ⟨rfl, HB.out⟩
    · by_cases hs : (n : Int) < 7
      · have hE : Aside0 (G = (0, 0, 8)) := ⟨by rw [hG.out, getN, HL.out, if_pos (by have := HRN.out; omega)]⟩
        go_wp2
        refine bodyPost_ret (results_tmp3 rfl _ _ _) rfl ?_
        rw [hE.out]
        exact ⟨rfl, Below.refl _ _⟩
      · have hcut := cut_mid (P := Tryd.prog) 82 5 .i64 .i64 Tryd.underlying82 hi0 1 hz1 (some ad) n c 1 7 (by omega) (by omega) (by omega) (by omega)
        obtain ⟨A7, hA7⟩ : ∃ A7, A7 = (if c = (1 : Int).toNat then some ad else (some ad).map (·.add ((1 : Int).toNat * 1))) := ⟨_, rfl⟩
        rw [← hA7] at hcut
        have HA7 := Aside0.mk hA7
        obtain ⟨m0, hm0⟩ := named (b % 2 ^ (7 - 6))
        have hand : bits .and .u8 (b : Int) 1 = (m0 : Int) := by rw [hm0.out]; exact and_top6 ⟨b, hb0⟩
        have hwr : IntKind.u64.wrap (m0 : Int) = (m0 : Int) := by rw [IntKind.wrap_u64]; have := Nat.mod_le b (2 ^ (7 - 6)); have := hm0.out; omega
        clear hA7
        go_wp2_with fail
        go_quiet (fail)
        go_wp2
        go_loopg [6, 33] 6 (fun g v6 v33 wr => ∃ j m : Nat, v33 = .int .i64 j ∧ g + j = 6 ∧ v6 = .int .u64 m ∧ Aside0 (m = val (b % 2 ^ (7 - 6) :: r.take j)) ∧ Aside0 (Below w1.heap.size w1 wr))
        case atStart => exact ⟨0, m0, rfl, rfl, rfl, ⟨by rw [hm0.out]; simp [val]⟩, ⟨pw_below_drewN (Below.refl _ _) nq⟩⟩
        case round =>
          obtain ⟨j, m, rfl, hg, rfl, HM, HB⟩ := hrel
          by_cases hj : j < 6
          · 
            obtain ⟨x, hx⟩ : ∃ x, r[j]? = some x := ⟨_, List.getElem?_eq_getElem (by have := HRN.out; omega)⟩
            have hx256 : x < 256 := hb x (by simp [List.mem_of_getElem? hx])
            obtain ⟨ad', had, hc1⟩ := (HR.out.below HB.out).at_ (1 + j : Nat) (by omega) (by have := HRN.out; omega)
            obtain rfl : ad = ad' := by injection had
            rw [rd_nb (b :: r) (1 + j) x (by rw [Nat.add_comm]; exact hx), Int.toNat_natCast, ← add_add] at hc1
            obtain ⟨a7, hA, HA⟩ : ∃ a7, A7 = some a7 ∧ Aside0 (a7 = ad.add 1) := ⟨ad.add 1, by rw [HA7.out, if_neg (by have := HRN.out; omega)]; simp [Option.map], ⟨rfl⟩⟩
            rw [← HA.out] at hc1
            have hmb := val_bound (b := b) (L := 6) (j := j) (fun y hy => hb y (List.mem_cons_of_mem _ hy)) hj (by omega) (by have := HRN.out; omega)
            rw [← HM.out] at hmb
            have HX := Aside0.mk hx
            subst hA
            have hor := or_next m x hmb hx256
            clear hx
            go_wp2
            go_roundg (6 - (j + 1))
            case measure => omega
            case rel => exact ⟨j + 1, m * 256 + x, rfl, by omega, rfl, ⟨by rw [val_next HX.out, ← HM.out]⟩, HB⟩
          · obtain rfl : j = 6 := by omega
            have hmb := val_bound2 (b := b) (L := 6) (fun y hy => hb y (List.mem_cons_of_mem _ hy)) (by omega) (by have := HRN.out; omega)
            rw [← HM.out] at hmb
            obtain ⟨z, hz⟩ : ∃ z, sizeN m = z := ⟨_, rfl⟩
            have HZ := Aside0.mk hz
            have hge : ¬ (r.length < 6) := by have := HRN.out; omega
            by_cases hzk : z = 7
            · have hE : Aside0 (G = (m, 7, 0)) := ⟨by rw [hG.out, getN, HL.out, if_neg hge]; simp only; rw [← HM.out, hz, hzk]; simp⟩
              subst hzk
              clear hz hge
              go_wp2_with (go_at_call 48; refine (size_any (m : Int) (by omega) (by omega) _).mono ?_; rw [Int.toNat_natCast, HZ.out]; rintro e w5 ⟨rfl, rfl⟩)
              refine bodyPost_ret (results_tmp3 rfl _ _ _) rfl ?_
              rw [hE.out]
              exact ⟨rfl, HB.out⟩
            · have hE : Aside0 (G = (0, 0, 4)) := ⟨by rw [hG.out, getN, HL.out, if_neg hge]; simp only; rw [← HM.out, hz, if_pos hzk]⟩
              have hzk' : ¬ ((z : Int) = 7) := by omega
              clear hz hge
              go_wp2_with (go_at_call 48; refine (size_any (m : Int) (by omega) (by omega) _).mono ?_; rw [Int.toNat_natCast, HZ.out]; rintro e w5 ⟨rfl, rfl⟩)
              refine bodyPost_ret (results_tmp3 rfl _ _ _) rfl ?_
              rw [hE.out]
              exact ⟨rfl, HB.out⟩
    · by_cases hs : (n : Int) < 8
      · have hE : Aside0 (G = (0, 0, 8)) := ⟨by rw [hG.out, getN, HL.out, if_pos (by have := HRN.out; omega)]⟩
        go_wp2
        refine bodyPost_ret (results_tmp3 rfl _ _ _) rfl ?_
        rw [hE.out]
        exact ⟨rfl, Below.refl _ _⟩
      · have hcut := cut_mid (P := Tryd.prog) 82 5 .i64 .i64 Tryd.underlying82 hi0 1 hz1 (some ad) n c 1 8 (by omega) (by omega) (by omega) (by omega)
        obtain ⟨A7, hA7⟩ : ∃ A7, A7 = (if c = (1 : Int).toNat then some ad else (some ad).map (·.add ((1 : Int).toNat * 1))) := ⟨_, rfl⟩
        rw [← hA7] at hcut
        have HA7 := Aside0.mk hA7
        obtain ⟨m0, hm0⟩ := named (b % 2 ^ (7 - 7))
        have hand : bits .and .u8 (b : Int) 0 = (m0 : Int) := by rw [hm0.out]; exact and_top7 ⟨b, hb0⟩
        have hwr : IntKind.u64.wrap (m0 : Int) = (m0 : Int) := by rw [IntKind.wrap_u64]; have := Nat.mod_le b (2 ^ (7 - 7)); have := hm0.out; omega
        clear hA7
        go_wp2_with fail
        go_quiet (fail)
        go_wp2
        go_loopg [6, 33] 7 (fun g v6 v33 wr => ∃ j m : Nat, v33 = .int .i64 j ∧ g + j = 7 ∧ v6 = .int .u64 m ∧ Aside0 (m = val (b % 2 ^ (7 - 7) :: r.take j)) ∧ Aside0 (Below w1.heap.size w1 wr))
        case atStart => exact ⟨0, m0, rfl, rfl, rfl, ⟨by rw [hm0.out]; simp [val]⟩, ⟨pw_below_drewN (Below.refl _ _) nq⟩⟩
        case round =>
          obtain ⟨j, m, rfl, hg, rfl, HM, HB⟩ := hrel
          by_cases hj : j < 7
          · 
            obtain ⟨x, hx⟩ : ∃ x, r[j]? = some x := ⟨_, List.getElem?_eq_getElem (by have := HRN.out; omega)⟩
            have hx256 : x < 256 := hb x (by simp [List.mem_of_getElem? hx])
            obtain ⟨ad', had, hc1⟩ := (HR.out.below HB.out).at_ (1 + j : Nat) (by omega) (by have := HRN.out; omega)
            obtain rfl : ad = ad' := by injection had
            rw [rd_nb (b :: r) (1 + j) x (by rw [Nat.add_comm]; exact hx), Int.toNat_natCast, ← add_add] at hc1
            obtain ⟨a7, hA, HA⟩ : ∃ a7, A7 = some a7 ∧ Aside0 (a7 = ad.add 1) := ⟨ad.add 1, by rw [HA7.out, if_neg (by have := HRN.out; omega)]; simp [Option.map], ⟨rfl⟩⟩
            rw [← HA.out] at hc1
            have hmb := val_bound (b := b) (L := 7) (j := j) (fun y hy => hb y (List.mem_cons_of_mem _ hy)) hj (by omega) (by have := HRN.out; omega)
            rw [← HM.out] at hmb
            have HX := Aside0.mk hx
            subst hA
            have hor := or_next m x hmb hx256
            clear hx
            go_wp2
            go_roundg (7 - (j + 1))
            case measure => omega
            case rel => exact ⟨j + 1, m * 256 + x, rfl, by omega, rfl, ⟨by rw [val_next HX.out, ← HM.out]⟩, HB⟩
          · obtain rfl : j = 7 := by omega
            have hmb := val_bound2 (b := b) (L := 7) (fun y hy => hb y (List.mem_cons_of_mem _ hy)) (by omega) (by have := HRN.out; omega)
            rw [← HM.out] at hmb
            obtain ⟨z, hz⟩ : ∃ z, sizeN m = z := ⟨_, rfl⟩
            have HZ := Aside0.mk hz
            have hge : ¬ (r.length < 7) := by have := HRN.out; omega
            by_cases hzk : z = 8
            · have hE : Aside0 (G = (m, 8, 0)) := ⟨by rw [hG.out, getN, HL.out, if_neg hge]; simp only; rw [← HM.out, hz, hzk]; simp⟩
              subst hzk
              clear hz hge
              go_wp2_with (go_at_call 48; refine (size_any (m : Int) (by omega) (by omega) _).mono ?_; rw [Int.toNat_natCast, HZ.out]; rintro e w5 ⟨rfl, rfl⟩)
              refine bodyPost_ret (results_tmp3 rfl _ _ _) rfl ?_
              rw [hE.out]
              exact ⟨rfl, HB.out⟩
            · have hE : Aside0 (G = (0, 0, 4)) := ⟨by rw [hG.out, getN, HL.out, if_neg hge]; simp only; rw [← HM.out, hz, if_pos hzk]⟩
              have hzk' : ¬ ((z : Int) = 8) := by omega
              clear hz hge
              go_wp2_with (go_at_call 48; refine (size_any (m : Int) (by omega) (by omega) _).mono ?_; rw [Int.toNat_natCast, HZ.out]; rintro e w5 ⟨rfl, rfl⟩)
              refine bodyPost_ret (results_tmp3 rfl _ _ _) rfl ?_
              rw [hE.out]
              exact ⟨rfl, HB.out⟩
    · by_cases hs : (n : Int) < 9
      · have hE : Aside0 (G = (0, 0, 8)) := ⟨by rw [hG.out, getN, HL.out, if_pos (by have := HRN.out; omega)]⟩
        go_wp2
        refine bodyPost_ret (results_tmp3 rfl _ _ _) rfl ?_
        rw [hE.out]
        exact ⟨rfl, Below.refl _ _⟩
      · have hcut := cut_mid (P := Tryd.prog) 82 5 .i64 .i64 Tryd.underlying82 hi0 1 hz1 (some ad) n c 1 9 (by omega) (by omega) (by omega) (by omega)
        obtain ⟨A7, hA7⟩ : ∃ A7, A7 = (if c = (1 : Int).toNat then some ad else (some ad).map (·.add ((1 : Int).toNat * 1))) := ⟨_, rfl⟩
        rw [← hA7] at hcut
        have HA7 := Aside0.mk hA7
        obtain ⟨m0, hm0⟩ := named (b % 2 ^ (7 - 8))
        have hand : bits .and .u8 (b : Int) 0 = (m0 : Int) := by rw [hm0.out]; exact and_top8 ⟨b, hb0⟩
        have hwr : IntKind.u64.wrap (m0 : Int) = (m0 : Int) := by rw [IntKind.wrap_u64]; have := Nat.mod_le b (2 ^ (7 - 8)); have := hm0.out; omega
        clear hA7
        go_wp2_with fail
        go_quiet (fail)
        go_wp2
        go_loopg [6, 33] 8 (fun g v6 v33 wr => ∃ j m : Nat, v33 = .int .i64 j ∧ g + j = 8 ∧ v6 = .int .u64 m ∧ Aside0 (m = val (b % 2 ^ (7 - 8) :: r.take j)) ∧ Aside0 (Below w1.heap.size w1 wr))
        case atStart => exact ⟨0, m0, rfl, rfl, rfl, ⟨by rw [hm0.out]; simp [val]⟩, ⟨pw_below_drewN (Below.refl _ _) nq⟩⟩
        case round =>
          obtain ⟨j, m, rfl, hg, rfl, HM, HB⟩ := hrel
          by_cases hj : j < 8
          · 
            obtain ⟨x, hx⟩ : ∃ x, r[j]? = some x := ⟨_, List.getElem?_eq_getElem (by have := HRN.out; omega)⟩
            have hx256 : x < 256 := hb x (by simp [List.mem_of_getElem? hx])
            obtain ⟨ad', had, hc1⟩ := (HR.out.below HB.out).at_ (1 + j : Nat) (by omega) (by have := HRN.out; omega)
            obtain rfl : ad = ad' := by injection had
            rw [rd_nb (b :: r) (1 + j) x (by rw [Nat.add_comm]; exact hx), Int.toNat_natCast, ← add_add] at hc1
            obtain ⟨a7, hA, HA⟩ : ∃ a7, A7 = some a7 ∧ Aside0 (a7 = ad.add 1) := ⟨ad.add 1, by rw [HA7.out, if_neg (by have := HRN.out; omega)]; simp [Option.map], ⟨rfl⟩⟩
            rw [← HA.out] at hc1
            have hmb := val_bound (b := b) (L := 8) (j := j) (fun y hy => hb y (List.mem_cons_of_mem _ hy)) hj (by omega) (by have := HRN.out; omega)
            rw [← HM.out] at hmb
            have HX := Aside0.mk hx
            subst hA
            have hor := or_next m x hmb hx256
            clear hx
            go_wp2
            go_roundg (8 - (j + 1))
            case measure => omega
            case rel => exact ⟨j + 1, m * 256 + x, rfl, by omega, rfl, ⟨by rw [val_next HX.out, ← HM.out]⟩, HB⟩
          · obtain rfl : j = 8 := by omega
            have hmb := val_bound2 (b := b) (L := 8) (fun y hy => hb y (List.mem_cons_of_mem _ hy)) (by omega) (by have := HRN.out; omega)
            rw [← HM.out] at hmb
            obtain ⟨z, hz⟩ : ∃ z, sizeN m = z := ⟨_, rfl⟩
            have HZ := Aside0.mk hz
            have hge : ¬ (r.length < 8) := by have := HRN.out; omega
            by_cases hzk : z = 9
            · have hE : Aside0 (G = (m, 9, 0)) := ⟨by rw [hG.out, getN, HL.out, if_neg hge]; simp only; rw [← HM.out, hz, hzk]; simp⟩
              subst hzk
              clear hz hge
              go_wp2_with (go_at_call 48; refine (size_any (m : Int) (by omega) (by omega) _).mono ?_; rw [Int.toNat_natCast, HZ.out]; rintro e w5 ⟨rfl, rfl⟩)
              refine bodyPost_ret (results_tmp3 rfl _ _ _) rfl ?_
              rw [hE.out]
              exact ⟨rfl, HB.out⟩
            · have hE : Aside0 (G = (0, 0, 4)) := ⟨by rw [hG.out, getN, HL.out, if_neg hge]; simp only; rw [← HM.out, hz, if_pos hzk]⟩
              have hzk' : ¬ ((z : Int) = 9) := by omega
              clear hz hge
              go_wp2_with (go_at_call 48; refine (size_any (m : Int) (by omega) (by omega) _).mono ?_; rw [Int.toNat_natCast, HZ.out]; rintro e w5 ⟨rfl, rfl⟩)
              refine bodyPost_ret (results_tmp3 rfl _ _ _) rfl ?_
              rw [hE.out]
              exact ⟨rfl, HB.out⟩
end Go.Proofs.YteloamnakikbbaaDoor.Var

/- Versions and edits of chapter 11 as plain data, and what the page asks of them. No program. -/
namespace Go.Proofs.YteloamnakikbbaaDoor.EditPure
open Go.RowKit Go.Proofs.YteloamnakikbbaaDoorW.PrintWords Go.Proofs.YteloamnakikbbaaDoorW.PrintLast Go.Proofs.YteloamnakikbbaaDoor.Base

/-- a text comes before another one -/
def sLt (a b : ByteArray) : Bool := Op.bytesLess a.toList b.toList

structure Meta where
  id : Int
  level : Int
  count : Int
  low : ByteArray
  high : ByteArray

instance : Inhabited Meta := ⟨⟨0, 0, 0, ⟨#[]⟩, ⟨#[]⟩⟩⟩

def zMeta : Meta := ⟨0, 0, 0, ⟨#[]⟩, ⟨#[]⟩⟩
def kMeta : Kd Meta := Kd.iso (Kd.pair (Kd.int .i64) (Kd.pair (Kd.int .i64) (Kd.pair (Kd.int .i64) (Kd.pair Kd.string Kd.string)))) (fun x : Meta => (x.id, x.level, x.count, x.low, x.high))
/-- a table's cells -/
def Meta.cs (m : Meta) : List Value := [.int .i64 m.id, .int .i64 m.level, .int .i64 m.count, .string m.low, .string m.high]
theorem kMeta_open {w : World} {x : Meta} {cs : List Value} (h : kMeta.K w x cs) : cs = x.cs := by
  obtain ⟨_, _, rfl, rfl, ⟨_, _, rfl, rfl, ⟨_, _, rfl, rfl, ⟨_, _, rfl, rfl, rfl⟩⟩⟩⟩ := h
  exact rfl
theorem kMeta_openM {w : World} {base : Nat} {ok : Nat → Prop} {x : Meta} {cs : List Value} (h : kMeta.M w base ok x cs) : cs = x.cs := by
  obtain ⟨_, _, rfl, rfl, ⟨_, _, rfl, rfl, ⟨_, _, rfl, rfl, ⟨_, _, rfl, rfl, rfl⟩⟩⟩⟩ := h
  exact rfl
theorem kMeta_mk (w : World) (x : Meta) : kMeta.K w x x.cs := ⟨[.int .i64 x.id], [.int .i64 x.level, .int .i64 x.count, .string x.low, .string x.high], rfl, rfl, ⟨[.int .i64 x.level], [.int .i64 x.count, .string x.low, .string x.high], rfl, rfl, ⟨[.int .i64 x.count], [.string x.low, .string x.high], rfl, rfl, ⟨[.string x.low], [.string x.high], rfl, rfl, rfl⟩⟩⟩⟩
theorem kMeta_mkM (w : World) (base : Nat) (ok : Nat → Prop) (x : Meta) : kMeta.M w base ok x x.cs := ⟨[.int .i64 x.id], [.int .i64 x.level, .int .i64 x.count, .string x.low, .string x.high], rfl, rfl, ⟨[.int .i64 x.level], [.int .i64 x.count, .string x.low, .string x.high], rfl, rfl, ⟨[.int .i64 x.count], [.string x.low, .string x.high], rfl, rfl, ⟨[.string x.low], [.string x.high], rfl, rfl, rfl⟩⟩⟩⟩

/-- three-way comparing -/
def cmpI (a b : Int) : Int := if a < b then -1 else if b < a then 1 else 0
def cmpS (a b : ByteArray) : Int := if sLt a b then -1 else if sLt b a then 1 else 0
/-- the order of tables: by level; the first by age, the others by key -/
def ord (a b : Meta) : Int := if cmpI a.level b.level != 0 then cmpI a.level b.level else if a.level == 0 then cmpI b.id a.id else cmpS a.low b.low

def within (n lo hi : Int) : Bool := decide (lo ≤ n) && decide (n ≤ hi)
def keyOk (s : ByteArray) : Bool := decide (1 ≤ s.size) && decide (s.size ≤ 96)
/-- may a table be -/
def mayM (m : Meta) : Bool := within m.id 1 2147483647 && (within m.level 0 3 && (within m.count 1 4096 && (keyOk m.low && (keyOk m.high && !sLt m.high m.low))))

/-- the cells of element i of a row of tables that is read -/
theorem atMeta {w : World} {A : Option Addr} {n : Nat} {xs : List Meta} (h : Kd.C kMeta w A n xs) (i : Nat) (m : Meta) (hi : xs[i]? = some m) :
    ∃ ad, A = some ad ∧ w.cell? (ad.add (i * 5)) = some (.int .i64 m.id) ∧ w.cell? ⟨(ad.add (i * 5)).block, (ad.add (i * 5)).off + 1, none⟩ = some (.int .i64 m.level) ∧ w.cell? ⟨(ad.add (i * 5)).block, (ad.add (i * 5)).off + 2, none⟩ = some (.int .i64 m.count) ∧ w.cell? ⟨(ad.add (i * 5)).block, (ad.add (i * 5)).off + 3, none⟩ = some (.string m.low) ∧ w.cell? ⟨(ad.add (i * 5)).block, (ad.add (i * 5)).off + 4, none⟩ = some (.string m.high) := by
  have hlt : i < xs.length := (List.getElem?_eq_some_iff.1 hi).1
  have hn := Kd.C_len h
  obtain ⟨ad, c, e, _, hK, hc0⟩ := Kd.C_get h zMeta (i : Int) (by omega) (by omega)
  have hg : xs.getD (i : Int).toNat zMeta = m := by rw [Int.toNat_natCast, List.getD_eq_getElem?_getD, hi]; rfl
  rw [hg] at hK
  rw [Int.toNat_natCast] at hc0
  have hc : ∀ j u, c[j]? = some u → w.cell? (ad.add (i * 5 + j)) = some u := hc0
  obtain rfl := kMeta_open hK
  exact ⟨ad, e, hc 0 _ rfl, by rw [← add_field _ _ 1 (by omega)]; exact hc 1 _ rfl, by rw [← add_field _ _ 2 (by omega)]; exact hc 2 _ rfl, by rw [← add_field _ _ 3 (by omega)]; exact hc 3 _ rfl, by rw [← add_field _ _ 4 (by omega)]; exact hc 4 _ rfl⟩

/-- of a table behind others: what a version that may be asks of it -/
def stepOk (next : Int) (pre : List Meta) (m : Meta) : Bool :=
  mayM m && (decide (m.id < next) && !(pre.any fun x => x.id == m.id))
def linkOk (l m : Meta) : Bool := decide (ord l m < 0) && (m.level == 0 || (m.level != l.level || sLt l.high m.low))
def lastOk (pre : List Meta) (m : Meta) : Bool := match pre.getLast? with | none => true | some l => linkOk l m
/-- the tables up to i may be -/
def okTo (next : Int) (l : List Meta) : Nat → Bool
  | 0 => true
  | i + 1 => okTo next l i && (stepOk next (l.take i) (l.getD i zMeta) && lastOk (l.take i) (l.getD i zMeta))
def headOk (n : Nat) (seq next : Int) : Bool := decide (n ≤ 256) && (within next 1 2147483647 && within seq 0 1099511627776)
/-- may a version be -/
def verOk (l : List Meta) (seq next : Int) : Bool := headOk l.length seq next && okTo next l l.length
/-- its error's number -/
def verE (l : List Meta) (seq next : Int) : Int := if verOk l seq next then 0 else 9
end Go.Proofs.YteloamnakikbbaaDoor.EditPure

/- An edit's octets (chapter 11), on lists: encode, decode, and that each undoes the other. No program. -/
namespace Go.Proofs.YteloamnakikbbaaDoor.Codec
open Go.RowKit Go.Proofs.YteloamnakikbbaaDoorW.PrintWords Go.Proofs.YteloamnakikbbaaDoorW.PrintLast Go.Proofs.YteloamnakikbbaaDoor.Base Go.Proofs.YteloamnakikbbaaDoor.EditPure Go.Proofs.YteloamnakikbbaaDoor.VarPure
set_option linter.unusedVariables false
set_option linter.unusedSimpArgs false

/-- a number's, a text's, a table's, an edit's octets -/
def putI (n : Int) : List Nat := putN n.toNat
def strB (s : ByteArray) : List Nat := s.data.toList.map UInt8.toNat
def putS (s : ByteArray) : List Nat := putI s.size ++ strB s
def putM (m : Meta) : List Nat := putI m.id ++ (putI m.level ++ (putI m.count ++ (putS m.low ++ putS m.high)))
def encB (drop : List Int) (add : List Meta) (seq next : Int) : List Nat := putI seq ++ (putI next ++ (putI drop.length ++ (drop.flatMap putI ++ (putI add.length ++ add.flatMap putM))))
def okN (n : Int) : Bool := within n 0 1099511627776
def okM (m : Meta) : Bool := okN m.id && (okN m.level && (okN m.count && (decide (m.low.size ≤ 96) && decide (m.high.size ≤ 96))))
def encOk (drop : List Int) (add : List Meta) (seq next : Int) : Bool := okN seq && (okN next && (drop.all okN && add.all okM))

/-- what is left, and the first error -/
abbrev St := List Nat × Int
def numS (most code : Int) (s : St) : Int × St :=
  if s.2 ≠ 0 then (0, s)
  else if (getN s.1).2.2 ≠ 0 then (0, (s.1, ((getN s.1).2.2 : Int)))
  else if most < ((getN s.1).1 : Int) then (0, (s.1, code))
  else (((getN s.1).1 : Int), (s.1.drop (getN s.1).2.1, 0))
def ofB (l : List Nat) : ByteArray := ⟨(l.map (fun n => UInt8.ofNat n)).toArray⟩
def textS (s : St) : ByteArray × St :=
  let r := numS 96 1 s
  if r.2.2 ≠ 0 then (⟨#[]⟩, r.2)
  else if (r.2.1.length : Int) < r.1 then (⟨#[]⟩, (r.2.1, 8))
  else (ofB (r.2.1.take r.1.toNat), (r.2.1.drop r.1.toNat, 0))
def metaS (s : St) : Meta × St :=
  let a := numS 1099511627776 1 s
  let b := numS 1099511627776 1 a.2
  let c := numS 1099511627776 1 b.2
  let d := textS c.2
  let e := textS d.2
  (⟨a.1, b.1, c.1, d.1, e.1⟩, e.2)
def manyS {α : Type} (f : St → α × St) : Nat → St → List α × St
  | 0, s => ([], s)
  | k + 1, s => if s.2 ≠ 0 then ([], s) else (((f s).1 :: (manyS f k (f s).2).1), (manyS f k (f s).2).2)
structure Dec where
  err : Int
  drop : List Int
  add : List Meta
  seq : Int
  next : Int
def decS6 (seq next : Int) (drop : List Int) (e : List Meta × St) : Dec := ⟨if e.2.2 = 0 then (if e.2.1.length = 0 then 0 else 23) else e.2.2, drop, e.1, seq, next⟩
def decS5 (seq next : Int) (drop : List Int) (k : Int × St) : Dec := decS6 seq next drop (manyS metaS k.1.toNat k.2)
def decS4 (seq next : Int) (d : List Int × St) : Dec := decS5 seq next d.1 (numS 256 3 d.2)
def decS3 (seq next : Int) (n : Int × St) : Dec := decS4 seq next (manyS (numS 1099511627776 1) n.1.toNat n.2)
def decS2 (seq : Int) (c : Int × St) : Dec := decS3 seq c.1 (numS 256 3 c.2)
def decS1 (a : Int × St) : Dec := decS2 a.1 (numS 1099511627776 1 a.2)
def decS (b : List Nat) : Dec := decS1 (numS 1099511627776 1 (b, 0))

theorem strB_bytes (s : ByteArray) : Bytes (strB s) := fun x hx => by
  obtain ⟨u, _, rfl⟩ := List.mem_map.1 hx
  exact u.toNat_lt
theorem strB_len (s : ByteArray) : (strB s).length = s.size := by simp [strB]
theorem ofB_strB (s : ByteArray) : ofB (strB s) = s := by
  cases s with
  | mk d =>
    have : (List.map (fun n => UInt8.ofNat n) (List.map UInt8.toNat d.toList)) = d.toList := by
      rw [List.map_map]
      conv => rhs; rw [← List.map_id d.toList]
      exact List.map_congr_left (fun u _ => by simp)
    show (⟨(List.map (fun n => UInt8.ofNat n) (List.map UInt8.toNat d.toList)).toArray⟩ : ByteArray) = ⟨d⟩
    rw [this]
theorem strB_ofB {l : List Nat} (h : Bytes l) : strB (ofB l) = l := by
  simp only [strB, ofB, List.map_map]
  conv => rhs; rw [← List.map_id l]
  refine List.map_congr_left (fun n hn => ?_)
  have := h n hn
  simp [UInt8.toNat_ofNat', Nat.mod_eq_of_lt this]
theorem ofB_size (l : List Nat) : (ofB l).size = l.length := by simp [ofB, ByteArray.size]

theorem numS_put {most code n : Int} (h0 : 0 ≤ n) (h1 : n ≤ most) (hm : most ≤ 1099511627776) (r : List Nat) : numS most code (putI n ++ r, 0) = (n, (r, 0)) := by
  have hn : n.toNat < 2 ^ 56 := by have : (2 : Nat) ^ 56 = 72057594037927936 := rfl; omega
  obtain ⟨hg, _, _⟩ := get_put hn r
  have hcast : ((n.toNat : Nat) : Int) = n := by omega
  show numS most code (putN n.toNat ++ r, 0) = _
  simp only [numS, hg, ne_eq, not_true_eq_false, ↓reduceIte, hcast]
  rw [if_neg (by omega), List.drop_left]
theorem numS_err {most code : Int} {s : St} (h : s.2 ≠ 0) : numS most code s = (0, s) := by rw [numS, if_pos h]
theorem numS_back {most code n : Int} {l r : List Nat} {e : Int} (hb : Bytes l) (hm : most ≤ 1099511627776) (hc : code ≠ 0) (h : numS most code (l, e) = (n, (r, 0))) : e = 0 ∧ l = putI n ++ r ∧ 0 ≤ n ∧ n ≤ most := by
  rw [numS] at h
  by_cases he : e ≠ 0
  · rw [if_pos he] at h
    exact absurd (Prod.mk.inj (Prod.mk.inj h).2).2 he
  · rw [if_neg he] at h
    have he : e = 0 := Decidable.not_not.1 he
    refine ⟨he, ?_⟩
    obtain ⟨v, k, er, hg⟩ : ∃ v k er, getN l = (v, k, er) := ⟨_, _, _, rfl⟩
    simp only [hg] at h
    by_cases h1 : er ≠ 0
    · rw [if_pos h1] at h
      have := (Prod.mk.inj (Prod.mk.inj h).2).2
      omega
    · rw [if_neg h1] at h
      have h1 : er = 0 := Decidable.not_not.1 h1
      subst h1
      by_cases h2 : most < (v : Int)
      · rw [if_pos h2] at h
        exact absurd (Prod.mk.inj (Prod.mk.inj h).2).2 hc
      · rw [if_neg h2] at h
        obtain ⟨hn, hr⟩ := Prod.mk.inj h
        have hr := (Prod.mk.inj hr).1
        have hv : v < 2 ^ 56 := by have : (2 : Nat) ^ 56 = 72057594037927936 := rfl; omega
        obtain ⟨p1, p2, p3, p4⟩ := put_get hb hg hv
        have hput : putI n = putN v := by rw [putI, ← hn]; rfl
        exact ⟨by rw [hput, ← hr]; exact p1, by omega, by omega⟩
theorem bytes_right {a b : List Nat} (h : Bytes (a ++ b)) : Bytes b := fun x hx => h x (by simp [hx])
theorem textS_put {s : ByteArray} (h : s.size ≤ 96) (r : List Nat) : textS (putS s ++ r, 0) = (s, (r, 0)) := by
  have h1 := numS_put (most := 96) (code := 1) (n := (s.size : Int)) (by omega) (by omega) (by omega) (strB s ++ r)
  rw [textS, putS, List.append_assoc]
  simp only [h1]
  rw [if_neg (by simp), if_neg (by rw [List.length_append, strB_len]; omega), Int.toNat_natCast, List.take_append_of_le_length (by rw [strB_len]; exact Nat.le_refl _), List.take_of_length_le (by rw [strB_len]; exact Nat.le_refl _), ofB_strB]
  have hl := strB_len s
  rw [← hl, List.drop_left]
theorem textS_back {s : ByteArray} {l r : List Nat} {e : Int} (hb : Bytes l) (h : textS (l, e) = (s, (r, 0))) : e = 0 ∧ l = putS s ++ r ∧ s.size ≤ 96 := by
  rw [textS] at h
  obtain ⟨n, l1, e1, hg⟩ : ∃ n l1 e1, numS 96 1 (l, e) = (n, (l1, e1)) := ⟨_, _, _, rfl⟩
  simp only [hg] at h
  by_cases h1 : e1 ≠ 0
  · rw [if_pos h1] at h
    exact absurd (Prod.mk.inj (Prod.mk.inj h).2).2 h1
  · rw [if_neg h1] at h
    have h1 : e1 = 0 := Decidable.not_not.1 h1
    subst h1
    obtain ⟨he, hl, h0, h96⟩ := numS_back hb (by omega) (by omega) hg
    by_cases h2 : (l1.length : Int) < n
    · rw [if_pos h2] at h
      exact absurd (Prod.mk.inj (Prod.mk.inj h).2).2 (by simp)
    · rw [if_neg h2] at h
      obtain ⟨hs, hr⟩ := Prod.mk.inj h
      have hr := (Prod.mk.inj hr).1
      have hb1 : Bytes l1 := by rw [hl] at hb; exact bytes_right hb
      have hbt : Bytes (l1.take n.toNat) := fun x hx => hb1 x (List.mem_of_mem_take hx)
      have hsz : s.size = n.toNat := by rw [← hs, ofB_size, List.length_take]; omega
      refine ⟨he, ?_, by omega⟩
      rw [putS, hsz, show ((n.toNat : Nat) : Int) = n by omega, ← hs, strB_ofB hbt, ← hr, List.append_assoc, List.take_append_drop]
      exact hl
theorem okN_iff (n : Int) : okN n = true ↔ 0 ≤ n ∧ n ≤ 1099511627776 := by simp [okN, within]
theorem metaS_put {m : Meta} (h : okM m = true) (r : List Nat) : metaS (putM m ++ r, 0) = (m, (r, 0)) := by
  simp only [okM, Bool.and_eq_true, okN_iff, decide_eq_true_eq] at h
  obtain ⟨⟨a0, a1⟩, ⟨b0, b1⟩, ⟨c0, c1⟩, d, e⟩ := h
  simp only [metaS, putM, List.append_assoc]
  rw [numS_put a0 a1 (Int.le_refl _)]
  simp only
  rw [numS_put b0 b1 (Int.le_refl _)]
  simp only
  rw [numS_put c0 c1 (Int.le_refl _)]
  simp only
  rw [textS_put d]
  simp only
  rw [textS_put e]
theorem metaS_back {m : Meta} {l r : List Nat} {e : Int} (hb : Bytes l) (h : metaS (l, e) = (m, (r, 0))) : e = 0 ∧ l = putM m ++ r ∧ okM m = true := by
  simp only [metaS] at h
  obtain ⟨a, l1, e1, h1⟩ : ∃ n l1 e1, numS 1099511627776 1 (l, e) = (n, (l1, e1)) := ⟨_, _, _, rfl⟩
  rw [h1] at h
  simp only at h
  obtain ⟨b, l2, e2, h2⟩ : ∃ n l2 e2, numS 1099511627776 1 (l1, e1) = (n, (l2, e2)) := ⟨_, _, _, rfl⟩
  rw [h2] at h
  simp only at h
  obtain ⟨c, l3, e3, h3⟩ : ∃ n l3 e3, numS 1099511627776 1 (l2, e2) = (n, (l3, e3)) := ⟨_, _, _, rfl⟩
  rw [h3] at h
  simp only at h
  obtain ⟨s, l4, e4, h4⟩ : ∃ s l4 e4, textS (l3, e3) = (s, (l4, e4)) := ⟨_, _, _, rfl⟩
  rw [h4] at h
  simp only at h
  obtain ⟨t, l5, e5, h5⟩ : ∃ s l5 e5, textS (l4, e4) = (s, (l5, e5)) := ⟨_, _, _, rfl⟩
  rw [h5] at h
  simp only at h
  obtain ⟨hm, hr⟩ := Prod.mk.inj h
  obtain ⟨rfl, rfl⟩ := Prod.mk.inj hr
  -- the errors stick: from the last to the first
  have st : ∀ {x : Int} {q q' : List Nat} {y y' : Int}, numS 1099511627776 1 (q, y) = (x, (q', y')) → y' = 0 → y = 0 := by
    intro x q q' y y' hh h0
    by_cases hy : y = 0
    · exact hy
    · rw [numS_err hy] at hh
      have := (Prod.mk.inj (Prod.mk.inj hh).2).2
      omega
  have tt : ∀ {x : ByteArray} {q q' : List Nat} {y y' : Int}, textS (q, y) = (x, (q', y')) → y' = 0 → y = 0 := by
    intro x q q' y y' hh h0
    by_cases hy : y = 0
    · exact hy
    · rw [textS, numS_err hy] at hh
      simp only at hh
      rw [if_pos hy] at hh
      have := (Prod.mk.inj (Prod.mk.inj hh).2).2
      omega
  have z4 := tt h5 rfl
  have z3 := tt h4 z4
  have z2 := st h3 z3
  have z1 := st h2 z2
  subst z4; subst z3; subst z2; subst z1
  obtain ⟨p0, q1, a0, a1⟩ := numS_back hb (Int.le_refl _) (by omega) h1
  have hb1 : Bytes l1 := by rw [q1] at hb; exact bytes_right hb
  obtain ⟨_, q2, b0, b1⟩ := numS_back hb1 (Int.le_refl _) (by omega) h2
  have hb2 : Bytes l2 := by rw [q2] at hb1; exact bytes_right hb1
  obtain ⟨_, q3, c0, c1⟩ := numS_back hb2 (Int.le_refl _) (by omega) h3
  have hb3 : Bytes l3 := by rw [q3] at hb2; exact bytes_right hb2
  obtain ⟨_, q4, d1⟩ := textS_back hb3 h4
  have hb4 : Bytes l4 := by rw [q4] at hb3; exact bytes_right hb3
  obtain ⟨_, q5, d2⟩ := textS_back hb4 h5
  refine ⟨p0, ?_, ?_⟩
  · rw [← hm]
    simp only [putM, List.append_assoc]
    rw [← q5, ← q4, ← q3, ← q2]
    exact q1
  · rw [← hm]
    simp only [okM, Bool.and_eq_true, okN_iff, decide_eq_true_eq]
    exact ⟨⟨a0, a1⟩, ⟨b0, b1⟩, ⟨c0, c1⟩, d1, d2⟩
theorem many_put {α : Type} {f : St → α × St} {p : α → List Nat} (hf : ∀ x r, f (p x ++ r, 0) = (x, (r, 0))) : ∀ (l : List α) (r : List Nat), manyS f l.length (l.flatMap p ++ r, 0) = (l, (r, 0)) := by
  intro l
  induction l with
  | nil => intro r; simp [manyS]
  | cons x l ih =>
    intro r
    rw [List.length_cons, manyS, if_neg (by simp), List.flatMap_cons, List.append_assoc, hf]
    simp only
    rw [ih]
theorem many_put' {α : Type} {f : St → α × St} {p : α → List Nat} (ok : α → Bool) (hf : ∀ x r, ok x = true → f (p x ++ r, 0) = (x, (r, 0))) : ∀ (l : List α) (r : List Nat), l.all ok = true → manyS f l.length (l.flatMap p ++ r, 0) = (l, (r, 0)) := by
  intro l
  induction l with
  | nil => intro r _; simp [manyS]
  | cons x l ih =>
    intro r h
    rw [List.all_cons, Bool.and_eq_true] at h
    rw [List.length_cons, manyS, if_neg (by simp), List.flatMap_cons, List.append_assoc, hf x _ h.1]
    simp only
    rw [ih _ h.2]
theorem many_back {α : Type} {f : St → α × St} {p : α → List Nat} (ok : α → Bool) (hf : ∀ {x l r e}, Bytes l → f (l, e) = (x, (r, 0)) → e = 0 ∧ l = p x ++ r ∧ ok x = true) :
    ∀ (k : Nat) {l r : List Nat} {xs : List α} {e : Int}, Bytes l → manyS f k (l, e) = (xs, (r, 0)) → e = 0 ∧ l = xs.flatMap p ++ r ∧ xs.all ok = true ∧ xs.length = k := by
  intro k
  induction k with
  | zero =>
    intro l r xs e hb h
    rw [manyS] at h
    obtain ⟨rfl, h2⟩ := Prod.mk.inj h
    obtain ⟨rfl, rfl⟩ := Prod.mk.inj h2
    exact ⟨rfl, by simp, rfl, rfl⟩
  | succ k ih =>
    intro l r xs e hb h
    rw [manyS] at h
    by_cases he : e ≠ 0
    · rw [if_pos he] at h
      exact absurd (Prod.mk.inj (Prod.mk.inj h).2).2 he
    · rw [if_neg he] at h
      obtain ⟨x, l1, e1, h1⟩ : ∃ x l1 e1, f (l, e) = (x, (l1, e1)) := ⟨_, _, _, rfl⟩
      rw [h1] at h
      simp only at h
      obtain ⟨ys, l2, e2, h2⟩ : ∃ ys l2 e2, manyS f k (l1, e1) = (ys, (l2, e2)) := ⟨_, _, _, rfl⟩
      rw [h2] at h
      obtain ⟨rfl, h3⟩ := Prod.mk.inj h
      obtain ⟨rfl, rfl⟩ := Prod.mk.inj h3
      have e10 : e1 = 0 := by
        by_cases h0 : e1 = 0
        · exact h0
        · cases k with
          | zero => rw [manyS] at h2; exact (Prod.mk.inj (Prod.mk.inj h2).2).2
          | succ k => rw [manyS, if_pos h0] at h2; exact (Prod.mk.inj (Prod.mk.inj h2).2).2
      subst e10
      obtain ⟨z, q1, o1⟩ := hf hb h1
      have hb1 : Bytes l1 := by rw [q1] at hb; exact bytes_right hb
      obtain ⟨_, q2, o2, q3⟩ := ih hb1 h2
      exact ⟨z, by rw [List.flatMap_cons, List.append_assoc, ← q2]; exact q1, by rw [List.all_cons, o1, o2]; rfl, by rw [List.length_cons, q3]⟩

/-- P11.3: an edit comes back from its octets -/
theorem dec_enc {drop : List Int} {add : List Meta} {seq next : Int} (h : encOk drop add seq next = true) (hd : drop.length ≤ 256) (ha : add.length ≤ 256) : decS (encB drop add seq next) = ⟨0, drop, add, seq, next⟩ := by
  simp only [encOk, Bool.and_eq_true, okN_iff] at h
  obtain ⟨⟨s0, s1⟩, ⟨n0, n1⟩, h3, h4⟩ := h
  rw [decS, encB, numS_put s0 s1 (Int.le_refl _), decS1, numS_put n0 n1 (Int.le_refl _), decS2, numS_put (most := 256) (n := (drop.length : Int)) (by omega) (by omega) (by omega), decS3]
  simp only [Int.toNat_natCast]
  rw [many_put' (f := numS 1099511627776 1) (p := putI) okN (fun x r hx => numS_put ((okN_iff x).1 hx).1 ((okN_iff x).1 hx).2 (Int.le_refl _) r) drop _ h3, decS4, numS_put (most := 256) (n := (add.length : Int)) (by omega) (by omega) (by omega), decS5]
  simp only [Int.toNat_natCast]
  have := many_put' (f := metaS) (p := putM) okM (fun x r hx => metaS_put hx r) add [] h4
  rw [List.append_nil] at this
  rw [this, decS6]
  simp
/-- P11.3: what is read is built again of what was read -/
theorem enc_dec {b : List Nat} (hb : Bytes b) (h : (decS b).err = 0) : b = encB (decS b).drop (decS b).add (decS b).seq (decS b).next ∧ encOk (decS b).drop (decS b).add (decS b).seq (decS b).next = true ∧ (decS b).drop.length ≤ 256 ∧ (decS b).add.length ≤ 256 := by
  obtain ⟨seq, l1, e1, h1⟩ : ∃ n l1 e1, numS 1099511627776 1 (b, 0) = (n, (l1, e1)) := ⟨_, _, _, rfl⟩
  obtain ⟨next, l2, e2, h2⟩ : ∃ n l2 e2, numS 1099511627776 1 (l1, e1) = (n, (l2, e2)) := ⟨_, _, _, rfl⟩
  obtain ⟨n, l3, e3, h3⟩ : ∃ n l3 e3, numS 256 3 (l2, e2) = (n, (l3, e3)) := ⟨_, _, _, rfl⟩
  obtain ⟨drop, l4, e4, h4⟩ : ∃ d l4 e4, manyS (numS 1099511627776 1) n.toNat (l3, e3) = (d, (l4, e4)) := ⟨_, _, _, rfl⟩
  obtain ⟨k, l5, e5, h5⟩ : ∃ n l5 e5, numS 256 3 (l4, e4) = (n, (l5, e5)) := ⟨_, _, _, rfl⟩
  obtain ⟨add, l6, e6, h6⟩ : ∃ d l6 e6, manyS metaS k.toNat (l5, e5) = (d, (l6, e6)) := ⟨_, _, _, rfl⟩
  have hdec : decS b = ⟨if e6 = 0 then (if l6.length = 0 then 0 else 23) else e6, drop, add, seq, next⟩ := by
    rw [decS, h1, decS1]
    simp only
    rw [h2, decS2]
    simp only
    rw [h3, decS3]
    simp only
    rw [h4, decS4]
    simp only
    rw [h5, decS5]
    simp only
    rw [h6, decS6]
  rw [hdec] at h ⊢
  simp only at h ⊢
  have e60 : e6 = 0 := by
    by_cases h0 : e6 = 0
    · exact h0
    · rw [if_neg h0] at h; exact absurd h h0
  subst e60
  rw [if_pos rfl] at h
  have hl6 : l6 = [] := by
    by_cases h0 : l6.length = 0
    · exact List.eq_nil_of_length_eq_zero h0
    · rw [if_neg h0] at h; omega
  subst hl6
  have nn : ∀ {m : Int} {c : Int} {x : Int} {q q' : List Nat} {y y' : Int}, numS m c (q, y) = (x, (q', y')) → y' = 0 → y = 0 := by
    intro m c x q q' y y' hh h0
    by_cases hy : y = 0
    · exact hy
    · rw [numS_err hy] at hh
      have := (Prod.mk.inj (Prod.mk.inj hh).2).2
      omega
  -- errors stick, from the back
  have z5 : e5 = 0 := by
    by_cases h0 : e5 = 0
    · exact h0
    · cases hk : k.toNat with
      | zero => rw [hk, manyS] at h6; exact (Prod.mk.inj (Prod.mk.inj h6).2).2
      | succ j => rw [hk, manyS, if_pos h0] at h6; exact (Prod.mk.inj (Prod.mk.inj h6).2).2
  have z4 := nn h5 z5
  have z3 : e3 = 0 := by
    by_cases h0 : e3 = 0
    · exact h0
    · cases hk : n.toNat with
      | zero => rw [hk, manyS] at h4; have := (Prod.mk.inj (Prod.mk.inj h4).2).2; omega
      | succ j => rw [hk, manyS, if_pos h0] at h4; have := (Prod.mk.inj (Prod.mk.inj h4).2).2; omega
  have z2 := nn h3 z3
  have z1 := nn h2 z2
  subst z5; subst z4; subst z3; subst z2; subst z1
  obtain ⟨_, q1, s0, s1⟩ := numS_back hb (Int.le_refl _) (by omega) h1
  have hb1 : Bytes l1 := by rw [q1] at hb; exact bytes_right hb
  obtain ⟨_, q2, t0, t1⟩ := numS_back hb1 (Int.le_refl _) (by omega) h2
  have hb2 : Bytes l2 := by rw [q2] at hb1; exact bytes_right hb1
  obtain ⟨_, q3, n0, n1⟩ := numS_back hb2 (by omega) (by omega) h3
  have hb3 : Bytes l3 := by rw [q3] at hb2; exact bytes_right hb2
  obtain ⟨_, q4, od, ld⟩ := many_back okN (p := putI) (fun {x l r e} hb hh => by
    obtain ⟨a, b, c, d⟩ := numS_back hb (Int.le_refl _) (by omega) hh
    exact ⟨a, b, (okN_iff x).2 ⟨c, d⟩⟩) n.toNat hb3 h4
  have hb4 : Bytes l4 := by rw [q4] at hb3; exact bytes_right hb3
  obtain ⟨_, q5, k0, k1⟩ := numS_back hb4 (by omega) (by omega) h5
  have hb5 : Bytes l5 := by rw [q5] at hb4; exact bytes_right hb4
  obtain ⟨_, q6, oa, la⟩ := many_back okM (p := putM) (fun {x l r e} hb hh => metaS_back hb hh) k.toNat hb5 h6
  refine ⟨?_, ?_, by omega, by omega⟩
  · rw [encB, ld, la, show ((n.toNat : Nat) : Int) = n by omega, show ((k.toNat : Nat) : Int) = k by omega]
    rw [List.append_nil] at q6
    rw [← q6, ← q5, ← q4, ← q3, ← q2]
    exact q1
  · simp only [encOk, Bool.and_eq_true, okN_iff]
    exact ⟨⟨s0, s1⟩, ⟨t0, t1⟩, od, oa⟩
end Go.Proofs.YteloamnakikbbaaDoor.Codec

/- The cursor of chapter 19: number, text: walked. -/
namespace Go.Proofs.YteloamnakikbbaaDoor.JScan
set_option linter.unusedVariables false
set_option linter.unusedSimpArgs false
open Go.RowKit Go.Proofs.YteloamnakikbbaaDoorW.PrintWords Go.Proofs.YteloamnakikbbaaDoorW.PrintLast Go.Proofs.YteloamnakikbbaaDoor.Base Go.Proofs.YteloamnakikbbaaDoor.Cells Go.Proofs.YteloamnakikbbaaDoor.Ints Go.Proofs.YteloamnakikbbaaDoor.Var Go.Proofs.YteloamnakikbbaaDoor.VarPure Go.Proofs.YteloamnakikbbaaDoor.Codec Go.Proofs.YteloamnakikbbaaDoor.EditPure

/-- a text of at most 256 octets -/
def text2 (s : St) : ByteArray × St :=
  let r := numS 256 5 s
  if r.2.2 ≠ 0 then (⟨#[]⟩, r.2)
  else if (r.2.1.length : Int) < r.1 then (⟨#[]⟩, (r.2.1, 8))
  else (ofB (r.2.1.take r.1.toNat), (r.2.1.drop r.1.toNat, 0))
/-- a scanner: what is left, and the first error -/
def Scan (w : World) (g : Nat) (s : St) : Prop := ∃ A c, w.heap[g]? = some (.cells #[.slice A s.1.length c, .int .i64 s.2] 88 (0, 0)) ∧ ReadsInt w .u8 A s.1.length (nb s.1) ∧ s.1.length ≤ c ∧ Bytes s.1 ∧ (∀ ad, A = some ad → 0 < s.1.length → ad.block < g)
theorem reads_set {w : World} {A : Option Addr} {n g : Nat} {xs : List Int} (h : ReadsInt w .u8 A n xs) (hf : ∀ ad, A = some ad → 0 < n → ad.block < g) (j : Nat) (v : Value) : ReadsInt (w.setCell ⟨g, j, none⟩ v) .u8 A n xs := by
  refine ⟨h.1, h.2.1, fun hp => ?_⟩
  obtain ⟨ad, e, hc⟩ := h.2.2 hp
  refine ⟨ad, e, fun i hi => ?_⟩
  rw [World.cell?_setCell_far _ _ _ _ (by have := hf ad e hp; show g ≠ (ad.add i).block; rw [add_block]; omega)]
  exact hc i hi
theorem Scan.below {w w1 : World} {g : Nat} {s : St} (h : Scan w g s) (hb : Below w.heap.size w w1) : Scan w1 g s := by
  obtain ⟨A, c, hk, hr, hlc, hby, hlt⟩ := h
  exact ⟨A, c, blk_keep hk hb, hr.below hb, hlc, hby, hlt⟩
theorem Scan.drew {w : World} {g : Nat} {s : St} (h : Scan w g s) : Scan w.drew g s := h
theorem Scan.err {w : World} {g : Nat} {l : List Nat} {e : Int} (h : Scan w g (l, e)) (e' : Int) : Scan (w.setCell ⟨g, 1, none⟩ (.int .i64 e')) g (l, e') := by
  obtain ⟨A, c, hk, hr, hlc, hby, hlt⟩ := h
  exact ⟨A, c, blk_put hk 1 _ rfl, reads_set hr hlt _ _, hlc, hby, hlt⟩
theorem nb_drop (l : List Nat) (k : Nat) : nb (l.drop k) = (nb l).drop k := by simp [nb, List.map_drop]
theorem nb_take (l : List Nat) (k : Nat) : nb (l.take k) = (nb l).take k := by simp [nb, List.map_take]
theorem getN_le {l : List Nat} {n k : Nat} (h : getN l = (n, k, 0)) : 1 ≤ k ∧ k ≤ l.length := by
  rcases l with _ | ⟨b, r⟩
  · simp [getN] at h
  · rw [getN] at h
    by_cases h1 : r.length < lead b
    · rw [if_pos h1] at h; simp at h
    · rw [if_neg h1] at h
      by_cases h2 : sizeN (val (b % 2 ^ (7 - lead b) :: r.take (lead b))) ≠ lead b + 1
      · simp only [if_pos h2] at h; simp at h
      · simp only [if_neg h2] at h
        have := (Prod.mk.inj (Prod.mk.inj h).2).1
        simp; omega
theorem getN_lt {l : List Nat} (hb : Bytes l) : (getN l).1 < 18446744073709551616 := by
  rcases l with _ | ⟨b, r⟩
  · simp [getN]
  · rw [getN]
    by_cases h1 : r.length < lead b
    · rw [if_pos h1]; simp
    · rw [if_neg h1]
      simp only
      split
      · simp
      · exact val_bound2 (fun y hy => hb y (List.mem_cons_of_mem _ hy)) (lead_le b) (by omega)

theorem grown_set (w : World) (g j : Nat) (v : Value) : w.grownBy (w.setCell ⟨g, j, none⟩ v) (some g) :=
  ⟨rfl, rfl, rfl, by rw [World.size_setCell]; exact Nat.le_refl _, fun k _ hk => Below.heap_setCell w ⟨g, j, none⟩ v k (fun e => hk (by rw [e]))⟩
/-- so many octets further on -/
theorem Scan.on {w : World} {g : Nat} {l : List Nat} {e : Int} {A : Option Addr} {c k : Nat} (h : Scan w g (l, e)) (hk : w.heap[g]? = some (.cells #[.slice A l.length c, .int .i64 e] 88 (0, 0))) (hkl : k ≤ l.length) :
    Scan (w.setCell ⟨g, 0, none⟩ (.slice (if c = k then A else A.map (·.add (k * 1))) (l.length - k) (c - k))) g (l.drop k, e) := by
  obtain ⟨A', c', hk', hr, hlc, hby, hlt⟩ := h
  rw [hk] at hk'
  injection hk' with h1
  injection h1 with h2 _ _
  have h3 := congrArg (fun a : Array Value => a[0]?) h2
  simp at h3
  obtain ⟨rfl, rfl⟩ := h3
  simp only at hr hlc hby
  have hlt2 : ∀ ad, (if c = k then A else A.map (·.add (k * 1))) = some ad → 0 < l.length - k → ad.block < g := by
    intro ad h h0
    by_cases hc : c = k
    · rw [if_pos hc] at h; exact hlt ad h (show 0 < l.length by omega)
    · rw [if_neg hc] at h
      obtain ⟨a0, ha, rfl⟩ := Option.map_eq_some_iff.1 h
      rw [add_block]; exact hlt a0 ha (show 0 < l.length by omega)
  have hd := hr.drop_ (c := c) k (by simpa [nb_len] using hkl) hlc
  rw [Nat.mul_one] at *
  refine ⟨(if c = k then A else A.map (·.add k)), c - k, ?_, ?_, ?_, fun x hx => hby x (List.mem_of_mem_drop hx), fun ad e h0 => hlt2 ad e (by simpa using h0)⟩
  · rw [List.length_drop]; exact blk_put hk 0 _ rfl
  · simp only [List.length_drop]
    rw [nb_drop]
    exact reads_set hd hlt2 _ _
  · simp only [List.length_drop]; omega

set_option maxRecDepth 100000 in
set_option maxHeartbeats 2000000 in
theorem number_any (g : Nat) (s : St) (most code : Int) (w : World) (hs : Scan w g s) (hl : s.1.length ≤ 1048576) (hm0 : 0 ≤ most) (hm : most ≤ 1099511627776) (hc0 : code ≠ 0) :
    Calls Tryd.prog 36 #[.pointer (some ⟨g, 0, none⟩), .int .i64 most, .int .i64 code] w fun e w' => e = .returned (.int .i64 (numS most code s).1) ∧ Scan w' g (numS most code s).2 ∧ w.grownBy w' (some g) := by
  obtain ⟨l, e0⟩ := s
  have HS := Aside0.mk hs
  obtain ⟨A, c, hk, hr, hlc, hby, hlt⟩ := hs
  simp only at hk hr hlc hby hl
  have HK := Aside0.mk hk
  have HR := Aside0.mk hr
  have HLT := Aside0.mk hlt
  have HBY := Aside0.mk hby
  obtain ⟨R, hR⟩ := named (numS most code (l, e0))
  rw [← hR.out]
  have x0 := blk_cell hk 0
  have x1 := blk_cell hk 1
  clear hk hr hlt hby
  by_cases he : e0 = 0
  · subst he
    obtain ⟨n, hn⟩ : ∃ n : Int, Aside0 (n = ((getN l).1 : Nat)) := ⟨_, ⟨rfl⟩⟩
    obtain ⟨k, hk⟩ : ∃ k : Int, Aside0 (k = ((getN l).2.1 : Nat)) := ⟨_, ⟨rfl⟩⟩
    obtain ⟨er, her⟩ : ∃ er : Int, Aside0 (er = ((getN l).2.2 : Nat)) := ⟨_, ⟨rfl⟩⟩
    have hnb : 0 ≤ n ∧ n < 18446744073709551616 := by have := getN_lt HBY.out; have := hn.out; omega
    go_enter Tryd.func36, Tryd.ntmps36
    go_wp2_with fail
    refine (get_any A c l _ HBY.out HR.out hl hlc).mono ?_
    rw [← hn.out, ← hk.out, ← her.out]
    rintro e w1 ⟨rfl, hb1⟩
    have HS1 := Aside0.mk (HS.out.below hb1)
    have HG1 := Aside0.mk (grown_of_below hb1 (some g))
    have hk1 := blk_keep HK.out hb1
    have y0 := blk_cell hk1 0
    have y1 := blk_cell hk1 1
    have f0 := blk_frozen hk1 0
    have f1 := blk_frozen hk1 1
    have HK1 := Aside0.mk hk1
    clear x0 x1 hb1 hk1
    have hwm : IntKind.u64.wrap most = most := by rw [IntKind.wrap_u64]; omega
    by_cases he1 : er = 0
    · subst he1
      by_cases hnm : most < n
      · have hRv : Aside0 (R = (0, (l, code))) := ⟨by rw [hR.out, numS, if_neg (by simp)]; simp only; rw [if_neg (by have := her.out; omega), if_pos (by have := hn.out; omega)]⟩
        go_wp2
        go_ret
        rw [hRv.out]
        exact ⟨rfl, HS1.out.err code, grown_trans HG1.out (grown_set _ _ _ _)⟩
      · have hg3 : getN l = ((getN l).1, (getN l).2.1, 0) := by
          have h3 : (getN l).2.2 = 0 := by have := her.out; omega
          rw [← h3]
        obtain ⟨hk1, hkl⟩ := getN_le hg3
        obtain ⟨kn, hkn⟩ : ∃ kn, (getN l).2.1 = kn := ⟨_, rfl⟩
        rw [hkn] at hk1 hkl
        have hkk : k = (kn : Int) := by rw [← hkn]; exact hk.out
        have hRv : Aside0 (R = (n, (l.drop kn, 0))) := ⟨by
          have h3 : (getN l).2.2 = 0 := by have := her.out; omega
          rw [hR.out, numS, if_neg (by simp)]
          simp only
          rw [if_neg (by omega), if_neg (by have := hn.out; omega), ← hn.out, hkn]⟩
        obtain ⟨i0, hi0, hz1⟩ := infoBx
        have hcut := cut_from (P := Tryd.prog) 82 5 .i64 Tryd.underlying82 hi0 1 hz1 A l.length c k (by omega) (by omega)
        have hkt : k.toNat = kn := by omega
        rw [hkt] at hcut
        obtain ⟨A7, hA7⟩ : ∃ A7, A7 = (if c = kn then A else A.map (·.add (kn * 1))) := ⟨_, rfl⟩
        obtain ⟨n7, hn7⟩ : ∃ n7, n7 = l.length - kn := ⟨_, rfl⟩
        obtain ⟨c7, hc7⟩ : ∃ c7, c7 = c - kn := ⟨_, rfl⟩
        rw [← hA7, ← hn7, ← hc7] at hcut
        have hon := HS1.out.on HK1.out hkl
        rw [← hA7, ← hn7, ← hc7] at hon
        have HON := Aside0.mk hon
        have hwn : IntKind.i64.wrap n = n := by rw [IntKind.wrap_i64]; omega
        have hk0 : 0 ≤ k := by omega
        have hkb : k ≤ l.length := by omega
        clear hkk hkt hk1 hkl hkn hA7 hn7 hc7 hon hg3
        go_wp2
        go_region
        go_wp2
        go_ret
        rw [hRv.out]
        exact ⟨rfl, HON.out.drew, grown_drew (grown_trans HG1.out (grown_set _ _ _ _))⟩
    · have hRv : Aside0 (R = (0, (l, er))) := ⟨by rw [hR.out, numS, if_neg (by simp)]; simp only; rw [if_pos (by have := her.out; omega), ← her.out]⟩
      go_wp2
      go_ret
      rw [hRv.out]
      exact ⟨rfl, HS1.out.err er, grown_trans HG1.out (grown_set _ _ _ _)⟩
  · have hRv : Aside0 (R = (0, (l, e0))) := ⟨by rw [hR.out, numS, if_pos he]⟩
    go_enter Tryd.func36, Tryd.ntmps36
    go_wp2
    go_ret
    rw [hRv.out]
    exact ⟨rfl, HS.out, grown_refl _ _⟩

theorem numS_range {most code n : Int} {s : St} {l : List Nat} {e : Int} (h : numS most code s = (n, (l, e))) (hm : 0 ≤ most) : 0 ≤ n ∧ n ≤ most := by
  rw [numS] at h
  by_cases h1 : s.2 ≠ 0
  · rw [if_pos h1] at h; have := (Prod.mk.inj h).1; omega
  · rw [if_neg h1] at h
    by_cases h2 : (getN s.1).2.2 ≠ 0
    · rw [if_pos h2] at h; have := (Prod.mk.inj h).1; omega
    · rw [if_neg h2] at h
      by_cases h3 : most < ((getN s.1).1 : Int)
      · rw [if_pos h3] at h; have := (Prod.mk.inj h).1; omega
      · rw [if_neg h3] at h; have := (Prod.mk.inj h).1; omega
theorem numS_len {most code n : Int} {s : St} {l : List Nat} {e : Int} (h : numS most code s = (n, (l, e))) : l.length ≤ s.1.length := by
  rw [numS] at h
  by_cases h1 : s.2 ≠ 0
  · rw [if_pos h1] at h; have h2 := (Prod.mk.inj h).2; rw [h2]; exact Nat.le_refl _
  · rw [if_neg h1] at h
    by_cases h2 : (getN s.1).2.2 ≠ 0
    · rw [if_pos h2] at h; rw [← (Prod.mk.inj (Prod.mk.inj h).2).1]; exact Nat.le_refl _
    · rw [if_neg h2] at h
      by_cases h3 : most < ((getN s.1).1 : Int)
      · rw [if_pos h3] at h; rw [← (Prod.mk.inj (Prod.mk.inj h).2).1]; exact Nat.le_refl _
      · rw [if_neg h3] at h; rw [← (Prod.mk.inj (Prod.mk.inj h).2).1, List.length_drop]; omega
theorem str_ofB (l : List Nat) (hb : Bytes l) : strOfNums (nb l) = ofB l := by
  unfold strOfNums ofB nb
  congr 2
  rw [List.map_map]
  refine List.map_congr_left (fun x hx => ?_)
  simp

set_option maxRecDepth 100000 in
set_option maxHeartbeats 2000000 in
theorem text_any (g : Nat) (s : St) (w : World) (hs : Scan w g s) (hl : s.1.length ≤ 1048576) :
    Calls Tryd.prog 37 #[.pointer (some ⟨g, 0, none⟩)] w fun e w' => e = .returned (.string (text2 s).1) ∧ Scan w' g (text2 s).2 ∧ w.grownBy w' (some g) := by
  obtain ⟨n, l, e1, hnum⟩ : ∃ n l e1, numS 256 5 s = (n, (l, e1)) := ⟨_, _, _, rfl⟩
  have hrange := numS_range hnum (by omega)
  have hll : l.length ≤ 1048576 := Nat.le_trans (numS_len hnum) hl
  have HNUM := Aside0.mk hnum
  obtain ⟨R, hR⟩ := named (text2 s)
  rw [← hR.out]
  have hT : Aside0 (R = if e1 ≠ 0 then (⟨#[]⟩, (l, e1)) else if (l.length : Int) < n then (⟨#[]⟩, (l, 8)) else (ofB (l.take n.toNat), (l.drop n.toNat, 0))) := ⟨by rw [hR.out, text2, hnum]⟩
  clear hnum
  go_enter Tryd.func37, Tryd.ntmps37
  go_wp2_with fail
  refine (number_any g s 256 5 _ hs hl (by omega) (by omega) (by omega)).mono ?_
  rw [HNUM.out]
  rintro e w1 ⟨rfl, hs1, hg1⟩
  have HS1 := Aside0.mk hs1
  have HG1 := Aside0.mk hg1
  obtain ⟨A, c, hk, hr, hlc, hby, hlt⟩ := hs1
  simp only at hk hr hlc hby
  have y0 := blk_cell hk 0
  have y1 := blk_cell hk 1
  have f0 := blk_frozen hk 0
  have f1 := blk_frozen hk 1
  have HK := Aside0.mk hk
  have HR := Aside0.mk hr
  have HBY := Aside0.mk hby
  clear hg1 hk hr hlt hby
  by_cases he : e1 = 0
  · subst he
    by_cases hn : (l.length : Int) < n
    · have hRv : Aside0 (R = (⟨#[]⟩, (l, 8))) := ⟨by rw [hT.out, if_neg (by simp), if_pos hn]⟩
      go_wp2
      go_ret
      rw [hRv.out]
      exact ⟨rfl, HS1.out.err 8, grown_trans HG1.out (grown_set _ _ _ _)⟩
    · obtain ⟨kn, hkn⟩ : ∃ kn, n.toNat = kn := ⟨_, rfl⟩
      have hRv : Aside0 (R = (ofB (l.take kn), (l.drop kn, 0))) := ⟨by rw [hT.out, if_neg (by simp), if_neg hn, hkn]⟩
      have hkl : kn ≤ l.length := by omega
      obtain ⟨i0, hi0, hz1⟩ := infoBx
      have hto := cut_to (P := Tryd.prog) 82 5 .i64 Tryd.underlying82 hi0 A l.length c n (by omega) (by omega) hlc
      have hcut := cut_from (P := Tryd.prog) 82 5 .i64 Tryd.underlying82 hi0 1 hz1 A l.length c n (by omega) (by omega)
      rw [hkn] at hto hcut
      have hrt : ReadsInt w1 .u8 A kn (nb (l.take kn)) := by
        rw [nb_take]
        exact HR.out.take_ kn hkl
      have hstr := string_of_reads (c := c) Tryd.underlying82 Tryd.underlying5 Tryd.underlying9 hrt
      rw [str_ofB _ (fun x hx => HBY.out x (List.mem_of_mem_take hx))] at hstr
      obtain ⟨A7, hA7⟩ : ∃ A7, A7 = (if c = kn then A else A.map (·.add (kn * 1))) := ⟨_, rfl⟩
      obtain ⟨n7, hn7⟩ : ∃ n7, n7 = l.length - kn := ⟨_, rfl⟩
      obtain ⟨c7, hc7⟩ : ∃ c7, c7 = c - kn := ⟨_, rfl⟩
      rw [← hA7, ← hn7, ← hc7] at hcut
      have hon := HS1.out.on HK.out hkl
      rw [← hA7, ← hn7, ← hc7] at hon
      have HON := Aside0.mk hon
      obtain ⟨T, hTT⟩ := named (ofB (l.take kn))
      rw [← hTT.out] at hstr hRv
      clear hkn hkl hA7 hn7 hc7 hon hrt
      go_wp2
      go_ret
      rw [hRv.out]
      exact ⟨rfl, HON.out, grown_trans HG1.out (grown_set _ _ _ _)⟩
  · have hRv : Aside0 (R = (⟨#[]⟩, (l, e1))) := ⟨by rw [hT.out, if_pos he]⟩
    go_wp2
    go_ret
    rw [hRv.out]
    exact ⟨rfl, HS1.out, HG1.out⟩
end Go.Proofs.YteloamnakikbbaaDoor.JScan
