/- Names read: manifest.Parse and the document's Parse, walked. -/
import Derived.Test.YtfakfgblaakgdaaNames
namespace Go.Proofs.Ytfakfgblaakgdaa.Names
open Go.RowKit Go.Proofs.YtfakfgblaakgdaaW.PrintWords Go.Proofs.YtfakfgblaakgdaaW.PrintLast Go.Proofs.Ytfakfgblaakgdaa.NamesPure Go.Proofs.Ytfakfgblaakgdaa.Base

theorem byte_get (s : ByteArray) (i : Nat) (h : i < s.size) : ((s[i]'h).toNat : Int) = (bytesOf s).getD i 0 := by
  have h' : i < s.data.toList.length := by rw [data_length]; exact h
  simp [bytesOf, List.getD_eq_getElem?_getD, List.getElem?_eq_getElem h']
  rfl
theorem byte_range (s : ByteArray) : ∀ c ∈ bytesOf s, 0 ≤ c ∧ c ≤ 255 := by
  intro c hc
  simp only [bytesOf, List.mem_map] at hc
  obtain ⟨b, _, rfl⟩ := hc
  have := b.toNat_lt
  omega
theorem bytes_extract (s : ByteArray) : bytesOf (s.extract 1 s.size) = (bytesOf s).drop 1 := by
  simp [bytesOf]
  exact List.take_of_length_le (by rw [List.length_tail, List.length_map, data_length]; omega)

/-- the first tests of Parse -/
def headOk (l : List Int) : Bool := isKind (l.getD 0 0) && (l.getD 1 0 != 48)
def isDigit (c : Int) : Bool := decide (48 ≤ c) && decide (c ≤ 57)
theorem parseOk_eq (l : List Int) (h1 : 2 ≤ l.length) (h2 : l.length ≤ 11) : parseOk l = (headOk l && ((l.drop 1).all isDigit && decide (valF (l.drop 1) ≤ 2147483647))) := by
  unfold parseOk headOk isDigit
  simp [h1, h2, Bool.and_assoc]

theorem idx_range' (b : UInt8) : (0 ≤ Lib.indexByte [109, 108, 116] b) ↔ isKind (b.toNat : Int) = true := by
  have h := idx_range (b.toNat : Int) (by omega) (by have := b.toNat_lt; omega)
  rw [Int.toNat_natCast, UInt8.ofNat_toNat] at h
  exact h

set_option maxRecDepth 100000 in
set_option maxHeartbeats 1000000 in
theorem parse_bad (s : ByteArray) (w : World) (h : s.size < 2 ∨ 11 < s.size ∨ headOk (bytesOf s) = false) :
    Calls Try.prog 37 #[.string s] w fun e w' => e = .returned (.tuple #[.int .u8 0, .int .i64 0, .bool false]) ∧ Below w.heap.size w w' := by
  by_cases h1 : s.size < 2
  · clear h
    go_enter Try.func37, Try.ntmps37
    go_wp2
    go_ret3
    exact ⟨rfl, Below.refl _ _⟩
  · by_cases h2 : 11 < s.size
    · clear h
      go_enter Try.func37, Try.ntmps37
      go_wp2
      go_ret3
      exact ⟨rfl, Below.refl _ _⟩
    · have h := h.resolve_left h1 |>.resolve_left h2
      have i0 : 0 < s.size := by omega
      have i1 : 1 < s.size := by omega
      have e0 := byte_get s 0 i0
      have e1 := byte_get s 1 i1
      have hi := idx_range' s[0]
      by_cases hk : 0 ≤ Lib.indexByte [109, 108, 116] s[0]
      · have hz : ((s[1].toNat : Int) == 48) = true := by
          have hk' := hi.1 hk
          rw [e0] at hk'
          simp only [headOk, hk', Bool.true_and, bne_eq_false_iff_eq] at h
          rw [e1, h]; rfl
        clear h e0 e1 hi
        go_enter Try.func37, Try.ntmps37
        go_wp2_with (go_at_call 67; refine (Try.strings_IndexByte _ _ _).mono ?_; rintro e w' ⟨rfl, hw⟩; obtain rfl := hw.symm)
        go_ret3
        exact ⟨rfl, Below.refl _ _⟩
      · have hk : Lib.indexByte [109, 108, 116] s[0] < 0 := by omega
        clear h e0 e1 hi
        go_enter Try.func37, Try.ntmps37
        go_wp2_with (go_at_call 67; refine (Try.strings_IndexByte _ _ _).mono ?_; rintro e w' ⟨rfl, hw⟩; obtain rfl := hw.symm)
        go_ret3
        exact ⟨rfl, Below.refl _ _⟩

set_option maxRecDepth 100000 in
set_option maxHeartbeats 1000000 in
theorem parse_walk (s : ByteArray) (w : World) (h1 : 2 ≤ s.size) (h2 : s.size ≤ 11) (hh : headOk (bytesOf s) = true) :
    Calls Try.prog 37 #[.string s] w fun e w' => e = .returned (.tuple #[.int .u8 (parseK (bytesOf s)), .int .i64 (parseN (bytesOf s)), .bool (parseOk (bytesOf s))]) ∧ Below w.heap.size w w' := by
  have kb := fun (x : ByteArray) (W : World) => print_bytes (P := Try.prog) 9 62 5 Try.underlying9 Try.underlying62 Try.underlying5 x W
  have i0 : 0 < s.size := by omega
  have i1 : 1 < s.size := by omega
  have e0 := byte_get s 0 i0
  have e1 := byte_get s 1 i1
  have hP := parseOk_eq (bytesOf s) (by rw [bytesOf_length]; omega) (by rw [bytesOf_length]; omega)
  rw [hh, Bool.true_and] at hP
  simp only [headOk, Bool.and_eq_true, bne_iff_ne, ne_eq] at hh
  have hk : 0 ≤ Lib.indexByte [109, 108, 116] s[0] := (idx_range' s[0]).2 (by rw [e0]; exact hh.1)
  have hz : ((s[1].toNat : Int) == 48) = false := by rw [e1]; simpa using hh.2
  have E0 := Aside0.mk e0
  have HP := Aside0.mk hP
  clear hh e0 e1 hP
  obtain ⟨l, hl⟩ := named ((bytesOf s).drop 1)
  have hlen : l.length = s.size - 1 := by rw [hl.out, List.length_drop, bytesOf_length]
  have hlr : ∀ c ∈ l, 0 ≤ c ∧ c ≤ 255 := fun c hc => byte_range s c (List.mem_of_mem_drop (hl.out ▸ hc))
  have HC := Aside0.mk (bytes_reads w 5 (s.extract 1 s.size) (by simp; omega))
  have HL := Aside0.mk hlen
  have HR := Aside0.mk hlr
  clear hlen hlr
  go_enter Try.func37, Try.ntmps37
  go_wp2_with (go_at_call 67; refine (Try.strings_IndexByte _ _ _).mono ?_; rintro e w' ⟨rfl, hw⟩; obtain rfl := hw.symm)
  go_loop [5, 31] (fun v i => ∃ j : Nat, i = .int .i64 j ∧ j ≤ s.size - 1 ∧ v = .int .i64 (valF (l.take j)) ∧ Aside0 ((l.take j).all isDigit = true)) (fun _ i => s.size - (intOf i).toNat)
  case atStart => exact ⟨0, rfl, Nat.zero_le _, rfl, ⟨rfl⟩⟩
  case round =>
    obtain ⟨j, rfl, hj, rfl, hD⟩ := hrel
    by_cases hlt : j < s.size - 1
    · obtain ⟨ad, ead, hcell⟩ := HC.out.at_ (j : Int) (by omega) (by simp; omega)
      obtain rfl : (⟨w.heap.size, 0, none⟩ : Addr) = ad := by injection ead
      rw [Int.toNat_natCast, add_plain] at hcell
      obtain ⟨c, hc⟩ := named (rd (bytesOf (s.extract 1 s.size)) j)
      rw [← hc.out] at hcell
      have hcl : l[j]? = some c := by
        rw [hc.out, bytes_extract, ← hl.out, rd, Int.toNat_natCast, List.getD_eq_getElem?_getD, List.getElem?_eq_getElem (by rw [HL.out]; exact hlt)]; rfl
      have hcr := HR.out c (List.mem_of_getElem? hcl)
      have hc0 : 0 ≤ c := hcr.1
      have hc255 : c ≤ 255 := hcr.2
      have HCL := Aside0.mk hcl
      clear hcl hcr ead
      have hvb := valF_bound (l.take j) (fun x hx => by
        have := List.all_eq_true.1 hD.out x hx
        simpa [isDigit] using this)
      have hv0 : 0 ≤ valF (l.take j) := hvb.1
      have hv1 : valF (l.take j) < 10000000000 := by
        have h3 : (10 : Int) ^ (l.take j).length ≤ 10 ^ 10 := by
          have : (l.take j).length ≤ 10 := by rw [List.length_take]; omega
          exact_mod_cast Nat.pow_le_pow_right (by decide : 0 < 10) this
        have := hvb.2
        omega
      clear hvb
      have hsn : Aside0 (l.take (j + 1) = l.take j ++ [c]) := ⟨by rw [List.take_add_one, HCL.out]; rfl⟩
      by_cases hd : isDigit c = true
      · have hd' := hd
        simp only [isDigit, Bool.and_eq_true, decide_eq_true_eq] at hd'
        have hd1 : 48 ≤ c := hd'.1
        have hd2 : c ≤ 57 := hd'.2
        have HDc := Aside0.mk hd
        clear hd hd'
        go_wp2
        go_round
        case rel => exact ⟨j + 1, by go_num, by omega, by rw [hsn.out, valF_snoc], ⟨by rw [hsn.out, List.all_append, hD.out]; simp [HDc.out]⟩⟩
        case measure => simp [intOf]; omega
      · have hbad : Aside0 (parseOk (bytesOf s) = false) := ⟨by
          rw [HP.out, ← hl.out]
          have : l.all isDigit = false := by
            rw [List.all_eq_false]
            exact ⟨c, List.mem_of_getElem? HCL.out, hd⟩
          rw [this]; rfl⟩
        have hd' : c < 48 ∨ 57 < c := by simp only [isDigit, Bool.and_eq_true, decide_eq_true_eq] at hd; omega
        clear hd
        rcases hd' with hd1 | hd1
        · go_wp2
          go_ret3
          exact ⟨by rw [parseK, parseN, hbad.out]; rfl, bytes_below (Below.refl _ _) (Nat.le_refl _) _ _⟩
        · have hd2 : 48 ≤ c := by omega
          go_wp2
          go_ret3
          exact ⟨by rw [parseK, parseN, hbad.out]; rfl, bytes_below (Below.refl _ _) (Nat.le_refl _) _ _⟩
    · have hje : Aside0 (l.take j = l) := ⟨List.take_of_length_le (by rw [HL.out]; omega)⟩
      rw [hje.out] at hD ⊢
      have hvb := valF_bound l (fun x hx => by
        have := List.all_eq_true.1 hD.out x hx
        simpa [isDigit] using this)
      have hv0 : 0 ≤ valF l := hvb.1
      clear hvb
      by_cases hv : valF l ≤ 2147483647
      · have hok : Aside0 (parseOk (bytesOf s) = true) := ⟨by rw [HP.out, ← hl.out, hD.out]; simp [hv]⟩
        go_wp2
        go_ret3
        exact ⟨by rw [parseK, parseN, hok.out, if_pos rfl, if_pos rfl, ← E0.out, ← hl.out]; rfl, bytes_below (Below.refl _ _) (Nat.le_refl _) _ _⟩
      · have hbad : Aside0 (parseOk (bytesOf s) = false) := ⟨by rw [HP.out, ← hl.out, hD.out]; simp [hv]⟩
        go_wp2
        go_ret3
        exact ⟨by rw [parseK, parseN, hbad.out]; rfl, bytes_below (Below.refl _ _) (Nat.le_refl _) _ _⟩

/-- manifest.Parse, whatever it is given. -/
theorem parse_any (s : ByteArray) (w : World) :
    Calls Try.prog 37 #[.string s] w fun e w' => e = .returned (.tuple #[.int .u8 (parseK (bytesOf s)), .int .i64 (parseN (bytesOf s)), .bool (parseOk (bytesOf s))]) ∧ Below w.heap.size w w' := by
  by_cases h : s.size < 2 ∨ 11 < s.size ∨ headOk (bytesOf s) = false
  · refine (parse_bad s w h).mono fun e w' ⟨he, hb⟩ => ⟨?_, hb⟩
    have hno : parseOk (bytesOf s) = false := by
      by_cases h12 : 2 ≤ s.size ∧ s.size ≤ 11
      · rw [parseOk_eq _ (by rw [bytesOf_length]; exact h12.1) (by rw [bytesOf_length]; exact h12.2), h.resolve_left (by omega) |>.resolve_left (by omega)]; rfl
      · unfold parseOk
        rw [bytesOf_length]
        by_cases h2 : 2 ≤ s.size
        · simp [show ¬ s.size ≤ 11 by omega]
        · simp [h2]
    rw [he, parseK, parseN, hno]; rfl
  · exact parse_walk s w (by omega) (by omega) (by simp only [not_or, Bool.not_eq_false] at h; exact h.2.2)

set_option maxRecDepth 100000 in
/-- the document's Name, of a kind or a number that may not be. -/
theorem refName_no (k id : Int) (w : World) (hn : nameOk k id = false) :
    Calls Try.prog 43 #[.int .u8 k, .int .i64 id] w fun e w' => e = .returned (.tuple #[.string ⟨#[]⟩, .int .i64 (nameE k id)]) ∧ w' = w := by
  by_cases hk : isKind k = true
  · have hid : id < 1 ∨ 2147483647 < id := by
      simp only [nameOk, hk, Bool.true_and, Bool.and_eq_false_iff, decide_eq_false_iff_not] at hn; omega
    have he : Aside0 (nameE k id = 4) := ⟨by simp [nameE, hk, hid]⟩
    have hk' := (isKind_iff k).1 hk
    clear hk hn
    rcases hid with h | h
    · rcases hk' with rfl | rfl | rfl
      all_goals
        go_enter Try.func43, Try.ntmps43
        go_wp2
        go_ret2
        exact ⟨by rw [he.out]; rfl, rfl⟩
    · have h' : ¬ id < 1 := by omega
      rcases hk' with rfl | rfl | rfl
      all_goals
        go_enter Try.func43, Try.ntmps43
        go_wp2
        go_ret2
        exact ⟨by rw [he.out]; rfl, rfl⟩
  · have he : Aside0 (nameE k id = 22) := ⟨by simp [nameE, hk]⟩
    have hk1 : (k == 109) = false := by simp [isKind] at hk; simp [hk]
    have hk2 : (k == 108) = false := by simp [isKind] at hk; simp [hk]
    have hk3 : (k == 116) = false := by simp [isKind] at hk; simp [hk]
    have hb1 : (k != 109) = true := by simp [bne, hk1]
    have hb2 : (k != 108) = true := by simp [bne, hk2]
    have hb3 : (k != 116) = true := by simp [bne, hk3]
    clear hk hn
    go_enter Try.func43, Try.ntmps43
    go_wp2
    go_ret2
    exact ⟨by rw [he.out]; rfl, rfl⟩

/-- the document's Name, whatever it is given. -/
theorem refName_any (k id : Int) (w : World) :
    Calls Try.prog 43 #[.int .u8 k, .int .i64 id] w fun e w' => e = .returned (.tuple #[.string (nameS k id), .int .i64 (nameE k id)]) ∧ Below w.heap.size w w' := by
  by_cases h : nameOk k id = true
  · have h' := h
    simp only [nameOk, Bool.and_eq_true, decide_eq_true_eq] at h'
    obtain ⟨⟨hk, h1⟩, h2⟩ := h'
    obtain ⟨n, rfl⟩ := Int.eq_ofNat_of_zero_le (show 0 ≤ id by omega)
    refine (refName_yes k n w (by omega) (by omega) ((isKind_iff k).1 hk)).mono fun e w' ⟨he, hb⟩ => ⟨?_, hb⟩
    rw [he, nameS, if_pos h, nameE, Int.toNat_natCast]
    simp [hk, show ¬ ((n : Int) < 1 ∨ 2147483647 < (n : Int)) by omega]
  · have h := Bool.eq_false_iff.2 h
    refine (refName_no k id w h).mono fun e w' ⟨he, hb⟩ => ⟨?_, by rw [hb]; exact Below.refl _ _⟩
    rw [he, nameS, if_neg (by simp [h])]

end Go.Proofs.Ytfakfgblaakgdaa.Names
