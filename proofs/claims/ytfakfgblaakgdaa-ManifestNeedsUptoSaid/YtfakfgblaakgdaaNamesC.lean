/- The document's Parse, walked; what is alive; the law ManifestNames. -/
import Derived.Test.YtfakfgblaakgdaaNamesB
namespace Go.Proofs.Ytfakfgblaakgdaa.Names
set_option linter.unusedVariables false
open Go.RowKit Go.Proofs.YtfakfgblaakgdaaW.PrintWords Go.Proofs.YtfakfgblaakgdaaW.PrintLast Go.Proofs.Ytfakfgblaakgdaa.NamesPure Go.Proofs.Ytfakfgblaakgdaa.Base

theorem bytes_strOf (xs : List Int) (h : ∀ c ∈ xs, 0 ≤ c ∧ c ≤ 255) : bytesOf (strOfNums xs) = xs := by
  unfold bytesOf strOfNums
  simp only [List.map_map]
  conv => rhs; rw [← List.map_id xs]
  refine List.map_congr_left fun c hc => ?_
  have := h c hc
  simp only [Function.comp, id]
  rw [UInt8.toNat_ofNat']
  omega
theorem toList_inj {a b : ByteArray} (h : a.toList = b.toList) : a = b := by
  rw [ByteArray.toList_eq, ByteArray.toList_eq] at h
  rw [ByteArray.ext_iff]
  exact Array.toList_inj.1 h
theorem strOf_bytes (s : ByteArray) : strOfNums (bytesOf s) = s := by
  unfold bytesOf strOfNums
  rw [ByteArray.ext_iff]
  simp only [List.map_map]
  have : ((fun n : Int => UInt8.ofNat n.toNat) ∘ fun b : UInt8 => (b.toNat : Int)) = id := by
    funext b; simp [Function.comp]
  rw [this, List.map_id]

theorem nameL_range (k : Int) (n : Nat) (h0 : 0 ≤ k) (h1 : k ≤ 255) : ∀ c ∈ nameL k n, 0 ≤ c ∧ c ≤ 255 := by
  intro c hc
  rcases List.mem_cons.1 hc with rfl | hc
  · exact ⟨h0, h1⟩
  · have := digs_range n c (by simpa using hc); omega

/-- the document's way to tell a name: it is the name of what its digits say -/
theorem parse_iff (s : ByteArray) (h1 : 2 ≤ s.size) (h2 : s.size ≤ 11) (hd : ((bytesOf s).drop 1).all isDigit = true) :
    parseOk (bytesOf s) = true ↔ (nameE ((bytesOf s).getD 0 0) (valF ((bytesOf s).drop 1)) = 0 ∧ nameS ((bytesOf s).getD 0 0) (valF ((bytesOf s).drop 1)) = s) := by
  constructor
  · intro h
    have hn := name_parse _ h
    have eK : parseK (bytesOf s) = (bytesOf s).getD 0 0 := by rw [parseK, if_pos h]
    have eN : parseN (bytesOf s) = valF ((bytesOf s).drop 1) := by rw [parseN, if_pos h]
    rw [eK, eN] at hn
    obtain ⟨ha, hb, hc, hd'⟩ := hn
    refine ⟨by rw [nameE, hb, if_neg (by simp), if_neg (by omega)], ?_⟩
    rw [nameS, if_pos (by rw [nameOk, hb, decide_eq_true hc, decide_eq_true hd']; rfl), ha, strOf_bytes]
  · rintro ⟨he, hs⟩
    have hok : nameOk ((bytesOf s).getD 0 0) (valF ((bytesOf s).drop 1)) = true := by
      by_cases h : nameOk ((bytesOf s).getD 0 0) (valF ((bytesOf s).drop 1)) = true
      · exact h
      · rw [nameS, if_neg h] at hs
        rw [← hs] at h1
        exact absurd h1 (by decide)
    have hok' := hok
    simp only [nameOk, Bool.and_eq_true, decide_eq_true_eq] at hok'
    rw [nameS, if_pos hok] at hs
    have h0 : 0 ≤ (bytesOf s).getD 0 0 ∧ (bytesOf s).getD 0 0 ≤ 255 := by
      have := (isKind_iff _).1 hok'.1.1
      omega
    have hb := bytes_strOf (nameL ((bytesOf s).getD 0 0) (valF ((bytesOf s).drop 1)).toNat) (nameL_range _ _ h0.1 h0.2)
    rw [hs] at hb
    have := parse_name ((bytesOf s).getD 0 0) (valF ((bytesOf s).drop 1)).toNat hok'.1.1 (by omega) (by omega)
    rw [← hb] at this
    exact this.1

set_option maxRecDepth 100000 in
set_option maxHeartbeats 1000000 in
theorem refParse_walk (s : ByteArray) (w : World) (h1 : 2 ≤ s.size) (h2 : s.size ≤ 11) :
    Calls Try.prog 16 #[.string s] w fun e w' => e = .returned (.tuple #[.int .u8 (parseK (bytesOf s)), .int .i64 (parseN (bytesOf s)), .bool (parseOk (bytesOf s))]) ∧ Below w.heap.size w w' := by
  have i0 : 0 < s.size := by omega
  have E0 := Aside0.mk (byte_get s 0 i0)
  obtain ⟨l, hl⟩ := named ((bytesOf s).drop 1)
  have hlen : l.length = s.size - 1 := by rw [hl.out, List.length_drop, bytesOf_length]
  have hlr : ∀ c ∈ l, 0 ≤ c ∧ c ≤ 255 := fun c hc => byte_range s c (List.mem_of_mem_drop (hl.out ▸ hc))
  have HL := Aside0.mk hlen
  have HR := Aside0.mk hlr
  clear hlen hlr
  go_enter Try.func16, Try.ntmps16
  go_wp2
  go_loop [5, 6] (fun v i => ∃ j : Nat, i = .int .i64 ((j : Int) + 1) ∧ j ≤ s.size - 1 ∧ v = .int .i64 (valF (l.take j)) ∧ Aside0 ((l.take j).all isDigit = true)) (fun _ i => s.size - (intOf i).toNat)
  case atStart => exact ⟨0, rfl, Nat.zero_le _, rfl, ⟨rfl⟩⟩
  case round =>
    obtain ⟨j, rfl, hj, rfl, hD⟩ := hrel
    by_cases hlt : j < s.size - 1
    · have hjs : j + 1 < s.size := by omega
      have hjs' : (j : Int) + 1 < s.size := by omega
      have hcl : l[j]? = some ((s[j + 1].toNat : Int)) := by
        rw [byte_get s (j + 1) hjs, hl.out, List.getElem?_drop, List.getD_eq_getElem?_getD, Nat.add_comm 1 j, List.getElem?_eq_getElem (by rw [bytesOf_length]; exact hjs)]; rfl
      have hc255 : (s[j + 1].toNat : Int) ≤ 255 := by have := s[j + 1].toNat_lt; omega
      have HCL := Aside0.mk hcl
      clear hcl
      have hvb := valF_bound (l.take j) (fun x hx => by
        have := List.all_eq_true.1 hD.out x hx
        simpa [isDigit] using this)
      have hv0 : 0 ≤ valF (l.take j) := hvb.1
      have hv1 : valF (l.take j) < 10000000000 := by
        have h3 : (10 : Int) ^ (l.take j).length ≤ 10 ^ 10 := by
          have : (l.take j).length ≤ 10 := by rw [List.length_take]; omega
          exact_mod_cast Nat.pow_le_pow_right (by decide : 0 < 10) this
        have := hvb.2
        omega
      clear hvb
      have hsn : Aside0 (l.take (j + 1) = l.take j ++ [(s[j + 1].toNat : Int)]) := ⟨by rw [List.take_add_one, HCL.out]; rfl⟩
      by_cases hd : isDigit (s[j + 1].toNat : Int) = true
      · have hd' := hd
        simp only [isDigit, Bool.and_eq_true, decide_eq_true_eq] at hd'
        have hd1 : 48 ≤ (s[j + 1].toNat : Int) := hd'.1
        have hd2 : (s[j + 1].toNat : Int) ≤ 57 := hd'.2
        have HDc := Aside0.mk hd
        clear hd hd'
        go_wp2
        go_round
        case rel => exact ⟨j + 1, by go_num, by omega, by rw [hsn.out, valF_snoc], ⟨by rw [hsn.out, List.all_append, hD.out]; simp only [List.all_cons, List.all_nil, HDc.out]; rfl⟩⟩
        case measure => simp [intOf]; omega
      · have hbad : Aside0 (parseOk (bytesOf s) = false) := ⟨by
          rw [parseOk_eq (bytesOf s) (by rw [bytesOf_length]; omega) (by rw [bytesOf_length]; omega), ← hl.out]
          have : l.all isDigit = false := by
            rw [List.all_eq_false]
            exact ⟨_, List.mem_of_getElem? HCL.out, hd⟩
          rw [this, Bool.false_and, Bool.and_false]⟩
        have hd' : (s[j + 1].toNat : Int) < 48 ∨ 57 < (s[j + 1].toNat : Int) := by simp only [isDigit, Bool.and_eq_true, decide_eq_true_eq] at hd; omega
        clear hd
        rcases hd' with hd1 | hd1
        · go_wp2
          go_ret3
          exact ⟨by rw [parseK, parseN, hbad.out]; rfl, Below.refl _ _⟩
        · have hd2 : 48 ≤ (s[j + 1].toNat : Int) := by omega
          go_wp2
          go_ret3
          exact ⟨by rw [parseK, parseN, hbad.out]; rfl, Below.refl _ _⟩
    · have hje : Aside0 (l.take j = l) := ⟨List.take_of_length_le (by rw [HL.out]; omega)⟩
      rw [hje.out] at hD ⊢
      have hP := parse_iff s h1 h2 (by rw [← hl.out]; exact hD.out)
      rw [← hl.out, ← E0.out] at hP
      obtain ⟨nm, hnm⟩ := named (nameS (s[0].toNat : Int) (valF l))
      obtain ⟨er, her⟩ := named (nameE (s[0].toNat : Int) (valF l))
      rw [← hnm.out, ← her.out] at hP
      by_cases hok : parseOk (bytesOf s) = true
      · obtain ⟨hp1, hp2⟩ := hP.1 hok
        have HOK := Aside0.mk hok
        clear hP hok
        have he1 : (er != 0) = false := by simp [hp1]
        have he2 : (nm.toList == s.toList) = true := by simp [hp2]
        clear hp1 hp2
        go_wp2_with (go_at_call 43; refine (refName_any _ _ _).mono ?_; rw [← hnm.out, ← her.out]; rintro e w1 ⟨rfl, hb1⟩)
        go_ret3
        exact ⟨by rw [parseK, parseN, HOK.out, if_pos rfl, if_pos rfl, ← E0.out, ← hl.out]; rfl, hb1⟩
      · have hno := Bool.eq_false_iff.2 hok
        have HNO := Aside0.mk hno
        by_cases he : er = 0
        · have he1 : (er != 0) = false := by simp [he]
          have he2 : (nm.toList == s.toList) = false := by
            rw [beq_eq_false_iff_ne]
            intro h
            exact hok (hP.2 ⟨he, toList_inj h⟩)
          clear hP hok hno he
          go_wp2_with (go_at_call 43; refine (refName_any _ _ _).mono ?_; rw [← hnm.out, ← her.out]; rintro e w1 ⟨rfl, hb1⟩)
          go_ret3
          exact ⟨by rw [parseK, parseN, HNO.out]; rfl, hb1⟩
        · have he1 : (er != 0) = true := by simp [he]
          clear hP hok hno he
          go_wp2_with (go_at_call 43; refine (refName_any _ _ _).mono ?_; rw [← hnm.out, ← her.out]; rintro e w1 ⟨rfl, hb1⟩)
          go_ret3
          exact ⟨by rw [parseK, parseN, HNO.out]; rfl, hb1⟩

/-- the document's Parse, whatever it is given. -/
theorem refParse_any (s : ByteArray) (w : World) :
    Calls Try.prog 16 #[.string s] w fun e w' => e = .returned (.tuple #[.int .u8 (parseK (bytesOf s)), .int .i64 (parseN (bytesOf s)), .bool (parseOk (bytesOf s))]) ∧ Below w.heap.size w w' := by
  by_cases h : 2 ≤ s.size ∧ s.size ≤ 11
  · exact refParse_walk s w h.1 h.2
  · have hno : Aside0 (parseOk (bytesOf s) = false) := ⟨by
      unfold parseOk
      rw [bytesOf_length]
      by_cases h2 : 2 ≤ s.size
      · simp [show ¬ s.size ≤ 11 by omega]
      · simp [h2]⟩
    by_cases h1 : s.size < 2
    · clear h
      go_enter Try.func16, Try.ntmps16
      go_wp2
      go_ret3
      exact ⟨by rw [parseK, parseN, hno.out]; rfl, Below.refl _ _⟩
    · have h2 : 11 < s.size := by omega
      clear h
      go_enter Try.func16, Try.ntmps16
      go_wp2
      go_ret3
      exact ⟨by rw [parseK, parseN, hno.out]; rfl, Below.refl _ _⟩

theorem num_any (n : Int) (w : World) : Calls Try.prog 15 #[.int .i64 n] w fun e w' => e = .returned (.int .i64 n) ∧ w' = w := by
  go_enter Try.func15, Try.ntmps15
  go_wp2
  go_ret
  exact ⟨rfl, rfl⟩

/-- the page's example is alive. -/
theorem alive_any (w : World) : Calls Try.prog 10 #[] w fun e w' => e = .returned (.bool true) ∧ Below w.heap.size w w' := by
  have n1 : Aside0 (nameS 116 12 = ⟨#[116, 49, 50]⟩) := ⟨by decide +kernel⟩
  have n2 : Aside0 (nameE 116 12 = 0) := ⟨by decide +kernel⟩
  have p1 : Aside0 (parseOk (bytesOf ⟨#[116, 48, 49, 50]⟩) = false) := ⟨by decide +kernel⟩
  have p2 : Aside0 (parseOk (bytesOf ⟨#[116, 49, 50]⟩) = true) := ⟨by decide +kernel⟩
  have p3 : Aside0 (parseK (bytesOf ⟨#[116, 49, 50]⟩) = 116) := ⟨by decide +kernel⟩
  have p4 : Aside0 (parseN (bytesOf ⟨#[116, 49, 50]⟩) = 12) := ⟨by decide +kernel⟩
  go_enter Try.func10, Try.ntmps10
  go_wp2_with fail
  refine (name_any 116 12 _ (by omega) (by omega)).mono ?_
  rw [n1.out, n2.out]
  rintro e w1 ⟨rfl, hb1⟩
  go_wp2_with fail
  refine (parse_any _ _).mono ?_
  rw [p1.out]
  rintro e w2 ⟨rfl, hb2⟩
  go_wp2_with fail
  refine (parse_any _ _).mono ?_
  rw [p2.out, p3.out, p4.out]
  rintro e w3 ⟨rfl, hb3⟩
  go_wp2_with (go_at_call 15; refine (num_any _ _).mono ?_; rintro e w4 ⟨rfl, rfl⟩)
  go_ret
  exact ⟨rfl, bthen (bthen hb1 hb2) hb3⟩
end Go.Proofs.Ytfakfgblaakgdaa.Names
