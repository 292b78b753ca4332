/- Numbers as decimal digits and the names of chapter 14, in plain Lean: no program. -/
import Derived.Test.YtfakfgblaakgdaaBase
namespace Go.Proofs.Ytfakfgblaakgdaa.NamesPure
open Go.RowKit Go.Proofs.YtfakfgblaakgdaaW.PrintWords Go.Proofs.Ytfakfgblaakgdaa.Base

/-- decimal digits as octets, the least first -/
def digs (n : Nat) : List Int := if _h : n = 0 then [] else (48 + (n % 10 : Nat) : Int) :: digs (n / 10)
decreasing_by omega

theorem digs_zero : digs 0 = [] := by rw [digs]; simp
theorem digs_pos {n : Nat} (h : 0 < n) : digs n = (48 + (n % 10 : Nat) : Int) :: digs (n / 10) := by rw [digs]; rw [dif_neg (by omega)]

theorem digs_range : ∀ (n : Nat), ∀ c ∈ digs n, 48 ≤ c ∧ c ≤ 57 := by
  intro n
  induction n using Nat.strongRecOn with
  | _ n ih =>
    intro c hc
    by_cases h : n = 0
    · subst h; simp [digs_zero] at hc
    · rw [digs_pos (by omega)] at hc
      rcases List.mem_cons.1 hc with rfl | hc
      · omega
      · exact ih (n / 10) (by omega) c hc

/-- the value of digits, the least first -/
def valR : List Int → Int
  | [] => 0
  | c :: l => 10 * valR l + (c - 48)

theorem valR_digs (n : Nat) : valR (digs n) = n := by
  induction n using Nat.strongRecOn with
  | _ n ih =>
    by_cases h : n = 0
    · subst h; simp [digs_zero, valR]
    · rw [digs_pos (by omega), valR, ih (n / 10) (by omega)]; omega

theorem valR_nonneg : ∀ (l : List Int), (∀ c ∈ l, 48 ≤ c ∧ c ≤ 57) → 0 ≤ valR l
  | [], _ => by simp [valR]
  | c :: l, h => by
    have := valR_nonneg l (fun x hx => h x (List.mem_cons_of_mem _ hx))
    have := h c (List.mem_cons_self)
    rw [valR]; omega

/-- digits whose last (greatest) one is no nought are those of their value -/
theorem digs_valR : ∀ (l : List Int), (∀ c ∈ l, 48 ≤ c ∧ c ≤ 57) → (∀ c, l.getLast? = some c → c ≠ 48) → digs (valR l).toNat = l
  | [], _, _ => by simp [valR, digs_zero]
  | [c], h, h2 => by
    have h3 := h c (List.mem_cons_self)
    have h4 := h2 c rfl
    simp only [valR]
    rw [digs_pos (by omega)]
    have e : ((10 * 0 + (c - 48)).toNat / 10) = 0 := by omega
    rw [e, digs_zero]
    congr 1
    omega
  | c :: d :: l, h, h2 => by
    have hl := valR_nonneg (d :: l) (fun x hx => h x (List.mem_cons_of_mem _ hx))
    have hc := h c (List.mem_cons_self)
    have ih := digs_valR (d :: l) (fun x hx => h x (List.mem_cons_of_mem _ hx)) (fun x hx => h2 x (by rw [List.getLast?_cons_cons]; exact hx))
    have hpos : 0 < valR (d :: l) := by
      rcases Int.lt_or_eq_of_le hl with h | h
      · exact h
      · rw [← h] at ih; simp [digs_zero] at ih
    rw [valR, digs_pos (by omega)]
    have e : ((10 * valR (d :: l) + (c - 48)).toNat / 10) = (valR (d :: l)).toNat := by omega
    rw [e, ih]
    congr 1
    omega

/-- the value of digits, the greatest first, as a loop goes -/
def valF (l : List Int) : Int := l.foldl (fun a c => 10 * a + (c - 48)) 0

theorem valF_snoc (l : List Int) (c : Int) : valF (l ++ [c]) = 10 * valF l + (c - 48) := by simp [valF]
theorem valF_eq (l : List Int) : valF l = valR l.reverse := by
  induction l using snocInd with
  | h0 => rfl
  | h1 l c ih => rw [valF_snoc, List.reverse_append]; simp [valR, ih]
theorem valF_bound (l : List Int) (h : ∀ c ∈ l, 48 ≤ c ∧ c ≤ 57) : 0 ≤ valF l ∧ valF l < 10 ^ l.length := by
  induction l using snocInd with
  | h0 => simp [valF]
  | h1 l c ih =>
    have ih := ih (fun x hx => h x (by simp [hx]))
    have hc := h c (by simp)
    rw [valF_snoc, List.length_append, List.length_singleton, Int.pow_succ]
    omega

/-- is it an octet that begins a name -/
def isKind (k : Int) : Bool := k == 109 || k == 108 || k == 116

/-- a name's octets -/
def nameL (k : Int) (n : Nat) : List Int := k :: (digs n).reverse

def nameOk (k id : Int) : Bool := isKind k && decide (1 ≤ id) && decide (id ≤ 2147483647)
def nameS (k id : Int) : ByteArray := if nameOk k id then strOfNums (nameL k id.toNat) else ⟨#[]⟩
def nameE (k id : Int) : Int := if !isKind k then 22 else if id < 1 ∨ 2147483647 < id then 4 else 0

/-- do octets make a name -/
def parseOk (l : List Int) : Bool :=
  decide (2 ≤ l.length) && decide (l.length ≤ 11) && isKind (l.getD 0 0) && (l.getD 1 0 != 48) && (l.drop 1).all (fun c => decide (48 ≤ c) && decide (c ≤ 57)) && decide (valF (l.drop 1) ≤ 2147483647)
def parseK (l : List Int) : Int := if parseOk l then l.getD 0 0 else 0
def parseN (l : List Int) : Int := if parseOk l then valF (l.drop 1) else 0

theorem digs_len_le : ∀ (k n : Nat), n < 10 ^ k → (digs n).length ≤ k := by
  intro k
  induction k with
  | zero => intro n h; obtain rfl : n = 0 := by omega
            simp [digs_zero]
  | succ k ih =>
    intro n h
    by_cases h0 : n = 0
    · subst h0; simp [digs_zero]
    · rw [digs_pos (by omega), List.length_cons]
      have := ih (n / 10) (by rw [Nat.pow_succ] at h; omega)
      omega

theorem digs_last : ∀ (n : Nat) (c : Int), (digs n).getLast? = some c → c ≠ 48 := by
  intro n
  induction n using Nat.strongRecOn with
  | _ n ih =>
    intro c hc
    by_cases h : n = 0
    · subst h; simp [digs_zero] at hc
    · rw [digs_pos (by omega)] at hc
      by_cases h1 : n / 10 = 0
      · rw [h1, digs_zero] at hc
        simp at hc
        omega
      · have ih := ih (n / 10) (by omega) c
        have hd := digs_pos (n := n / 10) (by omega)
        rw [hd, List.getLast?_cons_cons, ← hd] at hc
        exact ih hc

theorem digs_ne_nil {n : Nat} (h : 0 < n) : digs n ≠ [] := by rw [digs_pos h]; simp

/-- a name says what it was made of -/
theorem parse_name (k : Int) (n : Nat) (hk : isKind k = true) (h1 : 1 ≤ n) (h2 : n ≤ 2147483647) :
    parseOk (nameL k n) = true ∧ parseK (nameL k n) = k ∧ parseN (nameL k n) = n := by
  have hl : (digs n).length ≤ 10 := digs_len_le 10 n (by omega)
  have hne := digs_ne_nil (n := n) (by omega)
  have hpos : 0 < (digs n).length := List.length_pos_iff.2 hne
  have hv : valF (digs n).reverse = n := by rw [valF_eq, List.reverse_reverse, valR_digs]
  have hd : (nameL k n).drop 1 = (digs n).reverse := rfl
  have h0 : (nameL k n).getD 0 0 = k := rfl
  have hg : (nameL k n).getD 1 0 ≠ 48 := by
    have : (nameL k n).getD 1 0 = (digs n).reverse.getD 0 0 := rfl
    rw [this]
    have hh : (digs n).reverse.head? = (digs n).getLast? := List.head?_reverse
    cases hrev : (digs n).reverse with
    | nil => simp at hrev; exact absurd hrev hne
    | cons c l =>
      rw [hrev] at hh
      simp only [List.getD_cons_zero]
      exact digs_last n c hh.symm
  have hok : parseOk (nameL k n) = true := by
    unfold parseOk
    rw [hd, h0, hv, hk]
    have ha : (digs n).reverse.all (fun c => decide (48 ≤ c) && decide (c ≤ 57)) = true := by
      rw [List.all_eq_true]
      intro c hc
      have := digs_range n c (by simpa using hc)
      simp [this]
    rw [ha]
    have hlen : (nameL k n).length = (digs n).length + 1 := by simp [nameL]
    simp only [hlen, bne_iff_ne, ne_eq, hg, not_false_eq_true, Bool.and_true, Bool.and_eq_true, decide_eq_true_eq]
    refine ⟨⟨⟨by omega, by omega⟩, by simp⟩, by omega⟩
  exact ⟨hok, by rw [parseK, if_pos hok, h0], by rw [parseN, if_pos hok, hd, hv]⟩

/-- octets that make a name are the name of what they say -/
theorem name_parse (l : List Int) (h : parseOk l = true) : nameL (parseK l) (parseN l).toNat = l ∧ isKind (parseK l) = true ∧ 1 ≤ parseN l ∧ parseN l ≤ 2147483647 := by
  have h' := h
  unfold parseOk at h
  simp only [Bool.and_eq_true, decide_eq_true_eq, bne_iff_ne, ne_eq, List.all_eq_true] at h
  obtain ⟨⟨⟨⟨⟨h2, h11⟩, hk⟩, hz⟩, hd⟩, hv⟩ := h
  have eK : parseK l = l.getD 0 0 := by rw [parseK, if_pos h']
  have eN : parseN l = valF (l.drop 1) := by rw [parseN, if_pos h']
  match l, h2 with
  | a :: b :: l, _ =>
    simp only [List.drop_succ_cons, List.drop_zero, List.getD_cons_zero] at hd hv eK eN hk
    have hb : b ≠ 48 := by simpa using hz
    have hdg : digs (valR (b :: l).reverse).toNat = (b :: l).reverse := digs_valR _ (fun c hc => hd c (List.mem_reverse.1 hc)) (fun c hc => by
      rw [List.getLast?_reverse] at hc; simp at hc; rw [← hc]; exact hb)
    have hpos : 1 ≤ valF (b :: l) := by
      rw [valF_eq]
      have h0 := valR_nonneg (b :: l).reverse (fun c hc => hd c (List.mem_reverse.1 hc))
      rcases Int.lt_or_eq_of_le h0 with h | h
      · omega
      · rw [← h] at hdg; simp [digs_zero] at hdg
    refine ⟨?_, by rw [eK]; exact hk, by rw [eN]; exact hpos, by rw [eN]; exact hv⟩
    rw [eK, eN, nameL, valF_eq, hdg, List.reverse_reverse]

/-- a list turned round by i exchanges from both ends -/
def revTo (l : List Int) (i : Nat) : List Int := (List.range l.length).map fun j => if j < i ∨ l.length - i ≤ j then l.getD (l.length - 1 - j) 0 else l.getD j 0
theorem revTo_length (l : List Int) (i : Nat) : (revTo l i).length = l.length := by simp [revTo]
theorem revTo_get (l : List Int) (i j : Nat) (h : j < l.length) : (revTo l i)[j]? = some (if j < i ∨ l.length - i ≤ j then l.getD (l.length - 1 - j) 0 else l.getD j 0) := by
  simp [revTo, List.getElem?_map, List.getElem?_range h]
theorem revTo_zero (l : List Int) : revTo l 0 = l := by
  refine List.ext_getElem? fun j => ?_
  by_cases h : j < l.length
  · rw [revTo_get l 0 j h, if_neg (by omega)]
    simp [List.getD_eq_getElem?_getD, List.getElem?_eq_getElem h]
  · rw [List.getElem?_eq_none (by rw [revTo_length]; omega), List.getElem?_eq_none (by omega)]
theorem revTo_end (l : List Int) (i : Nat) (h : l.length ≤ 2 * i + 1) : revTo l i = l.reverse := by
  refine List.ext_getElem? fun j => ?_
  by_cases hj : j < l.length
  · rw [revTo_get l i j hj, List.getElem?_reverse hj]
    have e : (if j < i ∨ l.length - i ≤ j then l.getD (l.length - 1 - j) 0 else l.getD j 0) = l.getD (l.length - 1 - j) 0 := by
      split
      · rfl
      · congr 1; omega
    rw [e, List.getD_eq_getElem?_getD, List.getElem?_eq_getElem (show l.length - 1 - j < l.length by omega)]
    rfl
  · rw [List.getElem?_eq_none (by rw [revTo_length]; omega), List.getElem?_eq_none (by simp; omega)]
theorem revTo_step (l : List Int) (i : Nat) (h : 2 * i + 1 < l.length) :
    ((revTo l i).set i (rd (revTo l i) ((l.length - 1 - i : Nat) : Int))).set (l.length - 1 - i) (rd (revTo l i) (i : Int)) = revTo l (i + 1) := by
  have r1 : rd (revTo l i) ((l.length - 1 - i : Nat) : Int) = l.getD (l.length - 1 - i) 0 := by
    rw [rd, Int.toNat_natCast, List.getD_eq_getElem?_getD, revTo_get l i _ (by omega), if_neg (by omega)]; rfl
  have r2 : rd (revTo l i) (i : Int) = l.getD i 0 := by
    rw [rd, Int.toNat_natCast, List.getD_eq_getElem?_getD, revTo_get l i _ (by omega), if_neg (by omega)]; rfl
  rw [r1, r2]
  refine List.ext_getElem? fun j => ?_
  by_cases hj : j < l.length
  · rw [revTo_get l (i + 1) j hj, List.getElem?_set, List.getElem?_set, List.length_set, revTo_length, revTo_get l i j hj]
    by_cases h1 : l.length - 1 - i = j
    · rw [if_pos h1, if_pos (by omega), if_pos (by omega)]
      congr 2; omega
    · rw [if_neg h1]
      by_cases h2 : i = j
      · rw [if_pos h2, if_pos (by omega), if_pos (by omega)]
        congr 2; omega
      · rw [if_neg h2]
        by_cases h3 : j < i ∨ l.length - i ≤ j
        · rw [if_pos h3, if_pos (by omega)]
        · rw [if_neg h3, if_neg (by omega)]
  · rw [List.getElem?_eq_none (by rw [List.length_set, List.length_set, revTo_length]; omega), List.getElem?_eq_none (by rw [revTo_length]; omega)]

end Go.Proofs.Ytfakfgblaakgdaa.NamesPure
