/- A part of the proof: Whole numbers as octets (chapter 1), on lists. No program. -/
import Derived.Lib.BitFns

/- Whole numbers as octets (chapter 1), on lists. No program. -/
namespace Go.Proofs.YteloamnakikbbaaDoor.VarPure
set_option linter.unusedVariables false
set_option linter.unusedSimpArgs false
open Go.Lib

theorem bitLen_ge {x k : Nat} (h : 2 ^ k ≤ x) (hx : x < 2 ^ 64) : k + 1 ≤ bitLen x := by
  have h1 := bitLen_shift k x h hx
  have h2 : x / 2 ^ k ≠ 0 := by
    have : 1 ≤ x / 2 ^ k := (Nat.le_div_iff_mul_le (Nat.two_pow_pos k)).2 (by omega)
    omega
  have h3 : x / 2 ^ k < 2 ^ 64 := Nat.lt_of_le_of_lt (Nat.div_le_self _ _) hx
  have h4 := bitLen_half (x / 2 ^ k) h2 h3
  omega
/-- how many octets -/
def sizeN (n : Nat) : Nat := min 9 (max 1 ((bitLen n + 6) / 7))
theorem sizeN_pos (n : Nat) : 1 ≤ sizeN n ∧ sizeN n ≤ 9 := by unfold sizeN; omega
theorem sizeN_lt {n k : Nat} (hk : 1 ≤ k) (hk8 : k ≤ 8) (h : n < 2 ^ (7 * k)) : sizeN n ≤ k := by
  have := bitLen_le n (7 * k) (by omega) h
  unfold sizeN; omega
theorem sizeN_gt {n k : Nat} (hk8 : k ≤ 8) (h : 2 ^ (7 * k) ≤ n) (hn : n < 2 ^ 64) : k + 1 ≤ sizeN n := by
  have := bitLen_ge h hn
  unfold sizeN; omega
/-- of k octets: the number's bounds -/
theorem sizeN_of {n k : Nat} (hn : n < 2 ^ 64) (hk : sizeN n = k) (hk8 : k ≤ 8) : n < 2 ^ (7 * k) := by
  rcases Nat.lt_or_ge n (2 ^ (7 * k)) with h | h
  · exact h
  · have := sizeN_gt hk8 h hn; omega

/-- k octets, the greatest first -/
def be : Nat → Nat → List Nat
  | 0, _ => []
  | k + 1, n => be k (n / 256) ++ [n % 256]
def val (l : List Nat) : Nat := l.foldl (fun a x => a * 256 + x) 0
theorem be_len : ∀ k n, (be k n).length = k
  | 0, _ => rfl
  | k + 1, n => by rw [be, List.length_append, be_len k]; rfl
theorem val_snoc (l : List Nat) (x : Nat) : val (l ++ [x]) = val l * 256 + x := by simp [val]
theorem val_be : ∀ k n, n < 256 ^ k → val (be k n) = n
  | 0, n, h => by simp at h; subst h; rfl
  | k + 1, n, h => by
    rw [be, val_snoc, val_be k (n / 256) (by rw [Nat.pow_succ] at h; exact Nat.div_lt_of_lt_mul (by rw [Nat.mul_comm]; exact h))]
    omega
abbrev Bytes (l : List Nat) : Prop := ∀ x ∈ l, x < 256
theorem be_bytes : ∀ k n, Bytes (be k n)
  | 0, _ => fun x hx => by simp [be] at hx
  | k + 1, n => by
    intro x hx
    rw [be] at hx
    rcases List.mem_append.1 hx with hx | hx
    · exact be_bytes k _ x hx
    · rw [List.mem_singleton.1 hx]; omega
theorem be_val : ∀ (k : Nat) (l : List Nat), l.length = k → Bytes l → be k (val l) = l
  | 0, l, h, _ => by rw [List.eq_nil_of_length_eq_zero h]; rfl
  | k + 1, l, h, hb => by
    rcases List.eq_nil_or_concat l with rfl | ⟨l', x, rfl⟩
    · simp at h
    · have hx : x < 256 := hb x (by simp)
      have h' : l'.length = k := by simpa using h
      rw [List.concat_eq_append, val_snoc, be, show (val l' * 256 + x) / 256 = val l' by omega, show (val l' * 256 + x) % 256 = x by omega, be_val k l' h' (fun y hy => hb y (by simp [hy]))]
theorem val_cons (b : Nat) (l : List Nat) : val (b :: l) = b * 256 ^ l.length + val l := by
  have h : ∀ (l : List Nat) (a : Nat), l.foldl (fun a x => a * 256 + x) a = a * 256 ^ l.length + val l := by
    intro l
    induction l with
    | nil => intro a; simp [val]
    | cons x l ih =>
      intro a
      have h1 : val (x :: l) = x * 256 ^ l.length + val l := by rw [val, List.foldl_cons, ih]; simp
      rw [List.foldl_cons, ih, h1, List.length_cons, Nat.pow_succ, Nat.add_mul, Nat.mul_assoc, Nat.mul_comm 256 (256 ^ l.length)]
      omega
  rw [val, List.foldl_cons, h]; simp
theorem val_lt : ∀ (l : List Nat), Bytes l → val l < 256 ^ l.length := by
  intro l
  induction l with
  | nil => intro _; simp [val]
  | cons b l ih =>
    intro h
    have h1 := ih (fun x hx => h x (by simp [hx]))
    have h2 := h b (by simp)
    rw [val_cons, List.length_cons, Nat.pow_succ]
    have : b * 256 ^ l.length ≤ 255 * 256 ^ l.length := Nat.mul_le_mul_right _ (by omega)
    omega

/-- the ones that tell how many octets follow -/
def mask (k : Nat) : Nat := 256 - 2 ^ (9 - k)
/-- the octets of a number -/
def putN (n : Nat) : List Nat := match be (sizeN n) n with | [] => [] | b :: r => (b + mask (sizeN n)) :: r
/-- the first octet's ones, in a row -/
def lead (b : Nat) : Nat := 8 - bitLen (255 - b)
/-- the number that octets begin with: it, how many octets, an error's number -/
def getN (l : List Nat) : Nat × Nat × Nat := match l with
  | [] => (0, 0, 8)
  | b :: r =>
    if r.length < lead b then (0, 0, 8)
    else
      let n := val (b % 2 ^ (7 - lead b) :: r.take (lead b))
      if sizeN n ≠ lead b + 1 then (0, 0, 4) else (n, lead b + 1, 0)
theorem lead_le (b : Nat) : lead b ≤ 8 := by unfold lead; omega
theorem lead_of {b k : Nat} (hk : 1 ≤ k) (hk8 : k ≤ 8) (hb : b < 2 ^ (8 - k)) : lead (b + mask k) = k - 1 := by
  obtain ⟨j, rfl⟩ : ∃ j, k = 8 - j := ⟨8 - k, by omega⟩
  have hj : j ≤ 7 := by omega
  have e1 : 8 - (8 - j) = j := by omega
  rw [e1] at hb
  have hm : mask (8 - j) = 256 - 2 ^ (j + 1) := by unfold mask; congr 2; omega
  have hp : 2 ^ (j + 1) ≤ 256 := by
    have : 2 ^ (j + 1) ≤ 2 ^ 8 := Nat.pow_le_pow_right (by omega) (by omega)
    simpa using this
  have hp2 : 2 ^ (j + 1) = 2 ^ j + 2 ^ j := by rw [Nat.pow_succ]; omega
  unfold lead
  rw [hm]
  have e2 : 255 - (b + (256 - 2 ^ (j + 1))) = 2 ^ (j + 1) - 1 - b := by omega
  rw [e2]
  have h1 : bitLen (2 ^ (j + 1) - 1 - b) ≤ j + 1 := bitLen_le _ _ (by omega) (by omega)
  have h2 : j + 1 ≤ bitLen (2 ^ (j + 1) - 1 - b) := bitLen_ge (by omega) (by omega)
  omega
theorem mask_mod {b k : Nat} (hk : 1 ≤ k) (hk8 : k ≤ 8) (hb : b < 2 ^ (8 - k)) : (b + mask k) % 2 ^ (8 - k) = b := by
  have : mask k = 2 ^ (8 - k) * (2 ^ k - 2) := by
    unfold mask
    rw [Nat.mul_sub, ← Nat.pow_add, show 8 - k + k = 8 by omega, show 9 - k = (8 - k) + 1 by omega, Nat.pow_succ]
  rw [this, Nat.add_mul_mod_self_left, Nat.mod_eq_of_lt hb]
/-- P1: a number comes back from its octets, whatever follows -/
theorem get_put {n : Nat} (hn : n < 2 ^ 56) (r : List Nat) : getN (putN n ++ r) = (n, (putN n).length, 0) ∧ Bytes (putN n) ∧ (putN n).length = sizeN n := by
  obtain ⟨k, hk⟩ : ∃ k, sizeN n = k := ⟨_, rfl⟩
  have hk1 : 1 ≤ k := by have := sizeN_pos n; omega
  have hk8 : k ≤ 8 := by have := sizeN_lt (n := n) (k := 8) (by omega) (by omega) (by simpa using hn); omega
  have hlt := sizeN_of (by omega) hk hk8
  obtain ⟨j, rfl⟩ : ∃ j, k = j + 1 := ⟨k - 1, by omega⟩
  have hbl := be_len (j + 1) n
  have h256 : n < 256 ^ (j + 1) := by
    refine Nat.lt_of_lt_of_le hlt ?_
    rw [show (256 : Nat) = 2 ^ 8 by rfl, ← Nat.pow_mul]
    exact Nat.pow_le_pow_right (by omega) (by omega)
  have hv := val_be (j + 1) n h256
  have hbb := be_bytes (j + 1) n
  rw [putN, hk]
  rcases hbe : be (j + 1) n with _ | ⟨b, t⟩
  · rw [hbe] at hbl; simp at hbl
  · rw [hbe] at hbl hv hbb
    have htl : t.length = j := by simpa using hbl
    rw [val_cons, htl] at hv
    have hb : b < 2 ^ (8 - (j + 1)) := by
      have h1 : b * 256 ^ j < 2 ^ (7 * (j + 1)) := by omega
      have h2 : 2 ^ (7 * (j + 1)) = 2 ^ (8 - (j + 1)) * 256 ^ j := by
        rw [show (256 : Nat) = 2 ^ 8 by rfl, ← Nat.pow_mul, ← Nat.pow_add]; congr 1; omega
      rw [h2] at h1
      exact Nat.lt_of_mul_lt_mul_right h1
    have hld := lead_of hk1 hk8 hb
    have hmd := mask_mod hk1 hk8 hb
    have hm256 : mask (j + 1) + 2 ^ (8 - (j + 1)) ≤ 256 := by
      unfold mask
      have : 2 ^ (9 - (j + 1)) = 2 ^ (8 - (j + 1)) + 2 ^ (8 - (j + 1)) := by rw [show 9 - (j + 1) = (8 - (j + 1)) + 1 by omega, Nat.pow_succ]; omega
      have h2 : 2 ^ (9 - (j + 1)) ≤ 2 ^ 8 := Nat.pow_le_pow_right (by omega) (by omega)
      have h3 : (2 : Nat) ^ 8 = 256 := rfl
      omega
    refine ⟨?_, ?_, by simp [htl]⟩
    · simp only [List.cons_append, getN]
      rw [hld, show j + 1 - 1 = j by omega, if_neg (by simp [htl]), List.take_append_of_le_length (by omega), List.take_of_length_le (by omega), show 7 - j = 8 - (j + 1) by omega, hmd, val_cons, htl, hv, hk, if_neg (by simp)]
      simp [htl]
    · intro x hx
      rcases List.mem_cons.1 hx with rfl | hx
      · omega
      · exact hbb x (by simp [hx])
theorem first_back : ∀ b : Fin 256, lead b.val ≤ 7 → b.val % 2 ^ (7 - lead b.val) + mask (lead b.val + 1) = b.val := by decide +kernel
/-- P1: what is read is built again of what was read -/
theorem put_get {l : List Nat} (hb : Bytes l) {n k : Nat} (h : getN l = (n, k, 0)) (hn : n < 2 ^ 56) : l = putN n ++ l.drop k ∧ k = (putN n).length ∧ k ≤ l.length ∧ 1 ≤ k := by
  rcases l with _ | ⟨b, r⟩
  · simp [getN] at h
  · rw [getN] at h
    by_cases h1 : r.length < lead b
    · rw [if_pos h1] at h; simp at h
    · rw [if_neg h1] at h
      by_cases h2 : sizeN (val (b % 2 ^ (7 - lead b) :: r.take (lead b))) ≠ lead b + 1
      · simp only [if_pos h2] at h; simp at h
      · simp only [if_neg h2] at h
        have h2 : sizeN (val (b % 2 ^ (7 - lead b) :: r.take (lead b))) = lead b + 1 := Decidable.not_not.1 h2
        obtain ⟨hn', hk, _⟩ := Prod.mk.inj h |>.1 ▸ (show val (b % 2 ^ (7 - lead b) :: r.take (lead b)) = n ∧ lead b + 1 = k ∧ True from ⟨(Prod.mk.inj h).1, (Prod.mk.inj (Prod.mk.inj h).2).1, trivial⟩)
        have hb0 : b < 256 := hb b (by simp)
        subst hk
        have hn2 := (Prod.mk.inj h).1
        have hs8 := sizeN_lt (n := n) (k := 8) (by omega) (by omega) (by simpa using hn)
        rw [hn2] at h2
        have hl7 : lead b ≤ 7 := by omega
        have hfb := first_back ⟨b, hb0⟩ hl7
        have hbytes : Bytes (b % 2 ^ (7 - lead b) :: r.take (lead b)) := fun x hx => by
          rcases List.mem_cons.1 hx with rfl | hx
          · have := Nat.mod_le b (2 ^ (7 - lead b)); omega
          · exact hb x (by simp [List.mem_of_mem_take hx])
        have hlen : (b % 2 ^ (7 - lead b) :: r.take (lead b)).length = lead b + 1 := by simp; omega
        have hbe := be_val _ _ hlen hbytes
        rw [hn2] at hbe
        have hp : putN n = b :: r.take (lead b) := by
          rw [putN, h2, hbe]
          simp only
          rw [hfb]
        refine ⟨?_, ?_, ?_, by omega⟩
        · rw [hp]; simp
        · rw [hp]; simp; omega
        · simp; omega
end Go.Proofs.YteloamnakikbbaaDoor.VarPure
