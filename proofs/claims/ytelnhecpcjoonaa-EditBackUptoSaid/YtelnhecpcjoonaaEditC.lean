/- The document's Check of chapter 11, walked. -/
import Derived.Test.YtelnhecpcjoonaaEditB
import Derived.Test.YtelnhecpcjoonaaWide
namespace Go.Proofs.Ytelnhecpcjoonaa.Edit
set_option linter.unusedVariables false
set_option linter.unusedSimpArgs false
open Go.RowKit Go.Proofs.YtelnhecpcjoonaaW.PrintWords Go.Proofs.YtelnhecpcjoonaaW.PrintLast Go.Proofs.Ytelnhecpcjoonaa.Base Go.Proofs.Ytelnhecpcjoonaa.EditPure Go.Proofs.Ytelnhecpcjoonaa.Sets Go.Proofs.Ytelnhecpcjoonaa.Wide

theorem refKey_any (s : ByteArray) (w : World) :
    Calls Try.prog 76 #[.string s] w fun e w' => e = .returned (.bool (keyOk s)) ∧ w = w' := by
  by_cases h1 : 1 ≤ s.size
  · by_cases h2 : s.size ≤ 96
    · have hw : Aside0 (keyOk s = true) := ⟨by simp [keyOk, h1, h2]⟩
      go_enter Try.func76, Try.ntmps76
      go_wp2
      go_ret
      exact ⟨by rw [hw.out]; simp; omega, rfl⟩
    · have hw : Aside0 (keyOk s = false) := ⟨by simp [keyOk, h2]⟩
      go_enter Try.func76, Try.ntmps76
      go_wp2
      go_ret
      exact ⟨by rw [hw.out]; simp; omega, rfl⟩
  · have hw : Aside0 (keyOk s = false) := ⟨by simp [keyOk, h1]⟩
    go_enter Try.func76, Try.ntmps76
    go_wp2
    go_ret
    exact ⟨by rw [hw.out]; rfl, rfl⟩

set_option maxRecDepth 100000 in
set_option maxHeartbeats 1000000 in
theorem refMay_any (m : Meta) (w : World) :
    Calls Try.prog 58 #[.agg m.cs.toArray] w fun e w' => e = .returned (.bool (mayM m)) ∧ ∃ o, w' = w.alloc o := by
  obtain ⟨a1, a2, a3, a4, a5⟩ := m
  simp only [Meta.cs]
  obtain ⟨r, hr⟩ := named (mayM ⟨a1, a2, a3, a4, a5⟩)
  rw [← hr.out]
  have hr1 : Aside0 (r = (decide (1 ≤ a1) && (decide (a1 ≤ 2147483647) && (decide (0 ≤ a2) && (decide (a2 ≤ 3) && (decide (1 ≤ a3) && (decide (a3 ≤ 4096) && (keyOk a4 && (keyOk a5 && !Op.bytesLess a5.toList a4.toList))))))))) := ⟨by rw [hr.out, mayM, within, within, within]; simp only [Bool.and_assoc]; rfl⟩
  go_enter Try.func58, Try.ntmps58
  go_wp2_with (go_at_call 76; refine (refKey_any _ _).mono ?_; rintro e w' ⟨rfl, rfl⟩)
  all_goals go_ret
  all_goals refine ⟨?_, _, rfl⟩
  all_goals rw [hr1.out]
  all_goals first | (simp [*, leq_bytes, -Bool.or_eq_true]; done) | (simp [*, leq_bytes, -Bool.or_eq_true]; intros; omega)

def befB (a b : Meta) : Bool := decide (ord a b < 0)
theorem befB_lev (a b : Meta) (h : a.level ≠ b.level) : befB a b = decide (a.level < b.level) := by
  unfold befB ord cmpI
  by_cases h1 : a.level < b.level
  · simp [h1]
  · have : b.level < a.level := by omega
    simp [h1, this]
theorem befB_zero (a b : Meta) (h : a.level = b.level) (h0 : a.level = 0) : befB a b = decide (b.id < a.id) := by
  have e : cmpI a.level b.level = 0 := by rw [h]; simp [cmpI]
  unfold befB ord
  rw [if_neg (by rw [e]; decide), if_pos (by rw [h0]; decide)]
  unfold cmpI
  by_cases h1 : b.id < a.id
  · simp [h1]
  · by_cases h2 : a.id < b.id <;> simp [h1, h2]
theorem befB_low (a b : Meta) (h : a.level = b.level) (h0 : a.level ≠ 0) : befB a b = sLt a.low b.low := by
  have e : cmpI a.level b.level = 0 := by rw [h]; simp [cmpI]
  unfold befB ord
  rw [if_neg (by rw [e]; decide), if_neg (by simpa using h0)]
  unfold cmpS
  cases h1 : sLt a.low b.low with
  | true => simp
  | false => by_cases h2 : sLt b.low a.low = true <;> simp [h2]

set_option maxRecDepth 100000 in
theorem before_any (a b : Meta) (w : World) :
    Calls Try.prog 57 #[.agg a.cs.toArray, .agg b.cs.toArray] w fun e w' => e = .returned (.bool (befB a b)) ∧ ∃ o1 o2, w' = (w.alloc o1).alloc o2 := by
  by_cases h : a.level = b.level
  · by_cases h2 : a.level = 0
    · have hw := Aside0.mk (befB_zero a b h h2)
      obtain ⟨a1, a2, a3, a4, a5⟩ := a
      obtain ⟨b1, b2, b3, b4, b5⟩ := b
      simp only [Meta.cs]
      simp only at h h2
      have h' : (a2 != b2) = false := by simp [h]
      have h2' : (a2 == 0) = true := by simp [h2]
      clear h h2
      go_enter Try.func57, Try.ntmps57
      go_wp2
      go_ret
      exact ⟨by rw [hw.out]; rfl, _, _, rfl⟩
    · have hw := Aside0.mk (befB_low a b h h2)
      obtain ⟨a1, a2, a3, a4, a5⟩ := a
      obtain ⟨b1, b2, b3, b4, b5⟩ := b
      simp only [Meta.cs]
      simp only at h h2
      have h' : (a2 != b2) = false := by simp [h]
      have h2' : (a2 == 0) = false := by simp [h2]
      clear h h2
      go_enter Try.func57, Try.ntmps57
      go_wp2
      go_ret
      exact ⟨by rw [hw.out]; rfl, _, _, rfl⟩
  · have hw := Aside0.mk (befB_lev a b h)
    obtain ⟨a1, a2, a3, a4, a5⟩ := a
    obtain ⟨b1, b2, b3, b4, b5⟩ := b
    simp only [Meta.cs]
    simp only at h
    have h' : (a2 != b2) = true := by simp [h]
    clear h
    go_enter Try.func57, Try.ntmps57
    go_wp2
    go_ret
    exact ⟨by rw [hw.out]; rfl, _, _, rfl⟩
end Go.Proofs.Ytelnhecpcjoonaa.Edit
