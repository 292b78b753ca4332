/- The leaves of chapter 11, walked: comparing, the order of tables, may a table be. -/
import Derived.Test.YtelnhecpcjoonaaEditPure
import Derived.Test.YtelnhecpcjoonaaProg
import Derived.WalkKit
import Derived.WalkLawsBesides
import Derived.KernelRfl
import Derived.Deep.QuietTactic
import Derived.BigQuiet
namespace Go.Proofs.Ytelnhecpcjoonaa.Edit
set_option linter.unusedVariables false
set_option linter.unusedSimpArgs false
open Go.RowKit Go.Proofs.YtelnhecpcjoonaaW.PrintWords Go.Proofs.YtelnhecpcjoonaaW.PrintLast Go.Proofs.Ytelnhecpcjoonaa.Base Go.Proofs.Ytelnhecpcjoonaa.EditPure

theorem within_any (n lo hi : Int) (w : World) :
    Calls Try.prog 54 #[.int .i64 n, .int .i64 lo, .int .i64 hi] w fun e w' => e = .returned (.bool (within n lo hi)) ∧ w = w' := by
  by_cases h : lo ≤ n
  · have hw : Aside0 (within n lo hi = decide (n ≤ hi)) := ⟨by simp [within, h]⟩
    go_enter Try.func54, Try.ntmps54
    go_wp2
    go_ret
    exact ⟨by rw [hw.out]; rfl, rfl⟩
  · have hw : Aside0 (within n lo hi = false) := ⟨by simp [within, h]⟩
    go_enter Try.func54, Try.ntmps54
    go_wp2
    go_ret
    exact ⟨by rw [hw.out]; rfl, rfl⟩

theorem isNaNI_any (n : Int) (w : World) :
    Calls Try.prog 86 #[.int .i64 n] w fun e w' => e = .returned (.bool false) ∧ w = w' := by
  go_enter Try.func86, Try.ntmps86
  go_wp2
  go_ret
  exact ⟨by simp, rfl⟩

theorem cmpI_any (a b : Int) (w : World) :
    Calls Try.prog 73 #[.int .i64 a, .int .i64 b] w fun e w' => e = .returned (.int .i64 (cmpI a b)) ∧ w = w' := by
  by_cases h : a < b
  · have hw : Aside0 (cmpI a b = -1) := ⟨by simp [cmpI, h]⟩
    go_enter Try.func73, Try.ntmps73
    go_wp2_with (go_at_call 86; refine (isNaNI_any _ _).mono ?_; rintro e w' ⟨rfl, rfl⟩)
    go_ret
    exact ⟨by rw [hw.out]; rfl, rfl⟩
  · by_cases h2 : b < a
    · have hw : Aside0 (cmpI a b = 1) := ⟨by simp [cmpI, h, h2]⟩
      go_enter Try.func73, Try.ntmps73
      go_wp2_with (go_at_call 86; refine (isNaNI_any _ _).mono ?_; rintro e w' ⟨rfl, rfl⟩)
      go_ret
      exact ⟨by rw [hw.out]; rfl, rfl⟩
    · have hw : Aside0 (cmpI a b = 0) := ⟨by simp [cmpI, h, h2]⟩
      go_enter Try.func73, Try.ntmps73
      go_wp2_with (go_at_call 86; refine (isNaNI_any _ _).mono ?_; rintro e w' ⟨rfl, rfl⟩)
      go_ret
      exact ⟨by rw [hw.out]; rfl, rfl⟩

theorem isNaNS_any (n : ByteArray) (w : World) :
    Calls Try.prog 87 #[.string n] w fun e w' => e = .returned (.bool false) ∧ w = w' := by
  go_enter Try.func87, Try.ntmps87
  go_wp2
  go_ret
  exact ⟨by simp, rfl⟩

theorem bytesLess_asymm : ∀ (a b : List UInt8), Op.bytesLess a b = true → Op.bytesLess b a = false
  | [], [], h => by simp [Op.bytesLess] at h
  | [], _ :: _, _ => by simp [Op.bytesLess]
  | _ :: _, [], h => by simp [Op.bytesLess] at h
  | a :: x, b :: y, h => by
    simp only [Op.bytesLess, Bool.or_eq_true, decide_eq_true_eq, Bool.and_eq_true, beq_iff_eq] at h
    simp only [Op.bytesLess, Bool.or_eq_false_iff, decide_eq_false_iff_not, Bool.and_eq_false_iff, beq_eq_false_iff_ne]
    rcases h with h | ⟨rfl, h⟩
    · exact ⟨fun h' => by have := UInt8.lt_iff_toNat_lt.1 h; have := UInt8.lt_iff_toNat_lt.1 h'; omega, .inl (fun e => by subst e; have := UInt8.lt_iff_toNat_lt.1 h; omega)⟩
    · exact ⟨fun h' => by have := UInt8.lt_iff_toNat_lt.1 h'; omega, .inr (bytesLess_asymm x y h)⟩
theorem bytesLess_total : ∀ (a b : List UInt8), Op.bytesLess a b = false → Op.bytesLess b a = false → a = b
  | [], [], _, _ => rfl
  | [], _ :: _, h, _ => by simp [Op.bytesLess] at h
  | _ :: _, [], _, h => by simp [Op.bytesLess] at h
  | a :: x, b :: y, h, h' => by
    simp only [Op.bytesLess, Bool.or_eq_false_iff, decide_eq_false_iff_not, Bool.and_eq_false_iff, beq_eq_false_iff_ne] at h h'
    have e : a = b := by
      have h1 := h.1; have h2 := h'.1
      rw [UInt8.lt_iff_toNat_lt] at h1 h2
      exact UInt8.toNat_inj.1 (by omega)
    subst e
    rw [bytesLess_total x y (h.2.resolve_left (fun h => h rfl)) (h'.2.resolve_left (fun h => h rfl))]

theorem leq_bytes (a b : List UInt8) : (Op.bytesLess a b || a == b) = !Op.bytesLess b a := by
  cases h : Op.bytesLess a b with
  | true => rw [bytesLess_asymm _ _ h]; rfl
  | false =>
    cases h2 : Op.bytesLess b a with
    | true =>
      have : (a == b) = false := by rw [beq_eq_false_iff_ne]; intro e; rw [e, ← e] at h; subst e; rw [h] at h2; cases h2
      rw [this]; rfl
    | false => rw [bytesLess_total _ _ h h2]; simp

theorem cmpS_any (a b : ByteArray) (w : World) :
    Calls Try.prog 74 #[.string a, .string b] w fun e w' => e = .returned (.int .i64 (cmpS a b)) ∧ w = w' := by
  by_cases h : Op.bytesLess a.toList b.toList = true
  · have hw : Aside0 (cmpS a b = -1) := ⟨by simp [cmpS, sLt, h]⟩
    go_enter Try.func74, Try.ntmps74
    go_wp2_with (go_at_call 87; refine (isNaNS_any _ _).mono ?_; rintro e w' ⟨rfl, rfl⟩)
    go_ret
    exact ⟨by rw [hw.out]; rfl, rfl⟩
  · have h := Bool.eq_false_iff.2 h
    by_cases h2 : Op.bytesLess b.toList a.toList = true
    · have hw : Aside0 (cmpS a b = 1) := ⟨by simp [cmpS, sLt, h, h2]⟩
      have h3 : (a.toList == b.toList) = false := by
        rw [beq_eq_false_iff_ne]; intro e; rw [e] at h h2; rw [h] at h2; cases h2
      go_enter Try.func74, Try.ntmps74
      go_wp2_with (go_at_call 87; refine (isNaNS_any _ _).mono ?_; rintro e w' ⟨rfl, rfl⟩)
      go_ret
      exact ⟨by rw [hw.out]; rfl, rfl⟩
    · have h2 := Bool.eq_false_iff.2 h2
      have hw : Aside0 (cmpS a b = 0) := ⟨by simp [cmpS, sLt, h, h2]⟩
      have h3 : (a.toList == b.toList) = true := by rw [beq_iff_eq]; exact bytesLess_total _ _ h h2
      go_enter Try.func74, Try.ntmps74
      go_wp2_with (go_at_call 87; refine (isNaNS_any _ _).mono ?_; rintro e w' ⟨rfl, rfl⟩)
      go_ret
      exact ⟨by rw [hw.out]; rfl, rfl⟩

set_option maxRecDepth 100000 in
theorem order_any (a b : Meta) (w : World) :
    Calls Try.prog 52 #[.agg a.cs.toArray, .agg b.cs.toArray] w fun e w' => e = .returned (.int .i64 (ord a b)) ∧ ∃ o1 o2, w' = (w.alloc o1).alloc o2 := by
  obtain ⟨a1, a2, a3, a4, a5⟩ := a
  obtain ⟨b1, b2, b3, b4, b5⟩ := b
  simp only [Meta.cs]
  by_cases h : cmpI a2 b2 = 0
  · by_cases h2 : a2 = 0
    · have hw : Aside0 (ord ⟨a1, a2, a3, a4, a5⟩ ⟨b1, b2, b3, b4, b5⟩ = cmpI b1 a1) := ⟨by unfold ord; rw [if_neg (by simp [h]), if_pos (by simp [h2])]⟩
      have h' : (cmpI a2 b2 != 0) = false := by simp [h]
      have h2' : (a2 == 0) = true := by simp [h2]
      clear h h2
      go_enter Try.func52, Try.ntmps52
      go_wp2_with (go_at_call 73; refine (cmpI_any _ _ _).mono ?_; rintro e w' ⟨rfl, rfl⟩)
      go_ret
      exact ⟨by rw [hw.out]; rfl, _, _, rfl⟩
    · have hw : Aside0 (ord ⟨a1, a2, a3, a4, a5⟩ ⟨b1, b2, b3, b4, b5⟩ = cmpS a4 b4) := ⟨by unfold ord; rw [if_neg (by simp [h]), if_neg (by simp [h2])]⟩
      have h' : (cmpI a2 b2 != 0) = false := by simp [h]
      have h2' : (a2 == 0) = false := by simp [h2]
      clear h h2
      go_enter Try.func52, Try.ntmps52
      go_wp2_with (first | (go_at_call 73; refine (cmpI_any _ _ _).mono ?_; rintro e w' ⟨rfl, rfl⟩) | (go_at_call 74; refine (cmpS_any _ _ _).mono ?_; rintro e w' ⟨rfl, rfl⟩))
      go_ret
      exact ⟨by rw [hw.out]; rfl, _, _, rfl⟩
  · have hw : Aside0 (ord ⟨a1, a2, a3, a4, a5⟩ ⟨b1, b2, b3, b4, b5⟩ = cmpI a2 b2) := ⟨by simp [ord, h]⟩
    have h' : (cmpI a2 b2 != 0) = true := by simp [h]
    clear h
    go_enter Try.func52, Try.ntmps52
    go_wp2_with (go_at_call 73; refine (cmpI_any _ _ _).mono ?_; rintro e w' ⟨rfl, rfl⟩)
    go_ret
    exact ⟨by rw [hw.out]; rfl, _, _, rfl⟩

theorem mayKey_any (s : ByteArray) (w : World) :
    Calls Try.prog 75 #[.string s] w fun e w' => e = .returned (.bool (keyOk s)) ∧ w = w' := by
  by_cases h : s.toList = []
  · have hz : s.size = 0 := by rw [ByteArray.toList_eq] at h; have := data_length s; rw [h] at this; exact this.symm
    have hw : Aside0 (keyOk s = false) := ⟨by simp [keyOk, hz]⟩
    have h1 : s.toList.isEmpty = true := by simp [h]
    clear hz h
    go_enter Try.func75, Try.ntmps75
    go_wp2
    go_ret
    exact ⟨by rw [hw.out]; rfl, rfl⟩
  · have hz : 1 ≤ s.size := by
      rw [ByteArray.toList_eq] at h
      have := data_length s
      have := List.length_pos_iff.2 h
      omega
    have hw : Aside0 (keyOk s = decide (s.size ≤ 96)) := ⟨by simp [keyOk, hz]⟩
    have h1 : s.toList.isEmpty = false := by simp [h]
    clear hz h
    by_cases h2 : s.size ≤ 96
    · have hw2 : Aside0 (keyOk s = true) := ⟨by rw [hw.out]; simp [h2]⟩
      go_enter Try.func75, Try.ntmps75
      go_wp2
      go_ret
      exact ⟨by rw [hw2.out]; simp; omega, rfl⟩
    · have hw2 : Aside0 (keyOk s = false) := ⟨by rw [hw.out]; simp [h2]⟩
      go_enter Try.func75, Try.ntmps75
      go_wp2
      go_ret
      exact ⟨by rw [hw2.out]; simp; omega, rfl⟩

set_option maxRecDepth 100000 in
set_option maxHeartbeats 1000000 in
theorem may_any (m : Meta) (w : World) :
    Calls Try.prog 55 #[.agg m.cs.toArray] w fun e w' => e = .returned (.bool (mayM m)) ∧ ∃ o, w' = w.alloc o := by
  obtain ⟨a1, a2, a3, a4, a5⟩ := m
  simp only [Meta.cs]
  obtain ⟨r, hr⟩ := named (mayM ⟨a1, a2, a3, a4, a5⟩)
  rw [← hr.out]
  have hr1 : Aside0 (r = (within a1 1 2147483647 && (within a2 0 3 && (within a3 1 4096 && (keyOk a4 && (keyOk a5 && !Op.bytesLess a5.toList a4.toList)))))) := ⟨hr.out⟩
  go_enter Try.func55, Try.ntmps55
  go_wp2_with (first | (go_at_call 54; refine (within_any _ _ _ _).mono ?_; rintro e w' ⟨rfl, rfl⟩) | (go_at_call 75; refine (mayKey_any _ _).mono ?_; rintro e w' ⟨rfl, rfl⟩))
  all_goals go_ret
  all_goals refine ⟨?_, _, rfl⟩
  all_goals rw [hr1.out]
  all_goals simp only [*, leq_bytes, Bool.and_false, Bool.and_true, Bool.false_and, Bool.true_and]
  all_goals rfl
end Go.Proofs.Ytelnhecpcjoonaa.Edit
