/- The leaves of chapter 11, walked: comparing, the order of tables, may a table be. -/
import Derived.Test.YtfakfgblaakgdaaEditPure
import Derived.Test.YtfakfgblaakgdaaProg
import Derived.WalkKit
import Derived.WalkLawsBesides
import Derived.KernelRfl
import Derived.Deep.QuietTactic
import Derived.BigQuiet
namespace Go.Proofs.Ytfakfgblaakgdaa.Edit
set_option linter.unusedVariables false
set_option linter.unusedSimpArgs false
open Go.RowKit Go.Proofs.YtfakfgblaakgdaaW.PrintWords Go.Proofs.YtfakfgblaakgdaaW.PrintLast Go.Proofs.Ytfakfgblaakgdaa.Base Go.Proofs.Ytfakfgblaakgdaa.EditPure

theorem isNaNI_any (n : Int) (w : World) :
    Calls Try.prog 87 #[.int .i64 n] w fun e w' => e = .returned (.bool false) ∧ w = w' := by
  go_enter Try.func87, Try.ntmps87
  go_wp2
  go_ret
  exact ⟨by simp, rfl⟩

theorem cmpI_any (a b : Int) (w : World) :
    Calls Try.prog 78 #[.int .i64 a, .int .i64 b] w fun e w' => e = .returned (.int .i64 (cmpI a b)) ∧ w = w' := by
  by_cases h : a < b
  · have hw : Aside0 (cmpI a b = -1) := ⟨by simp [cmpI, h]⟩
    go_enter Try.func78, Try.ntmps78
    go_wp2_with (go_at_call 87; refine (isNaNI_any _ _).mono ?_; rintro e w' ⟨rfl, rfl⟩)
    go_ret
    exact ⟨by rw [hw.out]; rfl, rfl⟩
  · by_cases h2 : b < a
    · have hw : Aside0 (cmpI a b = 1) := ⟨by simp [cmpI, h, h2]⟩
      go_enter Try.func78, Try.ntmps78
      go_wp2_with (go_at_call 87; refine (isNaNI_any _ _).mono ?_; rintro e w' ⟨rfl, rfl⟩)
      go_ret
      exact ⟨by rw [hw.out]; rfl, rfl⟩
    · have hw : Aside0 (cmpI a b = 0) := ⟨by simp [cmpI, h, h2]⟩
      go_enter Try.func78, Try.ntmps78
      go_wp2_with (go_at_call 87; refine (isNaNI_any _ _).mono ?_; rintro e w' ⟨rfl, rfl⟩)
      go_ret
      exact ⟨by rw [hw.out]; rfl, rfl⟩

theorem isNaNS_any (n : ByteArray) (w : World) :
    Calls Try.prog 94 #[.string n] w fun e w' => e = .returned (.bool false) ∧ w = w' := by
  go_enter Try.func94, Try.ntmps94
  go_wp2
  go_ret
  exact ⟨by simp, rfl⟩

theorem bytesLess_asymm : ∀ (a b : List UInt8), Op.bytesLess a b = true → Op.bytesLess b a = false
  | [], [], h => by simp [Op.bytesLess] at h
  | [], _ :: _, _ => by simp [Op.bytesLess]
  | _ :: _, [], h => by simp [Op.bytesLess] at h
  | a :: x, b :: y, h => by
    simp only [Op.bytesLess, Bool.or_eq_true, decide_eq_true_eq, Bool.and_eq_true, beq_iff_eq] at h
    simp only [Op.bytesLess, Bool.or_eq_false_iff, decide_eq_false_iff_not, Bool.and_eq_false_iff, beq_eq_false_iff_ne]
    rcases h with h | ⟨rfl, h⟩
    · exact ⟨fun h' => by have := UInt8.lt_iff_toNat_lt.1 h; have := UInt8.lt_iff_toNat_lt.1 h'; omega, .inl (fun e => by subst e; have := UInt8.lt_iff_toNat_lt.1 h; omega)⟩
    · exact ⟨fun h' => by have := UInt8.lt_iff_toNat_lt.1 h'; omega, .inr (bytesLess_asymm x y h)⟩
theorem bytesLess_total : ∀ (a b : List UInt8), Op.bytesLess a b = false → Op.bytesLess b a = false → a = b
  | [], [], _, _ => rfl
  | [], _ :: _, h, _ => by simp [Op.bytesLess] at h
  | _ :: _, [], _, h => by simp [Op.bytesLess] at h
  | a :: x, b :: y, h, h' => by
    simp only [Op.bytesLess, Bool.or_eq_false_iff, decide_eq_false_iff_not, Bool.and_eq_false_iff, beq_eq_false_iff_ne] at h h'
    have e : a = b := by
      have h1 := h.1; have h2 := h'.1
      rw [UInt8.lt_iff_toNat_lt] at h1 h2
      exact UInt8.toNat_inj.1 (by omega)
    subst e
    rw [bytesLess_total x y (h.2.resolve_left (fun h => h rfl)) (h'.2.resolve_left (fun h => h rfl))]

theorem leq_bytes (a b : List UInt8) : (Op.bytesLess a b || a == b) = !Op.bytesLess b a := by
  cases h : Op.bytesLess a b with
  | true => rw [bytesLess_asymm _ _ h]; rfl
  | false =>
    cases h2 : Op.bytesLess b a with
    | true =>
      have : (a == b) = false := by rw [beq_eq_false_iff_ne]; intro e; rw [e, ← e] at h; subst e; rw [h] at h2; cases h2
      rw [this]; rfl
    | false => rw [bytesLess_total _ _ h h2]; simp

theorem cmpS_any (a b : ByteArray) (w : World) :
    Calls Try.prog 86 #[.string a, .string b] w fun e w' => e = .returned (.int .i64 (cmpS a b)) ∧ w = w' := by
  by_cases h : Op.bytesLess a.toList b.toList = true
  · have hw : Aside0 (cmpS a b = -1) := ⟨by simp [cmpS, sLt, h]⟩
    go_enter Try.func86, Try.ntmps86
    go_wp2_with (go_at_call 94; refine (isNaNS_any _ _).mono ?_; rintro e w' ⟨rfl, rfl⟩)
    go_ret
    exact ⟨by rw [hw.out]; rfl, rfl⟩
  · have h := Bool.eq_false_iff.2 h
    by_cases h2 : Op.bytesLess b.toList a.toList = true
    · have hw : Aside0 (cmpS a b = 1) := ⟨by simp [cmpS, sLt, h, h2]⟩
      have h3 : (a.toList == b.toList) = false := by
        rw [beq_eq_false_iff_ne]; intro e; rw [e] at h h2; rw [h] at h2; cases h2
      go_enter Try.func86, Try.ntmps86
      go_wp2_with (go_at_call 94; refine (isNaNS_any _ _).mono ?_; rintro e w' ⟨rfl, rfl⟩)
      go_ret
      exact ⟨by rw [hw.out]; rfl, rfl⟩
    · have h2 := Bool.eq_false_iff.2 h2
      have hw : Aside0 (cmpS a b = 0) := ⟨by simp [cmpS, sLt, h, h2]⟩
      have h3 : (a.toList == b.toList) = true := by rw [beq_iff_eq]; exact bytesLess_total _ _ h h2
      go_enter Try.func86, Try.ntmps86
      go_wp2_with (go_at_call 94; refine (isNaNS_any _ _).mono ?_; rintro e w' ⟨rfl, rfl⟩)
      go_ret
      exact ⟨by rw [hw.out]; rfl, rfl⟩

end Go.Proofs.Ytfakfgblaakgdaa.Edit
