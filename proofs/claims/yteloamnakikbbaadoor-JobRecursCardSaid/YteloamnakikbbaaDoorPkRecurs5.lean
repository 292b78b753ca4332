/- A part of the proof: The document's item, walked. -/
import Derived.Test.YteloamnakikbbaaDoorPkRecurs4
import Derived.Test.YteloamnakikbbaaDoorPkRecurs3
import Derived.Test.YteloamnakikbbaaDoorPkRecurs2
import Derived.Test.YteloamnakikbbaaDoorPkRecurs1
import Derived.BigQuiet
import Derived.Deep.QuietTactic
import Derived.Lib.RuneCount
import Derived.Laws.IdiomCopy
import Derived.Test.YteloamnakikbbaaDoorProg
import Derived.WalkKit
import Derived.WalkLawsBesides
import Derived.KernelRfl
import Derived.Deep.LoopGhost

/- The document's item, walked. -/
namespace Go.Proofs.YteloamnakikbbaaDoor.Cron
set_option linter.unusedVariables false
set_option linter.unusedSimpArgs false
open Go.RowKit Go.Proofs.YteloamnakikbbaaDoorW.PrintWords Go.Proofs.YteloamnakikbbaaDoorW.PrintLast Go.Proofs.YteloamnakikbbaaDoor.Base Go.Proofs.YteloamnakikbbaaDoor.CronPure Go.Proofs.YteloamnakikbbaaDoor.NamesPure

set_option maxRecDepth 100000 in
set_option maxHeartbeats 4000000 in
theorem item_us (lo hi : Int) (s : ByteArray) (w : World) (i : Int) (fa ta : Nat) (hs : s.size ≤ 1000) (l0 : 0 ≤ lo) (l1 : lo ≤ hi) (l2 : hi ≤ 63) (hi0 : i < 0) (CI : Aside0 (∀ W, Calls Tryd.prog 38 #[.string s, .int .u8 47] W fun e w' => e = .returned (.int .i64 i) ∧ w' = W)) (hq : (s.toList == [42]) = true) (ef : lo = (fa : Int)) (et : hi = (ta : Int)) (g1 : lo ≤ (fa : Int)) (g2 : (ta : Int) ≤ hi) (g3 : fa ≤ ta) :
    Calls Tryd.prog 39 #[.string s, .int .i64 lo, .int .i64 hi] w fun e w' => e = .returned (.int .u64 ((setOf fa ta 1 : Nat) : Int)) ∧ Below w.heap.size w w' := by
  subst ef et
  have st1 : 0 < 1 := by omega
  have g4 : (fa : Int) ≤ (ta : Int) := by omega
  have g5 : ta ≤ 63 := by omega
  obtain ⟨w0, hw0⟩ : ∃ w0, w0 = w := ⟨_, rfl⟩
  rw [show Below w.heap.size w = Below w0.heap.size w0 by rw [hw0]]
  have HBS : Aside0 (Below w0.heap.size w0 w) := ⟨by rw [hw0]; exact Below.refl _ _⟩
  clear hw0
  go_enter Tryd.func39, Tryd.ntmps39
  go_wp2_with (first | (go_at_call 38; with_reducible refine (CI.out _).mono ?_; rintro e wz ⟨rfl, rfl⟩))
  go_loopg [13, 14] (many fa ta 1) (fun g v13 v14 wr => ∃ k x S : Nat, Aside0 (x = fa + k * 1 ∧ S = setTo fa 1 k) ∧ v14 = .int .i64 x ∧ g + k = many fa ta 1 ∧ v13 = .int .u64 S ∧ Aside0 (Below w0.heap.size w0 wr))
  case atStart => exact ⟨0, fa, 0, ⟨by simp, rfl⟩, rfl, by omega, rfl, HBS⟩
  case round =>
    obtain ⟨k, x, S, HX, rfl, hg, rfl, HW⟩ := hrel
    by_cases hx : x ≤ ta
    · have HK : Aside0 (k < many fa ta 1) := ⟨(many_iff st1).2 (by rw [← HX.out.1]; exact hx)⟩
      have hkm := HK.out
      have xi : (x : Int) ≤ (ta : Int) := by omega
      have x63 : (x : Int) ≤ 63 := by omega
      have xw : IntKind.i64.wrap ((x : Int) + (1 : Int)) = (x : Int) + (1 : Int) := by rw [IntKind.wrap_i64]; omega
      go_wp2
      go_roundg (many fa ta 1 - k - 1)
      case measure => omega
      case rel =>
        have hS : S < 2 ^ 64 := by
          rw [HX.out.2]
          exact setTo_lt _ _ _ _ fun j hj => by
            have := (many_iff (low := fa) (high := ta) (k := j) st1).1 (by omega)
            omega
        exact ⟨k + 1, x + 1, S ||| 2 ^ x, ⟨by rw [HX.out.1, Nat.add_mul]; omega, by rw [setTo_succ, ← HX.out.1, HX.out.2]⟩, by push_cast; rfl, by omega, by rw [or_bit hS (by omega)], HW⟩
    · have xi : ¬ (x : Int) ≤ (ta : Int) := by omega
      have HK : Aside0 (k = many fa ta 1) := ⟨by
        have : ¬ k < many fa ta 1 := fun h => hx (by rw [HX.out.1]; exact (many_iff st1).1 h)
        omega⟩
      have HSS : Aside0 (S = setOf fa ta 1) := ⟨by rw [HX.out.2, HK.out]; rfl⟩
      obtain rfl := HSS.out
      go_wp2
      go_ret
      exact ⟨rfl, HW.out⟩
set_option maxRecDepth 100000 in
set_option maxHeartbeats 4000000 in
theorem item_u1a (lo hi : Int) (s : ByteArray) (w : World) (i : Int) (k : Int) (f : Int) (hs : s.size ≤ 1000) (l0 : 0 ≤ lo) (l1 : lo ≤ hi) (l2 : hi ≤ 63) (hi0 : i < 0) (CI : Aside0 (∀ W, Calls Tryd.prog 38 #[.string s, .int .u8 47] W fun e w' => e = .returned (.int .i64 i) ∧ w' = W)) (hq : (s.toList == [42]) = false) (CK : Aside0 (∀ W, Calls Tryd.prog 38 #[.string s, .int .u8 45] W fun e w' => e = .returned (.int .i64 k) ∧ w' = W)) (hk : k < 0) (CF : Aside0 (∀ W, Calls Tryd.prog 51 #[.string s] W fun e w' => e = .returned (.int .i64 f) ∧ w' = W)) (b1 : f < lo) :
    Calls Tryd.prog 39 #[.string s, .int .i64 lo, .int .i64 hi] w fun e w' => e = .returned (.int .u64 0) ∧ Below w.heap.size w w' := by
  obtain ⟨w0, hw0⟩ : ∃ w0, w0 = w := ⟨_, rfl⟩
  rw [show Below w.heap.size w = Below w0.heap.size w0 by rw [hw0]]
  have HBS : Aside0 (Below w0.heap.size w0 w) := ⟨by rw [hw0]; exact Below.refl _ _⟩
  clear hw0
  go_enter Tryd.func39, Tryd.ntmps39
  go_wp2_with (first | (go_at_call 38; with_reducible refine (CI.out _).mono ?_; rintro e wz ⟨rfl, rfl⟩) | (go_at_call 38; with_reducible refine (CK.out _).mono ?_; rintro e wz ⟨rfl, rfl⟩) | (go_at_call 51; with_reducible refine (CF.out _).mono ?_; rintro e wz ⟨rfl, rfl⟩))
  go_ret
  exact ⟨rfl, HBS.out⟩
set_option maxRecDepth 100000 in
set_option maxHeartbeats 4000000 in
theorem item_u1b (lo hi : Int) (s : ByteArray) (w : World) (i : Int) (k : Int) (f : Int) (hs : s.size ≤ 1000) (l0 : 0 ≤ lo) (l1 : lo ≤ hi) (l2 : hi ≤ 63) (hi0 : i < 0) (CI : Aside0 (∀ W, Calls Tryd.prog 38 #[.string s, .int .u8 47] W fun e w' => e = .returned (.int .i64 i) ∧ w' = W)) (hq : (s.toList == [42]) = false) (CK : Aside0 (∀ W, Calls Tryd.prog 38 #[.string s, .int .u8 45] W fun e w' => e = .returned (.int .i64 k) ∧ w' = W)) (hk : k < 0) (CF : Aside0 (∀ W, Calls Tryd.prog 51 #[.string s] W fun e w' => e = .returned (.int .i64 f) ∧ w' = W)) (b1 : lo ≤ f) (b2 : hi < f) :
    Calls Tryd.prog 39 #[.string s, .int .i64 lo, .int .i64 hi] w fun e w' => e = .returned (.int .u64 0) ∧ Below w.heap.size w w' := by
  obtain ⟨w0, hw0⟩ : ∃ w0, w0 = w := ⟨_, rfl⟩
  rw [show Below w.heap.size w = Below w0.heap.size w0 by rw [hw0]]
  have HBS : Aside0 (Below w0.heap.size w0 w) := ⟨by rw [hw0]; exact Below.refl _ _⟩
  clear hw0
  go_enter Tryd.func39, Tryd.ntmps39
  go_wp2_with (first | (go_at_call 38; with_reducible refine (CI.out _).mono ?_; rintro e wz ⟨rfl, rfl⟩) | (go_at_call 38; with_reducible refine (CK.out _).mono ?_; rintro e wz ⟨rfl, rfl⟩) | (go_at_call 51; with_reducible refine (CF.out _).mono ?_; rintro e wz ⟨rfl, rfl⟩))
  go_ret
  exact ⟨rfl, HBS.out⟩
set_option maxRecDepth 100000 in
set_option maxHeartbeats 4000000 in
theorem item_u1g (lo hi : Int) (s : ByteArray) (w : World) (i : Int) (k : Int) (fa : Nat) (hs : s.size ≤ 1000) (l0 : 0 ≤ lo) (l1 : lo ≤ hi) (l2 : hi ≤ 63) (hi0 : i < 0) (CI : Aside0 (∀ W, Calls Tryd.prog 38 #[.string s, .int .u8 47] W fun e w' => e = .returned (.int .i64 i) ∧ w' = W)) (hq : (s.toList == [42]) = false) (CK : Aside0 (∀ W, Calls Tryd.prog 38 #[.string s, .int .u8 45] W fun e w' => e = .returned (.int .i64 k) ∧ w' = W)) (hk : k < 0) (CF : Aside0 (∀ W, Calls Tryd.prog 51 #[.string s] W fun e w' => e = .returned (.int .i64 (fa : Int)) ∧ w' = W)) (g1 : lo ≤ (fa : Int)) (g2 : (fa : Int) ≤ hi) :
    Calls Tryd.prog 39 #[.string s, .int .i64 lo, .int .i64 hi] w fun e w' => e = .returned (.int .u64 ((setOf fa fa 1 : Nat) : Int)) ∧ Below w.heap.size w w' := by
  have st1 : 0 < 1 := by omega
  have g5 : fa ≤ 63 := by omega
  obtain ⟨w0, hw0⟩ : ∃ w0, w0 = w := ⟨_, rfl⟩
  rw [show Below w.heap.size w = Below w0.heap.size w0 by rw [hw0]]
  have HBS : Aside0 (Below w0.heap.size w0 w) := ⟨by rw [hw0]; exact Below.refl _ _⟩
  clear hw0
  go_enter Tryd.func39, Tryd.ntmps39
  go_wp2_with (first | (go_at_call 38; with_reducible refine (CI.out _).mono ?_; rintro e wz ⟨rfl, rfl⟩) | (go_at_call 38; with_reducible refine (CK.out _).mono ?_; rintro e wz ⟨rfl, rfl⟩) | (go_at_call 51; with_reducible refine (CF.out _).mono ?_; rintro e wz ⟨rfl, rfl⟩))
  go_loopg [13, 14] (many fa fa 1) (fun g v13 v14 wr => ∃ k x S : Nat, Aside0 (x = fa + k * 1 ∧ S = setTo fa 1 k) ∧ v14 = .int .i64 x ∧ g + k = many fa fa 1 ∧ v13 = .int .u64 S ∧ Aside0 (Below w0.heap.size w0 wr))
  case atStart => exact ⟨0, fa, 0, ⟨by simp, rfl⟩, rfl, by omega, rfl, HBS⟩
  case round =>
    obtain ⟨k, x, S, HX, rfl, hg, rfl, HW⟩ := hrel
    by_cases hx : x ≤ fa
    · have HK : Aside0 (k < many fa fa 1) := ⟨(many_iff st1).2 (by rw [← HX.out.1]; exact hx)⟩
      have hkm := HK.out
      have xi : (x : Int) ≤ (fa : Int) := by omega
      have x63 : (x : Int) ≤ 63 := by omega
      have xw : IntKind.i64.wrap ((x : Int) + (1 : Int)) = (x : Int) + (1 : Int) := by rw [IntKind.wrap_i64]; omega
      go_wp2
      go_roundg (many fa fa 1 - k - 1)
      case measure => omega
      case rel =>
        have hS : S < 2 ^ 64 := by
          rw [HX.out.2]
          exact setTo_lt _ _ _ _ fun j hj => by
            have := (many_iff (low := fa) (high := fa) (k := j) st1).1 (by omega)
            omega
        exact ⟨k + 1, x + 1, S ||| 2 ^ x, ⟨by rw [HX.out.1, Nat.add_mul]; omega, by rw [setTo_succ, ← HX.out.1, HX.out.2]⟩, by push_cast; rfl, by omega, by rw [or_bit hS (by omega)], HW⟩
    · have xi : ¬ (x : Int) ≤ (fa : Int) := by omega
      have HK : Aside0 (k = many fa fa 1) := ⟨by
        have : ¬ k < many fa fa 1 := fun h => hx (by rw [HX.out.1]; exact (many_iff st1).1 h)
        omega⟩
      have HSS : Aside0 (S = setOf fa fa 1) := ⟨by rw [HX.out.2, HK.out]; rfl⟩
      obtain rfl := HSS.out
      go_wp2
      go_ret
      exact ⟨rfl, HW.out⟩
set_option maxRecDepth 100000 in
set_option maxHeartbeats 4000000 in
theorem item_u2a (lo hi : Int) (s : ByteArray) (w : World) (i : Int) (k : Int) (F1 F2 : ByteArray) (f t : Int) (hs : s.size ≤ 1000) (l0 : 0 ≤ lo) (l1 : lo ≤ hi) (l2 : hi ≤ 63) (hi0 : i < 0) (CI : Aside0 (∀ W, Calls Tryd.prog 38 #[.string s, .int .u8 47] W fun e w' => e = .returned (.int .i64 i) ∧ w' = W)) (hq : (s.toList == [42]) = false) (CK : Aside0 (∀ W, Calls Tryd.prog 38 #[.string s, .int .u8 45] W fun e w' => e = .returned (.int .i64 k) ∧ w' = W)) (hk : 0 ≤ k) (hk2 : k < (s.size : Int)) (hF1 : s.extract 0 k.toNat = F1) (hF2 : s.extract (k + 1).toNat s.size = F2) (CF1 : Aside0 (∀ W, Calls Tryd.prog 51 #[.string F1] W fun e w' => e = .returned (.int .i64 f) ∧ w' = W)) (CF2 : Aside0 (∀ W, Calls Tryd.prog 51 #[.string F2] W fun e w' => e = .returned (.int .i64 t) ∧ w' = W)) (b1 : f < lo) :
    Calls Tryd.prog 39 #[.string s, .int .i64 lo, .int .i64 hi] w fun e w' => e = .returned (.int .u64 0) ∧ Below w.heap.size w w' := by
  have kw : IntKind.i64.wrap (k + 1) = k + 1 := by rw [IntKind.wrap_i64]; omega
  have k3 : k ≤ (s.size : Int) := by omega
  have k4 : k + 1 ≤ (s.size : Int) := by omega
  obtain ⟨w0, hw0⟩ : ∃ w0, w0 = w := ⟨_, rfl⟩
  rw [show Below w.heap.size w = Below w0.heap.size w0 by rw [hw0]]
  have HBS : Aside0 (Below w0.heap.size w0 w) := ⟨by rw [hw0]; exact Below.refl _ _⟩
  clear hw0
  go_enter Tryd.func39, Tryd.ntmps39
  go_upto_region 16 with (first | (go_at_call 38; with_reducible refine (CI.out _).mono ?_; rintro e wz ⟨rfl, rfl⟩) | (go_at_call 38; with_reducible refine (CK.out _).mono ?_; rintro e wz ⟨rfl, rfl⟩))
  go_quiet ((first | (with_reducible refine (CF1.out _).mono ?_; exact fun e w' q => ⟨q.1, _, q.2⟩) | (with_reducible refine (CF2.out _).mono ?_; exact fun e w' q => ⟨q.1, _, q.2⟩)))
  go_wp2
  go_ret
  exact ⟨rfl, pw_below_drewN HBS.out _⟩
set_option maxRecDepth 100000 in
set_option maxHeartbeats 4000000 in
theorem item_u2b (lo hi : Int) (s : ByteArray) (w : World) (i : Int) (k : Int) (F1 F2 : ByteArray) (f t : Int) (hs : s.size ≤ 1000) (l0 : 0 ≤ lo) (l1 : lo ≤ hi) (l2 : hi ≤ 63) (hi0 : i < 0) (CI : Aside0 (∀ W, Calls Tryd.prog 38 #[.string s, .int .u8 47] W fun e w' => e = .returned (.int .i64 i) ∧ w' = W)) (hq : (s.toList == [42]) = false) (CK : Aside0 (∀ W, Calls Tryd.prog 38 #[.string s, .int .u8 45] W fun e w' => e = .returned (.int .i64 k) ∧ w' = W)) (hk : 0 ≤ k) (hk2 : k < (s.size : Int)) (hF1 : s.extract 0 k.toNat = F1) (hF2 : s.extract (k + 1).toNat s.size = F2) (CF1 : Aside0 (∀ W, Calls Tryd.prog 51 #[.string F1] W fun e w' => e = .returned (.int .i64 f) ∧ w' = W)) (CF2 : Aside0 (∀ W, Calls Tryd.prog 51 #[.string F2] W fun e w' => e = .returned (.int .i64 t) ∧ w' = W)) (b1 : lo ≤ f) (b2 : hi < t) :
    Calls Tryd.prog 39 #[.string s, .int .i64 lo, .int .i64 hi] w fun e w' => e = .returned (.int .u64 0) ∧ Below w.heap.size w w' := by
  have kw : IntKind.i64.wrap (k + 1) = k + 1 := by rw [IntKind.wrap_i64]; omega
  have k3 : k ≤ (s.size : Int) := by omega
  have k4 : k + 1 ≤ (s.size : Int) := by omega
  obtain ⟨w0, hw0⟩ : ∃ w0, w0 = w := ⟨_, rfl⟩
  rw [show Below w.heap.size w = Below w0.heap.size w0 by rw [hw0]]
  have HBS : Aside0 (Below w0.heap.size w0 w) := ⟨by rw [hw0]; exact Below.refl _ _⟩
  clear hw0
  go_enter Tryd.func39, Tryd.ntmps39
  go_upto_region 16 with (first | (go_at_call 38; with_reducible refine (CI.out _).mono ?_; rintro e wz ⟨rfl, rfl⟩) | (go_at_call 38; with_reducible refine (CK.out _).mono ?_; rintro e wz ⟨rfl, rfl⟩))
  go_quiet ((first | (with_reducible refine (CF1.out _).mono ?_; exact fun e w' q => ⟨q.1, _, q.2⟩) | (with_reducible refine (CF2.out _).mono ?_; exact fun e w' q => ⟨q.1, _, q.2⟩)))
  go_wp2
  go_ret
  exact ⟨rfl, pw_below_drewN HBS.out _⟩
set_option maxRecDepth 100000 in
set_option maxHeartbeats 4000000 in
theorem item_u2c (lo hi : Int) (s : ByteArray) (w : World) (i : Int) (k : Int) (F1 F2 : ByteArray) (f t : Int) (hs : s.size ≤ 1000) (l0 : 0 ≤ lo) (l1 : lo ≤ hi) (l2 : hi ≤ 63) (hi0 : i < 0) (CI : Aside0 (∀ W, Calls Tryd.prog 38 #[.string s, .int .u8 47] W fun e w' => e = .returned (.int .i64 i) ∧ w' = W)) (hq : (s.toList == [42]) = false) (CK : Aside0 (∀ W, Calls Tryd.prog 38 #[.string s, .int .u8 45] W fun e w' => e = .returned (.int .i64 k) ∧ w' = W)) (hk : 0 ≤ k) (hk2 : k < (s.size : Int)) (hF1 : s.extract 0 k.toNat = F1) (hF2 : s.extract (k + 1).toNat s.size = F2) (CF1 : Aside0 (∀ W, Calls Tryd.prog 51 #[.string F1] W fun e w' => e = .returned (.int .i64 f) ∧ w' = W)) (CF2 : Aside0 (∀ W, Calls Tryd.prog 51 #[.string F2] W fun e w' => e = .returned (.int .i64 t) ∧ w' = W)) (b1 : lo ≤ f) (b2 : t ≤ hi) (b3 : t < f) :
    Calls Tryd.prog 39 #[.string s, .int .i64 lo, .int .i64 hi] w fun e w' => e = .returned (.int .u64 0) ∧ Below w.heap.size w w' := by
  have kw : IntKind.i64.wrap (k + 1) = k + 1 := by rw [IntKind.wrap_i64]; omega
  have k3 : k ≤ (s.size : Int) := by omega
  have k4 : k + 1 ≤ (s.size : Int) := by omega
  obtain ⟨w0, hw0⟩ : ∃ w0, w0 = w := ⟨_, rfl⟩
  rw [show Below w.heap.size w = Below w0.heap.size w0 by rw [hw0]]
  have HBS : Aside0 (Below w0.heap.size w0 w) := ⟨by rw [hw0]; exact Below.refl _ _⟩
  clear hw0
  go_enter Tryd.func39, Tryd.ntmps39
  go_upto_region 16 with (first | (go_at_call 38; with_reducible refine (CI.out _).mono ?_; rintro e wz ⟨rfl, rfl⟩) | (go_at_call 38; with_reducible refine (CK.out _).mono ?_; rintro e wz ⟨rfl, rfl⟩))
  go_quiet ((first | (with_reducible refine (CF1.out _).mono ?_; exact fun e w' q => ⟨q.1, _, q.2⟩) | (with_reducible refine (CF2.out _).mono ?_; exact fun e w' q => ⟨q.1, _, q.2⟩)))
  go_wp2
  go_ret
  exact ⟨rfl, pw_below_drewN HBS.out _⟩
set_option maxRecDepth 100000 in
set_option maxHeartbeats 4000000 in
theorem item_u2g (lo hi : Int) (s : ByteArray) (w : World) (i : Int) (k : Int) (F1 F2 : ByteArray) (fa ta : Nat) (hs : s.size ≤ 1000) (l0 : 0 ≤ lo) (l1 : lo ≤ hi) (l2 : hi ≤ 63) (hi0 : i < 0) (CI : Aside0 (∀ W, Calls Tryd.prog 38 #[.string s, .int .u8 47] W fun e w' => e = .returned (.int .i64 i) ∧ w' = W)) (hq : (s.toList == [42]) = false) (CK : Aside0 (∀ W, Calls Tryd.prog 38 #[.string s, .int .u8 45] W fun e w' => e = .returned (.int .i64 k) ∧ w' = W)) (hk : 0 ≤ k) (hk2 : k < (s.size : Int)) (hF1 : s.extract 0 k.toNat = F1) (hF2 : s.extract (k + 1).toNat s.size = F2) (CF1 : Aside0 (∀ W, Calls Tryd.prog 51 #[.string F1] W fun e w' => e = .returned (.int .i64 (fa : Int)) ∧ w' = W)) (CF2 : Aside0 (∀ W, Calls Tryd.prog 51 #[.string F2] W fun e w' => e = .returned (.int .i64 (ta : Int)) ∧ w' = W)) (g1 : lo ≤ (fa : Int)) (g2 : (ta : Int) ≤ hi) (g3 : fa ≤ ta) :
    Calls Tryd.prog 39 #[.string s, .int .i64 lo, .int .i64 hi] w fun e w' => e = .returned (.int .u64 ((setOf fa ta 1 : Nat) : Int)) ∧ Below w.heap.size w w' := by
  have kw : IntKind.i64.wrap (k + 1) = k + 1 := by rw [IntKind.wrap_i64]; omega
  have k3 : k ≤ (s.size : Int) := by omega
  have k4 : k + 1 ≤ (s.size : Int) := by omega
  have st1 : 0 < 1 := by omega
  have g4 : (fa : Int) ≤ (ta : Int) := by omega
  have g5 : ta ≤ 63 := by omega
  obtain ⟨w0, hw0⟩ : ∃ w0, w0 = w := ⟨_, rfl⟩
  rw [show Below w.heap.size w = Below w0.heap.size w0 by rw [hw0]]
  have HBS : Aside0 (Below w0.heap.size w0 w) := ⟨by rw [hw0]; exact Below.refl _ _⟩
  clear hw0
  go_enter Tryd.func39, Tryd.ntmps39
  go_upto_region 16 with (first | (go_at_call 38; with_reducible refine (CI.out _).mono ?_; rintro e wz ⟨rfl, rfl⟩) | (go_at_call 38; with_reducible refine (CK.out _).mono ?_; rintro e wz ⟨rfl, rfl⟩))
  go_quiet ((first | (with_reducible refine (CF1.out _).mono ?_; exact fun e w' q => ⟨q.1, _, q.2⟩) | (with_reducible refine (CF2.out _).mono ?_; exact fun e w' q => ⟨q.1, _, q.2⟩)))
  go_wp2
  go_loopg [13, 14] (many fa ta 1) (fun g v13 v14 wr => ∃ k x S : Nat, Aside0 (x = fa + k * 1 ∧ S = setTo fa 1 k) ∧ v14 = .int .i64 x ∧ g + k = many fa ta 1 ∧ v13 = .int .u64 S ∧ Aside0 (Below w0.heap.size w0 wr))
  case atStart => exact ⟨0, fa, 0, ⟨by simp, rfl⟩, rfl, by omega, rfl, ⟨pw_below_drewN HBS.out _⟩⟩
  case round =>
    obtain ⟨k, x, S, HX, rfl, hg, rfl, HW⟩ := hrel
    by_cases hx : x ≤ ta
    · have HK : Aside0 (k < many fa ta 1) := ⟨(many_iff st1).2 (by rw [← HX.out.1]; exact hx)⟩
      have hkm := HK.out
      have xi : (x : Int) ≤ (ta : Int) := by omega
      have x63 : (x : Int) ≤ 63 := by omega
      have xw : IntKind.i64.wrap ((x : Int) + (1 : Int)) = (x : Int) + (1 : Int) := by rw [IntKind.wrap_i64]; omega
      go_wp2
      go_roundg (many fa ta 1 - k - 1)
      case measure => omega
      case rel =>
        have hS : S < 2 ^ 64 := by
          rw [HX.out.2]
          exact setTo_lt _ _ _ _ fun j hj => by
            have := (many_iff (low := fa) (high := ta) (k := j) st1).1 (by omega)
            omega
        exact ⟨k + 1, x + 1, S ||| 2 ^ x, ⟨by rw [HX.out.1, Nat.add_mul]; omega, by rw [setTo_succ, ← HX.out.1, HX.out.2]⟩, by push_cast; rfl, by omega, by rw [or_bit hS (by omega)], HW⟩
    · have xi : ¬ (x : Int) ≤ (ta : Int) := by omega
      have HK : Aside0 (k = many fa ta 1) := ⟨by
        have : ¬ k < many fa ta 1 := fun h => hx (by rw [HX.out.1]; exact (many_iff st1).1 h)
        omega⟩
      have HSS : Aside0 (S = setOf fa ta 1) := ⟨by rw [HX.out.2, HK.out]; rfl⟩
      obtain rfl := HSS.out
      go_wp2
      go_ret
      exact ⟨rfl, HW.out⟩
set_option maxRecDepth 100000 in
set_option maxHeartbeats 4000000 in
theorem item_p0 (lo hi : Int) (s : ByteArray) (w : World) (i : Int) (A B : ByteArray) (n : Int) (hs : s.size ≤ 1000) (l0 : 0 ≤ lo) (l1 : lo ≤ hi) (l2 : hi ≤ 63) (hi0 : 0 ≤ i) (hi2 : i < (s.size : Int)) (hA : s.extract 0 i.toNat = A) (hB : s.extract (i + 1).toNat s.size = B) (hz : A.size ≤ 1000) (CB : Aside0 (∀ W, Calls Tryd.prog 51 #[.string B] W fun e w' => e = .returned (.int .i64 n) ∧ w' = W)) (hn : n < 1) (CI : Aside0 (∀ W, Calls Tryd.prog 38 #[.string s, .int .u8 47] W fun e w' => e = .returned (.int .i64 i) ∧ w' = W)) :
    Calls Tryd.prog 39 #[.string s, .int .i64 lo, .int .i64 hi] w fun e w' => e = .returned (.int .u64 0) ∧ Below w.heap.size w w' := by
  have iw : IntKind.i64.wrap (i + 1) = i + 1 := by rw [IntKind.wrap_i64]; omega
  have i3 : i ≤ (s.size : Int) := by omega
  have i4 : i + 1 ≤ (s.size : Int) := by omega
  obtain ⟨w0, hw0⟩ : ∃ w0, w0 = w := ⟨_, rfl⟩
  rw [show Below w.heap.size w = Below w0.heap.size w0 by rw [hw0]]
  have HBS : Aside0 (Below w0.heap.size w0 w) := ⟨by rw [hw0]; exact Below.refl _ _⟩
  clear hw0
  go_enter Tryd.func39, Tryd.ntmps39
  go_wp2_with (first | (go_at_call 51; with_reducible refine (CB.out _).mono ?_; rintro e wz ⟨rfl, rfl⟩) | (go_at_call 38; with_reducible refine (CI.out _).mono ?_; rintro e wz ⟨rfl, rfl⟩))
  go_ret
  exact ⟨rfl, HBS.out⟩
set_option maxRecDepth 100000 in
set_option maxHeartbeats 4000000 in
theorem item_ps (lo hi : Int) (s : ByteArray) (w : World) (i : Int) (A B : ByteArray) (st : Nat) (fa ta : Nat) (hs : s.size ≤ 1000) (l0 : 0 ≤ lo) (l1 : lo ≤ hi) (l2 : hi ≤ 63) (hi0 : 0 ≤ i) (hi2 : i < (s.size : Int)) (hA : s.extract 0 i.toNat = A) (hB : s.extract (i + 1).toNat s.size = B) (hz : A.size ≤ 1000) (CB : Aside0 (∀ W, Calls Tryd.prog 51 #[.string B] W fun e w' => e = .returned (.int .i64 (st : Int)) ∧ w' = W)) (st1 : 0 < st) (st2 : st ≤ 99) (CI : Aside0 (∀ W, Calls Tryd.prog 38 #[.string s, .int .u8 47] W fun e w' => e = .returned (.int .i64 i) ∧ w' = W)) (hq : (A.toList == [42]) = true) (ef : lo = (fa : Int)) (et : hi = (ta : Int)) (g1 : lo ≤ (fa : Int)) (g2 : (ta : Int) ≤ hi) (g3 : fa ≤ ta) :
    Calls Tryd.prog 39 #[.string s, .int .i64 lo, .int .i64 hi] w fun e w' => e = .returned (.int .u64 ((setOf fa ta st : Nat) : Int)) ∧ Below w.heap.size w w' := by
  have iw : IntKind.i64.wrap (i + 1) = i + 1 := by rw [IntKind.wrap_i64]; omega
  have i3 : i ≤ (s.size : Int) := by omega
  have i4 : i + 1 ≤ (s.size : Int) := by omega
  subst ef et
  have g4 : (fa : Int) ≤ (ta : Int) := by omega
  have g5 : ta ≤ 63 := by omega
  obtain ⟨w0, hw0⟩ : ∃ w0, w0 = w := ⟨_, rfl⟩
  rw [show Below w.heap.size w = Below w0.heap.size w0 by rw [hw0]]
  have HBS : Aside0 (Below w0.heap.size w0 w) := ⟨by rw [hw0]; exact Below.refl _ _⟩
  clear hw0
  go_enter Tryd.func39, Tryd.ntmps39
  go_wp2_with (first | (go_at_call 51; with_reducible refine (CB.out _).mono ?_; rintro e wz ⟨rfl, rfl⟩) | (go_at_call 38; with_reducible refine (CI.out _).mono ?_; rintro e wz ⟨rfl, rfl⟩))
  go_loopg [13, 14] (many fa ta st) (fun g v13 v14 wr => ∃ k x S : Nat, Aside0 (x = fa + k * st ∧ S = setTo fa st k) ∧ v14 = .int .i64 x ∧ g + k = many fa ta st ∧ v13 = .int .u64 S ∧ Aside0 (Below w0.heap.size w0 wr))
  case atStart => exact ⟨0, fa, 0, ⟨by simp, rfl⟩, rfl, by omega, rfl, HBS⟩
  case round =>
    obtain ⟨k, x, S, HX, rfl, hg, rfl, HW⟩ := hrel
    by_cases hx : x ≤ ta
    · have HK : Aside0 (k < many fa ta st) := ⟨(many_iff st1).2 (by rw [← HX.out.1]; exact hx)⟩
      have hkm := HK.out
      have xi : (x : Int) ≤ (ta : Int) := by omega
      have x63 : (x : Int) ≤ 63 := by omega
      have xw : IntKind.i64.wrap ((x : Int) + (st : Int)) = (x : Int) + (st : Int) := by rw [IntKind.wrap_i64]; omega
      go_wp2
      go_roundg (many fa ta st - k - 1)
      case measure => omega
      case rel =>
        have hS : S < 2 ^ 64 := by
          rw [HX.out.2]
          exact setTo_lt _ _ _ _ fun j hj => by
            have := (many_iff (low := fa) (high := ta) (k := j) st1).1 (by omega)
            omega
        exact ⟨k + 1, x + st, S ||| 2 ^ x, ⟨by rw [HX.out.1, Nat.add_mul]; omega, by rw [setTo_succ, ← HX.out.1, HX.out.2]⟩, by push_cast; rfl, by omega, by rw [or_bit hS (by omega)], HW⟩
    · have xi : ¬ (x : Int) ≤ (ta : Int) := by omega
      have HK : Aside0 (k = many fa ta st) := ⟨by
        have : ¬ k < many fa ta st := fun h => hx (by rw [HX.out.1]; exact (many_iff st1).1 h)
        omega⟩
      have HSS : Aside0 (S = setOf fa ta st) := ⟨by rw [HX.out.2, HK.out]; rfl⟩
      obtain rfl := HSS.out
      go_wp2
      go_ret
      exact ⟨rfl, HW.out⟩
set_option maxRecDepth 100000 in
set_option maxHeartbeats 4000000 in
theorem item_p1 (lo hi : Int) (s : ByteArray) (w : World) (i : Int) (A B : ByteArray) (n : Int) (k : Int) (f : Int) (hs : s.size ≤ 1000) (l0 : 0 ≤ lo) (l1 : lo ≤ hi) (l2 : hi ≤ 63) (hi0 : 0 ≤ i) (hi2 : i < (s.size : Int)) (hA : s.extract 0 i.toNat = A) (hB : s.extract (i + 1).toNat s.size = B) (hz : A.size ≤ 1000) (CB : Aside0 (∀ W, Calls Tryd.prog 51 #[.string B] W fun e w' => e = .returned (.int .i64 n) ∧ w' = W)) (hn : 1 ≤ n) (CI : Aside0 (∀ W, Calls Tryd.prog 38 #[.string s, .int .u8 47] W fun e w' => e = .returned (.int .i64 i) ∧ w' = W)) (hq : (A.toList == [42]) = false) (CK : Aside0 (∀ W, Calls Tryd.prog 38 #[.string A, .int .u8 45] W fun e w' => e = .returned (.int .i64 k) ∧ w' = W)) (hk : k < 0) (CF : Aside0 (∀ W, Calls Tryd.prog 51 #[.string A] W fun e w' => e = .returned (.int .i64 f) ∧ w' = W)) :
    Calls Tryd.prog 39 #[.string s, .int .i64 lo, .int .i64 hi] w fun e w' => e = .returned (.int .u64 0) ∧ Below w.heap.size w w' := by
  have iw : IntKind.i64.wrap (i + 1) = i + 1 := by rw [IntKind.wrap_i64]; omega
  have i3 : i ≤ (s.size : Int) := by omega
  have i4 : i + 1 ≤ (s.size : Int) := by omega
  obtain ⟨w0, hw0⟩ : ∃ w0, w0 = w := ⟨_, rfl⟩
  rw [show Below w.heap.size w = Below w0.heap.size w0 by rw [hw0]]
  have HBS : Aside0 (Below w0.heap.size w0 w) := ⟨by rw [hw0]; exact Below.refl _ _⟩
  clear hw0
  go_enter Tryd.func39, Tryd.ntmps39
  go_wp2_with (first | (go_at_call 51; with_reducible refine (CB.out _).mono ?_; rintro e wz ⟨rfl, rfl⟩) | (go_at_call 38; with_reducible refine (CI.out _).mono ?_; rintro e wz ⟨rfl, rfl⟩) | (go_at_call 38; with_reducible refine (CK.out _).mono ?_; rintro e wz ⟨rfl, rfl⟩) | (go_at_call 51; with_reducible refine (CF.out _).mono ?_; rintro e wz ⟨rfl, rfl⟩))
  go_ret
  exact ⟨rfl, HBS.out⟩
set_option maxRecDepth 100000 in
set_option maxHeartbeats 4000000 in
theorem item_p2a (lo hi : Int) (s : ByteArray) (w : World) (i : Int) (A B : ByteArray) (n : Int) (k : Int) (F1 F2 : ByteArray) (f t : Int) (hs : s.size ≤ 1000) (l0 : 0 ≤ lo) (l1 : lo ≤ hi) (l2 : hi ≤ 63) (hi0 : 0 ≤ i) (hi2 : i < (s.size : Int)) (hA : s.extract 0 i.toNat = A) (hB : s.extract (i + 1).toNat s.size = B) (hz : A.size ≤ 1000) (CB : Aside0 (∀ W, Calls Tryd.prog 51 #[.string B] W fun e w' => e = .returned (.int .i64 n) ∧ w' = W)) (hn : 1 ≤ n) (CI : Aside0 (∀ W, Calls Tryd.prog 38 #[.string s, .int .u8 47] W fun e w' => e = .returned (.int .i64 i) ∧ w' = W)) (hq : (A.toList == [42]) = false) (CK : Aside0 (∀ W, Calls Tryd.prog 38 #[.string A, .int .u8 45] W fun e w' => e = .returned (.int .i64 k) ∧ w' = W)) (hk : 0 ≤ k) (hk2 : k < (A.size : Int)) (hF1 : A.extract 0 k.toNat = F1) (hF2 : A.extract (k + 1).toNat A.size = F2) (CF1 : Aside0 (∀ W, Calls Tryd.prog 51 #[.string F1] W fun e w' => e = .returned (.int .i64 f) ∧ w' = W)) (CF2 : Aside0 (∀ W, Calls Tryd.prog 51 #[.string F2] W fun e w' => e = .returned (.int .i64 t) ∧ w' = W)) (b1 : f < lo) :
    Calls Tryd.prog 39 #[.string s, .int .i64 lo, .int .i64 hi] w fun e w' => e = .returned (.int .u64 0) ∧ Below w.heap.size w w' := by
  have iw : IntKind.i64.wrap (i + 1) = i + 1 := by rw [IntKind.wrap_i64]; omega
  have i3 : i ≤ (s.size : Int) := by omega
  have i4 : i + 1 ≤ (s.size : Int) := by omega
  have kw : IntKind.i64.wrap (k + 1) = k + 1 := by rw [IntKind.wrap_i64]; omega
  have k3 : k ≤ (A.size : Int) := by omega
  have k4 : k + 1 ≤ (A.size : Int) := by omega
  obtain ⟨w0, hw0⟩ : ∃ w0, w0 = w := ⟨_, rfl⟩
  rw [show Below w.heap.size w = Below w0.heap.size w0 by rw [hw0]]
  have HBS : Aside0 (Below w0.heap.size w0 w) := ⟨by rw [hw0]; exact Below.refl _ _⟩
  clear hw0
  go_enter Tryd.func39, Tryd.ntmps39
  go_upto_region 16 with (first | (go_at_call 51; with_reducible refine (CB.out _).mono ?_; rintro e wz ⟨rfl, rfl⟩) | (go_at_call 38; with_reducible refine (CI.out _).mono ?_; rintro e wz ⟨rfl, rfl⟩) | (go_at_call 38; with_reducible refine (CK.out _).mono ?_; rintro e wz ⟨rfl, rfl⟩))
  go_quiet ((first | (with_reducible refine (CF1.out _).mono ?_; exact fun e w' q => ⟨q.1, _, q.2⟩) | (with_reducible refine (CF2.out _).mono ?_; exact fun e w' q => ⟨q.1, _, q.2⟩)))
  go_wp2
  go_ret
  exact ⟨rfl, pw_below_drewN HBS.out _⟩
set_option maxRecDepth 100000 in
set_option maxHeartbeats 4000000 in
theorem item_p2b (lo hi : Int) (s : ByteArray) (w : World) (i : Int) (A B : ByteArray) (n : Int) (k : Int) (F1 F2 : ByteArray) (f t : Int) (hs : s.size ≤ 1000) (l0 : 0 ≤ lo) (l1 : lo ≤ hi) (l2 : hi ≤ 63) (hi0 : 0 ≤ i) (hi2 : i < (s.size : Int)) (hA : s.extract 0 i.toNat = A) (hB : s.extract (i + 1).toNat s.size = B) (hz : A.size ≤ 1000) (CB : Aside0 (∀ W, Calls Tryd.prog 51 #[.string B] W fun e w' => e = .returned (.int .i64 n) ∧ w' = W)) (hn : 1 ≤ n) (CI : Aside0 (∀ W, Calls Tryd.prog 38 #[.string s, .int .u8 47] W fun e w' => e = .returned (.int .i64 i) ∧ w' = W)) (hq : (A.toList == [42]) = false) (CK : Aside0 (∀ W, Calls Tryd.prog 38 #[.string A, .int .u8 45] W fun e w' => e = .returned (.int .i64 k) ∧ w' = W)) (hk : 0 ≤ k) (hk2 : k < (A.size : Int)) (hF1 : A.extract 0 k.toNat = F1) (hF2 : A.extract (k + 1).toNat A.size = F2) (CF1 : Aside0 (∀ W, Calls Tryd.prog 51 #[.string F1] W fun e w' => e = .returned (.int .i64 f) ∧ w' = W)) (CF2 : Aside0 (∀ W, Calls Tryd.prog 51 #[.string F2] W fun e w' => e = .returned (.int .i64 t) ∧ w' = W)) (b1 : lo ≤ f) (b2 : hi < t) :
    Calls Tryd.prog 39 #[.string s, .int .i64 lo, .int .i64 hi] w fun e w' => e = .returned (.int .u64 0) ∧ Below w.heap.size w w' := by
  have iw : IntKind.i64.wrap (i + 1) = i + 1 := by rw [IntKind.wrap_i64]; omega
  have i3 : i ≤ (s.size : Int) := by omega
  have i4 : i + 1 ≤ (s.size : Int) := by omega
  have kw : IntKind.i64.wrap (k + 1) = k + 1 := by rw [IntKind.wrap_i64]; omega
  have k3 : k ≤ (A.size : Int) := by omega
  have k4 : k + 1 ≤ (A.size : Int) := by omega
  obtain ⟨w0, hw0⟩ : ∃ w0, w0 = w := ⟨_, rfl⟩
  rw [show Below w.heap.size w = Below w0.heap.size w0 by rw [hw0]]
  have HBS : Aside0 (Below w0.heap.size w0 w) := ⟨by rw [hw0]; exact Below.refl _ _⟩
  clear hw0
  go_enter Tryd.func39, Tryd.ntmps39
  go_upto_region 16 with (first | (go_at_call 51; with_reducible refine (CB.out _).mono ?_; rintro e wz ⟨rfl, rfl⟩) | (go_at_call 38; with_reducible refine (CI.out _).mono ?_; rintro e wz ⟨rfl, rfl⟩) | (go_at_call 38; with_reducible refine (CK.out _).mono ?_; rintro e wz ⟨rfl, rfl⟩))
  go_quiet ((first | (with_reducible refine (CF1.out _).mono ?_; exact fun e w' q => ⟨q.1, _, q.2⟩) | (with_reducible refine (CF2.out _).mono ?_; exact fun e w' q => ⟨q.1, _, q.2⟩)))
  go_wp2
  go_ret
  exact ⟨rfl, pw_below_drewN HBS.out _⟩
set_option maxRecDepth 100000 in
set_option maxHeartbeats 4000000 in
theorem item_p2c (lo hi : Int) (s : ByteArray) (w : World) (i : Int) (A B : ByteArray) (n : Int) (k : Int) (F1 F2 : ByteArray) (f t : Int) (hs : s.size ≤ 1000) (l0 : 0 ≤ lo) (l1 : lo ≤ hi) (l2 : hi ≤ 63) (hi0 : 0 ≤ i) (hi2 : i < (s.size : Int)) (hA : s.extract 0 i.toNat = A) (hB : s.extract (i + 1).toNat s.size = B) (hz : A.size ≤ 1000) (CB : Aside0 (∀ W, Calls Tryd.prog 51 #[.string B] W fun e w' => e = .returned (.int .i64 n) ∧ w' = W)) (hn : 1 ≤ n) (CI : Aside0 (∀ W, Calls Tryd.prog 38 #[.string s, .int .u8 47] W fun e w' => e = .returned (.int .i64 i) ∧ w' = W)) (hq : (A.toList == [42]) = false) (CK : Aside0 (∀ W, Calls Tryd.prog 38 #[.string A, .int .u8 45] W fun e w' => e = .returned (.int .i64 k) ∧ w' = W)) (hk : 0 ≤ k) (hk2 : k < (A.size : Int)) (hF1 : A.extract 0 k.toNat = F1) (hF2 : A.extract (k + 1).toNat A.size = F2) (CF1 : Aside0 (∀ W, Calls Tryd.prog 51 #[.string F1] W fun e w' => e = .returned (.int .i64 f) ∧ w' = W)) (CF2 : Aside0 (∀ W, Calls Tryd.prog 51 #[.string F2] W fun e w' => e = .returned (.int .i64 t) ∧ w' = W)) (b1 : lo ≤ f) (b2 : t ≤ hi) (b3 : t < f) :
    Calls Tryd.prog 39 #[.string s, .int .i64 lo, .int .i64 hi] w fun e w' => e = .returned (.int .u64 0) ∧ Below w.heap.size w w' := by
  have iw : IntKind.i64.wrap (i + 1) = i + 1 := by rw [IntKind.wrap_i64]; omega
  have i3 : i ≤ (s.size : Int) := by omega
  have i4 : i + 1 ≤ (s.size : Int) := by omega
  have kw : IntKind.i64.wrap (k + 1) = k + 1 := by rw [IntKind.wrap_i64]; omega
  have k3 : k ≤ (A.size : Int) := by omega
  have k4 : k + 1 ≤ (A.size : Int) := by omega
  obtain ⟨w0, hw0⟩ : ∃ w0, w0 = w := ⟨_, rfl⟩
  rw [show Below w.heap.size w = Below w0.heap.size w0 by rw [hw0]]
  have HBS : Aside0 (Below w0.heap.size w0 w) := ⟨by rw [hw0]; exact Below.refl _ _⟩
  clear hw0
  go_enter Tryd.func39, Tryd.ntmps39
  go_upto_region 16 with (first | (go_at_call 51; with_reducible refine (CB.out _).mono ?_; rintro e wz ⟨rfl, rfl⟩) | (go_at_call 38; with_reducible refine (CI.out _).mono ?_; rintro e wz ⟨rfl, rfl⟩) | (go_at_call 38; with_reducible refine (CK.out _).mono ?_; rintro e wz ⟨rfl, rfl⟩))
  go_quiet ((first | (with_reducible refine (CF1.out _).mono ?_; exact fun e w' q => ⟨q.1, _, q.2⟩) | (with_reducible refine (CF2.out _).mono ?_; exact fun e w' q => ⟨q.1, _, q.2⟩)))
  go_wp2
  go_ret
  exact ⟨rfl, pw_below_drewN HBS.out _⟩
set_option maxRecDepth 100000 in
set_option maxHeartbeats 4000000 in
theorem item_p2g (lo hi : Int) (s : ByteArray) (w : World) (i : Int) (A B : ByteArray) (st : Nat) (k : Int) (F1 F2 : ByteArray) (fa ta : Nat) (hs : s.size ≤ 1000) (l0 : 0 ≤ lo) (l1 : lo ≤ hi) (l2 : hi ≤ 63) (hi0 : 0 ≤ i) (hi2 : i < (s.size : Int)) (hA : s.extract 0 i.toNat = A) (hB : s.extract (i + 1).toNat s.size = B) (hz : A.size ≤ 1000) (CB : Aside0 (∀ W, Calls Tryd.prog 51 #[.string B] W fun e w' => e = .returned (.int .i64 (st : Int)) ∧ w' = W)) (st1 : 0 < st) (st2 : st ≤ 99) (CI : Aside0 (∀ W, Calls Tryd.prog 38 #[.string s, .int .u8 47] W fun e w' => e = .returned (.int .i64 i) ∧ w' = W)) (hq : (A.toList == [42]) = false) (CK : Aside0 (∀ W, Calls Tryd.prog 38 #[.string A, .int .u8 45] W fun e w' => e = .returned (.int .i64 k) ∧ w' = W)) (hk : 0 ≤ k) (hk2 : k < (A.size : Int)) (hF1 : A.extract 0 k.toNat = F1) (hF2 : A.extract (k + 1).toNat A.size = F2) (CF1 : Aside0 (∀ W, Calls Tryd.prog 51 #[.string F1] W fun e w' => e = .returned (.int .i64 (fa : Int)) ∧ w' = W)) (CF2 : Aside0 (∀ W, Calls Tryd.prog 51 #[.string F2] W fun e w' => e = .returned (.int .i64 (ta : Int)) ∧ w' = W)) (g1 : lo ≤ (fa : Int)) (g2 : (ta : Int) ≤ hi) (g3 : fa ≤ ta) :
    Calls Tryd.prog 39 #[.string s, .int .i64 lo, .int .i64 hi] w fun e w' => e = .returned (.int .u64 ((setOf fa ta st : Nat) : Int)) ∧ Below w.heap.size w w' := by
  have iw : IntKind.i64.wrap (i + 1) = i + 1 := by rw [IntKind.wrap_i64]; omega
  have i3 : i ≤ (s.size : Int) := by omega
  have i4 : i + 1 ≤ (s.size : Int) := by omega
  have kw : IntKind.i64.wrap (k + 1) = k + 1 := by rw [IntKind.wrap_i64]; omega
  have k3 : k ≤ (A.size : Int) := by omega
  have k4 : k + 1 ≤ (A.size : Int) := by omega
  have g4 : (fa : Int) ≤ (ta : Int) := by omega
  have g5 : ta ≤ 63 := by omega
  obtain ⟨w0, hw0⟩ : ∃ w0, w0 = w := ⟨_, rfl⟩
  rw [show Below w.heap.size w = Below w0.heap.size w0 by rw [hw0]]
  have HBS : Aside0 (Below w0.heap.size w0 w) := ⟨by rw [hw0]; exact Below.refl _ _⟩
  clear hw0
  go_enter Tryd.func39, Tryd.ntmps39
  go_upto_region 16 with (first | (go_at_call 51; with_reducible refine (CB.out _).mono ?_; rintro e wz ⟨rfl, rfl⟩) | (go_at_call 38; with_reducible refine (CI.out _).mono ?_; rintro e wz ⟨rfl, rfl⟩) | (go_at_call 38; with_reducible refine (CK.out _).mono ?_; rintro e wz ⟨rfl, rfl⟩))
  go_quiet ((first | (with_reducible refine (CF1.out _).mono ?_; exact fun e w' q => ⟨q.1, _, q.2⟩) | (with_reducible refine (CF2.out _).mono ?_; exact fun e w' q => ⟨q.1, _, q.2⟩)))
  go_wp2
  go_loopg [13, 14] (many fa ta st) (fun g v13 v14 wr => ∃ k x S : Nat, Aside0 (x = fa + k * st ∧ S = setTo fa st k) ∧ v14 = .int .i64 x ∧ g + k = many fa ta st ∧ v13 = .int .u64 S ∧ Aside0 (Below w0.heap.size w0 wr))
  case atStart => exact ⟨0, fa, 0, ⟨by simp, rfl⟩, rfl, by omega, rfl, ⟨pw_below_drewN HBS.out _⟩⟩
  case round =>
    obtain ⟨k, x, S, HX, rfl, hg, rfl, HW⟩ := hrel
    by_cases hx : x ≤ ta
    · have HK : Aside0 (k < many fa ta st) := ⟨(many_iff st1).2 (by rw [← HX.out.1]; exact hx)⟩
      have hkm := HK.out
      have xi : (x : Int) ≤ (ta : Int) := by omega
      have x63 : (x : Int) ≤ 63 := by omega
      have xw : IntKind.i64.wrap ((x : Int) + (st : Int)) = (x : Int) + (st : Int) := by rw [IntKind.wrap_i64]; omega
      go_wp2
      go_roundg (many fa ta st - k - 1)
      case measure => omega
      case rel =>
        have hS : S < 2 ^ 64 := by
          rw [HX.out.2]
          exact setTo_lt _ _ _ _ fun j hj => by
            have := (many_iff (low := fa) (high := ta) (k := j) st1).1 (by omega)
            omega
        exact ⟨k + 1, x + st, S ||| 2 ^ x, ⟨by rw [HX.out.1, Nat.add_mul]; omega, by rw [setTo_succ, ← HX.out.1, HX.out.2]⟩, by push_cast; rfl, by omega, by rw [or_bit hS (by omega)], HW⟩
    · have xi : ¬ (x : Int) ≤ (ta : Int) := by omega
      have HK : Aside0 (k = many fa ta st) := ⟨by
        have : ¬ k < many fa ta st := fun h => hx (by rw [HX.out.1]; exact (many_iff st1).1 h)
        omega⟩
      have HSS : Aside0 (S = setOf fa ta st) := ⟨by rw [HX.out.2, HK.out]; rfl⟩
      obtain rfl := HSS.out
      go_wp2
      go_ret
      exact ⟨rfl, HW.out⟩
end Go.Proofs.YteloamnakikbbaaDoor.Cron

/- The document's item: what it answers. -/
namespace Go.Proofs.YteloamnakikbbaaDoor.Cron
set_option linter.unusedVariables false
set_option linter.unusedSimpArgs false
open Go.RowKit Go.Proofs.YteloamnakikbbaaDoorW.PrintWords Go.Proofs.YteloamnakikbbaaDoorW.PrintLast Go.Proofs.YteloamnakikbbaaDoor.Base Go.Proofs.YteloamnakikbbaaDoor.CronPure Go.Proofs.YteloamnakikbbaaDoor.NamesPure

theorem ext_take (s : ByteArray) (n : Nat) : (s.extract 0 n).data.toList = s.data.toList.take n := by
  rw [ByteArray.data_extract, Array.toList_extract, List.extract_eq_take_drop]
  simp
theorem ext_drop (s : ByteArray) (n : Nat) : (s.extract n s.size).data.toList = s.data.toList.drop n := by
  rw [ByteArray.data_extract, Array.toList_extract, List.extract_eq_take_drop]
  apply List.take_of_length_le
  simp
theorem ritem_any (lo hi : Int) (s : ByteArray) (w : World) (hs : s.size ≤ 1000) (h0 : 0 ≤ lo) (h1 : lo ≤ hi) (h2 : hi ≤ 63) :
    Calls Tryd.prog 39 #[.string s, .int .i64 lo, .int .i64 hi] w fun e w' => e = .returned (.int .u64 (itemD lo hi s.data.toList : Nat)) ∧ Below w.heap.size w w' := by
  obtain ⟨l, hl⟩ : ∃ l, l = s.data.toList := ⟨_, rfl⟩
  rw [← hl]
  obtain ⟨i, hi'⟩ : ∃ i, i = Lib.index l [47] := ⟨_, rfl⟩
  have CI : ∀ W, Calls Tryd.prog 38 #[.string s, .int .u8 47] W fun e w' => e = .returned (.int .i64 i) ∧ w' = W := fun W => by rw [hi', hl]; exact rcut_any s 47 W hs
  rw [itemD, ← hi']
  by_cases hi0 : i < 0
  · rw [if_pos hi0]
    clear hi'
    subst hl
    by_cases hq : s.data.toList = [42]
    · have hq2 : (s.toList == [42]) = true := by rw [ByteArray.toList_eq]; simpa using hq
      rw [spanD, if_pos hq]
      have hres : setD lo hi (1) (some (lo, hi)) = setOf lo.toNat hi.toNat 1 := by
        have hn : ¬ (lo < lo ∨ hi < hi ∨ hi < lo) := by omega
        simp only [setD]
        rw [if_neg hn]
        rfl
      rw [hres]
      exact item_us lo hi s w i lo.toNat hi.toNat hs h0 h1 h2 hi0 ⟨CI⟩ hq2 (by omega) (by omega) (by omega) (by omega) (by omega)
    have hq2 : (s.toList == [42]) = false := by rw [ByteArray.toList_eq]; simpa using hq
    obtain ⟨k, hk⟩ : ∃ k, k = Lib.index s.data.toList [45] := ⟨_, rfl⟩
    have CK : ∀ W, Calls Tryd.prog 38 #[.string s, .int .u8 45] W fun e w' => e = .returned (.int .i64 k) ∧ w' = W := fun W => by rw [hk]; exact rcut_any s 45 W hs
    rw [spanD, if_neg hq, ← hk]
    by_cases hk0 : k < 0
    · rw [if_pos hk0, if_neg (by simp)]
      obtain ⟨f, hf⟩ : ∃ f, f = numR s.data.toList := ⟨_, rfl⟩
      have CF : ∀ W, Calls Tryd.prog 51 #[.string s] W fun e w' => e = .returned (.int .i64 f) ∧ w' = W := fun W => by rw [hf]; exact rnumber_any s W hs
      rw [← hf]
      simp only [setD]
      by_cases b1 : f < lo
      · rw [if_pos (Or.inl b1)]
        exact item_u1a lo hi s w i k f hs h0 h1 h2 hi0 ⟨CI⟩ hq2 ⟨CK⟩ hk0 ⟨CF⟩ b1
      by_cases b2 : hi < f
      · rw [if_pos (Or.inr (Or.inl b2))]
        exact item_u1b lo hi s w i k f hs h0 h1 h2 hi0 ⟨CI⟩ hq2 ⟨CK⟩ hk0 ⟨CF⟩ (by omega) b2
      have hn : ¬ (f < lo ∨ hi < f ∨ f < f) := by omega
      rw [if_neg hn]
      obtain ⟨fa, rfl⟩ := Int.eq_ofNat_of_zero_le (show 0 ≤ f by omega)
      exact item_u1g lo hi s w i k fa hs h0 h1 h2 hi0 ⟨CI⟩ hq2 ⟨CK⟩ hk0 ⟨CF⟩ (by omega) (by omega)
    have hk1 : 0 ≤ k := by omega
    have hkr : k < (s.size : Int) := by
      have := Lib.index_room s.data.toList [45] (by omega)
      have hl : s.data.toList.length = s.size := by simp
      simp at this
      omega
    rw [if_neg hk0]
    obtain ⟨F1, hF1⟩ : ∃ F, s.extract 0 k.toNat = F := ⟨_, rfl⟩
    obtain ⟨F2, hF2⟩ : ∃ F, s.extract (k + 1).toNat s.size = F := ⟨_, rfl⟩
    have e1 : s.data.toList.take k.toNat = F1.data.toList := by rw [← hF1, ext_take]
    have e2 : s.data.toList.drop (k.toNat + 1) = F2.data.toList := by rw [← hF2, show (k + 1).toNat = k.toNat + 1 by omega, ext_drop]
    have z1 : F1.size ≤ 1000 := by
      have := congrArg List.length e1
      have hl : s.data.toList.length = s.size := by simp
      simp at this
      omega
    have z2 : F2.size ≤ 1000 := by
      have := congrArg List.length e2
      have hl : s.data.toList.length = s.size := by simp
      simp at this
      omega
    rw [e1, e2]
    obtain ⟨f, hf⟩ : ∃ f, f = numR F1.data.toList := ⟨_, rfl⟩
    obtain ⟨t, ht⟩ : ∃ t, t = numR F2.data.toList := ⟨_, rfl⟩
    have CF1 : ∀ W, Calls Tryd.prog 51 #[.string F1] W fun e w' => e = .returned (.int .i64 f) ∧ w' = W := fun W => by rw [hf]; exact rnumber_any F1 W z1
    have CF2 : ∀ W, Calls Tryd.prog 51 #[.string F2] W fun e w' => e = .returned (.int .i64 t) ∧ w' = W := fun W => by rw [ht]; exact rnumber_any F2 W z2
    rw [← hf, ← ht]
    simp only [setD]
    by_cases b1 : f < lo
    · rw [if_pos (Or.inl b1)]
      exact item_u2a lo hi s w i k F1 F2 f t hs h0 h1 h2 hi0 ⟨CI⟩ hq2 ⟨CK⟩ hk1 hkr hF1 hF2 ⟨CF1⟩ ⟨CF2⟩ b1
    by_cases b2 : hi < t
    · rw [if_pos (Or.inr (Or.inl b2))]
      exact item_u2b lo hi s w i k F1 F2 f t hs h0 h1 h2 hi0 ⟨CI⟩ hq2 ⟨CK⟩ hk1 hkr hF1 hF2 ⟨CF1⟩ ⟨CF2⟩ (by omega) b2
    by_cases b3 : t < f
    · rw [if_pos (Or.inr (Or.inr b3))]
      exact item_u2c lo hi s w i k F1 F2 f t hs h0 h1 h2 hi0 ⟨CI⟩ hq2 ⟨CK⟩ hk1 hkr hF1 hF2 ⟨CF1⟩ ⟨CF2⟩ (by omega) (by omega) b3
    have hn : ¬ (f < lo ∨ hi < t ∨ t < f) := by omega
    rw [if_neg hn]
    obtain ⟨fa, rfl⟩ := Int.eq_ofNat_of_zero_le (show 0 ≤ f by omega)
    obtain ⟨ta, rfl⟩ := Int.eq_ofNat_of_zero_le (show 0 ≤ t by omega)
    exact item_u2g lo hi s w i k F1 F2 fa ta hs h0 h1 h2 hi0 ⟨CI⟩ hq2 ⟨CK⟩ hk1 hkr hF1 hF2 ⟨CF1⟩ ⟨CF2⟩ (by omega) (by omega) (by omega)
  · rw [if_neg hi0]
    have hi0 : 0 ≤ i := by omega
    have hi2 : i < (s.size : Int) := by
      have := Lib.index_room l [47] (by omega)
      have hl2 : l.length = s.size := by rw [hl]; simp
      simp at this
      omega
    obtain ⟨A, hA⟩ : ∃ A, s.extract 0 i.toNat = A := ⟨_, rfl⟩
    obtain ⟨B, hB⟩ : ∃ B, s.extract (i + 1).toNat s.size = B := ⟨_, rfl⟩
    obtain ⟨lA, hLA⟩ : ∃ lA, lA = A.data.toList := ⟨_, rfl⟩
    obtain ⟨lB, hLB⟩ : ∃ lB, lB = B.data.toList := ⟨_, rfl⟩
    have eA : l.take i.toNat = lA := by rw [hLA, ← hA, ext_take, hl]
    have eB : l.drop (i.toNat + 1) = lB := by rw [hLB, ← hB, show (i + 1).toNat = i.toNat + 1 by omega, ext_drop, hl]
    have hl2 : l.length = s.size := by rw [hl]; simp
    have hz : A.size ≤ 1000 := by
      have := congrArg List.length eA
      rw [hLA] at this
      simp at this
      omega
    have hzB : B.size ≤ 1000 := by
      have := congrArg List.length eB
      rw [hLB] at this
      simp at this
      omega
    rw [eA, eB]
    obtain ⟨n, hn⟩ : ∃ n, n = numR lB := ⟨_, rfl⟩
    have CB : ∀ W, Calls Tryd.prog 51 #[.string B] W fun e w' => e = .returned (.int .i64 n) ∧ w' = W := fun W => by rw [hn, hLB]; exact rnumber_any B W hzB
    by_cases hs1 : numR lB < 1
    · rw [if_pos hs1]
      exact item_p0 lo hi s w i A B n hs h0 h1 h2 hi0 hi2 hA hB hz ⟨CB⟩ (by omega) ⟨CI⟩
    rw [if_neg hs1]
    have hn1 : 1 ≤ n := by omega
    have hn99 : n ≤ 99 := by
      rw [hn]
      unfold numR
      split
      · exact (numV_bd lB).2
      · omega
    have CBn : ∀ W, Calls Tryd.prog 51 #[.string B] W fun e w' => e = .returned (.int .i64 ((numR lB).toNat : Nat)) ∧ w' = W := fun W => by
      rw [show (((numR lB).toNat : Nat) : Int) = n by omega]; exact CB W
    have st1 : 0 < (numR lB).toNat := by omega
    have st2 : (numR lB).toNat ≤ 99 := by omega
    subst hLA
    by_cases hq : A.data.toList = [42]
    · have hq2 : (A.toList == [42]) = true := by rw [ByteArray.toList_eq]; simpa using hq
      rw [spanD, if_pos hq]
      have hres : setD lo hi (numR lB) (some (lo, hi)) = setOf lo.toNat hi.toNat (numR lB).toNat := by
        have hn : ¬ (lo < lo ∨ hi < hi ∨ hi < lo) := by omega
        simp only [setD]
        rw [if_neg hn]
        
      rw [hres]
      exact item_ps lo hi s w i A B (numR lB).toNat lo.toNat hi.toNat hs h0 h1 h2 hi0 hi2 hA hB hz ⟨CBn⟩ st1 st2 ⟨CI⟩ hq2 (by omega) (by omega) (by omega) (by omega) (by omega)
    have hq2 : (A.toList == [42]) = false := by rw [ByteArray.toList_eq]; simpa using hq
    obtain ⟨k, hk⟩ : ∃ k, k = Lib.index A.data.toList [45] := ⟨_, rfl⟩
    have CK : ∀ W, Calls Tryd.prog 38 #[.string A, .int .u8 45] W fun e w' => e = .returned (.int .i64 k) ∧ w' = W := fun W => by rw [hk]; exact rcut_any A 45 W hz
    rw [spanD, if_neg hq, ← hk]
    by_cases hk0 : k < 0
    · rw [if_pos hk0, if_pos rfl]
      have CF : ∀ W, Calls Tryd.prog 51 #[.string A] W fun e w' => e = .returned (.int .i64 (numR A.data.toList)) ∧ w' = W := fun W => rnumber_any A W hz
      exact item_p1 lo hi s w i A B n k _ hs h0 h1 h2 hi0 hi2 hA hB hz ⟨CB⟩ hn1 ⟨CI⟩ hq2 ⟨CK⟩ hk0 ⟨CF⟩
    have hk1 : 0 ≤ k := by omega
    have hkr : k < (A.size : Int) := by
      have := Lib.index_room A.data.toList [45] (by omega)
      have hl : A.data.toList.length = A.size := by simp
      simp at this
      omega
    rw [if_neg hk0]
    obtain ⟨F1, hF1⟩ : ∃ F, A.extract 0 k.toNat = F := ⟨_, rfl⟩
    obtain ⟨F2, hF2⟩ : ∃ F, A.extract (k + 1).toNat A.size = F := ⟨_, rfl⟩
    have e1 : A.data.toList.take k.toNat = F1.data.toList := by rw [← hF1, ext_take]
    have e2 : A.data.toList.drop (k.toNat + 1) = F2.data.toList := by rw [← hF2, show (k + 1).toNat = k.toNat + 1 by omega, ext_drop]
    have z1 : F1.size ≤ 1000 := by
      have := congrArg List.length e1
      have hl : A.data.toList.length = A.size := by simp
      simp at this
      omega
    have z2 : F2.size ≤ 1000 := by
      have := congrArg List.length e2
      have hl : A.data.toList.length = A.size := by simp
      simp at this
      omega
    rw [e1, e2]
    obtain ⟨f, hf⟩ : ∃ f, f = numR F1.data.toList := ⟨_, rfl⟩
    obtain ⟨t, ht⟩ : ∃ t, t = numR F2.data.toList := ⟨_, rfl⟩
    have CF1 : ∀ W, Calls Tryd.prog 51 #[.string F1] W fun e w' => e = .returned (.int .i64 f) ∧ w' = W := fun W => by rw [hf]; exact rnumber_any F1 W z1
    have CF2 : ∀ W, Calls Tryd.prog 51 #[.string F2] W fun e w' => e = .returned (.int .i64 t) ∧ w' = W := fun W => by rw [ht]; exact rnumber_any F2 W z2
    rw [← hf, ← ht]
    simp only [setD]
    by_cases b1 : f < lo
    · rw [if_pos (Or.inl b1)]
      exact item_p2a lo hi s w i A B n k F1 F2 f t hs h0 h1 h2 hi0 hi2 hA hB hz ⟨CB⟩ hn1 ⟨CI⟩ hq2 ⟨CK⟩ hk1 hkr hF1 hF2 ⟨CF1⟩ ⟨CF2⟩ b1
    by_cases b2 : hi < t
    · rw [if_pos (Or.inr (Or.inl b2))]
      exact item_p2b lo hi s w i A B n k F1 F2 f t hs h0 h1 h2 hi0 hi2 hA hB hz ⟨CB⟩ hn1 ⟨CI⟩ hq2 ⟨CK⟩ hk1 hkr hF1 hF2 ⟨CF1⟩ ⟨CF2⟩ (by omega) b2
    by_cases b3 : t < f
    · rw [if_pos (Or.inr (Or.inr b3))]
      exact item_p2c lo hi s w i A B n k F1 F2 f t hs h0 h1 h2 hi0 hi2 hA hB hz ⟨CB⟩ hn1 ⟨CI⟩ hq2 ⟨CK⟩ hk1 hkr hF1 hF2 ⟨CF1⟩ ⟨CF2⟩ (by omega) (by omega) b3
    have hn : ¬ (f < lo ∨ hi < t ∨ t < f) := by omega
    rw [if_neg hn]
    obtain ⟨fa, rfl⟩ := Int.eq_ofNat_of_zero_le (show 0 ≤ f by omega)
    obtain ⟨ta, rfl⟩ := Int.eq_ofNat_of_zero_le (show 0 ≤ t by omega)
    exact item_p2g lo hi s w i A B (numR lB).toNat k F1 F2 fa ta hs h0 h1 h2 hi0 hi2 hA hB hz ⟨CBn⟩ st1 st2 ⟨CI⟩ hq2 ⟨CK⟩ hk1 hkr hF1 hF2 ⟨CF1⟩ ⟨CF2⟩ (by omega) (by omega) (by omega)
end Go.Proofs.YteloamnakikbbaaDoor.Cron

/- The document's field, walked. -/
namespace Go.Proofs.YteloamnakikbbaaDoor.Cron
set_option linter.unusedVariables false
set_option linter.unusedSimpArgs false
open Go.RowKit Go.Proofs.YteloamnakikbbaaDoorW.PrintWords Go.Proofs.YteloamnakikbbaaDoorW.PrintLast Go.Proofs.YteloamnakikbbaaDoor.Base Go.Proofs.YteloamnakikbbaaDoor.CronPure Go.Proofs.YteloamnakikbbaaDoor.NamesPure

theorem setOf_pos {a b st : Nat} (h : a ≤ b) : setOf a b st ≠ 0 := fun e => by
  have h1 : 0 < many a b st := by unfold many; rw [if_pos h]; exact Nat.succ_pos _
  have h2 := (setTo_bit a st (many a b st) a).2 ⟨0, h1, by simp⟩
  rw [setOf] at e
  rw [e, Nat.zero_testBit] at h2
  cases h2
theorem item_pos {lo hi : Int} {l : List UInt8} {x : Nat} (h0 : 0 ≤ lo) (h1 : lo ≤ hi) (h2 : hi ≤ 63) (h : itemP lo hi l = some x) : x ≠ 0 := by
  unfold itemP at h
  dsimp only at h
  generalize Lib.cut l [47] = X at h
  have hb := spread_bd (lo := lo) (hi := hi) (l := X.1) h0 h1 h2
  generalize spreadP lo hi X.1 = S at h hb
  split at h
  · cases h
  · split at h
    · cases h
    · rename_i q1 q2
      have hok : S.2.2.2 = true := by
        cases hh : S.2.2.2 with
        | true => rfl
        | false => rw [hh] at q2; simp at q2
      obtain ⟨b1, b2, b3⟩ := hb hok
      injection h with h
      rw [← h]
      exact setOf_pos (by omega)
theorem cut_at {l : List UInt8} {k : Nat} (h : Lib.index l [44] = (k : Int)) : Lib.cut l [44] = (l.take k, l.drop (k + 1), true) := by
  have : 0 ≤ Lib.index l [44] := by omega
  unfold Lib.cut
  rw [if_pos this, h, Int.toNat_natCast]
  rfl
theorem cut_no {l : List UInt8} (h : Lib.index l [44] < 0) : Lib.cut l [44] = (l, [], false) := by
  have : ¬ 0 ≤ Lib.index l [44] := by omega
  unfold Lib.cut
  rw [if_neg this]
set_option maxRecDepth 100000 in
set_option maxHeartbeats 4000000 in
theorem rfield_any (lo hi : Int) (s : ByteArray) (w : World) (hs : s.size ≤ 1000) (h0 : 0 ≤ lo) (h1 : lo ≤ hi) (h2 : hi ≤ 63) :
    Calls Tryd.prog 21 #[.string s, .int .i64 lo, .int .i64 hi] w fun e w' => e = .returned (.int .u64 ((fieldP lo hi s.data.toList).getD 0 : Nat)) ∧ Below w.heap.size w w' := by
  have hlen : s.data.toList.length = s.size := by simp
  obtain ⟨F, hF⟩ := named (fieldP lo hi s.data.toList)
  rw [← hF.out]
  have HS : Aside0 (fieldF lo hi (s.size + 1) 0 s.data.toList = F) := ⟨by rw [hF.out, fieldP, hlen]⟩
  clear hF hlen
  go_enter Tryd.func21, Tryd.ntmps21
  go_wp2
  go_loopg [0, 7] (s.size + 1) (fun g v0 v7 wr => ∃ (G : Nat) (R : ByteArray) (S : Nat), v0 = .string R ∧ v7 = .int .u64 S ∧ g = G ∧ R.size ≤ 1000 ∧ R.size < G ∧ S < 18446744073709551616 ∧ Aside0 (fieldF lo hi G S R.data.toList = F) ∧ Aside0 (Below w.heap.size w wr))
  case atStart => exact ⟨s.size + 1, s, 0, rfl, rfl, rfl, hs, by omega, by omega, HS, ⟨Below.refl _ _⟩⟩
  case round =>
    obtain ⟨G, R, S, rfl, rfl, hg, hR, hRG, hS, HF, HB⟩ := hrel
    obtain ⟨G', rfl⟩ : ∃ G', G = G' + 1 := ⟨G - 1, by omega⟩
    obtain ⟨k, hk⟩ : ∃ k, k = Lib.index R.data.toList [44] := ⟨_, rfl⟩
    have CC : Aside0 (∀ W, Calls Tryd.prog 38 #[.string R, .int .u8 44] W fun e w' => e = .returned (.int .i64 k) ∧ w' = W) := ⟨fun W => by rw [hk]; exact rcut_any R 44 W hR⟩
    have hl2 : R.data.toList.length = R.size := by simp
    have HF2 := HF.out
    rw [fieldF] at HF2
    by_cases hk0 : k < 0
    · have hcut := cut_no (l := R.data.toList) (by omega)
      rw [hcut] at HF2
      simp only at HF2
      have hit := item_eq h0 h1 R.data.toList
      cases hp : itemP lo hi R.data.toList with
      | none =>
        have CT : Aside0 (∀ W, Calls Tryd.prog 39 #[.string R, .int .i64 lo, .int .i64 hi] W fun e w' => e = .returned (.int .u64 0) ∧ Below W.heap.size W w') := ⟨fun W => by
          have := ritem_any lo hi R W hR h0 h1 h2
          rw [← hit, hp] at this; exact this⟩
        rw [hp] at HF2
        have HN : Aside0 (F = none) := ⟨HF2.symm⟩
        clear hit hp HF2 hcut hl2 hk HS HF
        obtain rfl := HN.out
        go_wp2_with (first | (go_at_call 38; with_reducible refine (CC.out _).mono ?_; rintro e wz ⟨rfl, rfl⟩) | (go_at_call 39; with_reducible refine (CT.out _).mono ?_; rintro e w5 ⟨rfl, hb5⟩; (have HB5 := Aside0.mk (bthen HB.out hb5)); clear hb5))
        go_ret
        exact ⟨rfl, HB5.out⟩
      | some x =>
        have hx64 := item_lt h0 h1 h2 hp
        have hx0 := item_pos h0 h1 h2 hp
        have CT : Aside0 (∀ W, Calls Tryd.prog 39 #[.string R, .int .i64 lo, .int .i64 hi] W fun e w' => e = .returned (.int .u64 x) ∧ Below W.heap.size W w') := ⟨fun W => by
          have := ritem_any lo hi R W hR h0 h1 h2
          rw [← hit, hp] at this; exact this⟩
        rw [hp] at HF2
        simp only [Bool.false_eq_true, if_false] at HF2
        have HN : Aside0 (F = some (S ||| x)) := ⟨HF2.symm⟩
        have hz : ((x : Int) == 0) = false := by simpa using hx0
        have hor := bits_or_u64_nat S x hS hx64
        clear hit hp HF2 hcut hl2 hk HS HF hx0
        obtain rfl := HN.out
        go_wp2_with (first | (go_at_call 38; with_reducible refine (CC.out _).mono ?_; rintro e wz ⟨rfl, rfl⟩) | (go_at_call 39; with_reducible refine (CT.out _).mono ?_; rintro e w5 ⟨rfl, hb5⟩; (have HB5 := Aside0.mk (bthen HB.out hb5)); clear hb5))
        go_ret
        exact ⟨rfl, HB5.out⟩
    · obtain ⟨K, rfl⟩ := Int.eq_ofNat_of_zero_le (show 0 ≤ k by omega)
      have hcut := cut_at hk.symm
      have hKR : K < R.size := by
        have := Lib.index_room R.data.toList [44] (by omega)
        simp at this
        omega
      rw [hcut] at HF2
      simp only at HF2
      obtain ⟨A, hA⟩ : ∃ A, R.extract 0 K = A := ⟨_, rfl⟩
      obtain ⟨B, hB⟩ : ∃ B, R.extract (K + 1) R.size = B := ⟨_, rfl⟩
      have eA : R.data.toList.take K = A.data.toList := by rw [← hA, ext_take]
      have eB : R.data.toList.drop (K + 1) = B.data.toList := by rw [← hB, ext_drop]
      have zA : A.size = K := by
        have := congrArg List.length eA
        simp at this
        omega
      have zB : B.size = R.size - (K + 1) := by
        have := congrArg List.length eB
        simp at this
        omega
      rw [eA, eB] at HF2
      have hit := item_eq h0 h1 A.data.toList
      have KI : (K : Int) ≤ (R.size : Int) := by omega
      have KJ : (K : Int) + 1 ≤ (R.size : Int) := by omega
      have kw : IntKind.i64.wrap ((K : Int) + 1) = (K : Int) + 1 := by rw [IntKind.wrap_i64]; omega
      cases hp : itemP lo hi A.data.toList with
      | none =>
        have CT : Aside0 (∀ W, Calls Tryd.prog 39 #[.string A, .int .i64 lo, .int .i64 hi] W fun e w' => e = .returned (.int .u64 0) ∧ Below W.heap.size W w') := ⟨fun W => by
          have := ritem_any lo hi A W (by omega) h0 h1 h2
          rw [← hit, hp] at this; exact this⟩
        rw [hp] at HF2
        have HN : Aside0 (F = none) := ⟨HF2.symm⟩
        clear hit hp HF2 hcut hl2 hk HS HF eA eB zA zB
        obtain rfl := HN.out
        go_wp2_with (first | (go_at_call 38; with_reducible refine (CC.out _).mono ?_; rintro e wz ⟨rfl, rfl⟩) | (go_at_call 39; with_reducible refine (CT.out _).mono ?_; rintro e w5 ⟨rfl, hb5⟩; (have HB5 := Aside0.mk (bthen HB.out hb5)); clear hb5))
        go_ret
        exact ⟨rfl, HB5.out⟩
      | some x =>
        have hx64 := item_lt h0 h1 h2 hp
        have hx0 := item_pos h0 h1 h2 hp
        have CT : Aside0 (∀ W, Calls Tryd.prog 39 #[.string A, .int .i64 lo, .int .i64 hi] W fun e w' => e = .returned (.int .u64 x) ∧ Below W.heap.size W w') := ⟨fun W => by
          have := ritem_any lo hi A W (by omega) h0 h1 h2
          rw [← hit, hp] at this; exact this⟩
        rw [hp] at HF2
        simp only [if_true] at HF2
        have HN : Aside0 (fieldF lo hi G' (S ||| x) B.data.toList = F) := ⟨HF2⟩
        have hz : ((x : Int) == 0) = false := by simpa using hx0
        have hor := bits_or_u64_nat S x hS hx64
        have hSx : Aside0 (S ||| x < 18446744073709551616) := ⟨Nat.or_lt_two_pow (n := 64) hS hx64⟩
        have HZ : Aside0 (B.size ≤ 1000 ∧ B.size < G') := ⟨by omega⟩
        clear hit hp HF2 hcut hl2 hk HS HF hx0 eA eB zA zB
        go_wp2_with (first | (go_at_call 38; with_reducible refine (CC.out _).mono ?_; rintro e wz ⟨rfl, rfl⟩) | (go_at_call 39; with_reducible refine (CT.out _).mono ?_; rintro e w5 ⟨rfl, hb5⟩; (have HB5 := Aside0.mk (bthen HB.out hb5)); clear hb5))
        go_roundg G'
        case measure => omega
        case rel => exact ⟨G', B, S ||| x, rfl, rfl, rfl, HZ.out.1, HZ.out.2, hSx.out, HN, HB5⟩
end Go.Proofs.YteloamnakikbbaaDoor.Cron

/- The words of a rule, byte by byte. No program. -/
namespace Go.Proofs.YteloamnakikbbaaDoor.Cron
set_option linter.unusedVariables false
set_option linter.unusedSimpArgs false
open Go.RowKit Go.Proofs.YteloamnakikbbaaDoorW.PrintWords Go.Proofs.YteloamnakikbbaaDoor.Base Go.Proofs.YteloamnakikbbaaDoor.CronPure

/-- the words of a text, byte by byte: cur is the word that is begun -/
def wsL : List UInt8 → List UInt8 → List (List UInt8)
  | [], cur => if cur = [] then [] else [cur]
  | c :: t, cur => if c = 32 then (if cur = [] then wsL t [] else cur :: wsL t []) else wsL t (cur ++ [c])
theorem wsL_skip : ∀ (p r cur : List UInt8), (∀ c ∈ p, c ≠ 32) → wsL (p ++ r) cur = wsL r (cur ++ p)
  | [], r, cur, _ => by simp
  | c :: p, r, cur, h => by
    rw [List.cons_append, wsL, if_neg (h c (List.mem_cons_self)), wsL_skip p r _ fun d hd => h d (List.mem_cons_of_mem _ hd)]
    simp
theorem get_lt (s : ByteArray) (i : Nat) (h : i < s.size) : s.get! i = s.data.toList[i]'(by simpa using h) := by
  have : i < s.data.size := h
  show s.data[i]! = _
  rw [getElem!_pos s.data i this, Array.getElem_toList]
/-- a rune: a blank is one byte; else none of its bytes is one -/
theorem rune_blank (s : ByteArray) (i : Nat) (h : i < s.size) :
    ((Utf8.decode s i).1 = 32 ∧ (Utf8.decode s i).2 = 1 ∧ s.get! i = 32) ∨ ((Utf8.decode s i).1 ≠ 32 ∧ 1 ≤ (Utf8.decode s i).2 ∧ i + (Utf8.decode s i).2 ≤ s.size ∧ ∀ k, k < (Utf8.decode s i).2 → s.get! (i + k) ≠ 32) := by
  rw [Lib.decode_at]
  obtain ⟨a, ha⟩ : ∃ a, a = s.get! i := ⟨_, rfl⟩
  obtain ⟨b, hb⟩ : ∃ a, a = s.get! (i + 1) := ⟨_, rfl⟩
  obtain ⟨c, hc⟩ : ∃ a, a = s.get! (i + 2) := ⟨_, rfl⟩
  obtain ⟨d, hd⟩ : ∃ a, a = s.get! (i + 3) := ⟨_, rfl⟩
  rw [← ha, ← hb, ← hc, ← hd]
  have e32 : ∀ x : UInt8, x = 32 ↔ x.toNat = 32 := fun x => ⟨fun h => by rw [h]; rfl, fun h => UInt8.toNat_inj.1 h⟩
  obtain ⟨n, hnn⟩ : ∃ n, n = s.size - i := ⟨_, rfl⟩
  have hn : 1 ≤ n := by omega
  rw [← hnn]
  obtain ⟨a', ha'⟩ : ∃ x, x = a.toNat := ⟨_, rfl⟩
  obtain ⟨b', hb'⟩ : ∃ x, x = b.toNat := ⟨_, rfl⟩
  obtain ⟨c', hc'⟩ : ∃ x, x = c.toNat := ⟨_, rfl⟩
  obtain ⟨d', hd'⟩ : ∃ x, x = d.toNat := ⟨_, rfl⟩
  rw [← ha', ← hb', ← hc', ← hd']
  obtain ⟨r, hr⟩ : ∃ r, r = Lib.decodeN n a' b' c' d' := ⟨_, rfl⟩
  have hk : (r.1 = 32 ∧ r.2 = 1 ∧ a' = 32) ∨ (r.1 ≠ 32 ∧ 1 ≤ r.2 ∧ r.2 ≤ n ∧ a' ≠ 32 ∧ (2 ≤ r.2 → b' ≠ 32) ∧ (3 ≤ r.2 → c' ≠ 32) ∧ (4 ≤ r.2 → d' ≠ 32) ∧ r.2 ≤ 4) := by
    rw [hr]
    unfold Lib.decodeN
    repeat' split
    all_goals simp only
    all_goals first | omega | (rcases Nat.decEq a' 32 with q | q; exact .inr ⟨q, by omega, by omega, q, by omega, by omega, by omega, by omega⟩; exact .inl ⟨q, trivial, q⟩)
  rw [← hr]
  rcases hk with ⟨q1, q2, q3⟩ | ⟨q1, q2, q3, q4, q5, q6, q7, q8⟩
  · exact .inl ⟨q1, q2, (e32 a).2 (by omega)⟩
  · refine .inr ⟨q1, q2, by omega, fun k hk => ?_⟩
    have hk4 : k = 0 ∨ k = 1 ∨ k = 2 ∨ k = 3 := by omega
    rcases hk4 with rfl | rfl | rfl | rfl
    · rw [Nat.add_zero, ← ha]; exact fun e => q4 (by rw [ha']; exact (e32 a).1 e)
    · rw [← hb]; exact fun e => q5 (by omega) (by rw [hb']; exact (e32 b).1 e)
    · rw [← hc]; exact fun e => q6 (by omega) (by rw [hc']; exact (e32 c).1 e)
    · rw [← hd]; exact fun e => q7 (by omega) (by rw [hd']; exact (e32 d).1 e)
/-- the bytes between two places -/
def cutB (s : ByteArray) (a b : Nat) : List UInt8 := (s.data.toList.drop a).take (b - a)
theorem extract_cut (s : ByteArray) (a b : Nat) : (s.extract a b).data.toList = cutB s a b := by
  rw [ByteArray.data_extract, Array.toList_extract, List.extract_eq_take_drop]
  rfl
theorem spans_words (s : ByteArray) : ∀ (f pos : Nat) (st : Option Nat) (acc : List (Nat × Nat)), s.size - pos ≤ f → pos ≤ s.size → (∀ a, st = some a → a < pos) →
    ((Lib.closeSpans s (Lib.spansFromP blank s f pos st acc)).map fun x => cutB s x.1 x.2) = (acc.map fun x => cutB s x.1 x.2) ++ wsL (s.data.toList.drop pos) (match st with | some a => cutB s a pos | none => []) := by
  intro f
  have hsz : s.size = s.data.toList.length := by simp
  have hlen : ∀ a b, a < b → b ≤ s.size → cutB s a b ≠ [] := fun a b h1 h2 h => by
    have := congrArg List.length h
    unfold cutB at this
    simp at this
    omega
  have hend : ∀ (pos : Nat) (st : Option Nat) (acc : List (Nat × Nat)), pos = s.size → (∀ a, st = some a → a < pos) → ((Lib.closeSpans s (acc, st)).map fun x => cutB s x.1 x.2) = (acc.map fun x => cutB s x.1 x.2) ++ wsL (s.data.toList.drop pos) (match st with | some a => cutB s a pos | none => []) := by
    intro pos st acc hp hst
    subst hp
    rw [List.drop_of_length_le (by omega)]
    cases st with
    | none => simp [Lib.closeSpans, wsL]
    | some a =>
      simp only [Lib.closeSpans, wsL]
      rw [if_neg (hlen a _ (hst a rfl) (Nat.le_refl _))]
      simp
  induction f with
  | zero =>
    intro pos st acc hf hp hst
    exact hend pos st acc (by omega) hst
  | succ f ih =>
    intro pos st acc hf hp hst
    unfold Lib.spansFromP
    by_cases hlt : pos < s.size
    · rw [if_pos hlt]
      have hd : s.data.toList.drop pos = s.get! pos :: s.data.toList.drop (pos + 1) := by
        rw [get_lt s pos hlt]; exact List.drop_eq_getElem_cons (by omega)
      rcases rune_blank s pos hlt with ⟨q1, q2, q3⟩ | ⟨q1, q2, q3, q4⟩
      · have hb : blank (Utf8.decode s pos).1 = true := by rw [q1]; rfl
        rw [if_pos hb, q2]
        cases st with
        | none =>
          simp only
          rw [ih (pos + 1) none acc (by omega) (by omega) (fun a h => by cases h), hd, wsL, if_pos q3, if_pos rfl]
        | some a =>
          simp only
          rw [ih (pos + 1) none _ (by omega) (by omega) (fun a h => by cases h), hd, wsL, if_pos q3, if_neg (hlen a pos (hst a rfl) (by omega))]
          simp
      · have hb : ¬ blank (Utf8.decode s pos).1 = true := by simpa [blank] using q1
        rw [if_neg hb]
        obtain ⟨n, hn⟩ : ∃ n, n = (Utf8.decode s pos).2 := ⟨_, rfl⟩
        rw [← hn] at q2 q3 q4
        have hcut : s.data.toList.drop pos = cutB s pos (pos + n) ++ s.data.toList.drop (pos + n) := by
          unfold cutB
          rw [show pos + n - pos = n by omega, ← List.drop_drop, List.take_append_drop]
        have hno : ∀ c ∈ cutB s pos (pos + n), c ≠ 32 := fun c hc => by
          obtain ⟨k, hk1, hk2⟩ := List.mem_iff_getElem.1 hc
          have hk3 : k < n := by unfold cutB at hk1; simp at hk1; omega
          have := q4 k hk3
          rw [get_lt s (pos + k) (by omega)] at this
          have e : (cutB s pos (pos + n))[k] = s.data.toList[pos + k]'(by omega) := by unfold cutB; simp
          rw [← hk2, e]
          exact this
        have hjoin : ∀ a, a < pos → cutB s a pos ++ cutB s pos (pos + n) = cutB s a (pos + n) := fun a ha => by
          unfold cutB
          apply List.ext_getElem
          · simp; omega
          · intro k h1 h2
            by_cases hk : k < pos - a
            · rw [List.getElem_append_left (by simp; omega)]
              simp
            · rw [List.getElem_append_right (by simp; omega)]
              simp
              congr 1
              omega
        cases st with
        | none =>
          simp only
          rw [← hn, ih (pos + n) (some pos) acc (by omega) (by omega) (fun a h => by injection h with h; omega), hcut, wsL_skip _ _ _ hno]
          simp
        | some a =>
          simp only
          rw [← hn, ih (pos + n) (some a) acc (by omega) (by omega) (fun b h => by injection h with h; have := hst a rfl; omega), hcut, wsL_skip _ _ _ hno, hjoin a (hst a rfl)]
    · rw [if_neg hlt]
      exact hend pos st acc (by omega) hst
theorem words_eq (s : ByteArray) : (Lib.goFieldsP blank s).map (fun x => x.data.toList) = wsL s.data.toList [] := by
  have h := spans_words s s.size 0 none [] (by omega) (by omega) (fun a h => by cases h)
  unfold Lib.goFieldsP Lib.spansOfP
  rw [List.map_map]
  have e : ((fun x : ByteArray => x.data.toList) ∘ fun x : Nat × Nat => s.extract x.1 x.2) = fun x : Nat × Nat => cutB s x.1 x.2 := by
    funext x
    exact extract_cut s x.1 x.2
  rw [e, h]
  rfl
end Go.Proofs.YteloamnakikbbaaDoor.Cron

/- The document's words, walked. -/
namespace Go.Proofs.YteloamnakikbbaaDoor.Cron
set_option linter.unusedVariables false
set_option linter.unusedSimpArgs false
open Go.RowKit Go.Proofs.YteloamnakikbbaaDoorW.PrintWords Go.Proofs.YteloamnakikbbaaDoorW.PrintLast Go.Proofs.YteloamnakikbbaaDoor.Base Go.Proofs.YteloamnakikbbaaDoor.CronPure Go.Proofs.YteloamnakikbbaaDoor.NamesPure

theorem infoS3 : (Tryd.prog.info? 9).map (fun i => (i.zero, i.size, i.bytes)) = some (some (.string ⟨#[]⟩), 1, 16) := by kernel_rfl
def toL (x : ByteArray) : List UInt8 := x.data.toList
/-- what is gathered when i bytes have been gone over -/
def GotW (l : List UInt8) (i : Nat) (cur : ByteArray) (out : List ByteArray) : Prop :=
  (i ≤ l.length → out.map toL ++ wsL (l.drop i) (toL cur) = wsL l []) ∧ (l.length < i → out.map toL = wsL l [])
theorem gotW_end {l : List UInt8} {i : Nat} {cur : ByteArray} {out : List ByteArray} (h : GotW l i cur out) (hi : i = l.length + 1) : out.map toL = wsL l [] := h.2 (by omega)
theorem gotW_in {l : List UInt8} {i : Nat} {cur cur' : ByteArray} {out : List ByteArray} (h : GotW l i cur out) {c : UInt8} (hc : l[i]? = some c) (hn : c ≠ 32) (he : toL cur' = toL cur ++ [c]) : GotW l (i + 1) cur' out := by
  have hlt : i < l.length := by
    by_cases g : i < l.length
    · exact g
    · rw [List.getElem?_eq_none (by omega)] at hc; cases hc
  refine ⟨fun _ => ?_, fun g => by omega⟩
  have h1 := h.1 (by omega)
  have hd : l.drop i = c :: l.drop (i + 1) := by
    rw [List.drop_eq_getElem_cons hlt]
    rw [List.getElem?_eq_getElem hlt] at hc
    rw [Option.some.inj hc]
  rw [hd, wsL, if_neg hn] at h1
  rw [he]
  exact h1
theorem toL_nil {cur : ByteArray} : toL cur = [] ↔ cur = ⟨#[]⟩ := by
  constructor
  · intro h
    rw [ByteArray.ext_iff]
    exact Array.toList_inj.1 h
  · intro h; rw [h]; rfl
/-- a word ends: at a blank, or at the end -/
theorem gotW_out {l : List UInt8} {i : Nat} {cur : ByteArray} {out : List ByteArray} (h : GotW l i cur out) (hi : i ≤ l.length) (hb : i = l.length ∨ l[i]? = some 32) :
    GotW l (i + 1) ⟨#[]⟩ (if cur = ⟨#[]⟩ then out else out ++ [cur]) := by
  have h1 := h.1 hi
  have hm : (if cur = ⟨#[]⟩ then out else out ++ [cur]).map toL = out.map toL ++ (if toL cur = [] then [] else [toL cur]) := by
    by_cases hc : cur = ⟨#[]⟩
    · rw [if_pos hc, if_pos (toL_nil.2 hc)]; simp
    · rw [if_neg hc, if_neg (fun g => hc (toL_nil.1 g))]; simp
  rcases hb with hb | hb
  · refine ⟨fun g => by omega, fun _ => ?_⟩
    rw [List.drop_of_length_le (by omega), wsL] at h1
    rw [hm]; exact h1
  · have hlt : i < l.length := by
      by_cases g : i < l.length
      · exact g
      · rw [List.getElem?_eq_none (by omega)] at hb; cases hb
    refine ⟨fun _ => ?_, fun g => by omega⟩
    have hd : l.drop i = 32 :: l.drop (i + 1) := by
      rw [List.drop_eq_getElem_cons hlt]
      rw [List.getElem?_eq_getElem hlt] at hb
      rw [Option.some.inj hb]
    rw [hd, wsL, if_pos rfl] at h1
    rw [hm]
    show out.map toL ++ (if toL cur = [] then [] else [toL cur]) ++ wsL (l.drop (i + 1)) [] = wsL l []
    rw [← h1]
    by_cases hc : toL cur = []
    · rw [if_pos hc, if_pos hc]; simp
    · rw [if_neg hc, if_neg hc]; simp
theorem toL_inj {a b : List ByteArray} (h : a.map toL = b.map toL) : a = b := by
  have hi : ∀ x y : ByteArray, toL x = toL y → x = y := fun x y h => by
    rw [ByteArray.ext_iff]
    exact Array.toList_inj.1 h
  induction a generalizing b with
  | nil => cases b with
    | nil => rfl
    | cons y t => simp at h
  | cons x r ih => cases b with
    | nil => simp at h
    | cons y t =>
      simp at h
      rw [hi x y h.1, ih h.2]
set_option maxRecDepth 100000 in
set_option maxHeartbeats 4000000 in
theorem rwords_any (s : ByteArray) (w : World) (hs : s.size ≤ 1000) :
    Calls Tryd.prog 20 #[.string s] w fun e w' => ∃ v, e = .returned v ∧ Kd.string.R 9 w' w.heap.size (fun _ => True) v (wordsP s) ∧ Below w.heap.size w w' := by
  have hlen : s.data.toList.length = s.size := by simp
  have HLE := Aside0.mk hlen
  have HWE := Aside0.mk (words_eq s)
  clear hlen
  go_enter Tryd.func20, Tryd.ntmps20
  go_wp2
  go_loopg [3, 4, 5] (s.size + 1) (fun g v3 v4 v5 wr => ∃ (i : Nat) (cur : ByteArray) (out : List ByteArray), v5 = .int .i64 i ∧ v4 = .string cur ∧ g + i = s.size + 1 ∧ cur.size ≤ i ∧ out.length ≤ i ∧ Aside0 (GotW s.data.toList i cur out) ∧ Aside0 (Kd.string.R 9 wr w.heap.size (fun _ => True) v3 out) ∧ Aside0 (Below w.heap.size w wr))
  case atStart => exact ⟨0, ⟨#[]⟩, [], rfl, rfl, by omega, by decide, by decide, ⟨⟨fun _ => rfl, fun h => by omega⟩⟩, ⟨Kd.R_nil Kd.string _ _ _ _⟩, ⟨Below.refl _ _⟩⟩
  case round =>
    obtain ⟨i, cur, out, rfl, rfl, hg, hcur, hout, HG, HO, HB⟩ := hrel
    by_cases hlt : i < s.size
    · have hlt' : (i : Int) < (s.size : Int) := by omega
      have hle' : (i : Int) ≤ (s.size : Int) := by omega
      have HBy := Aside0.mk (at_byte s i hlt)
      by_cases hc : s[i] = 32
      · have hb : ((s[i].toNat : Int) != 32) = false := by rw [hc]; rfl
        have HG2 := gotW_out HG.out (by rw [HLE.out]; omega) (.inr (by rw [HBy.out, hc]))
        clear hc
        by_cases hc0 : cur = ⟨#[]⟩
        · rw [if_pos hc0] at HG2
          have HG3 := Aside0.mk HG2
          subst hc0
          clear HG2 HG
          go_wp2
          go_roundg (s.size - i)
          case measure => omega
          case rel => exact ⟨i + 1, ⟨#[]⟩, out, by go_num, rfl, by omega, Nat.zero_le _, by omega, HG3, HO, HB⟩
        · rw [if_neg hc0] at HG2
          have HG3 := Aside0.mk HG2
          obtain ⟨r1, r2⟩ := Job.tl0 hc0
          have HL := Aside0.mk (show (out ++ [cur]).length ≤ i + 1 by rw [List.length_append]; simp; omega)
          clear HG2 HG hc0
          go_wp2_with (first | (at_builtin; refine Kd.R_append Kd.string (w0 := w) w.heap.size rfl (.tmp 31) (.tmp 33) 55 9 (.string ⟨#[]⟩) 16 rfl Tryd.underlying55 infoS3 rfl (by decide) (by omega) u3 out cur [.string cur] (fun _ => True) (fun _ => False) rfl rfl ?aP (fun _ hk => hk.elim) (fun _ _ => trivial) ?aO ?aB ?aS ?c1 ?_; (case aP => exact rfl); (case aO => exact HO.out); (case aB => exact HB.out); (case aS => exact HB.out.size); (case c1 => omega); intro v1 w2 hown hB1 hg1 hat; have HO1 := Aside0.mk hown; have HB2 := Aside0.mk hB1; clear hown hB1 hg1 hat))
          go_roundg (s.size - i)
          case measure => omega
          case rel => exact ⟨i + 1, ⟨#[]⟩, out ++ [cur], by go_num, rfl, by omega, Nat.zero_le _, HL.out, HG3, HO1, HB2⟩
      · have hb : ((s[i].toNat : Int) != 32) = true := by
          rw [bne_iff_ne]
          exact fun h => hc (UInt8.toNat_inj.1 (by have e : (32 : UInt8).toNat = 32 := rfl; omega))
        have hx : (s.extract i (i + 1)).data.toList = [s[i]] := by
          rw [extract_cut, cutB, show i + 1 - i = 1 by omega]
          have h3 := HBy.out
          have hl : i < s.data.toList.length := by rw [HLE.out]; exact hlt
          rw [List.drop_eq_getElem_cons hl, List.take_succ_cons, List.take_zero]
          rfl
        have HG2 := Aside0.mk (gotW_in (cur' := cur ++ s.extract i (i + 1)) HG.out HBy.out hc (by show (cur ++ s.extract i (i + 1)).data.toList = _; rw [ByteArray.data_append, Array.toList_append, hx]; rfl))
        have HCS := Aside0.mk (show (cur ++ s.extract i (i + 1)).size ≤ i + 1 by
          have e : (s.extract i (i + 1)).size = 1 := by
            have h4 := congrArg List.length hx
            rw [Array.length_toList] at h4
            exact h4
          rw [ByteArray.size_append, e]; omega)
        have iw : IntKind.i64.wrap ((i : Int) + 1) = (i : Int) + 1 := by rw [IntKind.wrap_i64]; omega
        have i1 : (i : Int) + 1 ≤ (s.size : Int) := by omega
        clear hx hc
        go_wp2
        go_roundg (s.size - i)
        case measure => omega
        case rel => exact ⟨i + 1, cur ++ s.extract i (i + 1), out, by go_num, rfl, by omega, HCS.out, by omega, HG2, HO, HB⟩
    · by_cases he : i = s.size
      · have hlt' : ¬ (i : Int) < (s.size : Int) := by omega
        have hle' : (i : Int) ≤ (s.size : Int) := by omega
        have HG2 := gotW_out HG.out (by rw [HLE.out]; omega) (.inl (by rw [HLE.out]; exact he))
        by_cases hc0 : cur = ⟨#[]⟩
        · rw [if_pos hc0] at HG2
          have HG3 := Aside0.mk HG2
          subst hc0
          clear HG2 HG
          go_wp2
          go_roundg (s.size - i)
          case measure => omega
          case rel => exact ⟨i + 1, ⟨#[]⟩, out, by go_num, rfl, by omega, Nat.zero_le _, by omega, HG3, HO, HB⟩
        · rw [if_neg hc0] at HG2
          have HG3 := Aside0.mk HG2
          obtain ⟨r1, r2⟩ := Job.tl0 hc0
          have HL := Aside0.mk (show (out ++ [cur]).length ≤ i + 1 by rw [List.length_append]; simp; omega)
          clear HG2 HG hc0
          go_wp2_with (first | (at_builtin; refine Kd.R_append Kd.string (w0 := w) w.heap.size rfl (.tmp 31) (.tmp 33) 55 9 (.string ⟨#[]⟩) 16 rfl Tryd.underlying55 infoS3 rfl (by decide) (by omega) u3 out cur [.string cur] (fun _ => True) (fun _ => False) rfl rfl ?aP (fun _ hk => hk.elim) (fun _ _ => trivial) ?aO ?aB ?aS ?c1 ?_; (case aP => exact rfl); (case aO => exact HO.out); (case aB => exact HB.out); (case aS => exact HB.out.size); (case c1 => omega); intro v1 w2 hown hB1 hg1 hat; have HO1 := Aside0.mk hown; have HB2 := Aside0.mk hB1; clear hown hB1 hg1 hat))
          go_roundg (s.size - i)
          case measure => omega
          case rel => exact ⟨i + 1, ⟨#[]⟩, out ++ [cur], by go_num, rfl, by omega, Nat.zero_le _, HL.out, HG3, HO1, HB2⟩
      · have hle' : ¬ (i : Int) ≤ (s.size : Int) := by omega
        have HEQ : Aside0 (out = wordsP s) := ⟨toL_inj (by
          rw [gotW_end HG.out (by rw [HLE.out]; omega)]
          exact HWE.out.symm)⟩
        go_wp2
        go_ret
        exact ⟨_, rfl, by rw [← HEQ.out]; exact HO.out, HB.out⟩
end Go.Proofs.YteloamnakikbbaaDoor.Cron

/- A block of elements of so many cells each, that is written in place (cells alone; what they lead to is not said). -/
namespace Go.Proofs.YteloamnakikbbaaDoor.RowsC
set_option linter.unusedVariables false
set_option linter.unusedSimpArgs false
open Go.RowKit Go.Proofs.YteloamnakikbbaaDoorW.PrintWords Go.Proofs.YteloamnakikbbaaDoorW.PrintLast Go.Proofs.YteloamnakikbbaaDoor.Base Go.Proofs.YteloamnakikbbaaDoor.Cells

/-- block g holds the elements L (sz cells each), and room behind them -/
def CRow (e : TypeId) (sz : Nat) (w : World) (g cap : Nat) (L : List (List Value)) : Prop :=
  ∃ cur : Array Value, w.heap[g]? = some (.cells cur e (0, 0)) ∧ cur.size = cap * sz ∧ L.length ≤ cap ∧ cur.toList.take (L.length * sz) = L.flatten ∧ ∀ r ∈ L, r.length = sz

theorem flatten_len {sz : Nat} (L : List (List Value)) (h : ∀ r ∈ L, r.length = sz) : L.flatten.length = L.length * sz := by
  induction L with
  | nil => simp
  | cons m L ih => rw [List.flatten_cons, List.length_append, ih (fun r hr => h r (List.mem_cons_of_mem _ hr)), h m List.mem_cons_self, List.length_cons, Nat.succ_mul, Nat.add_comm]
theorem flatten_get {sz : Nat} (L : List (List Value)) (hs : ∀ r ∈ L, r.length = sz) (i : Nat) (r : List Value) (h : L[i]? = some r) (j : Nat) (hj : j < sz) : L.flatten[i * sz + j]? = r[j]? := by
  induction L generalizing i with
  | nil => simp at h
  | cons a L ih =>
    have ha := hs a List.mem_cons_self
    rw [List.flatten_cons]
    cases i with
    | zero =>
      simp at h
      subst h
      rw [Nat.zero_mul, Nat.zero_add, List.getElem?_append_left (by omega)]
    | succ i =>
      have := ih (fun r hr => hs r (List.mem_cons_of_mem _ hr)) i (by simpa using h)
      rw [← this, Nat.succ_mul, List.getElem?_append_right (by omega)]
      congr 1
      omega
theorem flatten_set {sz : Nat} (L : List (List Value)) (hs : ∀ r ∈ L, r.length = sz) (i : Nat) (r : List Value) (h : i < L.length) (hr : r.length = sz) :
    (L.set i r).flatten = L.flatten.take (i * sz) ++ (r ++ L.flatten.drop (i * sz + sz)) := by
  induction L generalizing i with
  | nil => simp at h
  | cons a L ih =>
    have ha := hs a List.mem_cons_self
    cases i with
    | zero =>
      simp only [List.set_cons_zero, List.flatten_cons, Nat.zero_mul, List.take_zero, List.nil_append, Nat.zero_add]
      rw [List.drop_append_of_le_length (by omega), List.drop_of_length_le (by omega), List.nil_append]
    | succ i =>
      have := ih (fun r hr => hs r (List.mem_cons_of_mem _ hr)) i (by simpa using h)
      have t1 : (a ++ L.flatten).take (i * sz + sz) = a ++ L.flatten.take (i * sz) := by
        rw [List.take_append, List.take_of_length_le (l := a) (by omega), show i * sz + sz - a.length = i * sz by omega]
      have t2 : (a ++ L.flatten).drop (i * sz + sz + sz) = L.flatten.drop (i * sz + sz) := by
        rw [List.drop_append, List.drop_of_length_le (l := a) (by omega), List.nil_append, show i * sz + sz + sz - a.length = i * sz + sz by omega]
      rw [List.set_cons_succ, List.flatten_cons, List.flatten_cons, this, Nat.succ_mul, t1, t2, List.append_assoc]
section
variable {e sz : Nat} {w w1 : World} {g cap : Nat} {L A B : List (List Value)}
theorem CRow.cell (h : CRow e sz w g cap L) (i : Nat) (r : List Value) (hi : L[i]? = some r) (j : Nat) (hj : j < sz) : w.cell? ⟨g, i * sz + j, none⟩ = r[j]? := by
  obtain ⟨cur, h1, h2, h3, h4, h5⟩ := h
  rw [blk_cell h1]
  have hil : i < L.length := (List.getElem?_eq_some_iff.1 hi).1
  have : i * sz + j < L.length * sz := by have := Nat.mul_le_mul_right sz (Nat.succ_le_of_lt hil); rw [Nat.succ_mul] at this; omega
  rw [← flatten_get L h5 i r hi j hj, ← h4, List.getElem?_take, if_pos this, Array.getElem?_toList]
theorem CRow.froz (h : CRow e sz w g cap L) (i : Nat) : w.frozen? ⟨g, i, none⟩ = false := by
  obtain ⟨cur, h1, _⟩ := h
  exact blk_frozen h1 i
theorem CRow.lt (h : CRow e sz w g cap L) : g < w.heap.size := by
  obtain ⟨cur, h1, _⟩ := h
  exact blk_lt h1
theorem CRow.len (h : CRow e sz w g cap L) : L.length ≤ cap := by
  obtain ⟨cur, _, _, h3, _⟩ := h
  exact h3
theorem CRow.keep (h : CRow e sz w g cap L) (hb : Below w.heap.size w w1) : CRow e sz w1 g cap L := by
  obtain ⟨cur, h1, h2⟩ := h
  exact ⟨cur, blk_keep h1 hb, h2⟩
theorem CRow.same (h : CRow e sz w g cap L) (hb : w1.heap[g]? = w.heap[g]?) : CRow e sz w1 g cap L := by
  obtain ⟨cur, h1, h2⟩ := h
  exact ⟨cur, hb.trans h1, h2⟩
theorem CRow.drew (h : CRow e sz w g cap L) : CRow e sz w.drew g cap L := h
theorem CRow.there (h : CRow e sz w g cap L) (o : Nat) (ho : o < cap * sz) : (w.cell? ⟨g, o, none⟩).isSome = true := by
  obtain ⟨cur, h1, h2, h3, h4⟩ := h
  rw [blk_cell h1, Array.getElem?_eq_getElem (by omega)]
  rfl
theorem CRow.set (h : CRow e sz w g cap L) (i : Nat) (r : List Value) (hi : i < L.length) (hr : r.length = sz) : CRow e sz (w.setCells g (i * sz) r) g cap (L.set i r) := by
  obtain ⟨cur, h1, h2, h3, h4, h5⟩ := h
  have hm := Nat.mul_le_mul_right sz (Nat.succ_le_of_lt hi)
  have hc := Nat.mul_le_mul_right sz h3
  rw [Nat.succ_mul] at hm
  have hcl : cur.toList.length = cap * sz := by rw [← h2]; exact Array.length_toList
  obtain ⟨cur', e1, e2, e3⟩ := setCells_row r (i * sz) w cur h1 (by omega)
  refine ⟨cur', e1, by rw [e2]; exact h2, by simpa using h3, ?_, fun x hx => ?_⟩
  · rw [flatten_set L h5 i r hi hr, ← h4, List.length_set, e3, List.append_assoc, List.take_append, List.take_take, List.length_take, hcl, List.take_append, hr, List.take_take]
    rw [Nat.min_eq_left (show i * sz ≤ cap * sz by omega), Nat.min_eq_right (show i * sz ≤ L.length * sz by omega), Nat.min_eq_left (show i * sz ≤ L.length * sz by omega), List.take_of_length_le (l := r) (by omega)]
    congr 2
    rw [List.drop_take]
    congr 1
    omega
  · rcases List.mem_or_eq_of_mem_set hx with hx | hx
    · exact h5 x hx
    · rw [hx]; exact hr
theorem CRow.front (h : CRow e sz w g cap (A ++ B)) : CRow e sz w g cap A := by
  obtain ⟨cur, h1, h2, h3, h4, h5⟩ := h
  have h6 : ∀ r ∈ A, r.length = sz := fun r hr => h5 r (List.mem_append_left _ hr)
  refine ⟨cur, h1, h2, by simp at h3; omega, ?_, h6⟩
  have h7 := congrArg (List.take (A.length * sz)) h4
  rw [List.take_take, List.flatten_append, List.take_left' (flatten_len A h6), Nat.min_eq_left (by rw [List.length_append, Nat.add_mul]; omega)] at h7
  exact h7
theorem CRow.beyond (h : CRow e sz w g cap L) (o : Nat) (vs : List Value) (ho : L.length * sz ≤ o) (hv : o + vs.length ≤ cap * sz) : CRow e sz (w.setCells g o vs) g cap L := by
  obtain ⟨cur, h1, h2, h3, h4, h5⟩ := h
  obtain ⟨cur', e1, e2, e3⟩ := setCells_row vs o w cur h1 (by rw [h2]; exact hv)
  refine ⟨cur', e1, by rw [e2]; exact h2, h3, ?_, h5⟩
  have hle : L.length * sz ≤ (cur.toList.take o).length := by
    have hc : cur.toList.length = cap * sz := by rw [← h2]; exact Array.length_toList
    rw [List.length_take]; omega
  rw [e3, List.append_assoc, List.take_append_of_le_length hle, List.take_take, Nat.min_eq_left ho, h4]
/-- elements written behind the first ones (over what was there) -/
theorem CRow.over (h : CRow e sz w g cap (A ++ B)) (C : List (List Value)) (hC : ∀ r ∈ C, r.length = sz) (hl : A.length + C.length ≤ cap) : CRow e sz (w.setCells g (A.length * sz) C.flatten) g cap (A ++ C) := by
  obtain ⟨cur, h1, h2, h3, h4, h5⟩ := h.front
  have hm := Nat.mul_le_mul_right sz hl
  rw [Nat.add_mul] at hm
  have hcl : cur.toList.length = cap * sz := by rw [← h2]; exact Array.length_toList
  obtain ⟨cur', e1, e2, e3⟩ := setCells_row C.flatten (A.length * sz) w cur h1 (by rw [flatten_len C hC, h2]; omega)
  refine ⟨cur', e1, by rw [e2]; exact h2, by simpa using hl, ?_, fun r hr => (List.mem_append.1 hr).elim (h5 r) (hC r)⟩
  rw [e3, List.flatten_append, h4, List.length_append, Nat.add_mul]
  have hf := flatten_len C hC
  have hfa := flatten_len A h5
  rw [List.take_append_of_le_length (by simp only [List.length_append]; omega), List.take_of_length_le (by simp only [List.length_append]; omega)]
end
theorem flatten_put {sz : Nat} (L : List (List Value)) (hs : ∀ r ∈ L, r.length = sz) (i j : Nat) (r : List Value) (u : Value) (h : L[i]? = some r) (hj : j < sz) : (L.set i (r.set j u)).flatten = L.flatten.set (i * sz + j) u := by
  induction L generalizing i with
  | nil => simp at h
  | cons a L ih =>
    have ha := hs a List.mem_cons_self
    cases i with
    | zero =>
      simp at h
      subst h
      rw [List.set_cons_zero, List.flatten_cons, List.flatten_cons, Nat.zero_mul, Nat.zero_add, List.set_append_left _ _ (by omega)]
    | succ i =>
      have := ih (fun r hr => hs r (List.mem_cons_of_mem _ hr)) i (by simpa using h)
      rw [List.set_cons_succ, List.flatten_cons, List.flatten_cons, this, Nat.succ_mul, List.set_append_right _ _ (by omega)]
      congr 2
      omega
/-- one cell of an element is written -/
theorem CRow.put {e sz : Nat} {w : World} {g cap : Nat} {L : List (List Value)} (h : CRow e sz w g cap L) (i j : Nat) (r : List Value) (u : Value) (hi : L[i]? = some r) (hj : j < sz) : CRow e sz (w.setCell ⟨g, i * sz + j, none⟩ u) g cap (L.set i (r.set j u)) := by
  obtain ⟨cur, h1, h2, h3, h4, h5⟩ := h
  refine ⟨cur.setIfInBounds (i * sz + j) u, blk_put h1 _ _ rfl, by simpa using h2, by simpa using h3, ?_, fun x hx => ?_⟩
  · rw [flatten_put L h5 i j r u hi hj, ← h4, List.length_set, Array.toList_setIfInBounds, List.take_set]
  · rcases List.mem_or_eq_of_mem_set hx with hx | hx
    · exact h5 x hx
    · rw [hx, List.length_set]; exact h5 r (List.mem_of_getElem? hi)
theorem setCells_grown (w : World) (g o : Nat) (vs : List Value) : w.grownBy (w.setCells g o vs) (some g) := by
  obtain ⟨h1, h2, h3, h4⟩ := setCells_same g vs o w
  exact ⟨h1, h2, h3, by rw [h4]; exact Nat.le_refl _, fun k _ hk => setCells_far vs o k (fun e => hk (by rw [e]))⟩
theorem grown_cell {w w1 : World} {g : Nat} {a : Addr} {v : Value} (h : w.grownBy w1 (some g)) (hne : a.block ≠ g) (hc : w.cell? a = some v) : w1.cell? a = some v := by
  have := h.block a.block (World.block_lt_of_cell? w a hc) (fun e => hne (by injection e))
  simpa [World.cell?, this] using hc
theorem get_mid {α : Type} (P S : List α) (x : α) (n : Nat) (h : n = P.length) : (P ++ x :: S)[n]? = some x := by subst h; simp
theorem set_mid {α : Type} (P S : List α) (x y : α) (n : Nat) (h : n = P.length) : (P ++ x :: S).set n y = P ++ y :: S := by subst h; simp

section
variable {α : Type} {d : Kd α} {enc : α → List Value} {w : World} {e base : Nat} {ok : Nat → Prop} {v : Value} {xs : List α}
theorem reps_flat (hM : ∀ {x cs}, d.M w base (fun k => ok k ∧ some k ≠ v.ownBlock) x cs → cs = enc x) (hsz : ∀ x, (enc x).length = d.sz) : ∀ (l : List α) (cs : List Value), Reps (d.M w base (fun k => ok k ∧ some k ≠ v.ownBlock)) d.sz l cs → cs = (l.map enc).flatten := by
  intro l
  induction l with
  | nil => intro cs h; exact List.eq_nil_of_length_eq_zero (by rw [h.1]; simp)
  | cons m l ih =>
    intro cs h
    have hl : cs.length = (l.length + 1) * d.sz := h.1
    rw [Nat.succ_mul] at hl
    have h0 := h.2 0 m rfl
    have h1 : cs.take d.sz = enc m := by
      have := hM h0
      rw [Nat.zero_mul, List.drop_zero] at this
      exact this
    have h2 := ih (cs.drop d.sz) ⟨by rw [List.length_drop, hl]; omega, fun j p hj => by
      have := h.2 (j + 1) p (by simpa using hj)
      rw [List.drop_drop]
      rw [Nat.succ_mul, Nat.add_comm] at this
      exact this⟩
    rw [List.map_cons, List.flatten_cons, ← h1, ← h2, List.take_append_drop]
/-- a row of one's own, as cells -/
theorem R_rows (hM : ∀ {ok' : Nat → Prop} {x cs}, d.M w base ok' x cs → cs = enc x) (hsz : ∀ x, (enc x).length = d.sz) (h : d.R e w base ok v xs) :
    (v = .slice none 0 0 ∧ xs = []) ∨ ∃ g cap, v = .slice (some ⟨g, 0, none⟩) xs.length cap ∧ base ≤ g ∧ ok g ∧ cap ≤ 9223372036854775807 ∧ CRow e d.sz w g cap (xs.map enc) := by
  obtain ⟨h0, inner, hown, hr⟩ := h
  have hi := reps_flat (v := v) (ok := ok) hM hsz xs inner hr
  rcases hown.2 with ⟨rfl, hn⟩ | ⟨g, cap, cur, rfl, hb, hh, hnc, hcm, hcs, htake⟩
  · exact .inl ⟨rfl, List.eq_nil_of_length_eq_zero hn⟩
  · exact .inr ⟨g, cap, rfl, hb, h0 g rfl, by simpa [maxLen] using hcm, cur, hh, hcs, by simpa using hnc, by rw [← hi, List.length_map]; exact htake, fun r hr => by obtain ⟨x, _, rfl⟩ := List.mem_map.1 hr; exact hsz x⟩
theorem reps_map {ok' : Nat → Prop} (hsz : ∀ x, (enc x).length = d.sz) : ∀ l : List α, (∀ x ∈ l, d.M w base ok' x (enc x)) → Reps (d.M w base ok') d.sz l (l.map enc).flatten := by
  intro l hM
  refine ⟨by rw [flatten_len (l.map enc) (sz := d.sz) (fun r hr => by obtain ⟨x, _, rfl⟩ := List.mem_map.1 hr; exact hsz x), List.length_map], ?_⟩
  induction l with
  | nil => intro j p hj; simp at hj
  | cons a l ih =>
    intro j p hj
    rw [List.map_cons, List.flatten_cons]
    cases j with
    | zero =>
      simp at hj
      subst hj
      rw [Nat.zero_mul, List.drop_zero, List.take_left' (hsz a)]
      exact hM a List.mem_cons_self
    | succ j =>
      have := ih (fun x hx => hM x (List.mem_cons_of_mem _ hx)) j p (by simpa using hj)
      rw [Nat.succ_mul, Nat.add_comm, List.drop_append, List.drop_of_length_le (l := enc a) (by rw [hsz]; omega), List.nil_append, hsz, Nat.add_sub_cancel_left]
      exact this
theorem R_of_rows (hM : ∀ {ok' : Nat → Prop}, ∀ x ∈ xs, d.M w base ok' x (enc x)) (hsz : ∀ x, (enc x).length = d.sz) {g cap : Nat} (hb : base ≤ g) (ho : ok g) (hcm : cap ≤ 9223372036854775807) (h : CRow e d.sz w g cap (xs.map enc)) : d.R e w base ok (.slice (some ⟨g, 0, none⟩) xs.length cap) xs := by
  obtain ⟨cur, h1, h2, h3, h4, h5⟩ := h
  rw [List.length_map] at h3 h4
  exact ⟨fun k hk => by simp [Value.ownBlock] at hk; rw [← hk]; exact ho, _, ⟨by rw [flatten_len _ h5, List.length_map], .inr ⟨g, cap, cur, rfl, hb, h1, h3, by simpa [maxLen] using hcm, h2, h4⟩⟩, reps_map hsz xs hM⟩
end

/-- a row of one's own, by its elements' cells -/
def CR (e : TypeId) (sz : Nat) (w : World) (base : Nat) (v : Value) (rows : List (List Value)) : Prop :=
  (v = .slice none 0 0 ∧ rows = []) ∨ ∃ g cap, v = .slice (some ⟨g, 0, none⟩) rows.length cap ∧ base ≤ g ∧ cap ≤ 9223372036854775807 ∧ CRow e sz w g cap rows
section
variable {e sz base : Nat} {w w1 : World} {v : Value} {rows : List (List Value)}
theorem CR.nil : CR e sz w base (.slice none 0 0) [] := .inl ⟨rfl, rfl⟩
theorem CR.block (h : CR e sz w base v rows) : ∀ k, v.ownBlock = some k → base ≤ k ∧ k < w.heap.size ∧ ∃ cs, w.heap[k]? = some (.cells cs e (0, 0)) := by
  intro k hk
  rcases h with ⟨rfl, _⟩ | ⟨g, cap, rfl, hb, _, hr⟩
  · simp [Value.ownBlock] at hk
  · have : g = k := by simpa [Value.ownBlock] using hk
    subst this
    obtain ⟨cur, h1, _⟩ := hr
    exact ⟨hb, blk_lt h1, cur, h1⟩
theorem CR.step (h : CR e sz w base v rows) (hm : ∀ k, v.ownBlock = some k → w1.heap[k]? = w.heap[k]?) : CR e sz w1 base v rows := by
  rcases h with h | ⟨g, cap, rfl, hb, hc, hr⟩
  · exact .inl h
  · exact .inr ⟨g, cap, rfl, hb, hc, hr.same (hm g (by simp [Value.ownBlock]))⟩
theorem CR.below (h : CR e sz w base v rows) (hb : Below w.heap.size w w1) : CR e sz w1 base v rows := h.step (fun k hk => hb.block k (h.block k hk).2.1)
theorem CR.other (h : CR e sz w base v rows) {row : Option Nat} (hg : w.grownBy w1 row) (hne : ∀ k, v.ownBlock = some k → some k ≠ row) : CR e sz w1 base v rows := h.step (fun k hk => hg.block k (h.block k hk).2.1 (hne k hk))
theorem CR.lower {base' : Nat} (h : CR e sz w base v rows) (hb : base' ≤ base) : CR e sz w base' v rows := by
  rcases h with h | ⟨g, cap, rfl, h1, hc, hr⟩
  · exact .inl h
  · exact .inr ⟨g, cap, rfl, by omega, hc, hr⟩
theorem CR.form (h : CR e sz w base v rows) : ∃ A c, v = .slice A rows.length c ∧ rows.length ≤ c := by
  rcases h with ⟨rfl, rfl⟩ | ⟨g, cap, rfl, _, _, hr⟩
  · exact ⟨none, 0, rfl, Nat.le_refl _⟩
  · exact ⟨_, cap, rfl, hr.len⟩
end
section
variable {α : Type} {d : Kd α} {enc : α → List Value} {w : World} {e base : Nat} {v : Value} {xs : List α}
theorem CR_of_R (hM : ∀ {ok' : Nat → Prop} {x cs}, d.M w base ok' x cs → cs = enc x) (hsz : ∀ x, (enc x).length = d.sz) (h : d.R e w base (fun _ => True) v xs) : CR e d.sz w base v (xs.map enc) := by
  rcases R_rows hM hsz h with ⟨h1, h2⟩ | ⟨g, cap, h1, h2, _, h3, h4⟩
  · exact .inl ⟨h1, by rw [h2]; rfl⟩
  · exact .inr ⟨g, cap, by rw [h1, List.length_map], h2, h3, h4⟩
theorem R_of_CR (hM : ∀ {ok' : Nat → Prop}, ∀ x ∈ xs, d.M w base ok' x (enc x)) (hsz : ∀ x, (enc x).length = d.sz) (h : CR e d.sz w base v (xs.map enc)) : d.R e w base (fun _ => True) v xs := by
  rcases h with ⟨rfl, h2⟩ | ⟨g, cap, rfl, hb, hc, hr⟩
  · rw [List.map_eq_nil_iff] at h2
    subst h2
    exact Kd.R_nil _ _ _ _ _
  · rw [List.length_map]
    exact R_of_rows hM hsz hb trivial hc hr
end
end Go.Proofs.YteloamnakikbbaaDoor.RowsC

/- slices.DeleteFunc of texts: walked. -/
namespace Go.Proofs.YteloamnakikbbaaDoor.StrRows
set_option linter.unusedVariables false
set_option linter.unusedSimpArgs false
open Go.RowKit Go.Proofs.YteloamnakikbbaaDoorW.PrintWords Go.Proofs.YteloamnakikbbaaDoorW.PrintLast Go.Proofs.YteloamnakikbbaaDoor.Base Go.Proofs.YteloamnakikbbaaDoor.Cells Go.Proofs.YteloamnakikbbaaDoor.RowsC

def encS (s : ByteArray) : List Value := [.string s]
/-- a row of texts of one's own -/
abbrev RS (w : World) (base : Nat) (v : Value) (l : List ByteArray) : Prop := Kd.string.R 9 w base (fun _ => True) v l
abbrev SRow (w : World) (g cap : Nat) (l : List ByteArray) : Prop := CRow 9 1 w g cap (l.map encS)
theorem RS_reads {w : World} {base : Nat} {v : Value} {l : List ByteArray} (h : RS w base v l) : ∃ A c, v = .slice A l.length c ∧ l.length ≤ c ∧ Kd.string.C w A l.length l := Kd.R_reads h
theorem RS_cases {w : World} {base : Nat} {v : Value} {l : List ByteArray} (h : RS w base v l) : (v = .slice none 0 0 ∧ l = []) ∨ ∃ g cap, v = .slice (some ⟨g, 0, none⟩) l.length cap ∧ base ≤ g ∧ cap ≤ 9223372036854775807 ∧ SRow w g cap l := by
  rcases R_rows (enc := encS) (fun h => h) (fun _ => rfl) h with h | ⟨g, cap, h1, h2, _, h3, h4⟩
  · exact .inl h
  · exact .inr ⟨g, cap, h1, h2, h3, h4⟩
theorem RS_mk {w : World} {base g cap : Nat} {l : List ByteArray} (hb : base ≤ g) (hcm : cap ≤ 9223372036854775807) (h : SRow w g cap l) : RS w base (.slice (some ⟨g, 0, none⟩) l.length cap) l :=
  R_of_rows (d := Kd.string) (enc := encS) (fun _ _ => rfl) (fun _ => rfl) hb trivial hcm h
theorem atS {w : World} {A : Option Addr} {n : Nat} {xs : List ByteArray} (h : Kd.string.C w A n xs) (i : Nat) (m : ByteArray) (hi : xs[i]? = some m) :
    ∃ ad, A = some ad ∧ w.cell? (ad.add (i * 1)) = some (.string m) := by
  have hlt : i < xs.length := (List.getElem?_eq_some_iff.1 hi).1
  have hn := Kd.C_len h
  obtain ⟨ad, c, e, _, hK, hc0⟩ := Kd.C_get h (⟨#[]⟩ : ByteArray) (i : Int) (by omega) (by omega)
  have hg : xs.getD (i : Int).toNat ⟨#[]⟩ = m := by rw [Int.toNat_natCast, List.getD_eq_getElem?_getD, hi]; rfl
  rw [hg] at hK
  rw [Int.toNat_natCast] at hc0
  obtain rfl : c = [.string m] := hK
  exact ⟨ad, e, hc0 0 _ rfl⟩
theorem SRow.at {w : World} {g cap : Nat} {l : List ByteArray} (h : SRow w g cap l) (i : Nat) (m : ByteArray) (hi : l[i]? = some m) : w.cell? ⟨g, i, none⟩ = some (.string m) := by
  have := h.cell i (encS m) (by rw [List.getElem?_map, hi]; rfl) 0 (by omega)
  rwa [Nat.mul_one, Nat.add_zero] at this
theorem SRow.setS {w : World} {g cap : Nat} {l : List ByteArray} (h : SRow w g cap l) (i : Nat) (m : ByteArray) (hi : i < l.length) : SRow (w.setCell ⟨g, i, none⟩ (.string m)) g cap (l.set i m) := by
  have := h.set i (encS m) (by simpa using hi) rfl
  rw [Nat.mul_one] at this
  show CRow _ _ _ _ _ _
  rw [List.map_set]
  exact this
theorem setCell_grown (w : World) (g o : Nat) (v : Value) : w.grownBy (w.setCell ⟨g, o, none⟩ v) (some g) := setCells_grown w g o [v]
theorem infoS : ∃ i0, Tryd.prog.info? 9 = some i0 ∧ i0.size = 1 := by
  have h : (Tryd.prog.info? 9).map (fun i => i.size) = some 1 := by kernel_rfl
  obtain ⟨i0, h1, h2⟩ := Option.map_eq_some_iff.1 h
  exact ⟨i0, h1, h2⟩
theorem infoS3 : (Tryd.prog.info? 9).map (fun i => (i.zero, i.size, i.bytes)) = some (some (.string ⟨#[]⟩), 1, 16) := by kernel_rfl
/-- the cells that clear writes -/
def zs (n : Nat) : List Value := (Builtin.zeroCells (Value.string ⟨#[]⟩).cells n).toList
theorem zs_len (n : Nat) : (zs n).length = n := by
  rw [zs, Array.length_toList, Builtin.zeroCells]
  simp [Value.cells]
theorem zs_one (n : Nat) : ∀ v ∈ zs n, v.oneCell' = true := by
  intro v hv
  rw [zs, Builtin.zeroCells] at hv
  simp [Value.cells] at hv
  obtain ⟨i, _, rfl⟩ := hv
  have h5 : i % 1 = 0 := Nat.mod_one _
  try rw [h5]
  rfl
theorem run_clearS (W : World) (ty : TypeId) (g o n c : Nat) (hn : 0 < n) (hc : ∀ j, j < n → (W.cell? ⟨g, o + j, none⟩).isSome = true) (hf : ∀ j, j < n → W.frozen? ⟨g, o + j, none⟩ = false) :
    (Builtin.clear_ #[55] ty #[.slice (some ⟨g, o, none⟩) n c]).run Tryd.prog W = .ok (.tuple #[]) (W.setCells g o (zs n)) := by
  have hv : ∀ w, (zeroValue 9).run Tryd.prog w = .ok (.string ⟨#[]⟩) w := fun w => by kernel_rfl
  have hst := run_storeCells_cells (P := Tryd.prog) g o (zs n) 0 W (by rw [zs_len]; simpa using hc) (by rw [zs_len]; simpa using hf) (zs_one n)
  simp only [Nat.add_zero] at hst
  obtain ⟨m, rfl⟩ : ∃ m, n = m + 1 := ⟨n - 1, by omega⟩
  rw [zs] at hst ⊢
  simp [Builtin.clear_, run_underlying Tryd.underlying55, hv, hst]
theorem filter_all {α : Type} {l : List α} {p : α → Bool} (h : l.any p = false) : l.filter (fun x => !p x) = l := by
  rw [List.filter_eq_self]
  intro x hx
  rw [List.any_eq_false] at h
  simpa using h x hx

end Go.Proofs.YteloamnakikbbaaDoor.StrRows
