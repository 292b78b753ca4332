/- A part of the proof: cron: day, walked. -/
import Derived.Test.YteloamnakikbbaaDoorPkRecurs2
import Derived.Test.YteloamnakikbbaaDoorPkRecurs1
import Derived.Shelf.Small.Bits
import Derived.Shelf.Strconv.Itoa0
import Derived.Test.YteloamnakikbbaaDoorProg
import Derived.Lib.ItoaNum
import Derived.WalkKit
import Derived.WalkLawsBesides
import Derived.KernelRfl
import Derived.Deep.QuietTactic
import Derived.BigQuiet
import Derived.Deep.LoopGhost
import Derived.Deep.DeepCutAuto
import Derived.Deep.CutBlock
import Derived.Deep.RegionHeld3
import Derived.Laws.BitsAllLaws

/- cron: day, walked. -/
namespace Go.Proofs.YteloamnakikbbaaDoor.Cron
set_option linter.unusedVariables false
set_option linter.unusedSimpArgs false
open Go.RowKit Go.Proofs.YteloamnakikbbaaDoorW.PrintWords Go.Proofs.YteloamnakikbbaaDoorW.PrintLast Go.Proofs.YteloamnakikbbaaDoor.Base Go.Proofs.YteloamnakikbbaaDoor.Cells Go.Proofs.YteloamnakikbbaaDoor.CronPure Go.Proofs.YteloamnakikbbaaDoor.NamesPure

set_option maxRecDepth 100000 in
theorem has_same (s n : Int) (w : World) (h0 : 0 ≤ n) (h1 : n ≤ 63) : Calls Tryd.prog 73 #[.int .u64 s, .int .i64 n] w fun e w' => e = .returned (.bool (hasB s n)) ∧ w' = w := by
  go_enter Tryd.func73, Tryd.ntmps73
  go_wp2
  go_ret
  exact ⟨rfl, rfl⟩
/-- on a day: its month, its day of the month, its day of the week -/
def dayP (c d f : Int) (x y : Bool) (mo dy wk : Int) : Bool := hasB d mo && (if x || y then hasB c dy && hasB f wk else hasB c dy || hasB f wk)
set_option maxRecDepth 100000 in
set_option maxHeartbeats 2000000 in
theorem day_any (a b c d f : Int) (x y : Bool) (y0 mo dy hh mi se wk : Int) (w : World) (m0 : 0 ≤ mo) (m1 : mo ≤ 63) (d0 : 0 ≤ dy) (d1 : dy ≤ 63) (k0 : 0 ≤ wk) (k1 : wk ≤ 63) :
    Calls Tryd.prog 60 #[.agg #[.int .u64 a, .int .u64 b, .int .u64 c, .int .u64 d, .int .u64 f, .bool x, .bool y], .agg #[.int .i64 y0, .int .i64 mo, .int .i64 dy, .int .i64 hh, .int .i64 mi, .int .i64 se, .int .i64 wk]] w
      fun e w' => e = .returned (.bool (dayP c d f x y mo dy wk)) ∧ Below w.heap.size w w' := by
  obtain ⟨r, hr⟩ := named (dayP c d f x y mo dy wk)
  rw [← hr.out]
  obtain ⟨p, hp⟩ := named (hasB c dy)
  obtain ⟨q, hq⟩ := named (hasB f wk)
  obtain ⟨o, ho⟩ := named (hasB d mo)
  have HR : Aside0 (r = (o && (if x || y then p && q else p || q))) := ⟨by rw [hr.out, dayP, hp.out, hq.out, ho.out]⟩
  have CP := Aside0.mk (fun W => has_same c dy W d0 d1)
  have CQ := Aside0.mk (fun W => has_same f wk W k0 k1)
  have CO := Aside0.mk (fun W => has_same d mo W m0 m1)
  rw [← hp.out] at CP
  rw [← hq.out] at CQ
  rw [← ho.out] at CO
  clear hr hp hq ho
  have n1 : w.heap.size < (w.alloc (.cells #[.int .u64 a, .int .u64 b, .int .u64 c, .int .u64 d, .int .u64 f, .bool x, .bool y] 63)).heap.size := by simp
  have HK0 := Aside0.mk (blk_alloc (blk_new w (.cells #[.int .u64 a, .int .u64 b, .int .u64 c, .int .u64 d, .int .u64 f, .bool x, .bool y] 63)) (.cells #[.int .i64 y0, .int .i64 mo, .int .i64 dy, .int .i64 hh, .int .i64 mi, .int .i64 se, .int .i64 wk] 125))
  have HM0 := Aside0.mk (blk_new1 w (.cells #[.int .u64 a, .int .u64 b, .int .u64 c, .int .u64 d, .int .u64 f, .bool x, .bool y] 63) #[.int .i64 y0, .int .i64 mo, .int .i64 dy, .int .i64 hh, .int .i64 mi, .int .i64 se, .int .i64 wk] 125)
  have HB0 := Aside0.mk (below_alloc (below_alloc (Below.refl _ w) (.cells #[.int .u64 a, .int .u64 b, .int .u64 c, .int .u64 d, .int .u64 f, .bool x, .bool y] 63)) (.cells #[.int .i64 y0, .int .i64 mo, .int .i64 dy, .int .i64 hh, .int .i64 mi, .int .i64 se, .int .i64 wk] 125))
  clear n1
  go_enter Tryd.func60, Tryd.ntmps60
  go_upto_region 1 with (fail)
  obtain ⟨W, hW⟩ : ∃ W, W = (w.alloc (.cells #[.int .u64 a, .int .u64 b, .int .u64 c, .int .u64 d, .int .u64 f, .bool x, .bool y] 63)).alloc (.cells #[.int .i64 y0, .int .i64 mo, .int .i64 dy, .int .i64 hh, .int .i64 mi, .int .i64 se, .int .i64 wk] 125) := ⟨_, rfl⟩
  rw [← hW] at HK0 HM0 HB0 ⊢
  clear hW
  have FK : Aside0 (∀ w', Below W.heap.size W w' → w'.cell? ⟨w.heap.size, 2, none⟩ = some (.int .u64 c) ∧ w'.cell? ⟨w.heap.size, 4, none⟩ = some (.int .u64 f) ∧ w'.cell? ⟨w.heap.size + 1, 2, none⟩ = some (.int .i64 dy) ∧ w'.cell? ⟨w.heap.size + 1, 6, none⟩ = some (.int .i64 wk)) := ⟨fun w' h =>
    ⟨blk_cell (blk_keep HK0.out h) 2, blk_cell (blk_keep HK0.out h) 4, blk_cell (blk_keep HM0.out h) 2, blk_cell (blk_keep HM0.out h) 6⟩⟩
  obtain ⟨c0, c1, c2, c3⟩ := FK.out _ (below_drew (Below.refl _ W))
  go_region_held3 (fun w' => w'.cell? ⟨w.heap.size, 2, none⟩ = some (.int .u64 c) ∧ w'.cell? ⟨w.heap.size, 4, none⟩ = some (.int .u64 f) ∧ w'.cell? ⟨w.heap.size + 1, 2, none⟩ = some (.int .i64 dy) ∧ w'.cell? ⟨w.heap.size + 1, 6, none⟩ = some (.int .i64 wk)) (first | with_reducible exact ⟨c0, c1, c2, c3⟩ | go_keep) (first | (go_at_call 73; with_reducible refine (CP.out _).mono ?_; rintro e w4 ⟨rfl, rfl⟩) | (go_at_call 73; with_reducible refine (CQ.out _).mono ?_; rintro e w4 ⟨rfl, rfl⟩))
  have HBD := Aside0.mk (below_drew HB0.out)
  have HKD := Aside0.mk (blk_drew HK0.out)
  have HMD := Aside0.mk (blk_drew HM0.out)
  have b3 : W.drew.cell? ⟨w.heap.size, 3, none⟩ = some (.int .u64 d) := blk_cell HKD.out 3
  have b5 : W.drew.cell? ⟨w.heap.size, 5, none⟩ = some (.bool x) := blk_cell HKD.out 5
  have b6 : W.drew.cell? ⟨w.heap.size, 6, none⟩ = some (.bool y) := blk_cell HKD.out 6
  have b1 : W.drew.cell? ⟨w.heap.size + 1, 1, none⟩ = some (.int .i64 mo) := blk_cell HMD.out 1
  cases o <;> cases x <;> cases y <;> cases p <;> cases q <;> (have HR2 := HR.out; simp at HR2; subst HR2; clear HR; go_wp2_with (go_at_call 73; with_reducible refine (CO.out _).mono ?_; rintro e w4 ⟨rfl, rfl⟩); go_ret; exact ⟨rfl, HBD.out⟩)
end Go.Proofs.YteloamnakikbbaaDoor.Cron

/- cron: within, walked. -/
namespace Go.Proofs.YteloamnakikbbaaDoor.Cron
set_option linter.unusedVariables false
set_option linter.unusedSimpArgs false
open Go.RowKit Go.Proofs.YteloamnakikbbaaDoorW.PrintWords Go.Proofs.YteloamnakikbbaaDoorW.PrintLast Go.Proofs.YteloamnakikbbaaDoor.Base Go.Proofs.YteloamnakikbbaaDoor.Cells Go.Proofs.YteloamnakikbbaaDoor.CronPure Go.Proofs.YteloamnakikbbaaDoor.NamesPure

/-- the least minute of a day from one on -/
def laterP (a b : Nat) (h : Nat) : Option Nat := (fromP b (h + 1)).map fun k => 60 * k + (fromP a 0).getD 0
def withinP (a b : Nat) (m : Nat) : Option Nat := if hasB b (m / 60 : Nat) then (match fromP a (m % 60) with | some k => some (60 * (m / 60) + k) | none => laterP a b (m / 60)) else laterP a b (m / 60)
set_option maxRecDepth 100000 in
set_option maxHeartbeats 2000000 in
theorem within_0 (a b c d f : Int) (x y : Bool) (m h k p v1 v2 v3 : Int) (s1 s2 s3 : Bool) (w : World) (m0 : 0 ≤ m) (m1 : m < 1440) (e1 : m / 60 = h) (e2 : m % 60 = k) (e3 : IntKind.i64.wrap (h + 1) = p) (l0 : 0 ≤ h) (l1 : h ≤ 23)
    (b10 : 0 ≤ v1) (b11 : v1 ≤ 200) (b20 : 0 ≤ v2) (b21 : v2 ≤ 200) (b30 : 0 ≤ v3) (b31 : v3 ≤ 200) (hT : Aside0 (Tab64 w))
    (CO : Aside0 (∀ W, Calls Tryd.prog 73 #[.int .u64 b, .int .i64 h] W fun e w' => e = .returned (.bool false) ∧ w' = W))
    (C1 : Aside0 (∀ W, Tab64 W → Calls Tryd.prog 74 #[.int .u64 a, .int .i64 k] W fun e w' => e = .returned (.tuple #[.int .i64 v1, .bool s1]) ∧ w' = W))
    (C2 : Aside0 (∀ W, Tab64 W → Calls Tryd.prog 74 #[.int .u64 b, .int .i64 p] W fun e w' => e = .returned (.tuple #[.int .i64 v2, .bool false]) ∧ w' = W))
    (C3 : Aside0 (∀ W, Tab64 W → Calls Tryd.prog 74 #[.int .u64 a, .int .i64 0] W fun e w' => e = .returned (.tuple #[.int .i64 v3, .bool s3]) ∧ w' = W)) :
    Calls Tryd.prog 61 #[.agg #[.int .u64 a, .int .u64 b, .int .u64 c, .int .u64 d, .int .u64 f, .bool x, .bool y], .int .i64 m] w
      fun e w' => e = .returned (.tuple #[.int .i64 (0), .bool false]) ∧ Below w.heap.size w w' := by
  have HB0 := Aside0.mk (below_alloc (Below.refl _ w) (.cells #[.int .u64 a, .int .u64 b, .int .u64 c, .int .u64 d, .int .u64 f, .bool x, .bool y] 63))
  have HK0 := Aside0.mk (blk_new w (.cells #[.int .u64 a, .int .u64 b, .int .u64 c, .int .u64 d, .int .u64 f, .bool x, .bool y] 63))
  have HT0 := Aside0.mk (hT.out.below (below_alloc (Below.refl _ w) (.cells #[.int .u64 a, .int .u64 b, .int .u64 c, .int .u64 d, .int .u64 f, .bool x, .bool y] 63)))
  obtain ⟨W, hW⟩ : ∃ W, W = w.alloc (.cells #[.int .u64 a, .int .u64 b, .int .u64 c, .int .u64 d, .int .u64 f, .bool x, .bool y] 63) := ⟨_, rfl⟩
  have HE := Aside0.mk (And.intro e1 e2)
  clear e1 e2
  go_enter Tryd.func61, Tryd.ntmps61
  go_upto_region 2 with (fail)
  rw [← hW] at HB0 HK0 HT0 ⊢
  clear hW
  obtain ⟨⟨k0, k1, _⟩, _⟩ := all7 HK0.out
  rw [HE.out.1, HE.out.2]
  go_wp2_with (first | (go_at_call 73; with_reducible refine (CO.out _).mono ?_; rintro e w4 ⟨rfl, rfl⟩) | (go_at_call 74; with_reducible refine (C1.out _ HT0.out).mono ?_; rintro e w4 ⟨rfl, rfl⟩) | (go_at_call 74; with_reducible refine (C2.out _ HT0.out).mono ?_; rintro e w4 ⟨rfl, rfl⟩) | (go_at_call 74; with_reducible refine (C3.out _ HT0.out).mono ?_; rintro e w4 ⟨rfl, rfl⟩))
  refine bodyPost_ret (results_tmp2 rfl _ _ _) rfl ?_
  exact ⟨rfl, HB0.out⟩
set_option maxRecDepth 100000 in
set_option maxHeartbeats 2000000 in
theorem within_1 (a b c d f : Int) (x y : Bool) (m h k p v1 v2 v3 : Int) (s1 s2 s3 : Bool) (w : World) (m0 : 0 ≤ m) (m1 : m < 1440) (e1 : m / 60 = h) (e2 : m % 60 = k) (e3 : IntKind.i64.wrap (h + 1) = p) (l0 : 0 ≤ h) (l1 : h ≤ 23)
    (b10 : 0 ≤ v1) (b11 : v1 ≤ 200) (b20 : 0 ≤ v2) (b21 : v2 ≤ 200) (b30 : 0 ≤ v3) (b31 : v3 ≤ 200) (hT : Aside0 (Tab64 w))
    (CO : Aside0 (∀ W, Calls Tryd.prog 73 #[.int .u64 b, .int .i64 h] W fun e w' => e = .returned (.bool false) ∧ w' = W))
    (C1 : Aside0 (∀ W, Tab64 W → Calls Tryd.prog 74 #[.int .u64 a, .int .i64 k] W fun e w' => e = .returned (.tuple #[.int .i64 v1, .bool s1]) ∧ w' = W))
    (C2 : Aside0 (∀ W, Tab64 W → Calls Tryd.prog 74 #[.int .u64 b, .int .i64 p] W fun e w' => e = .returned (.tuple #[.int .i64 v2, .bool true]) ∧ w' = W))
    (C3 : Aside0 (∀ W, Tab64 W → Calls Tryd.prog 74 #[.int .u64 a, .int .i64 0] W fun e w' => e = .returned (.tuple #[.int .i64 v3, .bool s3]) ∧ w' = W)) :
    Calls Tryd.prog 61 #[.agg #[.int .u64 a, .int .u64 b, .int .u64 c, .int .u64 d, .int .u64 f, .bool x, .bool y], .int .i64 m] w
      fun e w' => e = .returned (.tuple #[.int .i64 (60 * v2 + v3), .bool true]) ∧ Below w.heap.size w w' := by
  have HB0 := Aside0.mk (below_alloc (Below.refl _ w) (.cells #[.int .u64 a, .int .u64 b, .int .u64 c, .int .u64 d, .int .u64 f, .bool x, .bool y] 63))
  have HK0 := Aside0.mk (blk_new w (.cells #[.int .u64 a, .int .u64 b, .int .u64 c, .int .u64 d, .int .u64 f, .bool x, .bool y] 63))
  have HT0 := Aside0.mk (hT.out.below (below_alloc (Below.refl _ w) (.cells #[.int .u64 a, .int .u64 b, .int .u64 c, .int .u64 d, .int .u64 f, .bool x, .bool y] 63)))
  obtain ⟨W, hW⟩ : ∃ W, W = w.alloc (.cells #[.int .u64 a, .int .u64 b, .int .u64 c, .int .u64 d, .int .u64 f, .bool x, .bool y] 63) := ⟨_, rfl⟩
  have HE := Aside0.mk (And.intro e1 e2)
  clear e1 e2
  go_enter Tryd.func61, Tryd.ntmps61
  go_upto_region 2 with (fail)
  rw [← hW] at HB0 HK0 HT0 ⊢
  clear hW
  obtain ⟨⟨k0, k1, _⟩, _⟩ := all7 HK0.out
  rw [HE.out.1, HE.out.2]
  go_wp2_with (first | (go_at_call 73; with_reducible refine (CO.out _).mono ?_; rintro e w4 ⟨rfl, rfl⟩) | (go_at_call 74; with_reducible refine (C1.out _ HT0.out).mono ?_; rintro e w4 ⟨rfl, rfl⟩) | (go_at_call 74; with_reducible refine (C2.out _ HT0.out).mono ?_; rintro e w4 ⟨rfl, rfl⟩) | (go_at_call 74; with_reducible refine (C3.out _ HT0.out).mono ?_; rintro e w4 ⟨rfl, rfl⟩))
  refine bodyPost_ret (results_tmp2 rfl _ _ _) rfl ?_
  exact ⟨rfl, HB0.out⟩
set_option maxRecDepth 100000 in
set_option maxHeartbeats 2000000 in
theorem within_2 (a b c d f : Int) (x y : Bool) (m h k p v1 v2 v3 : Int) (s1 s2 s3 : Bool) (w : World) (m0 : 0 ≤ m) (m1 : m < 1440) (e1 : m / 60 = h) (e2 : m % 60 = k) (e3 : IntKind.i64.wrap (h + 1) = p) (l0 : 0 ≤ h) (l1 : h ≤ 23)
    (b10 : 0 ≤ v1) (b11 : v1 ≤ 200) (b20 : 0 ≤ v2) (b21 : v2 ≤ 200) (b30 : 0 ≤ v3) (b31 : v3 ≤ 200) (hT : Aside0 (Tab64 w))
    (CO : Aside0 (∀ W, Calls Tryd.prog 73 #[.int .u64 b, .int .i64 h] W fun e w' => e = .returned (.bool true) ∧ w' = W))
    (C1 : Aside0 (∀ W, Tab64 W → Calls Tryd.prog 74 #[.int .u64 a, .int .i64 k] W fun e w' => e = .returned (.tuple #[.int .i64 v1, .bool false]) ∧ w' = W))
    (C2 : Aside0 (∀ W, Tab64 W → Calls Tryd.prog 74 #[.int .u64 b, .int .i64 p] W fun e w' => e = .returned (.tuple #[.int .i64 v2, .bool false]) ∧ w' = W))
    (C3 : Aside0 (∀ W, Tab64 W → Calls Tryd.prog 74 #[.int .u64 a, .int .i64 0] W fun e w' => e = .returned (.tuple #[.int .i64 v3, .bool s3]) ∧ w' = W)) :
    Calls Tryd.prog 61 #[.agg #[.int .u64 a, .int .u64 b, .int .u64 c, .int .u64 d, .int .u64 f, .bool x, .bool y], .int .i64 m] w
      fun e w' => e = .returned (.tuple #[.int .i64 (0), .bool false]) ∧ Below w.heap.size w w' := by
  have HB0 := Aside0.mk (below_alloc (Below.refl _ w) (.cells #[.int .u64 a, .int .u64 b, .int .u64 c, .int .u64 d, .int .u64 f, .bool x, .bool y] 63))
  have HK0 := Aside0.mk (blk_new w (.cells #[.int .u64 a, .int .u64 b, .int .u64 c, .int .u64 d, .int .u64 f, .bool x, .bool y] 63))
  have HT0 := Aside0.mk (hT.out.below (below_alloc (Below.refl _ w) (.cells #[.int .u64 a, .int .u64 b, .int .u64 c, .int .u64 d, .int .u64 f, .bool x, .bool y] 63)))
  obtain ⟨W, hW⟩ : ∃ W, W = w.alloc (.cells #[.int .u64 a, .int .u64 b, .int .u64 c, .int .u64 d, .int .u64 f, .bool x, .bool y] 63) := ⟨_, rfl⟩
  have HE := Aside0.mk (And.intro e1 e2)
  clear e1 e2
  go_enter Tryd.func61, Tryd.ntmps61
  go_upto_region 2 with (fail)
  rw [← hW] at HB0 HK0 HT0 ⊢
  clear hW
  obtain ⟨⟨k0, k1, _⟩, _⟩ := all7 HK0.out
  rw [HE.out.1, HE.out.2]
  go_wp2_with (first | (go_at_call 73; with_reducible refine (CO.out _).mono ?_; rintro e w4 ⟨rfl, rfl⟩) | (go_at_call 74; with_reducible refine (C1.out _ HT0.out).mono ?_; rintro e w4 ⟨rfl, rfl⟩) | (go_at_call 74; with_reducible refine (C2.out _ HT0.out).mono ?_; rintro e w4 ⟨rfl, rfl⟩) | (go_at_call 74; with_reducible refine (C3.out _ HT0.out).mono ?_; rintro e w4 ⟨rfl, rfl⟩))
  refine bodyPost_ret (results_tmp2 rfl _ _ _) rfl ?_
  exact ⟨rfl, HB0.out⟩
set_option maxRecDepth 100000 in
set_option maxHeartbeats 2000000 in
theorem within_3 (a b c d f : Int) (x y : Bool) (m h k p v1 v2 v3 : Int) (s1 s2 s3 : Bool) (w : World) (m0 : 0 ≤ m) (m1 : m < 1440) (e1 : m / 60 = h) (e2 : m % 60 = k) (e3 : IntKind.i64.wrap (h + 1) = p) (l0 : 0 ≤ h) (l1 : h ≤ 23)
    (b10 : 0 ≤ v1) (b11 : v1 ≤ 200) (b20 : 0 ≤ v2) (b21 : v2 ≤ 200) (b30 : 0 ≤ v3) (b31 : v3 ≤ 200) (hT : Aside0 (Tab64 w))
    (CO : Aside0 (∀ W, Calls Tryd.prog 73 #[.int .u64 b, .int .i64 h] W fun e w' => e = .returned (.bool true) ∧ w' = W))
    (C1 : Aside0 (∀ W, Tab64 W → Calls Tryd.prog 74 #[.int .u64 a, .int .i64 k] W fun e w' => e = .returned (.tuple #[.int .i64 v1, .bool false]) ∧ w' = W))
    (C2 : Aside0 (∀ W, Tab64 W → Calls Tryd.prog 74 #[.int .u64 b, .int .i64 p] W fun e w' => e = .returned (.tuple #[.int .i64 v2, .bool true]) ∧ w' = W))
    (C3 : Aside0 (∀ W, Tab64 W → Calls Tryd.prog 74 #[.int .u64 a, .int .i64 0] W fun e w' => e = .returned (.tuple #[.int .i64 v3, .bool s3]) ∧ w' = W)) :
    Calls Tryd.prog 61 #[.agg #[.int .u64 a, .int .u64 b, .int .u64 c, .int .u64 d, .int .u64 f, .bool x, .bool y], .int .i64 m] w
      fun e w' => e = .returned (.tuple #[.int .i64 (60 * v2 + v3), .bool true]) ∧ Below w.heap.size w w' := by
  have HB0 := Aside0.mk (below_alloc (Below.refl _ w) (.cells #[.int .u64 a, .int .u64 b, .int .u64 c, .int .u64 d, .int .u64 f, .bool x, .bool y] 63))
  have HK0 := Aside0.mk (blk_new w (.cells #[.int .u64 a, .int .u64 b, .int .u64 c, .int .u64 d, .int .u64 f, .bool x, .bool y] 63))
  have HT0 := Aside0.mk (hT.out.below (below_alloc (Below.refl _ w) (.cells #[.int .u64 a, .int .u64 b, .int .u64 c, .int .u64 d, .int .u64 f, .bool x, .bool y] 63)))
  obtain ⟨W, hW⟩ : ∃ W, W = w.alloc (.cells #[.int .u64 a, .int .u64 b, .int .u64 c, .int .u64 d, .int .u64 f, .bool x, .bool y] 63) := ⟨_, rfl⟩
  have HE := Aside0.mk (And.intro e1 e2)
  clear e1 e2
  go_enter Tryd.func61, Tryd.ntmps61
  go_upto_region 2 with (fail)
  rw [← hW] at HB0 HK0 HT0 ⊢
  clear hW
  obtain ⟨⟨k0, k1, _⟩, _⟩ := all7 HK0.out
  rw [HE.out.1, HE.out.2]
  go_wp2_with (first | (go_at_call 73; with_reducible refine (CO.out _).mono ?_; rintro e w4 ⟨rfl, rfl⟩) | (go_at_call 74; with_reducible refine (C1.out _ HT0.out).mono ?_; rintro e w4 ⟨rfl, rfl⟩) | (go_at_call 74; with_reducible refine (C2.out _ HT0.out).mono ?_; rintro e w4 ⟨rfl, rfl⟩) | (go_at_call 74; with_reducible refine (C3.out _ HT0.out).mono ?_; rintro e w4 ⟨rfl, rfl⟩))
  refine bodyPost_ret (results_tmp2 rfl _ _ _) rfl ?_
  exact ⟨rfl, HB0.out⟩
set_option maxRecDepth 100000 in
set_option maxHeartbeats 2000000 in
theorem within_4 (a b c d f : Int) (x y : Bool) (m h k p v1 v2 v3 : Int) (s1 s2 s3 : Bool) (w : World) (m0 : 0 ≤ m) (m1 : m < 1440) (e1 : m / 60 = h) (e2 : m % 60 = k) (e3 : IntKind.i64.wrap (h + 1) = p) (l0 : 0 ≤ h) (l1 : h ≤ 23)
    (b10 : 0 ≤ v1) (b11 : v1 ≤ 200) (b20 : 0 ≤ v2) (b21 : v2 ≤ 200) (b30 : 0 ≤ v3) (b31 : v3 ≤ 200) (hT : Aside0 (Tab64 w))
    (CO : Aside0 (∀ W, Calls Tryd.prog 73 #[.int .u64 b, .int .i64 h] W fun e w' => e = .returned (.bool true) ∧ w' = W))
    (C1 : Aside0 (∀ W, Tab64 W → Calls Tryd.prog 74 #[.int .u64 a, .int .i64 k] W fun e w' => e = .returned (.tuple #[.int .i64 v1, .bool true]) ∧ w' = W))
    (C2 : Aside0 (∀ W, Tab64 W → Calls Tryd.prog 74 #[.int .u64 b, .int .i64 p] W fun e w' => e = .returned (.tuple #[.int .i64 v2, .bool s2]) ∧ w' = W))
    (C3 : Aside0 (∀ W, Tab64 W → Calls Tryd.prog 74 #[.int .u64 a, .int .i64 0] W fun e w' => e = .returned (.tuple #[.int .i64 v3, .bool s3]) ∧ w' = W)) :
    Calls Tryd.prog 61 #[.agg #[.int .u64 a, .int .u64 b, .int .u64 c, .int .u64 d, .int .u64 f, .bool x, .bool y], .int .i64 m] w
      fun e w' => e = .returned (.tuple #[.int .i64 (60 * h + v1), .bool true]) ∧ Below w.heap.size w w' := by
  have HB0 := Aside0.mk (below_alloc (Below.refl _ w) (.cells #[.int .u64 a, .int .u64 b, .int .u64 c, .int .u64 d, .int .u64 f, .bool x, .bool y] 63))
  have HK0 := Aside0.mk (blk_new w (.cells #[.int .u64 a, .int .u64 b, .int .u64 c, .int .u64 d, .int .u64 f, .bool x, .bool y] 63))
  have HT0 := Aside0.mk (hT.out.below (below_alloc (Below.refl _ w) (.cells #[.int .u64 a, .int .u64 b, .int .u64 c, .int .u64 d, .int .u64 f, .bool x, .bool y] 63)))
  obtain ⟨W, hW⟩ : ∃ W, W = w.alloc (.cells #[.int .u64 a, .int .u64 b, .int .u64 c, .int .u64 d, .int .u64 f, .bool x, .bool y] 63) := ⟨_, rfl⟩
  have HE := Aside0.mk (And.intro e1 e2)
  clear e1 e2
  go_enter Tryd.func61, Tryd.ntmps61
  go_upto_region 2 with (fail)
  rw [← hW] at HB0 HK0 HT0 ⊢
  clear hW
  obtain ⟨⟨k0, k1, _⟩, _⟩ := all7 HK0.out
  rw [HE.out.1, HE.out.2]
  go_wp2_with (first | (go_at_call 73; with_reducible refine (CO.out _).mono ?_; rintro e w4 ⟨rfl, rfl⟩) | (go_at_call 74; with_reducible refine (C1.out _ HT0.out).mono ?_; rintro e w4 ⟨rfl, rfl⟩) | (go_at_call 74; with_reducible refine (C2.out _ HT0.out).mono ?_; rintro e w4 ⟨rfl, rfl⟩) | (go_at_call 74; with_reducible refine (C3.out _ HT0.out).mono ?_; rintro e w4 ⟨rfl, rfl⟩))
  refine bodyPost_ret (results_tmp2 rfl _ _ _) rfl ?_
  exact ⟨rfl, HB0.out⟩
theorem fromP_le (s n v : Nat) (hs : s < 18446744073709551616) (hv : fromP s n = some v) : v ≤ 200 := by
  unfold fromP at hv
  split at hv
  · cases hv
  · split at hv
    · cases hv
    · rename_i q1 q2
      obtain ⟨q, hq⟩ : ∃ q, q = s >>> n := ⟨_, rfl⟩
      have hqs : q ≤ s := by rw [hq, Nat.shiftRight_eq_div_pow]; exact Nat.div_le_self _ _
      rw [← hq] at hv q2
      injection hv with hv
      have hk : Lib.ctz 64 q < 64 := by
        rw [Lib.ctz, if_neg q2]
        obtain ⟨_, _, h⟩ := Lib.ctzFrom_spec 64 q (by omega) (by omega)
        exact h
      omega
theorem fromP_get (s n : Nat) (hs : s < 18446744073709551616) : (fromP s n).getD 0 ≤ 200 := by
  cases h : fromP s n with
  | none => simp
  | some v => exact fromP_le s n v hs h
theorem within_any (a b c d f : Nat) (x y : Bool) (m : Int) (w : World) (m0 : 0 ≤ m) (m1 : m < 1440) (ha : a < 18446744073709551616) (hb : b < 18446744073709551616) (hT : Tab64 w) :
    Calls Tryd.prog 61 #[.agg #[.int .u64 a, .int .u64 b, .int .u64 c, .int .u64 d, .int .u64 f, .bool x, .bool y], .int .i64 m] w
      fun e w' => e = .returned (.tuple #[.int .i64 ((withinP a b m.toNat).getD 0 : Nat), .bool (withinP a b m.toNat).isSome]) ∧ Below w.heap.size w w' := by
  obtain ⟨h, hh⟩ : ∃ h : Nat, h = m.toNat / 60 := ⟨_, rfl⟩
  obtain ⟨k, hk⟩ : ∃ k : Nat, k = m.toNat % 60 := ⟨_, rfl⟩
  have e1 : m / 60 = (h : Int) := by omega
  have e2 : m % 60 = (k : Int) := by omega
  have l1 : h ≤ 23 := by omega
  have l2 : k ≤ 59 := by omega
  have e3 : IntKind.i64.wrap ((h : Int) + 1) = ((h + 1 : Nat) : Int) := by rw [IntKind.wrap_i64]; omega
  have CO := fun W => has_same b h W (by omega) (by omega)
  have C1 := fun W (hT : Tab64 W) => from_any a k W ha hT
  have C2 := fun W (hT : Tab64 W) => from_any b (h + 1) W hb hT
  have C3 := fun W (hT : Tab64 W) => from_any a 0 W ha hT
  have B1 := fromP_get a k ha
  have B2 := fromP_get b (h + 1) hb
  have B3 := fromP_get a 0 ha
  have HR : withinP a b m.toNat = if hasB b h then (match fromP a k with | some k => some (60 * h + k) | none => laterP a b h) else laterP a b h := by rw [withinP, ← hh, ← hk]
  rw [HR]
  cases ho : hasB b h with
  | false =>
    rw [ho] at CO
    rw [if_neg (by simp), laterP]
    cases h2 : fromP b (h + 1) with
    | none =>
      rw [h2] at C2
      exact within_0 a b c d f x y m h k _ _ 0 _ _ false _ w m0 m1 e1 e2 e3 (by omega) (by omega) (by omega) (by omega) (by omega) (by omega) (by omega) (by omega) ⟨hT⟩ ⟨CO⟩ ⟨C1⟩ ⟨C2⟩ ⟨C3⟩
    | some v2 =>
      rw [h2] at C2 B2
      have B2 : v2 ≤ 200 := B2
      refine (within_1 a b c d f x y m h k _ _ v2 _ _ false _ w m0 m1 e1 e2 e3 (by omega) (by omega) (by omega) (by omega) (by omega) (by omega) (by omega) (by omega) ⟨hT⟩ ⟨CO⟩ ⟨C1⟩ ⟨C2⟩ ⟨C3⟩).mono fun e w' q => ⟨?_, q.2⟩
      rw [q.1]
      simp
  | true =>
    rw [ho] at CO
    rw [if_pos rfl, laterP]
    cases h1 : fromP a k with
    | none =>
      rw [h1] at C1
      cases h2 : fromP b (h + 1) with
      | none =>
        rw [h2] at C2
        exact within_2 a b c d f x y m h k _ 0 0 _ false false _ w m0 m1 e1 e2 e3 (by omega) (by omega) (by omega) (by omega) (by omega) (by omega) (by omega) (by omega) ⟨hT⟩ ⟨CO⟩ ⟨C1⟩ ⟨C2⟩ ⟨C3⟩
      | some v2 =>
        rw [h2] at C2 B2
        have B2 : v2 ≤ 200 := B2
        refine (within_3 a b c d f x y m h k _ 0 v2 _ false false _ w m0 m1 e1 e2 e3 (by omega) (by omega) (by omega) (by omega) (by omega) (by omega) (by omega) (by omega) ⟨hT⟩ ⟨CO⟩ ⟨C1⟩ ⟨C2⟩ ⟨C3⟩).mono fun e w' q => ⟨?_, q.2⟩
        rw [q.1]
        simp
    | some v1 =>
      rw [h1] at C1 B1
      have B1 : v1 ≤ 200 := B1
      refine (within_4 a b c d f x y m h k _ v1 _ _ false (fromP b (h + 1)).isSome (fromP a 0).isSome w m0 m1 e1 e2 e3 (by omega) (by omega) (by omega) (by omega) (by omega) (by omega) (by omega) (by omega) ⟨hT⟩ ⟨CO⟩ ⟨C1⟩ ⟨C2⟩ ⟨C3⟩).mono fun e w' q => ⟨?_, q.2⟩
      rw [q.1]
      simp
end Go.Proofs.YteloamnakikbbaaDoor.Cron

/- civil: weekday, Date, walked. -/
namespace Go.Proofs.YteloamnakikbbaaDoor.Cron
set_option linter.unusedVariables false
set_option linter.unusedSimpArgs false
open Go.RowKit Go.Proofs.YteloamnakikbbaaDoorW.PrintWords Go.Proofs.YteloamnakikbbaaDoorW.PrintLast Go.Proofs.YteloamnakikbbaaDoor.Base Go.Proofs.YteloamnakikbbaaDoor.Cells

theorem results_tmp4 {fn : Func} {t u v x : Tmp} (h : fn.results = #[.tmp t, .tmp u, .tmp v, .tmp x]) (tmps : Array Value) (P : Program) (w : World) :
    (results fn tmps).run P w = .ok (.tuple #[tmps.getD t undef, tmps.getD u undef, tmps.getD v undef, tmps.getD x undef]) w := by
  simp [results, h]
theorem yrs (d c q e y g h : Int) (h0 : 0 ≤ d) (h1 : d ≤ 146096) (hq : d / 1460 = q) (hc : d / 36524 = c) (he : d / 146096 = e) (hy : (d - q + c - e) / 365 = y) (hg : y / 4 = g) (hh : y / 100 = h) : h = c - e ∧ (e = 1 → d = 146096) ∧ 0 ≤ y ∧ y ≤ 399 ∧ 0 ≤ d - (365 * y + g - h) ∧ d - (365 * y + g - h) ≤ 365 := by
  by_cases h2 : d = 146096
  · subst h2; subst hq; subst hc; subst he; subst hy; subst hg; subst hh; decide
  have he0 : e = 0 := by omega
  subst he0
  obtain ⟨u, hu⟩ : ∃ u, u = d - q + c - 0 := ⟨_, rfl⟩
  rw [← hu] at hy
  have c4 : c = 0 ∨ c = 1 ∨ c = 2 ∨ c = 3 := by omega
  have hhc : h = c := by
    have h3 : u / 36500 = h := by omega
    have u1 : 36500 * c ≤ u := by rcases c4 with rfl | rfl | rfl | rfl <;> omega
    have u2 : u ≤ 36500 * c + 36498 := by rcases c4 with rfl | rfl | rfl | rfl <;> omega
    omega
  have hgq : g = q ∨ g = q - 1 := by
    have h3 : u / 1460 = g := by omega
    omega
  have hj : y = 4 * g ∨ y = 4 * g + 1 ∨ y = 4 * g + 2 ∨ y = 4 * g + 3 := by omega
  have y0 : 0 ≤ y := by omega
  have y1 : y ≤ 399 := by omega
  refine ⟨by omega, by omega, y0, y1, ?_, ?_⟩
  · rcases hgq with rfl | rfl <;> rcases hj with rfl | rfl | rfl | rfl <;> omega
  · rcases hgq with rfl | rfl <;> rcases hj with rfl | rfl | rfl | rfl <;> omega
/-- the year of a day of 400 years that begin with March -/
def yOf (d : Int) : Int := (d - d / 1460 + d / 36524 - d / 146096) / 365
/-- its day within that year -/
def ydOf (d : Int) : Int := d - (365 * yOf d + yOf d / 4 - yOf d / 100)
/-- the month of a day of a year that begins with March -/
def mOf (e : Int) : Int := (5 * e + 2) / 153
def mdOf (e : Int) : Int := e - (153 * mOf e + 2) / 5
theorem yd_bounds (d : Int) (h0 : 0 ≤ d) (h1 : d ≤ 146096) : 0 ≤ yOf d ∧ yOf d ≤ 399 ∧ 0 ≤ ydOf d ∧ ydOf d ≤ 365 := by
  obtain ⟨_, _, h2, h3, h4, h5⟩ := yrs d _ _ _ _ _ _ h0 h1 rfl rfl rfl rfl rfl rfl
  exact ⟨h2, h3, h4, h5⟩
theorem md_bounds (e : Int) (h0 : 0 ≤ e) (h1 : e ≤ 365) : 0 ≤ mOf e ∧ mOf e ≤ 11 ∧ 0 ≤ mdOf e ∧ mdOf e ≤ 30 := by
  unfold mdOf mOf
  omega
/-- the days from March of the year 0 on, within their 400 years; these; the year, the month, the day -/
def inEra (day : Int) : Int := (day + 719468) % 146097
def eraOf (day : Int) : Int := (day + 719468) / 146097
def monOf (day : Int) : Int := mOf (ydOf (inEra day))
def yearP (day : Int) : Int := 400 * eraOf day + yOf (inEra day) + (if 12 < monOf day + 3 then 1 else 0)
def monthP (day : Int) : Int := monOf day + 3 - (if 12 < monOf day + 3 then 12 else 0)
def domP (day : Int) : Int := mdOf (ydOf (inEra day)) + 1
def weekP (day : Int) : Int := (day + 4) % 7
theorem inEra_bounds (day : Int) : 0 ≤ inEra day ∧ inEra day ≤ 146096 := by unfold inEra; omega
theorem month_bounds (day : Int) : 1 ≤ monthP day ∧ monthP day ≤ 12 ∧ 1 ≤ domP day ∧ domP day ≤ 31 := by
  obtain ⟨a, b⟩ := inEra_bounds day
  obtain ⟨_, _, c, d⟩ := yd_bounds _ a b
  obtain ⟨e, f, g, h⟩ := md_bounds _ c d
  unfold monthP domP monOf
  split <;> omega
theorem week_bounds (day : Int) : 0 ≤ weekP day ∧ weekP day ≤ 6 := by unfold weekP; omega
theorem week_any (day : Int) (w : World) (h0 : 0 ≤ day) (h1 : day < 376200) : Calls Tryd.prog 71 #[.int .i64 day] w fun e w' => e = .returned (.int .i64 (weekP day)) ∧ w' = w := by
  obtain ⟨x, hx⟩ : ∃ x, x = day + 4 := ⟨_, rfl⟩
  have e1 : IntKind.i64.wrap (day + 4) = x := by rw [IntKind.wrap_i64, hx]; omega
  have x0 : 0 ≤ x := by omega
  have e2 : weekP day = x % 7 := by rw [weekP, hx]
  rw [e2]
  clear hx e2
  go_enter Tryd.func71, Tryd.ntmps71
  go_wp2
  go_ret
  exact ⟨rfl, rfl⟩
set_option maxRecDepth 100000 in
set_option maxHeartbeats 2000000 in
theorem date_any (day : Int) (w : World) (h0 : 0 ≤ day) (h1 : day < 376200) :
    Calls Tryd.prog 72 #[.int .i64 day] w fun e w' => e = .returned (.tuple #[.int .i64 (yearP day), .int .i64 (monthP day), .int .i64 (domP day), .int .i64 0]) ∧ w' = w := by
  obtain ⟨z, hz⟩ : ∃ z, z = day + 719468 := ⟨_, rfl⟩
  have z0 : 719468 ≤ z := by omega
  have z1 : z < 1095668 := by omega
  have ez : IntKind.i64.wrap (day + 719468) = z := by rw [IntKind.wrap_i64]; omega
  obtain ⟨era, hera⟩ : ∃ x, x = z / 146097 := ⟨_, rfl⟩
  obtain ⟨d, hd⟩ : ∃ x, x = z % 146097 := ⟨_, rfl⟩
  have d0 : 0 ≤ d := by omega
  have d1 : d ≤ 146096 := by omega
  have r0 : 0 ≤ era := by omega
  have r1 : era ≤ 7 := by omega
  obtain ⟨y0, y1, e0, e1⟩ := yd_bounds d d0 d1
  obtain ⟨m0, m1, g0, g1⟩ := md_bounds _ e0 e1
  obtain ⟨y, hy⟩ := named (yOf d)
  obtain ⟨d2, hd2⟩ := named (ydOf d)
  obtain ⟨m, hm⟩ := named (mOf (ydOf d))
  obtain ⟨d3, hd3⟩ := named (mdOf (ydOf d))
  have HY := Aside0.mk (show yearP day = 400 * era + y + (if 12 < m + 3 then 1 else 0) by rw [yearP, monOf, eraOf, inEra, ← hz, ← hd, ← hera, hm.out, hy.out])
  have HM := Aside0.mk (show monthP day = m + 3 - (if 12 < m + 3 then 12 else 0) by rw [monthP, monOf, inEra, ← hz, ← hd, hm.out])
  have HD := Aside0.mk (show domP day = d3 + 1 by rw [domP, inEra, ← hz, ← hd, hd3.out])
  rw [HY.out, HM.out, HD.out]
  rw [← hd2.out] at e0 e1 hm hd3
  rw [← hy.out] at y0 y1
  rw [← hd2.out, ← hm.out] at m0 m1
  rw [← hd2.out, ← hd3.out] at g0 g1
  have HY2 := Aside0.mk (show (d - d / 1460 + d / 36524 - d / 146096) / 365 = y by rw [hy.out]; rfl)
  have HD2 := Aside0.mk (show d - (365 * y + y / 4 - y / 100) = d2 by rw [hd2.out, hy.out]; rfl)
  have HM2 := Aside0.mk (show (5 * d2 + 2) / 153 = m by rw [hm.out]; rfl)
  have HD3 := Aside0.mk (show d2 - (153 * m + 2) / 5 = d3 by rw [hd3.out, hm.out]; rfl)
  have HZ1 := Aside0.mk hera
  have HZ2 := Aside0.mk hd
  have n0 : ¬ (day < 0) := by omega
  have n1 : ¬ (376200 ≤ day) := by omega
  clear HY HM HD hy hd2 hm hd3 hz hera hd
  by_cases g : 12 < m + 3
  · rw [if_pos g, if_pos g]
    go_enter Tryd.func72, Tryd.ntmps72
    go_upto_region 5 with (fail)
    rw [← HZ1.out, ← HZ2.out]
    go_upto_region 6 with (fail)
    rw [HY2.out]
    go_upto_region 7 with (fail)
    rw [HD2.out]
    go_upto_region 8 with (fail)
    rw [HM2.out]
    go_upto_region 9 with (fail)
    rw [HD3.out]
    go_wp2
    refine bodyPost_ret (results_tmp4 rfl _ _ _) rfl ?_
    exact ⟨rfl, rfl⟩
  · rw [if_neg g, if_neg g]
    go_enter Tryd.func72, Tryd.ntmps72
    go_upto_region 5 with (fail)
    rw [← HZ1.out, ← HZ2.out]
    go_upto_region 6 with (fail)
    rw [HY2.out]
    go_upto_region 7 with (fail)
    rw [HD2.out]
    go_upto_region 8 with (fail)
    rw [HM2.out]
    go_upto_region 9 with (fail)
    rw [HD3.out]
    go_wp2
    refine bodyPost_ret (results_tmp4 rfl _ _ _) rfl ?_
    exact ⟨by simp, rfl⟩
end Go.Proofs.YteloamnakikbbaaDoor.Cron

/- civil: Split, walked, at a second that may be. -/
namespace Go.Proofs.YteloamnakikbbaaDoor.Cron
set_option linter.unusedVariables false
set_option linter.unusedSimpArgs false
open Go.RowKit Go.Proofs.YteloamnakikbbaaDoorW.PrintWords Go.Proofs.YteloamnakikbbaaDoorW.PrintLast Go.Proofs.YteloamnakikbbaaDoor.Base Go.Proofs.YteloamnakikbbaaDoor.Cells

/-- the moment of a second: its day's date, its hour, minute, second, the day of the week -/
def momC (day s : Int) : Value := .agg #[.int .i64 (yearP day), .int .i64 (monthP day), .int .i64 (domP day), .int .i64 (s / 3600), .int .i64 (s % 3600 / 60), .int .i64 (s % 60), .int .i64 (weekP day)]
theorem set3_of7 {g : Nat} {w : World} {t : TypeId} {a b c d e f h x y z : Value} (hh : w.heap[g]? = some (.cells #[a, b, c, d, e, f, h] t (0, 0))) :
    (((w.setCell ⟨g, 0, none⟩ x).setCell ⟨g, 1, none⟩ y).setCell ⟨g, 2, none⟩ z).heap[g]? = some (.cells #[x, y, z, d, e, f, h] t (0, 0)) :=
  blk_put (cs := #[x, y, c, d, e, f, h]) (blk_put (cs := #[x, b, c, d, e, f, h]) (blk_put (cs := #[a, b, c, d, e, f, h]) hh 0 x rfl) 1 y rfl) 2 z rfl
set_option maxRecDepth 100000 in
set_option maxHeartbeats 2000000 in
theorem split_any (day s t : Int) (w : World) (ht : t = 86400 * day + s) (h0 : 0 ≤ day) (h1 : day < 376200) (s0 : 0 ≤ s) (s1 : s < 86400) :
    Calls Tryd.prog 59 #[.int .i64 t] w fun e w' => e = .returned (.tuple #[momC day s, .int .i64 0]) ∧ Below w.heap.size w w' := by
  have t0 : 0 ≤ t := by omega
  have t1 : t < 32503680000 := by omega
  have e1 : t / 86400 = day := by omega
  have e2 : t % 86400 = s := by omega
  obtain ⟨Y, hY⟩ := named (yearP day)
  obtain ⟨M, hM⟩ := named (monthP day)
  obtain ⟨D, hD⟩ := named (domP day)
  obtain ⟨K, hK⟩ := named (weekP day)
  have CW := Aside0.mk (fun W => week_any day W h0 h1)
  have CD := Aside0.mk (fun W => date_any day W h0 h1)
  rw [← hK.out] at CW
  rw [← hY.out, ← hM.out, ← hD.out] at CD
  unfold momC
  rw [← hY.out, ← hM.out, ← hD.out, ← hK.out]
  have n0 : ¬ (t < 0) := by omega
  have n1 : ¬ (32503680000 ≤ t) := by omega
  have HT := Aside0.mk ht
  have HE := Aside0.mk (And.intro e1 e2)
  clear hY hM hD hK ht e1 e2
  go_enter Tryd.func59, Tryd.ntmps59
  go_upto_region 4 with (fail)
  rw [HE.out.1, HE.out.2]
  go_upto_region 5 with (go_at_call 71; refine (CW.out _).mono ?_; rintro e w4 ⟨rfl, rfl⟩)
  obtain ⟨W1, hW1⟩ : ∃ W1, W1 = w.alloc (.cells #[.int .i64 0, .int .i64 0, .int .i64 0, .int .i64 0, .int .i64 0, .int .i64 0, .int .i64 0] 125) := ⟨_, rfl⟩
  have HR1 : Aside0 (W1.heap[w.heap.size]? = some (.cells #[.int .i64 0, .int .i64 0, .int .i64 0, .int .i64 0, .int .i64 0, .int .i64 0, .int .i64 0] 125 (0, 0))) := ⟨by rw [hW1]; exact blk_new _ _⟩
  have HB1 : Aside0 (Below w.heap.size w W1) := ⟨by rw [hW1]; exact below_alloc (Below.refl _ w) _⟩
  have hs1 : W1.heap.size = w.heap.size + 1 := by rw [hW1]; simp
  rw [← hW1]
  clear hW1
  obtain ⟨W, hW⟩ : ∃ W, W = W1.alloc (.cells #[.int .i64 0, .int .i64 0, .int .i64 0, .int .i64 (s / 3600), .int .i64 (s % 3600 / 60), .int .i64 (s % 60), .int .i64 K] 125) := ⟨_, rfl⟩
  have HM0 : Aside0 (W.heap[w.heap.size + 1]? = some (.cells #[.int .i64 0, .int .i64 0, .int .i64 0, .int .i64 (s / 3600), .int .i64 (s % 3600 / 60), .int .i64 (s % 60), .int .i64 K] 125 (0, 0))) := ⟨by rw [hW, ← hs1]; exact blk_new _ _⟩
  have HBL : Aside0 (Below W1.heap.size W1 W) := ⟨by rw [hW]; exact below_alloc (Below.refl _ W1) _⟩
  rw [← hW]
  clear hW
  obtain ⟨⟨k0, k1, k2, k3, k4, k5, k6⟩, f0, f1, f2, f3, f4, f5, f6⟩ := all7 HM0.out
  go_upto_region 6 with (go_at_call 72; refine (CD.out _).mono ?_; rintro e w4 ⟨rfl, rfl⟩)
  clear k0 k1 k2 k3 k4 k5 k6 f0 f1 f2 f3 f4 f5 f6
  obtain ⟨W2, hW2⟩ : ∃ W2, W2 = ((w4.setCell ⟨w.heap.size + 1, 0, none⟩ (.int .i64 Y)).setCell ⟨w.heap.size + 1, 1, none⟩ (.int .i64 M)).setCell ⟨w.heap.size + 1, 2, none⟩ (.int .i64 D) := ⟨_, rfl⟩
  have HM2 : Aside0 (W2.heap[w.heap.size + 1]? = some (.cells #[.int .i64 Y, .int .i64 M, .int .i64 D, .int .i64 (s / 3600), .int .i64 (s % 3600 / 60), .int .i64 (s % 60), .int .i64 K] 125 (0, 0))) := ⟨by rw [hW2]; exact set3_of7 HM0.out⟩
  have HB2 : Aside0 (Below W1.heap.size W1 W2) := ⟨by rw [hW2]; exact below_set3 HBL.out (by omega) _ _ _⟩
  have HR2 : Aside0 (W2.heap[w.heap.size]? = some (.cells #[.int .i64 0, .int .i64 0, .int .i64 0, .int .i64 0, .int .i64 0, .int .i64 0, .int .i64 0] 125 (0, 0))) := ⟨blk_keep HR1.out HB2.out⟩
  have HB3 : Aside0 (Below w.heap.size w W2) := ⟨bthen HB1.out HB2.out⟩
  rw [← hW2]
  clear hW2 hs1
  obtain ⟨⟨k0, k1, k2, k3, k4, k5, k6⟩, _⟩ := all7 HM2.out
  obtain ⟨⟨r0, r1, r2, r3, r4, r5, r6⟩, f0, f1, f2, f3, f4, f5, f6⟩ := all7 HR2.out
  go_wp2
  refine bodyPost_ret (results_ct rfl _ _ w.heap.size 125 #[.int .i64 Y, .int .i64 M, .int .i64 D, .int .i64 (s / 3600), .int .i64 (s % 3600 / 60), .int .i64 (s % 60), .int .i64 K] (0, 0) _ rfl (blk7 HR2.out) Tryd.underlying125 rfl (by kernel_rfl)) rfl ?_
  exact ⟨rfl, below_set7 HB3.out (Nat.le_refl _) _ _ _ _ _ _ _⟩
end Go.Proofs.YteloamnakikbbaaDoor.Cron

/- cron: Next, walked. -/
namespace Go.Proofs.YteloamnakikbbaaDoor.Cron
set_option linter.unusedVariables false
set_option linter.unusedSimpArgs false
open Go.RowKit Go.Proofs.YteloamnakikbbaaDoorW.PrintWords Go.Proofs.YteloamnakikbbaaDoorW.PrintLast Go.Proofs.YteloamnakikbbaaDoor.Base Go.Proofs.YteloamnakikbbaaDoor.Cells Go.Proofs.YteloamnakikbbaaDoor.CronPure Go.Proofs.YteloamnakikbbaaDoor.NamesPure

/-- does a rule come on a day? -/
def onDay (c d f : Int) (x y : Bool) (D : Int) : Bool := dayP c d f x y (monthP D) (domP D) (weekP D)
/-- the next second from a day and a minute on, within so many days -/
def nextP (a b c d f : Nat) (x y : Bool) : Nat → Nat → Nat → Option Nat
  | 0, _, _ => none
  | g + 1, D, m => if onDay c d f x y D then (match withinP a b m with | some k => some (86400 * D + 60 * k) | none => nextP a b c d f x y g (D + 1) 0) else nextP a b c d f x y g (D + 1) 0
/-- the first whole minute above t -/
def startP (t : Int) : Nat := ((t + 60) / 60 * 60).toNat
def nextT (a b c d f : Nat) (x y : Bool) (t : Int) : Option Nat := nextP a b c d f x y (376200 - startP t / 86400) (startP t / 86400) (startP t % 86400 / 60)
theorem within_le (a b m k : Nat) (ha : a < 18446744073709551616) (hb : b < 18446744073709551616) (hm : m < 1440) (h : withinP a b m = some k) : k ≤ 60 * 200 + 200 := by
  have HL : ∀ h, laterP a b h = some k → k ≤ 60 * 200 + 200 := fun h hk => by
    unfold laterP at hk
    cases h2 : fromP b (h + 1) with
    | none => rw [h2] at hk; cases hk
    | some v =>
      rw [h2] at hk
      have h3 := fromP_le _ _ _ hb h2
      have h4 := fromP_get a 0 ha
      simp at hk
      omega
  unfold withinP at h
  split at h
  · cases h1 : fromP a (m % 60) with
    | none => rw [h1] at h; exact HL _ h
    | some v =>
      rw [h1] at h
      have h3 := fromP_le _ _ _ ha h1
      simp at h
      omega
  · exact HL _ h
theorem moment63 (D M Dy K : Int) (hM : M = monthP D) (hDy : Dy = domP D) (hK : K = weekP D) : (0 ≤ M ∧ M ≤ 63) ∧ (0 ≤ Dy ∧ Dy ≤ 63) ∧ (0 ≤ K ∧ K ≤ 63) := by
  have h := month_bounds D
  have k := week_bounds D
  rw [← hM, ← hDy] at h
  rw [← hK] at k
  clear hM hDy hK
  omega
theorem day_at (a b c d f : Int) (x y : Bool) (D Y M Dy K : Int) (w : World) (hM : M = monthP D) (hDy : Dy = domP D) (hK : K = weekP D) :
    Calls Tryd.prog 60 #[.agg #[.int .u64 a, .int .u64 b, .int .u64 c, .int .u64 d, .int .u64 f, .bool x, .bool y], .agg #[.int .i64 Y, .int .i64 M, .int .i64 Dy, .int .i64 0, .int .i64 0, .int .i64 0, .int .i64 K]] w
      fun e w' => e = .returned (.bool (onDay c d f x y D)) ∧ Below w.heap.size w w' := by
  obtain ⟨⟨a1, a2⟩, ⟨a3, a4⟩, ⟨a5, a6⟩⟩ := moment63 D M Dy K hM hDy hK
  have h := day_any a b c d f x y Y M Dy 0 0 0 K w a1 a2 a3 a4 a5 a6
  rw [onDay, ← hM, ← hDy, ← hK]
  exact h
end Go.Proofs.YteloamnakikbbaaDoor.Cron

/- cron: Next, walked. -/
namespace Go.Proofs.YteloamnakikbbaaDoor.Cron
set_option linter.unusedVariables false
set_option linter.unusedSimpArgs false
open Go.RowKit Go.Proofs.YteloamnakikbbaaDoorW.PrintWords Go.Proofs.YteloamnakikbbaaDoorW.PrintLast Go.Proofs.YteloamnakikbbaaDoor.Base Go.Proofs.YteloamnakikbbaaDoor.Cells Go.Proofs.YteloamnakikbbaaDoor.CronPure Go.Proofs.YteloamnakikbbaaDoor.NamesPure

set_option maxRecDepth 100000 in
set_option maxHeartbeats 4000000 in
theorem next_bad (a b c d f : Nat) (x y : Bool) (t : Int) (w : World) (hk : chkR a b c d f x y = false) :
    Calls Tryd.prog 46 #[(.agg #[.int .u64 a, .int .u64 b, .int .u64 c, .int .u64 d, .int .u64 f, .bool x, .bool y]), .int .i64 t] w fun e w' => e = .returned (.tuple #[.int .i64 0, .bool false, .int .i64 9]) ∧ Below w.heap.size w w' := by
  have HB0 := Aside0.mk (below_alloc (Below.refl _ w) (.cells #[.int .u64 a, .int .u64 b, .int .u64 c, .int .u64 d, .int .u64 f, .bool x, .bool y] 63))
  have HK0 := Aside0.mk (blk_new w (.cells #[.int .u64 a, .int .u64 b, .int .u64 c, .int .u64 d, .int .u64 f, .bool x, .bool y] 63))
  have CC := Aside0.mk (fun W => check_any a b c d f x y W)
  rw [hk] at CC
  clear hk
  obtain ⟨W, hW⟩ : ∃ W, W = w.alloc (.cells #[.int .u64 a, .int .u64 b, .int .u64 c, .int .u64 d, .int .u64 f, .bool x, .bool y] 63) := ⟨_, rfl⟩
  go_enter Tryd.func46, Tryd.ntmps46
  go_upto_region 1 with (fail)
  rw [← hW] at HB0 HK0 ⊢
  clear hW
  obtain ⟨⟨k0, k1, k2, k3, k4, k5, k6⟩, _⟩ := all7 HK0.out
  go_wp2_with (go_at_call 58; with_reducible refine (CC.out _).mono ?_; rintro e w4 ⟨rfl, hb⟩; (have HB := Aside0.mk (bthen HB0.out hb)); clear hb)
  refine bodyPost_ret (results_tmp3 rfl _ _ _) rfl ?_
  exact ⟨rfl, HB.out⟩
set_option maxRecDepth 100000 in
set_option maxHeartbeats 4000000 in
theorem next_good (a b c d f : Nat) (x y : Bool) (t : Int) (w : World) (hk : chkR a b c d f x y = true) (t0 : -1 ≤ t) (t1 : t < 32503680000) (ha : a < 18446744073709551616) (hb : b < 18446744073709551616) (hT : Aside0 (Tab64 w)) :
    Calls Tryd.prog 46 #[(.agg #[.int .u64 a, .int .u64 b, .int .u64 c, .int .u64 d, .int .u64 f, .bool x, .bool y]), .int .i64 t] w fun e w' => e = .returned (.tuple #[.int .i64 ((nextT a b c d f x y t).getD 0 : Nat), .bool (nextT a b c d f x y t).isSome, .int .i64 0]) ∧ Below w.heap.size w w' := by
  have HB0 := Aside0.mk (below_alloc (Below.refl _ w) (.cells #[.int .u64 a, .int .u64 b, .int .u64 c, .int .u64 d, .int .u64 f, .bool x, .bool y] 63))
  have HK0 := Aside0.mk (blk_new w (.cells #[.int .u64 a, .int .u64 b, .int .u64 c, .int .u64 d, .int .u64 f, .bool x, .bool y] 63))
  have CC := Aside0.mk (fun W => check_any a b c d f x y W)
  rw [hk] at CC
  clear hk
  have HT0 := Aside0.mk (hT.out.below HB0.out)
  obtain ⟨R, hR⟩ := named (nextT a b c d f x y t)
  rw [← hR.out]
  obtain ⟨s, hs⟩ : ∃ s : Nat, s = startP t := ⟨_, rfl⟩
  have s1 : s ≤ 32503680000 := by rw [hs, startP]; omega
  obtain ⟨D0, hD0⟩ : ∃ D : Nat, D = s / 86400 := ⟨_, rfl⟩
  obtain ⟨M0, hM0⟩ : ∃ M : Nat, M = s % 86400 / 60 := ⟨_, rfl⟩
  have HN : Aside0 (nextP a b c d f x y (376200 - D0) D0 M0 = R) := ⟨by rw [hR.out, nextT, ← hs, ← hD0, ← hM0]⟩
  obtain ⟨S, hS⟩ : ∃ S : Int, S = s := ⟨_, rfl⟩
  obtain ⟨A0, hA0⟩ : ∃ A : Int, A = 86400 * D0 := ⟨_, rfl⟩
  have E1 : Aside0 ((t + 60) / 60 * 60 = S) := ⟨by rw [hS, hs, startP]; omega⟩
  have E2 : Aside0 (S % 86400 / 60 = (M0 : Int)) := ⟨by omega⟩
  have E3 : Aside0 (S - S % 86400 = A0) := ⟨by omega⟩
  have S0 : 0 ≤ S := by omega
  have S1 : S ≤ 32503680000 := by omega
  have D1 : D0 ≤ 376200 := by omega
  have M1 : M0 < 1440 := by omega
  have HA0 := Aside0.mk hA0
  have n0 : ¬ (t < -1) := by omega
  have n1 : ¬ (32503680000 ≤ t) := by omega
  clear hs s1 hD0 hM0 hS hA0 hR
  obtain ⟨W, hW⟩ : ∃ W, W = w.alloc (.cells #[.int .u64 a, .int .u64 b, .int .u64 c, .int .u64 d, .int .u64 f, .bool x, .bool y] 63) := ⟨_, rfl⟩
  go_enter Tryd.func46, Tryd.ntmps46
  go_upto_region 1 with (fail)
  rw [← hW] at HB0 HK0 HT0 ⊢
  clear hW
  obtain ⟨⟨k0, k1, k2, k3, k4, k5, k6⟩, _⟩ := all7 HK0.out
  go_upto_region 7 with (go_at_call 58; with_reducible refine (CC.out _).mono ?_; rintro e w4 ⟨rfl, hb⟩; (have HB := Aside0.mk (bthen HB0.out hb)); (have HK := Aside0.mk (blk_keep HK0.out hb)); (have HT := Aside0.mk (HT0.out.below hb)); clear hb k0 k1 k2 k3 k4 k5 k6)
  rw [E1.out]
  go_upto_region 8 with (fail)
  rw [E2.out]
  go_wp2
  go_loopg [9, 10] (376200 - D0) (fun g v9 v10 wr => ∃ (D : Nat) (A mi : Int), v9 = .int .i64 mi ∧ v10 = .int .i64 A ∧ g + D = 376200 ∧ 0 ≤ mi ∧ mi < 1440 ∧ Aside0 (A = 86400 * (D : Int)) ∧ Aside0 (nextP a b c d f x y (376200 - D) D mi.toNat = R) ∧ Aside0 (Below w4.heap.size w4 wr))
  case atStart => exact ⟨D0, _, _, rfl, rfl, by omega, by omega, by omega, ⟨by rw [E3.out]; exact HA0.out⟩, ⟨by rw [Int.toNat_natCast]; exact HN.out⟩, ⟨Below.refl _ _⟩⟩
  case round =>
    obtain ⟨D, A, mi, rfl, rfl, hg, i0, i1, HA, HNr, HBW⟩ := hrel
    have HKr := Aside0.mk (blk_keep HK.out HBW.out)
    have HTr := Aside0.mk (HT.out.below HBW.out)
    rcases (show D = 376200 ∨ D < 376200 by omega) with hD | hD
    · obtain rfl : R = none := by have := HNr.out; subst hD; exact this.symm
      have a1 : ¬ (A < 32503680000) := by have := HA.out; omega
      go_wp2
      refine bodyPost_ret (results_tmp3 rfl _ _ _) rfl ?_
      exact ⟨rfl, bthen HB.out HBW.out⟩
    · obtain ⟨gn, hgn⟩ : ∃ gn, 376200 - D = gn + 1 := ⟨376200 - D - 1, by omega⟩
      have hgn2 : 376200 - (D + 1) = gn := by omega
      have a1 : A < 32503680000 := by have := HA.out; omega
      have a0 : 0 ≤ A := by have := HA.out; omega
      have aw : IntKind.i64.wrap (A + 86400) = A + 86400 := by rw [IntKind.wrap_i64]; omega
      have CS := Aside0.mk (fun W => split_any D 0 A W (by have := HA.out; omega) (by omega) (by omega) (by omega) (by omega))
      have CI := Aside0.mk (fun W hT => within_any a b c d f x y mi W i0 i1 ha hb hT)
      have CD := Aside0.mk (fun W => day_at a b c d f x y D (yearP D) (monthP D) (domP D) (weekP D) W rfl rfl rfl)
      have im : mi.toNat < 1440 := by omega
      have HR2 := HNr.out
      rw [hgn, nextP] at HR2
      clear hgn
      unfold momC at CS
      rw [show (0 : Int) / 3600 = 0 from rfl, show (0 : Int) % 3600 / 60 = 0 from rfl, show (0 : Int) % 60 = 0 from rfl] at CS
      obtain ⟨Y, hY⟩ := named (yearP D)
      obtain ⟨M, hM⟩ := named (monthP D)
      obtain ⟨Dy, hDy⟩ := named (domP D)
      obtain ⟨K, hK⟩ := named (weekP D)
      obtain ⟨q, hq⟩ := named (onDay c d f x y D)
      obtain ⟨O, hO⟩ := named (withinP a b mi.toNat)
      rw [← hY.out, ← hM.out, ← hDy.out, ← hK.out] at CS CD
      rw [← hq.out] at CD HR2
      rw [← hO.out] at CI HR2
      have HO : Aside0 (∀ k, O = some k → k ≤ 60 * 200 + 200) := ⟨fun k h => within_le a b mi.toNat k ha hb im (by rw [← hO.out]; exact h)⟩
      have HR := Aside0.mk HR2
      clear hY hM hDy hK hq hO HR2
      obtain ⟨⟨j0, j1, j2, j3, j4, j5, j6⟩, _⟩ := all7 HKr.out
      cases q with
      | false =>
        have HR3 : Aside0 (nextP a b c d f x y gn (D + 1) 0 = R) := ⟨HR.out⟩
        go_wp2_with (first
          | (go_at_call 59; with_reducible refine (CS.out _).mono ?_; rintro e w5 ⟨rfl, hb5⟩; (have HB6 := Aside0.mk (below_alloc (bthen HBW.out hb5) (.cells #[.int .i64 Y, .int .i64 M, .int .i64 Dy, .int .i64 0, .int .i64 0, .int .i64 0, .int .i64 K] 125))); (have HK6 := Aside0.mk (blk_alloc (blk_keep HKr.out hb5) (.cells #[.int .i64 Y, .int .i64 M, .int .i64 Dy, .int .i64 0, .int .i64 0, .int .i64 0, .int .i64 K] 125))); (have HM6 := Aside0.mk (blk_new w5 (.cells #[.int .i64 Y, .int .i64 M, .int .i64 Dy, .int .i64 0, .int .i64 0, .int .i64 0, .int .i64 K] 125))); (have HT6 := Aside0.mk (HTr.out.below (below_alloc hb5 (.cells #[.int .i64 Y, .int .i64 M, .int .i64 Dy, .int .i64 0, .int .i64 0, .int .i64 0, .int .i64 K] 125)))); clear hb5 j0 j1 j2 j3 j4 j5 j6; obtain ⟨⟨k0, k1, k2, k3, k4, k5, k6⟩, _⟩ := all7 HK6.out; obtain ⟨⟨m0, m1, m2, m3, m4, m5, m6⟩, _⟩ := all7 HM6.out)
          | (go_at_call 60; with_reducible refine (CD.out _).mono ?_; rintro e w7 ⟨rfl, hb7⟩; (have HB7 := Aside0.mk (bthen HB6.out hb7)); (have HK7 := Aside0.mk (blk_keep HK6.out hb7)); (have HT7 := Aside0.mk (HT6.out.below hb7)); clear hb7 k0 k1 k2 k3 k4 k5 k6 m0 m1 m2 m3 m4 m5 m6; obtain ⟨⟨k0, k1, k2, k3, k4, k5, k6⟩, _⟩ := all7 HK7.out)
          | (go_at_call 61; with_reducible refine (CI.out _ HT7.out).mono ?_; rintro e w8 ⟨rfl, hb8⟩; (have HB8 := Aside0.mk (bthen HB7.out hb8)); clear hb8))
        go_roundg (376200 - (D + 1))
        case measure => omega
        case rel => exact ⟨D + 1, A + 86400, 0, rfl, rfl, by omega, by omega, by omega, ⟨by have := HA.out; omega⟩, ⟨by rw [hgn2]; exact HR3.out⟩, ⟨HB7.out⟩⟩
      | true =>
        cases O with
        | none =>
          have HR3 : Aside0 (nextP a b c d f x y gn (D + 1) 0 = R) := ⟨HR.out⟩
          go_wp2_with (first
            | (go_at_call 59; with_reducible refine (CS.out _).mono ?_; rintro e w5 ⟨rfl, hb5⟩; (have HB6 := Aside0.mk (below_alloc (bthen HBW.out hb5) (.cells #[.int .i64 Y, .int .i64 M, .int .i64 Dy, .int .i64 0, .int .i64 0, .int .i64 0, .int .i64 K] 125))); (have HK6 := Aside0.mk (blk_alloc (blk_keep HKr.out hb5) (.cells #[.int .i64 Y, .int .i64 M, .int .i64 Dy, .int .i64 0, .int .i64 0, .int .i64 0, .int .i64 K] 125))); (have HM6 := Aside0.mk (blk_new w5 (.cells #[.int .i64 Y, .int .i64 M, .int .i64 Dy, .int .i64 0, .int .i64 0, .int .i64 0, .int .i64 K] 125))); (have HT6 := Aside0.mk (HTr.out.below (below_alloc hb5 (.cells #[.int .i64 Y, .int .i64 M, .int .i64 Dy, .int .i64 0, .int .i64 0, .int .i64 0, .int .i64 K] 125)))); clear hb5 j0 j1 j2 j3 j4 j5 j6; obtain ⟨⟨k0, k1, k2, k3, k4, k5, k6⟩, _⟩ := all7 HK6.out; obtain ⟨⟨m0, m1, m2, m3, m4, m5, m6⟩, _⟩ := all7 HM6.out)
            | (go_at_call 60; with_reducible refine (CD.out _).mono ?_; rintro e w7 ⟨rfl, hb7⟩; (have HB7 := Aside0.mk (bthen HB6.out hb7)); (have HK7 := Aside0.mk (blk_keep HK6.out hb7)); (have HT7 := Aside0.mk (HT6.out.below hb7)); clear hb7 k0 k1 k2 k3 k4 k5 k6 m0 m1 m2 m3 m4 m5 m6; obtain ⟨⟨k0, k1, k2, k3, k4, k5, k6⟩, _⟩ := all7 HK7.out)
            | (go_at_call 61; with_reducible refine (CI.out _ HT7.out).mono ?_; rintro e w8 ⟨rfl, hb8⟩; (have HB8 := Aside0.mk (bthen HB7.out hb8)); clear hb8))
          go_roundg (376200 - (D + 1))
          case measure => omega
          case rel => exact ⟨D + 1, A + 86400, 0, rfl, rfl, by omega, by omega, by omega, ⟨by have := HA.out; omega⟩, ⟨by rw [hgn2]; exact HR3.out⟩, ⟨HB8.out⟩⟩
        | some k =>
          have hk := HO.out k rfl
          have HR3 : Aside0 (R = some (86400 * D + 60 * k)) := ⟨HR.out.symm⟩
          obtain ⟨k', hk'⟩ : ∃ k' : Int, k' = k := ⟨_, rfl⟩
          have CI2 : Aside0 (∀ W, Tab64 W → Calls Tryd.prog 61 #[(.agg #[.int .u64 a, .int .u64 b, .int .u64 c, .int .u64 d, .int .u64 f, .bool x, .bool y]), .int .i64 mi] W fun e w' => e = .returned (.tuple #[.int .i64 k', .bool true]) ∧ Below W.heap.size W w') := ⟨fun W hT => by rw [hk']; exact CI.out W hT⟩
          have kw : IntKind.i64.wrap (60 * k') = 60 * k' := by rw [IntKind.wrap_i64]; omega
          have kx : IntKind.i64.wrap (A + 60 * k') = A + 60 * k' := by rw [IntKind.wrap_i64]; omega
          have HK2 : Aside0 (A + 60 * k' = ((86400 * D + 60 * k : Nat) : Int)) := ⟨by have := HA.out; omega⟩
          clear CI hk hk'
          obtain rfl := HR3.out
          go_wp2_with (first
            | (go_at_call 59; with_reducible refine (CS.out _).mono ?_; rintro e w5 ⟨rfl, hb5⟩; (have HB6 := Aside0.mk (below_alloc (bthen HBW.out hb5) (.cells #[.int .i64 Y, .int .i64 M, .int .i64 Dy, .int .i64 0, .int .i64 0, .int .i64 0, .int .i64 K] 125))); (have HK6 := Aside0.mk (blk_alloc (blk_keep HKr.out hb5) (.cells #[.int .i64 Y, .int .i64 M, .int .i64 Dy, .int .i64 0, .int .i64 0, .int .i64 0, .int .i64 K] 125))); (have HM6 := Aside0.mk (blk_new w5 (.cells #[.int .i64 Y, .int .i64 M, .int .i64 Dy, .int .i64 0, .int .i64 0, .int .i64 0, .int .i64 K] 125))); (have HT6 := Aside0.mk (HTr.out.below (below_alloc hb5 (.cells #[.int .i64 Y, .int .i64 M, .int .i64 Dy, .int .i64 0, .int .i64 0, .int .i64 0, .int .i64 K] 125)))); clear hb5 j0 j1 j2 j3 j4 j5 j6; obtain ⟨⟨k0, k1, k2, k3, k4, k5, k6⟩, _⟩ := all7 HK6.out; obtain ⟨⟨m0, m1, m2, m3, m4, m5, m6⟩, _⟩ := all7 HM6.out)
            | (go_at_call 60; with_reducible refine (CD.out _).mono ?_; rintro e w7 ⟨rfl, hb7⟩; (have HB7 := Aside0.mk (bthen HB6.out hb7)); (have HK7 := Aside0.mk (blk_keep HK6.out hb7)); (have HT7 := Aside0.mk (HT6.out.below hb7)); clear hb7 k0 k1 k2 k3 k4 k5 k6 m0 m1 m2 m3 m4 m5 m6; obtain ⟨⟨k0, k1, k2, k3, k4, k5, k6⟩, _⟩ := all7 HK7.out)
            | (go_at_call 61; with_reducible refine (CI2.out _ HT7.out).mono ?_; rintro e w8 ⟨rfl, hb8⟩; (have HB8 := Aside0.mk (bthen HB7.out hb8)); clear hb8))
          refine bodyPost_ret (results_tmp3 rfl _ _ _) rfl ?_
          exact ⟨by rw [HK2.out]; rfl, bthen HB.out HB8.out⟩
end Go.Proofs.YteloamnakikbbaaDoor.Cron

/- The shelf's contracts of math/bits.LeadingZeros8 and Len64 at this translation (the numbers by name). -/
namespace Go.Proofs
open Go.Shelf
def Tryd.laysBits_ren : Go.Shelf.Ren := ⟨fun | 126 => 76 | 131 => 64 | 129 => 63 | n => n, fun | 9 => 9 | 5 => 5 | 3 => 3 | 4 => 4 | 46 => 58 | 53 => 25 | n => n, fun | n => n⟩
theorem Tryd.lays131 : Go.Proofs.Lays.n131 Tryd.prog Tryd.laysBits_ren := {
  mixed := by kernel_rfl
  f126 := Tryd.func76.trans (congrArg some (by kernel_rfl))
  f131 := Tryd.func64.trans (congrArg some (by kernel_rfl))
  t3 := Tryd.underlying3
  a3 := Tryd.isAgg3
  z3 := Tryd.sizeOf3
  v3 := Tryd.zeroValue3
  t5 := Tryd.underlying5
  a5 := Tryd.isAgg5
  z5 := Tryd.sizeOf5
  v5 := Tryd.zeroValue5
  t9 := Tryd.underlying9
  a9 := Tryd.isAgg9
  z9 := Tryd.sizeOf9
  v9 := Tryd.zeroValue9 }
theorem Tryd.bits_LeadingZeros8 (x : Int) (w : World) (h0 : 0 ≤ x) (h1 : x ≤ 255) :
    Calls Tryd.prog 64 #[.int .u8 x] w fun e w' => e = .returned (.int .i64 (8 - (Lib.bitLen x.toNat : Int))) ∧ w' = w := Any.bits_LeadingZeros8 Tryd.lays131 x w h0 h1
theorem Tryd.lays129 : Go.Proofs.Lays.n129 Tryd.prog Tryd.laysBits_ren := {
  mixed := by kernel_rfl
  f129 := Tryd.func63.trans (congrArg some (by kernel_rfl))
  t4 := Tryd.underlying4
  a4 := Tryd.isAgg4
  z4 := Tryd.sizeOf4
  v4 := Tryd.zeroValue4
  t46 := Tryd.underlying58
  a46 := Tryd.isAgg58
  z46 := Tryd.sizeOf58
  v46 := Tryd.zeroValue58
  t53 := Tryd.underlying25
  a53 := Tryd.isAgg25
  z53 := Tryd.sizeOf25
  v53 := Tryd.zeroValue25
  t3 := Tryd.underlying3
  a3 := Tryd.isAgg3
  z3 := Tryd.sizeOf3
  v3 := Tryd.zeroValue3
  t5 := Tryd.underlying5
  a5 := Tryd.isAgg5
  z5 := Tryd.sizeOf5
  v5 := Tryd.zeroValue5
  t9 := Tryd.underlying9
  a9 := Tryd.isAgg9
  z9 := Tryd.sizeOf9
  v9 := Tryd.zeroValue9 }
theorem Tryd.bits_Len64 (x : Int) (w : World) (h0 : 0 ≤ x) (h1 : x ≤ 18446744073709551615) :
    Calls Tryd.prog 63 #[.int .u64 x] w fun e w' => e = .returned (.int .i64 (Lib.bitLen x.toNat)) ∧ w' = w := Any.bits_Len64 Tryd.lays129 x w h0 h1
end Go.Proofs

/- The shelf's contract of math/bits.Len at this translation (the numbers by name). -/
namespace Go.Proofs
open Go.Shelf
def Tryd.laysBitsL_ren : Go.Shelf.Ren := ⟨fun | 125 => 62 | 126 => 76 | 128 => 75 | 129 => 63 | n => n, fun | 9 => 9 | 5 => 5 | 3 => 3 | 4 => 4 | 46 => 58 | 51 => 147 | 53 => 25 | n => n, fun | n => n⟩
theorem Tryd.lays125 : Go.Proofs.Lays.n125 Tryd.prog Tryd.laysBitsL_ren := {
  mixed := by kernel_rfl
  f125 := Tryd.func62.trans (congrArg some (by kernel_rfl))
  f128 := Tryd.func75.trans (congrArg some (by kernel_rfl))
  f129 := Tryd.func63.trans (congrArg some (by kernel_rfl))
  t3 := Tryd.underlying3
  a3 := Tryd.isAgg3
  z3 := Tryd.sizeOf3
  v3 := Tryd.zeroValue3
  t4 := Tryd.underlying4
  a4 := Tryd.isAgg4
  z4 := Tryd.sizeOf4
  v4 := Tryd.zeroValue4
  t5 := Tryd.underlying5
  a5 := Tryd.isAgg5
  z5 := Tryd.sizeOf5
  v5 := Tryd.zeroValue5
  t9 := Tryd.underlying9
  a9 := Tryd.isAgg9
  z9 := Tryd.sizeOf9
  v9 := Tryd.zeroValue9
  t46 := Tryd.underlying58
  a46 := Tryd.isAgg58
  z46 := Tryd.sizeOf58
  v46 := Tryd.zeroValue58
  t51 := Tryd.underlying147
  a51 := Tryd.isAgg147
  z51 := Tryd.sizeOf147
  v51 := Tryd.zeroValue147
  t53 := Tryd.underlying25
  a53 := Tryd.isAgg25
  z53 := Tryd.sizeOf25
  v53 := Tryd.zeroValue25 }
theorem Tryd.bits_Len (x : Int) (w : World) (h0 : 0 ≤ x) (h1 : x ≤ 18446744073709551615) :
    Calls Tryd.prog 62 #[.int .u64 x] w fun e w' => e = .returned (.int .i64 (Lib.bitLen x.toNat)) ∧ w' = w := Any.bits_Len Tryd.lays125 x w h0 h1
end Go.Proofs

/- Limits (backoff, and the document's), walked: Check, Delay, Due. -/
namespace Go.Proofs.YteloamnakikbbaaDoor.Job
set_option linter.unusedVariables false
set_option linter.unusedSimpArgs false
open Go.RowKit Go.Proofs.YteloamnakikbbaaDoorW.PrintWords Go.Proofs.YteloamnakikbbaaDoorW.PrintLast Go.Proofs.YteloamnakikbbaaDoor.Base Go.Proofs.YteloamnakikbbaaDoor.JobPure

theorem limE_no {b c t : Int} (h : ¬ (1 ≤ b ∧ b ≤ 1048576 ∧ b ≤ c ∧ c ≤ 1073741824 ∧ 1 ≤ t ∧ t ≤ 16)) : limE b c t = 4 := by
  have : limOk b c t = false := by simpa [limOk] using h
  rw [limE, this]; rfl
theorem limE_yes {b c t : Int} (h : 1 ≤ b ∧ b ≤ 1048576 ∧ b ≤ c ∧ c ≤ 1073741824 ∧ 1 ≤ t ∧ t ≤ 16) : limE b c t = 0 := by
  rw [limE, limOk_iff.2 h]; rfl

set_option maxRecDepth 100000 in
theorem lim_any (b c t : Int) (w : World) :
    Calls Tryd.prog 15 #[.agg #[.int .i64 b, .int .i64 c, .int .i64 t]] w fun e w' => e = .returned (.int .i64 (limE b c t)) ∧ Below w.heap.size w w' := by
  have HE : Aside0 ((¬ (1 ≤ b ∧ b ≤ 1048576 ∧ b ≤ c ∧ c ≤ 1073741824 ∧ 1 ≤ t ∧ t ≤ 16) → limE b c t = 4) ∧ ((1 ≤ b ∧ b ≤ 1048576 ∧ b ≤ c ∧ c ≤ 1073741824 ∧ 1 ≤ t ∧ t ≤ 16) → limE b c t = 0)) := ⟨limE_no, limE_yes⟩
  go_enter Tryd.func15, Tryd.ntmps15
  go_wp2
  all_goals go_ret
  all_goals refine ⟨?_, below_alloc (Below.refl _ _) _⟩
  all_goals first
    | (rw [HE.out.1 (by omega)]; rfl)
    | (rw [HE.out.2 (by omega)]; rfl)
set_option maxRecDepth 100000 in
theorem rlim_any (b c t : Int) (w : World) :
    Calls Tryd.prog 9 #[.agg #[.int .i64 b, .int .i64 c, .int .i64 t]] w fun e w' => e = .returned (.int .i64 (limE b c t)) ∧ Below w.heap.size w w' := by
  have HE : Aside0 ((¬ (1 ≤ b ∧ b ≤ 1048576 ∧ b ≤ c ∧ c ≤ 1073741824 ∧ 1 ≤ t ∧ t ≤ 16) → limE b c t = 4) ∧ ((1 ≤ b ∧ b ≤ 1048576 ∧ b ≤ c ∧ c ≤ 1073741824 ∧ 1 ≤ t ∧ t ≤ 16) → limE b c t = 0)) := ⟨limE_no, limE_yes⟩
  go_enter Tryd.func9, Tryd.ntmps9
  go_wp2
  all_goals go_ret
  all_goals refine ⟨?_, below_alloc (Below.refl _ _) _⟩
  all_goals first
    | (rw [HE.out.1 (by omega)]; rfl)
    | (rw [HE.out.2 (by omega)]; rfl)

theorem bitLen_lt (x : Nat) (h : x < 2 ^ 64) : x < 2 ^ Lib.bitLen x := by
  by_cases h0 : x = 0
  · subst h0; exact Nat.two_pow_pos _
  · exact (Lib.bitLenAux_bounds 64 x h h0).2.2
theorem delay_fits {b : Int} {k : Nat} (h1 : 1 ≤ b) (h2 : b ≤ 1048576) (hk : k ≤ 31) : 0 ≤ b * 2 ^ k ∧ b * 2 ^ k ≤ 2251799813685248 := by
  have h3 : (2 : Int) ^ k ≤ 2147483648 := by
    have := Nat.pow_le_pow_right (n := 2) (by omega) hk
    have h4 : ((2 ^ k : Nat) : Int) ≤ ((2 ^ 31 : Nat) : Int) := by omega
    simpa using h4
  have h5 : (0 : Int) ≤ (2 : Int) ^ k := Int.pow_nonneg (by omega)
  generalize (2 : Int) ^ k = p at h3 h5
  have h6 : b * p ≤ 1048576 * 2147483648 := Int.mul_le_mul h2 h3 h5 (by omega)
  exact ⟨Int.mul_nonneg (by omega) h5, by omega⟩
/-- Delay, of limits that may be -/
theorem delay_any (b c t : Int) (k : Nat) (w : World) (hl : limOk b c t = true) (hk : k ≤ 64) :
    Calls Tryd.prog 47 #[.agg #[.int .i64 b, .int .i64 c, .int .i64 t], .int .i64 k] w fun e w' => e = .returned (.tuple #[.int .i64 (delayP b c k), .int .i64 0]) ∧ Below w.heap.size w w' := by
  obtain ⟨b1, b2, bc, c2, t1, t2⟩ := limOk_iff.1 hl
  have hlE : Aside0 (limE b c t = 0) := ⟨by rw [limE, hl]; rfl⟩
  obtain ⟨q, hq⟩ : ∃ q, Lib.bitLen c.toNat = q := ⟨_, rfl⟩
  have hq1 := Lib.bitLen_le c.toNat 31 (by omega) (by omega)
  rw [hq] at hq1
  obtain ⟨d, hd⟩ := named (delayP b c k)
  rw [← hd.out]
  have HQ := Aside0.mk hq
  clear hl hq
  have e1 : IntKind.u64.wrap c = c := by rw [IntKind.wrap_u64]; omega
  have k0 : (0 : Int) ≤ (k : Int) := by omega
  by_cases hkq : q < k
  · have HD : Aside0 (d = c) := ⟨by
      rw [hd.out]
      have h1 := bitLen_lt c.toNat (by omega)
      rw [HQ.out] at h1
      refine delay_cap b1 ?_
      have := Nat.pow_lt_pow_right (a := 2) (by omega) hkq
      omega⟩
    obtain rfl := HD.out
    go_enter Tryd.func47, Tryd.ntmps47
    go_wp2_with (first
      | (go_at_call 15; refine (lim_any _ _ _ _).mono ?_; rw [hlE.out]; rintro e w1 ⟨rfl, hb1⟩; obtain ⟨hc1, hf1⟩ := bcell hb1; (have HB1 := Aside0.mk hb1); clear hb1)
      | (go_at_call 62; refine (Tryd.bits_Len _ _ (by omega) (by omega)).mono ?_; rw [HQ.out]; rintro e w' ⟨rfl, rfl⟩))
    go_ret2
    exact ⟨rfl, bthen (below_alloc (Below.refl _ _) _) HB1.out⟩
  · go_enter Tryd.func47, Tryd.ntmps47
    go_wp2_with (first
      | (go_at_call 15; refine (lim_any _ _ _ _).mono ?_; rw [hlE.out]; rintro e w1 ⟨rfl, hb1⟩; obtain ⟨hc1, hf1⟩ := bcell hb1; (have HB1 := Aside0.mk hb1); clear hb1)
      | (go_at_call 62; refine (Tryd.bits_Len _ _ (by omega) (by omega)).mono ?_; rw [HQ.out]; rintro e w' ⟨rfl, rfl⟩))
    go_region
    go_wp2
    go_ret2
    have h1 := delay_fits (b := b) (k := k) b1 b2 (by omega)
    refine ⟨?_, (bthen (below_alloc (Below.refl _ _) _) HB1.out).drew⟩
    have h2 : wrap64 (b * 2 ^ k) = b * 2 ^ k := by
      rw [wrap64]; omega
    rw [hd.out, delayP]
    simp [h2]
end Go.Proofs.YteloamnakikbbaaDoor.Job

/- job: within, holder, may, hold, leased, Check, walked. -/
namespace Go.Proofs.YteloamnakikbbaaDoor.Job
set_option linter.unusedVariables false
set_option linter.unusedSimpArgs false
open Go.RowKit Go.Proofs.YteloamnakikbbaaDoorW.PrintWords Go.Proofs.YteloamnakikbbaaDoorW.PrintLast Go.Proofs.YteloamnakikbbaaDoor.Base Go.Proofs.YteloamnakikbbaaDoor.Cells Go.Proofs.YteloamnakikbbaaDoor.JobPure

theorem blk_new2 (w : World) (o o2 : Obj) (cs : Array Value) (t : TypeId) : (((w.alloc o).alloc o2).alloc (.cells cs t)).drew.heap[w.heap.size + 1 + 1]? = some (.cells cs t (0, 0)) := by
  have h := heap_alloc_new ((w.alloc o).alloc o2) (.cells cs t)
  have e : ((w.alloc o).alloc o2).heap.size = w.heap.size + 1 + 1 := by simp
  rw [e] at h
  exact h
def within (n lo hi : Int) : Bool := decide (lo ≤ n) && decide (n ≤ hi)
theorem within_any (n lo hi : Int) (w : World) :
    Calls Tryd.prog 22 #[.int .i64 n, .int .i64 lo, .int .i64 hi] w fun e w' => e = .returned (.bool (within n lo hi)) ∧ w = w' := by
  by_cases h : lo ≤ n
  · have hw : Aside0 (within n lo hi = decide (n ≤ hi)) := ⟨by simp [within, h]⟩
    go_enter Tryd.func22, Tryd.ntmps22
    go_wp2
    go_ret
    exact ⟨by rw [hw.out]; rfl, rfl⟩
  · have hw : Aside0 (within n lo hi = false) := ⟨by simp [within, h]⟩
    go_enter Tryd.func22, Tryd.ntmps22
    go_wp2
    go_ret
    exact ⟨by rw [hw.out]; rfl, rfl⟩

theorem within_iff {n lo hi : Int} : within n lo hi = true ↔ lo ≤ n ∧ n ≤ hi := by simp [within]
theorem hmay_eq (w t u : Int) : hmay w t u = (within w 1 2147483648 && (within t 1 1099511627776 && within u 0 32503680000)) := by
  rw [Bool.eq_iff_iff]; simp [hmay, within]; omega

set_option maxRecDepth 100000 in
theorem may_any (a b c : Int) (w : World) :
    Calls Tryd.prog 24 #[.agg #[.int .i64 a, .int .i64 b, .int .i64 c]] w fun e w' => e = .returned (.bool (hmay a b c)) ∧ Below w.heap.size w w' := by
  obtain ⟨r, hr⟩ := named (hmay a b c)
  have HR : Aside0 (r = (within a 1 2147483648 && (within b 1 1099511627776 && within c 0 32503680000))) := ⟨by rw [hr.out, hmay_eq]⟩
  rw [← hr.out]
  go_enter Tryd.func24, Tryd.ntmps24
  go_wp2_with (go_at_call 22; refine (within_any _ _ _ _).mono ?_; rintro e w' ⟨rfl, rfl⟩)
  all_goals go_ret
  all_goals refine ⟨?_, below_alloc (Below.refl _ _) _⟩
  all_goals rw [HR.out]
  all_goals simp [*]

set_option maxRecDepth 100000 in
theorem holder_any (j : Jb) (w : World) :
    Calls Tryd.prog 23 #[.agg #[.int .i64 j.id, .string j.name, .string j.rule, .string j.payload, .int .i64 j.status, .int .i64 j.due, .int .i64 j.tries, .int .i64 j.worker, .int .i64 j.token, .int .i64 j.til]] w fun e w' => e = .returned (.agg #[.int .i64 j.worker, .int .i64 j.token, .int .i64 j.til]) ∧ Below w.heap.size w w' := by
  go_enter Tryd.func23, Tryd.ntmps23
  go_wp2
  refine bodyPost_ret (results_cell_row rfl _ _ (w.heap.size + 1) 61 #[.int .i64 j.worker, .int .i64 j.token, .int .i64 j.til] (0, 0) _ rfl (blk_new1 _ _ _ _) Tryd.underlying61 rfl (by kernel_rfl)) rfl ?_
  exact ⟨rfl, below_alloc (below_alloc (Below.refl _ _) _) _⟩
set_option maxRecDepth 100000 in
theorem hold_any (j : Jb) (s d a b c : Int) (w : World) :
    Calls Tryd.prog 34 #[.agg #[.int .i64 j.id, .string j.name, .string j.rule, .string j.payload, .int .i64 j.status, .int .i64 j.due, .int .i64 j.tries, .int .i64 j.worker, .int .i64 j.token, .int .i64 j.til], .int .i64 s, .int .i64 d, .agg #[.int .i64 a, .int .i64 b, .int .i64 c]] w fun e w' => e = .returned (.agg #[.int .i64 j.id, .string j.name, .string j.rule, .string j.payload, .int .i64 s, .int .i64 d, .int .i64 j.tries, .int .i64 a, .int .i64 b, .int .i64 c]) ∧ Below w.heap.size w w' := by
  go_enter Tryd.func34, Tryd.ntmps34
  go_wp2
  go_region
  go_wp2
  refine bodyPost_ret (results_cell_row rfl _ _ (w.heap.size + 1 + 1) 35 #[.int .i64 j.id, .string j.name, .string j.rule, .string j.payload, .int .i64 s, .int .i64 d, .int .i64 j.tries, .int .i64 a, .int .i64 b, .int .i64 c] (0, 0) _ rfl (blk_new2 _ _ _ _ _) Tryd.underlying35 rfl (by kernel_rfl)) rfl ?_
  exact ⟨rfl, below_drew (below_alloc (below_alloc (below_alloc (Below.refl _ _) _) _) _)⟩
set_option maxRecDepth 100000 in
theorem leased_any (j : Jb) (now : Int) (w : World) :
    Calls Tryd.prog 31 #[.agg #[.int .i64 j.id, .string j.name, .string j.rule, .string j.payload, .int .i64 j.status, .int .i64 j.due, .int .i64 j.tries, .int .i64 j.worker, .int .i64 j.token, .int .i64 j.til], .int .i64 now] w fun e w' => e = .returned (.int .i64 (leasedE j now)) ∧ Below w.heap.size w w' := by
  obtain ⟨r, hr⟩ := named (leasedE j now)
  have HR : Aside0 (r = if j.status = 2 then (if within now 0 32503679999 = true then 0 else 4) else 81) := ⟨by rw [hr.out, leasedE]; simp only [within_iff]⟩
  rw [← hr.out]
  obtain ⟨q, hq⟩ := named (within now 0 32503679999)
  rw [← hq.out] at HR
  by_cases h2 : j.status = 2
  · cases q with
    | true =>
      have HR1 : Aside0 (r = 0) := ⟨by rw [HR.out, if_pos h2, if_pos rfl]⟩
      have HQ : Aside0 (within now 0 32503679999 = true) := ⟨hq.out.symm⟩
      obtain rfl := HR1.out
      go_enter Tryd.func31, Tryd.ntmps31
      go_wp2_with (go_at_call 22; refine (within_any _ _ _ _).mono ?_; rw [HQ.out]; rintro e w' ⟨rfl, rfl⟩)
      go_ret
      exact ⟨rfl, below_alloc (Below.refl _ _) _⟩
    | false =>
      have HR1 : Aside0 (r = 4) := ⟨by rw [HR.out, if_pos h2, if_neg (by decide)]⟩
      have HQ : Aside0 (within now 0 32503679999 = false) := ⟨hq.out.symm⟩
      obtain rfl := HR1.out
      go_enter Tryd.func31, Tryd.ntmps31
      go_wp2_with (go_at_call 22; refine (within_any _ _ _ _).mono ?_; rw [HQ.out]; rintro e w' ⟨rfl, rfl⟩)
      go_ret
      exact ⟨rfl, below_alloc (Below.refl _ _) _⟩
  · have HR1 : Aside0 (r = 81) := ⟨by rw [HR.out, if_neg h2]⟩
    obtain rfl := HR1.out
    have hn : (j.status != 2) = true := by simpa using h2
    go_enter Tryd.func31, Tryd.ntmps31
    go_wp2
    go_ret
    exact ⟨rfl, below_alloc (Below.refl _ _) _⟩
end Go.Proofs.YteloamnakikbbaaDoor.Job

/- Blocks of a variable of a struct of ten cells: what is read, what is stored. No program. -/
namespace Go.Proofs.YteloamnakikbbaaDoor.Cells
open Go.RowKit Go.Proofs.YteloamnakikbbaaDoorW.PrintWords Go.Proofs.YteloamnakikbbaaDoorW.PrintLast Go.Proofs.YteloamnakikbbaaDoor.Base

section
variable {w : World} {g : Nat} {t : TypeId}
theorem all10 {a b c d e f h i j k : Value} (hh : w.heap[g]? = some (.cells #[a, b, c, d, e, f, h, i, j, k] t (0, 0))) :
    w.cell? ⟨g, 0, none⟩ = some a ∧ w.cell? ⟨g, 1, none⟩ = some b ∧ w.cell? ⟨g, 2, none⟩ = some c ∧ w.cell? ⟨g, 3, none⟩ = some d ∧ w.cell? ⟨g, 4, none⟩ = some e ∧ w.cell? ⟨g, 5, none⟩ = some f ∧ w.cell? ⟨g, 6, none⟩ = some h ∧ w.cell? ⟨g, 7, none⟩ = some i ∧ w.cell? ⟨g, 8, none⟩ = some j ∧ w.cell? ⟨g, 9, none⟩ = some k :=
  ⟨blk_cell hh 0, blk_cell hh 1, blk_cell hh 2, blk_cell hh 3, blk_cell hh 4, blk_cell hh 5, blk_cell hh 6, blk_cell hh 7, blk_cell hh 8, blk_cell hh 9⟩
theorem frz10 {a b c d e f h i j k : Value} (hh : w.heap[g]? = some (.cells #[a, b, c, d, e, f, h, i, j, k] t (0, 0))) :
    w.frozen? ⟨g, 0, none⟩ = false ∧ w.frozen? ⟨g, 1, none⟩ = false ∧ w.frozen? ⟨g, 2, none⟩ = false ∧ w.frozen? ⟨g, 3, none⟩ = false ∧ w.frozen? ⟨g, 4, none⟩ = false ∧ w.frozen? ⟨g, 5, none⟩ = false ∧ w.frozen? ⟨g, 6, none⟩ = false ∧ w.frozen? ⟨g, 7, none⟩ = false ∧ w.frozen? ⟨g, 8, none⟩ = false ∧ w.frozen? ⟨g, 9, none⟩ = false :=
  ⟨blk_frozen hh 0, blk_frozen hh 1, blk_frozen hh 2, blk_frozen hh 3, blk_frozen hh 4, blk_frozen hh 5, blk_frozen hh 6, blk_frozen hh 7, blk_frozen hh 8, blk_frozen hh 9⟩
theorem blk10 {a b c d e f h i j k x0 x1 x2 x3 x4 x5 x6 x7 x8 x9 : Value} (hh : w.heap[g]? = some (.cells #[a, b, c, d, e, f, h, i, j, k] t (0, 0))) :
    ((((((((((w.setCell ⟨g, 0, none⟩ x0).setCell ⟨g, 1, none⟩ x1).setCell ⟨g, 2, none⟩ x2).setCell ⟨g, 3, none⟩ x3).setCell ⟨g, 4, none⟩ x4).setCell ⟨g, 5, none⟩ x5).setCell ⟨g, 6, none⟩ x6).setCell ⟨g, 7, none⟩ x7).setCell ⟨g, 8, none⟩ x8).setCell ⟨g, 9, none⟩ x9).heap[g]? = some (.cells #[x0, x1, x2, x3, x4, x5, x6, x7, x8, x9] t (0, 0)) :=
  blk_put (cs := #[x0, x1, x2, x3, x4, x5, x6, x7, x8, k]) (blk_put (cs := #[x0, x1, x2, x3, x4, x5, x6, x7, j, k]) (blk_put (cs := #[x0, x1, x2, x3, x4, x5, x6, i, j, k]) (blk_put (cs := #[x0, x1, x2, x3, x4, x5, h, i, j, k]) (blk_put (cs := #[x0, x1, x2, x3, x4, f, h, i, j, k]) (blk_put (cs := #[x0, x1, x2, x3, e, f, h, i, j, k]) (blk_put (cs := #[x0, x1, x2, d, e, f, h, i, j, k]) (blk_put (cs := #[x0, x1, c, d, e, f, h, i, j, k]) (blk_put (cs := #[x0, b, c, d, e, f, h, i, j, k]) (blk_put (cs := #[a, b, c, d, e, f, h, i, j, k]) hh 0 x0 rfl) 1 x1 rfl) 2 x2 rfl) 3 x3 rfl) 4 x4 rfl) 5 x5 rfl) 6 x6 rfl) 7 x7 rfl) 8 x8 rfl) 9 x9 rfl
theorem below_set10 {B : Nat} {w0 : World} (hb : Below B w0 w) (hg : B ≤ g) (x0 x1 x2 x3 x4 x5 x6 x7 x8 x9 : Value) : Below B w0 ((((((((((w.setCell ⟨g, 0, none⟩ x0).setCell ⟨g, 1, none⟩ x1).setCell ⟨g, 2, none⟩ x2).setCell ⟨g, 3, none⟩ x3).setCell ⟨g, 4, none⟩ x4).setCell ⟨g, 5, none⟩ x5).setCell ⟨g, 6, none⟩ x6).setCell ⟨g, 7, none⟩ x7).setCell ⟨g, 8, none⟩ x8).setCell ⟨g, 9, none⟩ x9) :=
  (((((((((hb.setCell (p := ⟨g, 0, none⟩) hg x0).setCell (p := ⟨g, 1, none⟩) hg x1).setCell (p := ⟨g, 2, none⟩) hg x2).setCell (p := ⟨g, 3, none⟩) hg x3).setCell (p := ⟨g, 4, none⟩) hg x4).setCell (p := ⟨g, 5, none⟩) hg x5).setCell (p := ⟨g, 6, none⟩) hg x6).setCell (p := ⟨g, 7, none⟩) hg x7).setCell (p := ⟨g, 8, none⟩) hg x8).setCell (p := ⟨g, 9, none⟩) hg x9
theorem far10 {k : Nat} {cs : Array Value} {t2 : TypeId} (hk : w.heap[k]? = some (.cells cs t2 (0, 0))) (hne : k ≠ g) (x0 x1 x2 x3 x4 x5 x6 x7 x8 x9 : Value) : ((((((((((w.setCell ⟨g, 0, none⟩ x0).setCell ⟨g, 1, none⟩ x1).setCell ⟨g, 2, none⟩ x2).setCell ⟨g, 3, none⟩ x3).setCell ⟨g, 4, none⟩ x4).setCell ⟨g, 5, none⟩ x5).setCell ⟨g, 6, none⟩ x6).setCell ⟨g, 7, none⟩ x7).setCell ⟨g, 8, none⟩ x8).setCell ⟨g, 9, none⟩ x9).heap[k]? = some (.cells cs t2 (0, 0)) := by
  rw [Below.heap_setCell _ ⟨g, 9, none⟩ _ _ hne, Below.heap_setCell _ ⟨g, 8, none⟩ _ _ hne, Below.heap_setCell _ ⟨g, 7, none⟩ _ _ hne, Below.heap_setCell _ ⟨g, 6, none⟩ _ _ hne, Below.heap_setCell _ ⟨g, 5, none⟩ _ _ hne, Below.heap_setCell _ ⟨g, 4, none⟩ _ _ hne, Below.heap_setCell _ ⟨g, 3, none⟩ _ _ hne, Below.heap_setCell _ ⟨g, 2, none⟩ _ _ hne, Below.heap_setCell _ ⟨g, 1, none⟩ _ _ hne, Below.heap_setCell _ ⟨g, 0, none⟩ _ _ hne]
  exact hk
end
end Go.Proofs.YteloamnakikbbaaDoor.Cells

/- job.Check, walked. -/
namespace Go.Proofs.YteloamnakikbbaaDoor.Job
set_option linter.unusedVariables false
set_option linter.unusedSimpArgs false
open Go.RowKit Go.Proofs.YteloamnakikbbaaDoorW.PrintWords Go.Proofs.YteloamnakikbbaaDoorW.PrintLast Go.Proofs.YteloamnakikbbaaDoor.Base Go.Proofs.YteloamnakikbbaaDoor.Cells Go.Proofs.YteloamnakikbbaaDoor.JobPure

/-- what a world must hold for a rule to be read, and whatever comes later holds too -/
def Lasts (T : World → Prop) : Prop := ∀ w w', T w → Below w.heap.size w w' → T w'
theorem Lasts.all : Lasts fun _ => True := fun _ _ _ _ => trivial
/-- what reading a rule's text tells: its error, and a rule -/
def ParseSays (T : World → Prop) (r : ByteArray) (pe : Int) : Prop := r ≠ ⟨#[]⟩ → ∀ w, T w → Calls Tryd.prog 25 #[.string r] w fun e w' => ∃ (a b c d f : Int) (x y : Bool), e = .returned (.tuple #[.agg #[.int .u64 a, .int .u64 b, .int .u64 c, .int .u64 d, .int .u64 f, .bool x, .bool y], .int .i64 pe]) ∧ Below w.heap.size w w'

theorem tl0 {r : ByteArray} (h : r ≠ ⟨#[]⟩) : ¬ r.toList = [] ∧ r.toList.isEmpty = false := by
  have h1 : ¬ r.toList = [] := fun e => h (by
    rw [ByteArray.toList_eq] at e
    cases r with
    | mk d =>
      have : d = #[] := by simpa using e
      rw [this])
  exact ⟨h1, by simpa using h1⟩
theorem size0 {r : ByteArray} : r.size = 0 ↔ r = ⟨#[]⟩ := ByteArray.size_eq_zero_iff
set_option maxRecDepth 100000 in
set_option maxHeartbeats 1000000 in
theorem check_any {T : World → Prop} (hT : Lasts T) (pe : Int) (j : Jb) (w : World) (hw : T w) (hp : ParseSays T j.rule pe) :
    Calls Tryd.prog 11 #[.agg #[.int .i64 j.id, .string j.name, .string j.rule, .string j.payload, .int .i64 j.status, .int .i64 j.due, .int .i64 j.tries, .int .i64 j.worker, .int .i64 j.token, .int .i64 j.til]] w fun e w' => e = .returned (.int .i64 (chkE pe j)) ∧ Below w.heap.size w w' := by
  obtain ⟨id, name, rule, payload, status, due, tries, worker, token, til⟩ := j
  dsimp only at hp ⊢
  obtain ⟨r, hr⟩ := named (chkE pe ⟨id, name, rule, payload, status, due, tries, worker, token, til⟩)
  obtain ⟨A, hA⟩ := named (chkA ⟨id, name, rule, payload, status, due, tries, worker, token, til⟩)
  obtain ⟨B, hB⟩ := named (chkB ⟨id, name, rule, payload, status, due, tries, worker, token, til⟩)
  have HA : Aside0 (A = (within id 1 1099511627776 && (decide ((name.size : Int) ≤ 32) && (decide ((payload.size : Int) ≤ 200) && (within due 0 32503680000 && within tries 0 16))))) := ⟨by
    rw [hA.out, chkA, Bool.eq_iff_iff]; simp [within]; omega⟩
  have HP := Aside0.mk hp
  have HTW := Aside0.mk (And.intro hT hw)
  have HR : Aside0 (r = if (A && B && chkC pe ⟨id, name, rule, payload, status, due, tries, worker, token, til⟩) = true then 0 else 9) := ⟨by rw [hr.out, chkE, chk, hA.out, hB.out]⟩
  rw [← hr.out]
  clear hp hT hw
  go_enter Tryd.func11, Tryd.ntmps11
  go_upto_region 1 with (fail)
  obtain ⟨W, hW⟩ : ∃ W, W = w.alloc (.cells #[.int .i64 id, .string name, .string rule, .string payload, .int .i64 status, .int .i64 due, .int .i64 tries, .int .i64 worker, .int .i64 token, .int .i64 til] 35) := ⟨_, rfl⟩
  rw [← hW]
  have HJ : Aside0 (W.heap[w.heap.size]? = some (.cells #[.int .i64 id, .string name, .string rule, .string payload, .int .i64 status, .int .i64 due, .int .i64 tries, .int .i64 worker, .int .i64 token, .int .i64 til] 35 (0, 0))) := ⟨by rw [hW]; exact blk_new _ _⟩
  have HW : Aside0 (Below w.heap.size w W) := ⟨by rw [hW]; exact below_alloc (Below.refl _ _) _⟩
  clear hW
  obtain ⟨c0, c1, c2, c3, c4, c5, c6, c7, c8, c9⟩ := all10 HJ.out
  go_cut [3] (fun v3 wc => v3 = .bool A ∧ wc = W)
  case first =>
    go_wp2_with (go_at_call 22; refine (within_any _ _ _ _).mono ?_; rintro e w' ⟨rfl, rfl⟩)
    all_goals go_meet
    all_goals refine ⟨?_, rfl⟩
    all_goals rw [HA.out]
    all_goals first | (simp [*]; done) | (simp; intros; omega)
  case rest =>
    obtain ⟨rfl, rfl⟩ := hcut
    go_upto_block 0 with (fail)
    go_cut [3] (fun v3 wx => v3 = .bool (A && B) ∧ Aside0 (wx.heap[w.heap.size]? = some (.cells #[.int .i64 id, .string name, .string rule, .string payload, .int .i64 status, .int .i64 due, .int .i64 tries, .int .i64 worker, .int .i64 token, .int .i64 til] 35 (0, 0)) ∧ Below w.heap.size w wx))
    case first =>
      obtain ⟨q, hq⟩ := named (hmay worker token til)
      have HWc : Aside0 (Below wc.heap.size wc wc) := ⟨Below.refl _ _⟩
      by_cases s2 : status = 2
      · have HB : Aside0 (B = (q && decide (due = 0))) := ⟨by rw [hB.out, chkB, if_pos s2, hq.out]⟩
        have e2 : (status == 2) = true := by simpa using s2
        clear s2
        cases A with
        | true =>
          cases q with
          | true =>
            go_wp2_with (first
              | (go_at_call 23; refine (holder_any ⟨id, name, rule, payload, status, due, tries, worker, token, til⟩ _).mono ?_; rintro e w1 ⟨rfl, hb1⟩; (have HB1 := Aside0.mk hb1); clear hb1 c0 c1 c2 c3 c4 c5 c6 c7 c8 c9)
              | (go_at_call 24; refine (may_any _ _ _ _).mono ?_; rw [← hq.out]; rintro e w2 ⟨rfl, hb2⟩; (have HB2 := Aside0.mk (bthen HB1.out hb2)); obtain ⟨_, _, _, _, _, d5, _, _, _, _⟩ := all10 (blk_keep HJ.out HB2.out); clear hb2))
            all_goals go_meet
            all_goals refine ⟨?_, blk_keep HJ.out HB2.out, bthen HW.out HB2.out⟩
            all_goals rw [HB.out]
            all_goals rfl
          | false =>
            go_wp2_with (first
              | (go_at_call 23; refine (holder_any ⟨id, name, rule, payload, status, due, tries, worker, token, til⟩ _).mono ?_; rintro e w1 ⟨rfl, hb1⟩; (have HB1 := Aside0.mk hb1); clear hb1 c0 c1 c2 c3 c4 c5 c6 c7 c8 c9)
              | (go_at_call 24; refine (may_any _ _ _ _).mono ?_; rw [← hq.out]; rintro e w2 ⟨rfl, hb2⟩; (have HB2 := Aside0.mk (bthen HB1.out hb2)); obtain ⟨_, _, _, _, _, d5, _, _, _, _⟩ := all10 (blk_keep HJ.out HB2.out); clear hb2))
            all_goals go_meet
            all_goals refine ⟨?_, blk_keep HJ.out HB2.out, bthen HW.out HB2.out⟩
            all_goals rw [HB.out]
            all_goals rfl
        | false =>
          go_wp2
          go_meet
          exact ⟨rfl, HJ.out, HW.out⟩
      · have e2 : (status == 2) = false := by simpa using s2
        have n2 := Aside0.mk s2
        clear s2
        by_cases s3 : status = 3
        · have HB : Aside0 (B = (decide (rule = ⟨#[]⟩) && hnone worker token til)) := ⟨by rw [hB.out, chkB, if_neg n2.out, if_pos s3]; congr 1; rw [decide_eq_decide]; exact size0⟩
          have e3 : (status == 3) = true := by simpa using s3
          clear s3
          cases A with
          | true =>
            by_cases r0 : rule = ⟨#[]⟩
            · subst r0
              by_cases w0 : worker = 0
              · subst w0
                by_cases t0 : token = 0
                · subst t0
                  by_cases u0 : til = 0
                  · subst u0
                    go_wp2_with (go_at_call 23; refine (holder_any ⟨id, name, ⟨#[]⟩, payload, status, due, tries, 0, 0, 0⟩ _).mono ?_; rintro e w1 ⟨rfl, hb1⟩; (have HB1 := Aside0.mk hb1); clear hb1 c0 c1 c2 c3 c4 c5 c6 c7 c8 c9)
                    all_goals go_meet
                    all_goals refine ⟨?_, blk_keep HJ.out HB1.out, bthen HW.out HB1.out⟩
                    all_goals rw [HB.out]
                    all_goals rfl
                  · go_wp2_with (go_at_call 23; refine (holder_any ⟨id, name, ⟨#[]⟩, payload, status, due, tries, 0, 0, til⟩ _).mono ?_; rintro e w1 ⟨rfl, hb1⟩; (have HB1 := Aside0.mk hb1); clear hb1 c0 c1 c2 c3 c4 c5 c6 c7 c8 c9)
                    all_goals go_meet
                    all_goals refine ⟨?_, blk_keep HJ.out HB1.out, bthen HW.out HB1.out⟩
                    all_goals rw [HB.out]
                    all_goals simp [hnone, u0]
                · go_wp2_with (go_at_call 23; refine (holder_any ⟨id, name, ⟨#[]⟩, payload, status, due, tries, 0, token, til⟩ _).mono ?_; rintro e w1 ⟨rfl, hb1⟩; (have HB1 := Aside0.mk hb1); clear hb1 c0 c1 c2 c3 c4 c5 c6 c7 c8 c9)
                  all_goals go_meet
                  all_goals refine ⟨?_, blk_keep HJ.out HB1.out, bthen HW.out HB1.out⟩
                  all_goals rw [HB.out]
                  all_goals simp [hnone, t0]
              · go_wp2_with (go_at_call 23; refine (holder_any ⟨id, name, ⟨#[]⟩, payload, status, due, tries, worker, token, til⟩ _).mono ?_; rintro e w1 ⟨rfl, hb1⟩; (have HB1 := Aside0.mk hb1); clear hb1 c0 c1 c2 c3 c4 c5 c6 c7 c8 c9)
                all_goals go_meet
                all_goals refine ⟨?_, blk_keep HJ.out HB1.out, bthen HW.out HB1.out⟩
                all_goals rw [HB.out]
                all_goals simp [hnone, w0]
            · obtain ⟨r1, r2⟩ := tl0 r0
              go_wp2
              all_goals go_meet
              all_goals exact ⟨by rw [HB.out]; simp [r0], HJ.out, HW.out⟩
          | false =>
            go_wp2
            go_meet
            exact ⟨rfl, HJ.out, HW.out⟩
        · have e3 : (status == 3) = false := by simpa using s3
          have n3 := Aside0.mk s3
          clear s3
          by_cases s1 : status = 1
          · have HB : Aside0 (B = hnone worker token til) := ⟨by rw [hB.out, chkB, if_neg n2.out, if_neg n3.out, if_pos s1]⟩
            have e1 : (status == 1) = true := by simpa using s1
            clear s1
            cases A with
            | true =>
              by_cases w0 : worker = 0
              · subst w0
                by_cases t0 : token = 0
                · subst t0
                  by_cases u0 : til = 0
                  · subst u0
                    go_wp2_with (go_at_call 23; refine (holder_any ⟨id, name, rule, payload, status, due, tries, 0, 0, 0⟩ _).mono ?_; rintro e w1 ⟨rfl, hb1⟩; (have HB1 := Aside0.mk hb1); clear hb1 c0 c1 c2 c3 c4 c5 c6 c7 c8 c9)
                    all_goals go_meet
                    all_goals refine ⟨?_, blk_keep HJ.out HB1.out, bthen HW.out HB1.out⟩
                    all_goals rw [HB.out]
                    all_goals rfl
                  · go_wp2_with (go_at_call 23; refine (holder_any ⟨id, name, rule, payload, status, due, tries, 0, 0, til⟩ _).mono ?_; rintro e w1 ⟨rfl, hb1⟩; (have HB1 := Aside0.mk hb1); clear hb1 c0 c1 c2 c3 c4 c5 c6 c7 c8 c9)
                    all_goals go_meet
                    all_goals refine ⟨?_, blk_keep HJ.out HB1.out, bthen HW.out HB1.out⟩
                    all_goals rw [HB.out]
                    all_goals simp [hnone, u0]
                · go_wp2_with (go_at_call 23; refine (holder_any ⟨id, name, rule, payload, status, due, tries, 0, token, til⟩ _).mono ?_; rintro e w1 ⟨rfl, hb1⟩; (have HB1 := Aside0.mk hb1); clear hb1 c0 c1 c2 c3 c4 c5 c6 c7 c8 c9)
                  all_goals go_meet
                  all_goals refine ⟨?_, blk_keep HJ.out HB1.out, bthen HW.out HB1.out⟩
                  all_goals rw [HB.out]
                  all_goals simp [hnone, t0]
              · go_wp2_with (go_at_call 23; refine (holder_any ⟨id, name, rule, payload, status, due, tries, worker, token, til⟩ _).mono ?_; rintro e w1 ⟨rfl, hb1⟩; (have HB1 := Aside0.mk hb1); clear hb1 c0 c1 c2 c3 c4 c5 c6 c7 c8 c9)
                all_goals go_meet
                all_goals refine ⟨?_, blk_keep HJ.out HB1.out, bthen HW.out HB1.out⟩
                all_goals rw [HB.out]
                all_goals simp [hnone, w0]
            | false =>
              go_wp2
              go_meet
              exact ⟨rfl, HJ.out, HW.out⟩
          · have HB : Aside0 (B = false) := ⟨by rw [hB.out, chkB, if_neg n2.out, if_neg n3.out, if_neg s1]⟩
            have e1 : (status == 1) = false := by simpa using s1
            clear s1
            obtain rfl := HB.out
            go_wp2
            go_meet
            exact ⟨by rw [Bool.and_false], HJ.out, HW.out⟩
    case rest =>
      obtain ⟨rfl, HK⟩ := hcut
      obtain ⟨A', hA'⟩ := named (A && B)
      rw [← hA'.out] at HR ⊢
      have HK1 := Aside0.mk HK.out.1
      have HK2 := Aside0.mk HK.out.2
      clear HK c0 c1 c2 c3 c4 c5 c6 c7 c8 c9 HJ HW HA
      obtain ⟨c0, c1, c2, c3, c4, c5, c6, c7, c8, c9⟩ := all10 HK1.out
      by_cases r0 : rule = ⟨#[]⟩
      · have HC : Aside0 (r = if A' = true then 0 else 9) := ⟨by
          rw [HR.out]
          have : chkC pe ⟨id, name, rule, payload, status, due, tries, worker, token, til⟩ = true := by rw [chkC]; simp only [decide_eq_true (size0.2 r0), Bool.true_or]
          rw [this, Bool.and_true]⟩
        subst r0
        cases A' with
        | true =>
          have HC1 : Aside0 (r = 0) := ⟨by rw [HC.out]; rfl⟩
          obtain rfl := HC1.out
          go_wp2
          go_ret
          exact ⟨rfl, HK2.out⟩
        | false =>
          have HC1 : Aside0 (r = 9) := ⟨by rw [HC.out]; rfl⟩
          obtain rfl := HC1.out
          go_wp2
          go_ret
          exact ⟨rfl, HK2.out⟩
      · obtain ⟨r1, r2⟩ := tl0 r0
        cases A' with
        | true =>
          have HC : Aside0 (r = if (pe == 0 && decide (rule.size ≤ 200)) = true then 0 else 9) := ⟨by
            rw [HR.out, Bool.true_and, chkC]
            have : decide (rule.size = 0) = false := decide_eq_false (fun h => r0 (size0.1 h))
            rw [this, Bool.false_or]⟩
          have HPr := Aside0.mk (HP.out r0)
          by_cases p0 : pe = 0
          · subst p0
            by_cases l0 : rule.size ≤ 200
            · have HC1 : Aside0 (r = 0) := ⟨by rw [HC.out]; simp [l0]⟩
              obtain rfl := HC1.out
              have hl : decide ((rule.size : Int) ≤ 200) = true := decide_eq_true (by omega)
              go_wp2_with (go_at_call 25; refine (HPr.out _ (HTW.out.1 _ _ HTW.out.2 HK2.out)).mono ?_; rintro e w1 ⟨p1, p2, p3, p4, p5, p6, p7, rfl, hb1⟩; (have HB1 := Aside0.mk hb1); obtain ⟨_, _, d2, _, _, _, _, _, _, _⟩ := all10 (blk_keep HK1.out hb1); (have hlt := blk_lt (blk_keep HK1.out hb1)); clear hb1 c0 c1 c2 c3 c4 c5 c6 c7 c8 c9)
              go_ret
              exact ⟨rfl, below_alloc (bthen HK2.out HB1.out) _⟩
            · have HC1 : Aside0 (r = 9) := ⟨by rw [HC.out]; simp [l0]⟩
              obtain rfl := HC1.out
              have hl : decide ((rule.size : Int) ≤ 200) = false := decide_eq_false (by omega)
              go_wp2_with (go_at_call 25; refine (HPr.out _ (HTW.out.1 _ _ HTW.out.2 HK2.out)).mono ?_; rintro e w1 ⟨p1, p2, p3, p4, p5, p6, p7, rfl, hb1⟩; (have HB1 := Aside0.mk hb1); obtain ⟨_, _, d2, _, _, _, _, _, _, _⟩ := all10 (blk_keep HK1.out hb1); (have hlt := blk_lt (blk_keep HK1.out hb1)); clear hb1 c0 c1 c2 c3 c4 c5 c6 c7 c8 c9)
              go_ret
              exact ⟨rfl, below_alloc (bthen HK2.out HB1.out) _⟩
          · have HC1 : Aside0 (r = 9) := ⟨by rw [HC.out]; simp [p0]⟩
            obtain rfl := HC1.out
            go_wp2_with (go_at_call 25; refine (HPr.out _ (HTW.out.1 _ _ HTW.out.2 HK2.out)).mono ?_; rintro e w1 ⟨p1, p2, p3, p4, p5, p6, p7, rfl, hb1⟩; (have HB1 := Aside0.mk hb1); obtain ⟨_, _, d2, _, _, _, _, _, _, _⟩ := all10 (blk_keep HK1.out hb1); (have hlt := blk_lt (blk_keep HK1.out hb1)); clear hb1 c0 c1 c2 c3 c4 c5 c6 c7 c8 c9)
            go_ret
            exact ⟨rfl, below_alloc (bthen HK2.out HB1.out) _⟩
        | false =>
          have HC1 : Aside0 (r = 9) := ⟨by rw [HR.out, Bool.false_and]; decide⟩
          obtain rfl := HC1.out
          go_wp2
          go_ret
          exact ⟨rfl, HK2.out⟩
end Go.Proofs.YteloamnakikbbaaDoor.Job

/- backoff.Due, job.Lease, again: walked. -/
namespace Go.Proofs.YteloamnakikbbaaDoor.Job
set_option linter.unusedVariables false
set_option linter.unusedSimpArgs false
open Go.RowKit Go.Proofs.YteloamnakikbbaaDoorW.PrintWords Go.Proofs.YteloamnakikbbaaDoorW.PrintLast Go.Proofs.YteloamnakikbbaaDoor.Base Go.Proofs.YteloamnakikbbaaDoor.Cells Go.Proofs.YteloamnakikbbaaDoor.JobPure

theorem results_ct {P : Program} {fn : Func} {p t2 : Tmp} {ty : TypeId} (h : fn.results = #[.cell p ty, .tmp t2]) (tmps : Array Value) (w : World) (g : Nat) (t : TypeId) (cs : Array Value) (fr : Nat × Nat) (d : TypeDesc)
    (hp : tmps.getD p undef = .pointer (some ⟨g, 0, none⟩)) (hg : w.heap[g]? = some (.cells cs t fr))
    (hu : P.underlying ty = some d) (hd : (match d with | .struct _ | .array _ _ => true | _ => false) = true) (hi : (P.info? ty).map (·.size) = some cs.size) :
    (results fn tmps).run P w = .ok (.tuple #[.agg cs, tmps.getD t2 undef]) w := by
  have hp' : tmps[p]?.getD undef = .pointer (some ⟨g, 0, none⟩) := by simpa using hp
  simp [results, h, hp', asAddr, run_loadVar_row w g t ty cs fr d hg hu hd hi]

def dueE (b c now : Int) (k : Nat) : Int := if now + delayP b c k < 32503680000 then 0 else 4
def dueV (b c now : Int) (k : Nat) : Int := if now + delayP b c k < 32503680000 then now + delayP b c k else 0
set_option maxRecDepth 100000 in
theorem due_any (b c t now : Int) (k : Nat) (w : World) (hl : limOk b c t = true) (hk : k ≤ 64) (n0 : 0 ≤ now) (n1 : now < 32503680000) :
    Calls Tryd.prog 33 #[.agg #[.int .i64 b, .int .i64 c, .int .i64 t], .int .i64 now, .int .i64 k] w fun e w' => e = .returned (.tuple #[.int .i64 (dueV b c now k), .int .i64 (dueE b c now k)]) ∧ Below w.heap.size w w' := by
  obtain ⟨b1, b2, bc, c2, t1, t2⟩ := limOk_iff.1 hl
  have hL := Aside0.mk hl
  clear hl
  obtain ⟨d, hd⟩ := named (delayP b c k)
  have hdb : 1 ≤ d ∧ d ≤ c := by rw [hd.out]; exact delay_bd k b1 (by omega)
  obtain ⟨d1, d2⟩ := hdb
  rw [dueV, dueE, ← hd.out]
  by_cases hx : now + d < 32503680000
  · rw [if_pos hx, if_pos hx]
    go_enter Tryd.func33, Tryd.ntmps33
    go_wp2_with (go_at_call 47; refine (delay_any _ _ _ _ _ hL.out hk).mono ?_; rw [← hd.out]; rintro e w1 ⟨rfl, hb1⟩; (have HB1 := Aside0.mk hb1); clear hb1)
    go_ret2
    exact ⟨rfl, bthen (below_alloc (Below.refl _ _) _) HB1.out⟩
  · rw [if_neg hx, if_neg hx]
    go_enter Tryd.func33, Tryd.ntmps33
    go_wp2_with (go_at_call 47; refine (delay_any _ _ _ _ _ hL.out hk).mono ?_; rw [← hd.out]; rintro e w1 ⟨rfl, hb1⟩; (have HB1 := Aside0.mk hb1); clear hb1)
    go_ret2
    exact ⟨rfl, bthen (below_alloc (Below.refl _ _) _) HB1.out⟩

/-- what a rule's text means: pe what reading it tells, nx when it comes next -/
def CronSays (T : World → Prop) (r : ByteArray) (pe : Int) (nx : Int → Int × Bool) : Prop := r ≠ ⟨#[]⟩ → ∃ (a b c d f : Int) (x y : Bool),
  (∀ w, T w → Calls Tryd.prog 25 #[.string r] w fun e w' => e = .returned (.tuple #[.agg #[.int .u64 a, .int .u64 b, .int .u64 c, .int .u64 d, .int .u64 f, .bool x, .bool y], .int .i64 pe]) ∧ Below w.heap.size w w') ∧
  (pe = 0 → ∀ (now : Int) w, T w → 0 ≤ now → now < 32503680000 → Calls Tryd.prog 46 #[.agg #[.int .u64 a, .int .u64 b, .int .u64 c, .int .u64 d, .int .u64 f, .bool x, .bool y], .int .i64 now] w fun e w' => ∃ ne, e = .returned (.tuple #[.int .i64 (nx now).1, .bool (nx now).2, .int .i64 ne]) ∧ Below w.heap.size w w')
theorem CronSays.parse {T : World → Prop} {r : ByteArray} {pe : Int} {nx : Int → Int × Bool} (h : CronSays T r pe nx) : ParseSays T r pe := fun hr w hw => by
  obtain ⟨a, b, c, d, f, x, y, h1, _⟩ := h hr
  exact (h1 w hw).mono fun e w' ⟨he, hb⟩ => ⟨a, b, c, d, f, x, y, he, hb⟩
theorem CronSays.none (T : World → Prop) (pe : Int) (nx : Int → Int × Bool) : CronSays T ⟨#[]⟩ pe nx := fun h => absurd rfl h

set_option maxRecDepth 100000 in
set_option maxHeartbeats 1000000 in
theorem lease_any {T : World → Prop} (hT : Lasts T) (pe : Int) (j : Jb) (a b c : Int) (w : World) (hw : T w) (hp : ParseSays T j.rule pe) :
    Calls Tryd.prog 16 #[.agg #[.int .i64 j.id, .string j.name, .string j.rule, .string j.payload, .int .i64 j.status, .int .i64 j.due, .int .i64 j.tries, .int .i64 j.worker, .int .i64 j.token, .int .i64 j.til], .int .i64 a, .int .i64 b, .int .i64 c] w fun e w' => e = .returned (.tuple #[.agg (jc (leaseJ pe j a b c)), .int .i64 (leaseE pe j a b c)]) ∧ Below w.heap.size w w' := by
  have HP := Aside0.mk hp
  have HTW := Aside0.mk (And.intro hT hw)
  clear hT hw
  obtain ⟨LJ, hLJ⟩ := named (jc (leaseJ pe j a b c))
  obtain ⟨LE, hLE⟩ := named (leaseE pe j a b c)
  rw [← hLJ.out, ← hLE.out]
  obtain ⟨q, hq⟩ := named (hmay a b c)
  cases hk : chk pe j with
  | false =>
    have HE : Aside0 (chkE pe j = 9 ∧ LE = 9 ∧ LJ = jc JobPure.j0) := ⟨by
      have h1 : leaseE pe j a b c = 9 := by rw [leaseE, hk]; rfl
      exact ⟨by rw [chkE, hk]; rfl, by rw [hLE.out, h1], by rw [hLJ.out, leaseJ, h1]; rfl⟩⟩
    clear hp hk
    obtain ⟨hce, rfl, rfl⟩ := HE.out
    have HCE := Aside0.mk hce
    clear hce
    go_enter Tryd.func16, Tryd.ntmps16
    go_wp2_with (go_at_call 11; refine (check_any HTW.out.1 pe j _ (HTW.out.1 _ _ HTW.out.2 (below_alloc (below_alloc (Below.refl _ w) _) _)) HP.out).mono ?_; rw [HCE.out]; rintro e w1 ⟨rfl, hb1⟩; (have HB1 := Aside0.mk (bthen (below_alloc (below_alloc (Below.refl _ w) _) _) hb1)); (have HBK := Aside0.mk (blk_keep (blk_new1 _ _ _ _) hb1)); (have HBJ := Aside0.mk (blk_keep (blk_alloc (blk_new _ _) _) hb1)); (have hlt := blk_lt HBK.out); (have hlt0 := blk_lt HBJ.out); obtain ⟨k0, k1, k2, k3, k4, k5, k6, k7, k8, k9⟩ := all10 HBK.out; obtain ⟨f0, f1, f2, f3, f4, f5, f6, f7, f8, f9⟩ := frz10 HBK.out; obtain ⟨j0, j1, j2, j3, j4, j5, j6, j7, j8, j9⟩ := all10 HBJ.out; clear hb1)
    refine bodyPost_ret (results_ct rfl _ _ (w.heap.size + 1) 35 #[.int .i64 0, .string ⟨#[]⟩, .string ⟨#[]⟩, .string ⟨#[]⟩, .int .i64 0, .int .i64 0, .int .i64 0, .int .i64 0, .int .i64 0, .int .i64 0] (0, 0) _ rfl (blk10 HBK.out) Tryd.underlying35 rfl (by kernel_rfl)) rfl ?_
    exact ⟨rfl, below_set10 HB1.out (Nat.le_succ _) _ _ _ _ _ _ _ _ _ _⟩
  | true =>
    have HCE : Aside0 (chkE pe j = 0) := ⟨by rw [chkE, hk]; rfl⟩
    by_cases hs : j.status = 1
    · have e1 : (j.status != 1) = false := by simpa using hs
      cases q with
      | true =>
        have HQ : Aside0 (hmay a b c = true) := ⟨hq.out.symm⟩
        have HE : Aside0 (LE = 0 ∧ LJ = jc (holdJ j 2 0 a b c)) := ⟨by
          have h1 : leaseE pe j a b c = 0 := by rw [leaseE, hk, hs, HQ.out]; rfl
          exact ⟨by rw [hLE.out, h1], by rw [hLJ.out, leaseJ, h1]; rfl⟩⟩
        clear hp hk hs
        obtain ⟨rfl, rfl⟩ := HE.out
        go_enter Tryd.func16, Tryd.ntmps16
        go_wp2_with (first
          | (go_at_call 11; refine (check_any HTW.out.1 pe j _ (HTW.out.1 _ _ HTW.out.2 (below_alloc (below_alloc (Below.refl _ w) _) _)) HP.out).mono ?_; rw [HCE.out]; rintro e w1 ⟨rfl, hb1⟩; (have HB1 := Aside0.mk (bthen (below_alloc (below_alloc (Below.refl _ w) _) _) hb1)); (have HBK := Aside0.mk (blk_keep (blk_new1 _ _ _ _) hb1)); (have HBJ := Aside0.mk (blk_keep (blk_alloc (blk_new _ _) _) hb1)); (have hlt := blk_lt HBK.out); (have hlt0 := blk_lt HBJ.out); obtain ⟨k0, k1, k2, k3, k4, k5, k6, k7, k8, k9⟩ := all10 HBK.out; obtain ⟨f0, f1, f2, f3, f4, f5, f6, f7, f8, f9⟩ := frz10 HBK.out; obtain ⟨j0, j1, j2, j3, j4, j5, j6, j7, j8, j9⟩ := all10 HBJ.out; clear hb1)
          | (go_at_call 24; refine (may_any _ _ _ _).mono ?_; rw [HQ.out]; rintro e w2 ⟨rfl, hb2⟩; (have HB2 := Aside0.mk (bthen (below_alloc HB1.out _) hb2)); (have HBK2 := Aside0.mk (blk_keep (blk_alloc HBK.out _) hb2)); (have HBJ2 := Aside0.mk (blk_keep (blk_alloc HBJ.out _) hb2)); (have HBH2 := Aside0.mk (blk_keep (blk_new _ _) hb2)); (have hlt2 := blk_lt HBK2.out); (have hlt3 := blk_lt HBJ2.out); (have hlt4 := blk_lt HBH2.out); clear k0 k1 k2 k3 k4 k5 k6 k7 k8 k9 f0 f1 f2 f3 f4 f5 f6 f7 f8 f9 j0 j1 j2 j3 j4 j5 j6 j7 j8 j9; obtain ⟨k0, k1, k2, k3, k4, k5, k6, k7, k8, k9⟩ := all10 HBK2.out; obtain ⟨f0, f1, f2, f3, f4, f5, f6, f7, f8, f9⟩ := frz10 HBK2.out; obtain ⟨j0, j1, j2, j3, j4, j5, j6, j7, j8, j9⟩ := all10 HBJ2.out; obtain ⟨h0, h1, h2, _, _, _⟩ := all3 HBH2.out; clear hb2)
          | (go_at_call 34; refine (hold_any j 2 0 a b c _).mono ?_; rintro e w3 ⟨rfl, hb3⟩; (have HB3 := Aside0.mk (bthen HB2.out hb3)); (have HBK3 := Aside0.mk (blk_keep HBK2.out hb3)); clear k0 k1 k2 k3 k4 k5 k6 k7 k8 k9 f0 f1 f2 f3 f4 f5 f6 f7 f8 f9 j0 j1 j2 j3 j4 j5 j6 j7 j8 j9 h0 h1 h2; obtain ⟨k0, k1, k2, k3, k4, k5, k6, k7, k8, k9⟩ := all10 HBK3.out; obtain ⟨f0, f1, f2, f3, f4, f5, f6, f7, f8, f9⟩ := frz10 HBK3.out; clear hb3))
        refine bodyPost_ret (results_ct rfl _ _ (w.heap.size + 1) 35 #[.int .i64 j.id, .string j.name, .string j.rule, .string j.payload, .int .i64 2, .int .i64 0, .int .i64 j.tries, .int .i64 a, .int .i64 b, .int .i64 c] (0, 0) _ rfl (blk10 HBK3.out) Tryd.underlying35 rfl (by kernel_rfl)) rfl ?_
        exact ⟨rfl, below_set10 HB3.out (Nat.le_succ _) _ _ _ _ _ _ _ _ _ _⟩
      | false =>
        have HQ : Aside0 (hmay a b c = false) := ⟨hq.out.symm⟩
        have HE : Aside0 (LE = 4 ∧ LJ = jc JobPure.j0) := ⟨by
          have h1 : leaseE pe j a b c = 4 := by rw [leaseE, hk, hs, HQ.out]; rfl
          exact ⟨by rw [hLE.out, h1], by rw [hLJ.out, leaseJ, h1]; rfl⟩⟩
        clear hp hk hs
        obtain ⟨rfl, rfl⟩ := HE.out
        go_enter Tryd.func16, Tryd.ntmps16
        go_wp2_with (first
          | (go_at_call 11; refine (check_any HTW.out.1 pe j _ (HTW.out.1 _ _ HTW.out.2 (below_alloc (below_alloc (Below.refl _ w) _) _)) HP.out).mono ?_; rw [HCE.out]; rintro e w1 ⟨rfl, hb1⟩; (have HB1 := Aside0.mk (bthen (below_alloc (below_alloc (Below.refl _ w) _) _) hb1)); (have HBK := Aside0.mk (blk_keep (blk_new1 _ _ _ _) hb1)); (have HBJ := Aside0.mk (blk_keep (blk_alloc (blk_new _ _) _) hb1)); (have hlt := blk_lt HBK.out); (have hlt0 := blk_lt HBJ.out); obtain ⟨k0, k1, k2, k3, k4, k5, k6, k7, k8, k9⟩ := all10 HBK.out; obtain ⟨f0, f1, f2, f3, f4, f5, f6, f7, f8, f9⟩ := frz10 HBK.out; obtain ⟨j0, j1, j2, j3, j4, j5, j6, j7, j8, j9⟩ := all10 HBJ.out; clear hb1)
          | (go_at_call 24; refine (may_any _ _ _ _).mono ?_; rw [HQ.out]; rintro e w2 ⟨rfl, hb2⟩; (have HB2 := Aside0.mk (bthen (below_alloc HB1.out _) hb2)); (have HBK2 := Aside0.mk (blk_keep (blk_alloc HBK.out _) hb2)); (have HBJ2 := Aside0.mk (blk_keep (blk_alloc HBJ.out _) hb2)); (have HBH2 := Aside0.mk (blk_keep (blk_new _ _) hb2)); (have hlt2 := blk_lt HBK2.out); (have hlt3 := blk_lt HBJ2.out); (have hlt4 := blk_lt HBH2.out); clear k0 k1 k2 k3 k4 k5 k6 k7 k8 k9 f0 f1 f2 f3 f4 f5 f6 f7 f8 f9 j0 j1 j2 j3 j4 j5 j6 j7 j8 j9; obtain ⟨k0, k1, k2, k3, k4, k5, k6, k7, k8, k9⟩ := all10 HBK2.out; obtain ⟨f0, f1, f2, f3, f4, f5, f6, f7, f8, f9⟩ := frz10 HBK2.out; obtain ⟨j0, j1, j2, j3, j4, j5, j6, j7, j8, j9⟩ := all10 HBJ2.out; obtain ⟨h0, h1, h2, _, _, _⟩ := all3 HBH2.out; clear hb2))
        refine bodyPost_ret (results_ct rfl _ _ (w.heap.size + 1) 35 #[.int .i64 0, .string ⟨#[]⟩, .string ⟨#[]⟩, .string ⟨#[]⟩, .int .i64 0, .int .i64 0, .int .i64 0, .int .i64 0, .int .i64 0, .int .i64 0] (0, 0) _ rfl (blk10 HBK2.out) Tryd.underlying35 rfl (by kernel_rfl)) rfl ?_
        exact ⟨rfl, below_set10 HB2.out (Nat.le_succ _) _ _ _ _ _ _ _ _ _ _⟩
    · have e1 : (j.status != 1) = true := by simpa using hs
      have HE : Aside0 (LE = 81 ∧ LJ = jc JobPure.j0) := ⟨by
        have h1 : leaseE pe j a b c = 81 := by rw [leaseE, hk, if_pos rfl, if_neg hs]
        exact ⟨by rw [hLE.out, h1], by rw [hLJ.out, leaseJ, h1]; rfl⟩⟩
      clear hp hk hs
      obtain ⟨rfl, rfl⟩ := HE.out
      go_enter Tryd.func16, Tryd.ntmps16
      go_wp2_with (go_at_call 11; refine (check_any HTW.out.1 pe j _ (HTW.out.1 _ _ HTW.out.2 (below_alloc (below_alloc (Below.refl _ w) _) _)) HP.out).mono ?_; rw [HCE.out]; rintro e w1 ⟨rfl, hb1⟩; (have HB1 := Aside0.mk (bthen (below_alloc (below_alloc (Below.refl _ w) _) _) hb1)); (have HBK := Aside0.mk (blk_keep (blk_new1 _ _ _ _) hb1)); (have HBJ := Aside0.mk (blk_keep (blk_alloc (blk_new _ _) _) hb1)); (have hlt := blk_lt HBK.out); (have hlt0 := blk_lt HBJ.out); obtain ⟨k0, k1, k2, k3, k4, k5, k6, k7, k8, k9⟩ := all10 HBK.out; obtain ⟨f0, f1, f2, f3, f4, f5, f6, f7, f8, f9⟩ := frz10 HBK.out; obtain ⟨j0, j1, j2, j3, j4, j5, j6, j7, j8, j9⟩ := all10 HBJ.out; clear hb1)
      refine bodyPost_ret (results_ct rfl _ _ (w.heap.size + 1) 35 #[.int .i64 0, .string ⟨#[]⟩, .string ⟨#[]⟩, .string ⟨#[]⟩, .int .i64 0, .int .i64 0, .int .i64 0, .int .i64 0, .int .i64 0, .int .i64 0] (0, 0) _ rfl (blk_alloc (blk10 HBK.out) _) Tryd.underlying35 rfl (by kernel_rfl)) rfl ?_
      exact ⟨rfl, below_alloc (below_set10 HB1.out (Nat.le_succ _) _ _ _ _ _ _ _ _ _ _) _⟩
end Go.Proofs.YteloamnakikbbaaDoor.Job

/- What a rule's text means to a job: CronSays for every text; when it comes next is a second that may be. -/
namespace Go.Proofs.YteloamnakikbbaaDoor.Cron
set_option linter.unusedVariables false
set_option linter.unusedSimpArgs false
open Go.RowKit Go.Proofs.YteloamnakikbbaaDoorW.PrintWords Go.Proofs.YteloamnakikbbaaDoorW.PrintLast Go.Proofs.YteloamnakikbbaaDoor.Base Go.Proofs.YteloamnakikbbaaDoor.Cells Go.Proofs.YteloamnakikbbaaDoor.CronPure Go.Proofs.YteloamnakikbbaaDoor.NamesPure

theorem top_of_mask {a k M c : Nat} (hM : M >>> k = 2 ^ c - 1) (hc : k + c = 64) (ha : a < 2 ^ 64) (h : a &&& M = 0) : a < 2 ^ k := by
  have h1 : (a &&& M) >>> k = 0 := by rw [h, Nat.zero_shiftRight]
  rw [Nat.shiftRight_and_distrib, hM, Nat.and_two_pow_sub_one_eq_mod, Nat.shiftRight_eq_div_pow] at h1
  have h2 : a / 2 ^ k < 2 ^ c := by
    rw [Nat.div_lt_iff_lt_mul (Nat.two_pow_pos k), ← Nat.pow_add, Nat.add_comm, hc]; exact ha
  rw [Nat.mod_eq_of_lt h2] at h1
  have h3 := (Nat.div_eq_zero_iff).1 h1
  rcases h3 with h3 | h3
  · exact absurd h3 (by have := Nat.two_pow_pos k; omega)
  · exact h3
theorem fromP_top {s n v K : Nat} (hs : s < 2 ^ K) (hK : K ≤ 64) (h : fromP s n = some v) : v < K := by
  unfold fromP at h
  split at h
  · cases h
  · split at h
    · cases h
    · rename_i q1 q2
      obtain ⟨q, hq⟩ : ∃ q, q = s >>> n := ⟨_, rfl⟩
      rw [← hq] at h q2
      injection h with h
      have hqs : q ≤ s := by rw [hq, Nat.shiftRight_eq_div_pow]; exact Nat.div_le_self _ _
      have hq64 : q < 2 ^ 64 := Nat.lt_of_le_of_lt hqs (Nat.lt_of_lt_of_le hs (Nat.pow_le_pow_right (by omega) hK))
      rw [Lib.ctz, if_neg q2] at h
      obtain ⟨m, hm, _⟩ := Lib.ctzFrom_spec 64 q (by omega) hq64
      obtain ⟨c, hc⟩ : ∃ c, c = Lib.ctzFrom 64 q := ⟨_, rfl⟩
      rw [← hc] at hm h
      have h1 : 2 ^ c ≤ q := by rw [hm]; exact Nat.le_mul_of_pos_right _ (by omega)
      have h2 : q * 2 ^ n ≤ s := by rw [hq, Nat.shiftRight_eq_div_pow]; exact Nat.div_mul_le_self _ _
      have h3 : 2 ^ c * 2 ^ n ≤ s := Nat.le_trans (Nat.mul_le_mul_right _ h1) h2
      rw [← Nat.pow_add] at h3
      have h4 : c + n < K := (Nat.pow_lt_pow_iff_right (a := 2) (by omega)).1 (Nat.lt_of_le_of_lt h3 hs)
      omega
theorem chkR_sets {a b : Nat} {c d f : Int} {x y : Bool} (ha : a < 18446744073709551616) (hb : b < 18446744073709551616) (h : chkR a b c d f x y = true) : a < 2 ^ 60 ∧ b < 2 ^ 24 := by
  unfold chkR setOk at h
  simp only [Bool.and_eq_true, Bool.not_eq_true'] at h
  obtain ⟨⟨h1, h2, _⟩, _⟩ := h
  unfold badS at h1 h2
  simp only [Bool.or_eq_false_iff, bne_eq_false_iff_eq] at h1 h2
  have k1 := h1.2
  have k2 := h2.2
  have e1 := u64_andNot_nat a 1152921504606846975 ha (by decide)
  have e2 := u64_andNot_nat b 16777215 hb (by decide)
  have k1' : a &&& (18446744073709551615 - 1152921504606846975) = 0 := by
    have := e1.symm.trans k1
    exact_mod_cast this
  have k2' : b &&& (18446744073709551615 - 16777215) = 0 := by
    have := e2.symm.trans k2
    exact_mod_cast this
  exact ⟨top_of_mask (k := 60) (c := 4) (by decide) rfl ha k1', top_of_mask (k := 24) (c := 40) (by decide) rfl hb k2'⟩
theorem within_top {a b m k : Nat} (ha : a < 2 ^ 60) (hb : b < 2 ^ 24) (hm : m < 1440) (h : withinP a b m = some k) : k < 1440 := by
  have HL : ∀ h, laterP a b h = some k → k < 1440 := fun h hk => by
    unfold laterP at hk
    cases h2 : fromP b (h + 1) with
    | none => rw [h2] at hk; cases hk
    | some v =>
      rw [h2] at hk
      have h3 := fromP_top hb (by omega) h2
      have h4 : (fromP a 0).getD 0 < 60 := by
        cases h5 : fromP a 0 with
        | none => decide
        | some u => exact fromP_top ha (by omega) h5
      simp at hk
      omega
  unfold withinP at h
  split at h
  · cases h1 : fromP a (m % 60) with
    | none => rw [h1] at h; exact HL _ h
    | some v =>
      rw [h1] at h
      have h3 := fromP_top ha (by omega) h1
      simp at h
      omega
  · exact HL _ h
theorem nextP_top {a b c d f : Nat} {x y : Bool} (ha : a < 2 ^ 60) (hb : b < 2 ^ 24) : ∀ (g D m t : Nat), m < 1440 → nextP a b c d f x y g D m = some t → t < 86400 * (D + g)
  | 0, D, m, t, _, h => by cases h
  | g + 1, D, m, t, hm, h => by
    have HN : nextP a b c d f x y g (D + 1) 0 = some t → t < 86400 * (D + (g + 1)) := fun h2 => by
      have := nextP_top ha hb g (D + 1) 0 t (by omega) h2
      omega
    rw [nextP] at h
    split at h
    · cases h1 : withinP a b m with
      | none => rw [h1] at h; exact HN h
      | some k =>
        rw [h1] at h
        have h2 := within_top ha hb hm h1
        simp at h
        omega
    · exact HN h
theorem nextT_top {a b c d f : Nat} {x y : Bool} {now : Int} {t : Nat} (ha : a < 18446744073709551616) (hb : b < 18446744073709551616) (hk : chkR a b c d f x y = true) (n0 : -1 ≤ now) (n1 : now < 32503680000) (h : nextT a b c d f x y now = some t) : t < 32503680000 := by
  obtain ⟨h1, h2⟩ := chkR_sets ha hb hk
  have hs : startP now ≤ 32503680000 := by rw [startP]; omega
  have h3 := nextP_top h1 h2 _ _ _ _ (by omega) h
  omega
/-- a rule's sets, as its text tells them -/
def rA (s : ByteArray) (i : Nat) : Nat := if parseE s = 0 then setN s i else 0
def rF (s : ByteArray) : Nat := if parseE s = 0 then weekOf (setN s 4) else 0
def rX (s : ByteArray) : Bool := if parseE s = 0 then (wordAt s 2).toList == [42] else false
def rY (s : ByteArray) : Bool := if parseE s = 0 then (wordAt s 4).toList == [42] else false
theorem ruleV_eq (s : ByteArray) : ruleV s = #[.int .u64 (rA s 0 : Nat), .int .u64 (rA s 1 : Nat), .int .u64 (rA s 2 : Nat), .int .u64 (rA s 3 : Nat), .int .u64 (rF s : Nat), .bool (rX s), .bool (rY s)] := by
  unfold ruleV rA rF rX rY
  split <;> rfl
theorem rA_lt (s : ByteArray) (i : Nat) : rA s i < 18446744073709551616 := by
  unfold rA
  split
  · exact set_lt s i
  · decide
/-- when a rule's text comes next; none: never -/
def nextR (s : ByteArray) (now : Int) : Option Nat := if chkR (rA s 0 : Nat) (rA s 1 : Nat) (rA s 2 : Nat) (rA s 3 : Nat) (rF s : Nat) (rX s) (rY s) then nextT (rA s 0) (rA s 1) (rA s 2) (rA s 3) (rF s) (rX s) (rY s) now else none
def nxP (s : ByteArray) (now : Int) : Int × Bool := (((nextR s now).getD 0 : Nat), (nextR s now).isSome)
theorem nextR_top {s : ByteArray} {now : Int} {t : Nat} (n0 : -1 ≤ now) (n1 : now < 32503680000) (h : nextR s now = some t) : t < 32503680000 := by
  unfold nextR at h
  split at h
  · rename_i hk
    exact nextT_top (rA_lt s 0) (rA_lt s 1) hk n0 n1 h
  · cases h
/-- what the library's tables are wanted for -/
def Laid (w : World) : Prop := MaxL w ∧ Tab64 w
theorem laid_lasts : Job.Lasts Laid := fun _ _ h hb => ⟨h.1.below hb, h.2.below hb⟩
theorem cron_says (r : ByteArray) (hz : r.size ≤ 9223372036854775807) : Job.CronSays Laid r (parseE r) (nxP r) := fun _ => by
  refine ⟨(rA r 0 : Nat), (rA r 1 : Nat), (rA r 2 : Nat), (rA r 3 : Nat), (rF r : Nat), rX r, rY r, fun w hw => ?_, fun hp now w hw n0 n1 => ?_⟩
  · have h := parse_any r w hz hw.1
    rw [ruleV_eq] at h
    exact h
  · cases hk : chkR (rA r 0 : Nat) (rA r 1 : Nat) (rA r 2 : Nat) (rA r 3 : Nat) (rF r : Nat) (rX r) (rY r) with
    | false =>
      refine (next_bad _ _ _ _ _ _ _ now w hk).mono fun e w' q => ⟨9, ?_, q.2⟩
      have h0 : nextR r now = none := by rw [nextR, hk]; rfl
      rw [q.1, nxP, h0]
      rfl
    | true =>
      refine (next_good _ _ _ _ _ _ _ now w hk (by omega) n1 (rA_lt r 0) (rA_lt r 1) ⟨hw.2⟩).mono fun e w' q => ⟨0, ?_, q.2⟩
      have h0 : nextR r now = nextT (rA r 0) (rA r 1) (rA r 2) (rA r 3) (rF r) (rX r) (rY r) now := by rw [nextR, hk]; rfl
      rw [q.1, nxP, h0]
end Go.Proofs.YteloamnakikbbaaDoor.Cron
