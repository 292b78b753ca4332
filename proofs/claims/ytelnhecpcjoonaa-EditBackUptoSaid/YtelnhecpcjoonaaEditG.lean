/- Tables compared; small ones of chapter 11's law. -/
import Derived.Test.YtelnhecpcjoonaaEditF
import Derived.Test.YtelnhecpcjoonaaWEqStruct
namespace Go.Proofs.Ytelnhecpcjoonaa.Edit
set_option linter.unusedVariables false
set_option linter.unusedSimpArgs false
open Go.RowKit Go.Proofs.YtelnhecpcjoonaaW.PrintWords Go.Proofs.YtelnhecpcjoonaaW.PrintLast Go.Proofs.Ytelnhecpcjoonaa.Base Go.Proofs.Ytelnhecpcjoonaa.EditPure Go.Proofs.Ytelnhecpcjoonaa.Sets Go.Proofs.Ytelnhecpcjoonaa.Wide Go.Proofs.Ytelnhecpcjoonaa.Cells

theorem eqMr (d : Nat) (w : World) (x0 y0 : Int) (x1 y1 : Int) (x2 y2 : Int) (x3 y3 : ByteArray) (x4 y4 : ByteArray) :
    (Op.equalIn (d + 2) 53 (.agg #[.int .i64 x0, .int .i64 x1, .int .i64 x2, .string x3, .string x4]) (.agg #[.int .i64 y0, .int .i64 y1, .int .i64 y2, .string y3, .string y4])).run Try.prog w = .ok (x0 == y0 && (x1 == y1 && (x2 == y2 && (x3.toList == y3.toList && (x4.toList == y4.toList))))) w := by
  refine eqA_of Try.underlying53 (by kernel_rfl) ?_
  refine eqf_cons (by rfl) (by go_simp; rfl) (by go_simp; rfl) (by go_simp) ?_
  refine eqf_cons (by rfl) (by go_simp; rfl) (by go_simp; rfl) (by go_simp) ?_
  refine eqf_cons (by rfl) (by go_simp; rfl) (by go_simp; rfl) (by go_simp) ?_
  refine eqf_cons (by rfl) (by go_simp; rfl) (by go_simp; rfl) (by go_simp) ?_
  exact eqf_last (by rfl) (by go_simp; rfl) (by go_simp; rfl) (by go_simp)

theorem neqM (m : Meta) (w : World) : (binOp .neq 53 (.agg #[.int .i64 m.id, .int .i64 m.level, .int .i64 m.count, .string m.low, .string m.high]) (.agg #[.int .i64 m.id, .int .i64 m.level, .int .i64 m.count, .string m.low, .string m.high])).run Try.prog w = .ok (.bool false) w := by
  have h := eqMr 9998 w m.id m.id m.level m.level m.count m.count m.low m.low m.high m.high
  simp only [beq_self_eq_true, Bool.and_self] at h
  simp only [binOp]
  simp [Op.equal, Op.maxDepth, h]

set_option maxRecDepth 100000 in
set_option maxHeartbeats 1000000 in
/-- the same tables -/
theorem sameMetas_any (A B : Option Addr) (c d : Nat) (l : List Meta) (w : World) (hA : Kd.C kMeta w A l.length l) (hB : Kd.C kMeta w B l.length l) (hb : l.length ≤ 1048576) :
    Calls Try.prog 34 #[.slice A l.length c, .slice B l.length d] w fun e w' => e = .returned (.bool true) ∧ Below w.heap.size w w' := by
  have HA := Aside0.mk hA
  have HB := Aside0.mk hB
  clear hA hB
  go_enter Try.func34, Try.ntmps34
  go_wp2
  go_loopg [5] l.length (fun g v5 wr => ∃ i : Nat, v5 = .int .i64 i ∧ g + i = l.length ∧ Aside0 (Below w.heap.size w wr))
  case atStart => exact ⟨0, rfl, by omega, ⟨Below.refl _ _⟩⟩
  case round =>
    obtain ⟨i, rfl, hg, HW⟩ := hrel
    by_cases hlt : i < l.length
    · obtain ⟨m, hm⟩ : ∃ m, l[i]? = some m := ⟨_, List.getElem?_eq_getElem hlt⟩
      obtain ⟨ad, rfl, a0, a1, a2, a3, a4⟩ := atMeta (Kd.C_below HA.out HW.out) i m hm
      obtain ⟨bd, rfl, b0, b1, b2, b3, b4⟩ := atMeta (Kd.C_below HB.out HW.out) i m hm
      have hn := neqM m
      clear hm
      go_wp2_with fail
      go_quiet (fail)
      go_wp2
      go_roundg (l.length - (i + 1))
      case measure => omega
      case rel => exact ⟨i + 1, by go_num, by omega, ⟨pw_below_drewN HW.out nq⟩⟩
    · go_wp2
      go_ret
      exact ⟨rfl, HW.out⟩

theorem numE_any (n : Int) (w : World) : Calls Try.prog 23 #[.int .i64 n] w fun e w' => e = .returned (.int .i64 n) ∧ w' = w := by
  go_enter Try.func23, Try.ntmps23
  go_wp2
  go_ret
  exact ⟨rfl, rfl⟩

set_option maxRecDepth 100000 in
set_option maxHeartbeats 1000000 in
theorem new_any (w : World) : Calls Try.prog 29 #[] w fun e w' => e = .returned (.agg #[.slice none 0 0, .int .i64 0, .int .i64 1]) ∧ Below w.heap.size w w' := by
  go_enter Try.func29, Try.ntmps29
  go_wp2
  refine bodyPost_ret (results_cell_row rfl _ _ w.heap.size 49 #[.slice none 0 0, .int .i64 0, .int .i64 1] (0, 0) _ rfl (blk_new _ _) Try.underlying49 rfl (by kernel_rfl)) rfl ?_
  exact ⟨rfl, below_alloc (Below.refl _ _) _⟩
end Go.Proofs.Ytelnhecpcjoonaa.Edit
