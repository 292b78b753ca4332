/- What edit.Apply calls besides: IndexFunc, Delete. -/
import Derived.Test.YtelnhecpcjoonaaSortH
import Derived.Test.YtelnhecpcjoonaaEditH
namespace Go.Proofs.Ytelnhecpcjoonaa.Edit
set_option linter.unusedVariables false
set_option linter.unusedSimpArgs false
open Go.RowKit Go.Proofs.YtelnhecpcjoonaaW.PrintWords Go.Proofs.YtelnhecpcjoonaaW.PrintLast Go.Proofs.Ytelnhecpcjoonaa.Base Go.Proofs.Ytelnhecpcjoonaa.EditPure Go.Proofs.Ytelnhecpcjoonaa.Sets Go.Proofs.Ytelnhecpcjoonaa.Wide Go.Proofs.Ytelnhecpcjoonaa.Cells

set_option maxRecDepth 100000 in
set_option maxHeartbeats 1000000 in
theorem applyFn_any (m : Meta) (id : Int) (pa : Addr) (w : World) (hp : w.cell? pa = some (.int .i64 id)) :
    Calls Try.prog 49 #[.agg #[.int .i64 m.id, .int .i64 m.level, .int .i64 m.count, .string m.low, .string m.high], .pointer (some pa)] w fun e w' => e = .returned (.bool (m.id == id)) ∧ ∃ o, w' = w.alloc o := by
  have hp1 : ∀ o, (w.alloc o).cell? pa = some (.int .i64 id) := fun o => pw_cell_below (below_alloc (Below.refl _ _) o) hp
  go_enter Try.func49, Try.ntmps49
  go_wp2
  go_ret
  exact ⟨rfl, _, rfl⟩

set_option maxRecDepth 100000 in
set_option maxHeartbeats 1000000 in
theorem indexFn_any (A : Option Addr) (c : Nat) (l : List Meta) (id : Int) (pa : Addr) (w : World) (hr : Kd.C kMeta w A l.length l) (hb : l.length ≤ 2097152) (hp : w.cell? pa = some (.int .i64 id)) :
    Calls Try.prog 48 #[.slice A l.length c, .func (.func 49) #[] #[.pointer (some pa)]] w fun e w' => (∃ r, e = .returned (.int .i64 r) ∧ ((r = -1 ∧ l.any (fun x => x.id == id) = false) ∨ ∃ i m, r = ((i : Nat) : Int) ∧ l[i]? = some m ∧ m.id = id ∧ (l.take i).any (fun x => x.id == id) = false)) ∧ Below w.heap.size w w' := by
  have HR := Aside0.mk hr
  clear hr
  go_enter Try.func48, Try.ntmps48
  go_wp2
  go_loopg [5, 8] l.length (fun g v5 v8 wr => ∃ i : Nat, v8 = .int .i64 i ∧ g + i = l.length ∧ Aside0 ((l.take i).any (fun x => x.id == id) = false) ∧ Aside0 (Below w.heap.size w wr))
  case atStart => exact ⟨0, rfl, by omega, ⟨rfl⟩, ⟨Below.refl _ _⟩⟩
  case round =>
    obtain ⟨i, rfl, hg, HN, HB⟩ := hrel
    by_cases hlt : i < l.length
    · obtain ⟨m, hm⟩ : ∃ m, l[i]? = some m := ⟨_, List.getElem?_eq_getElem hlt⟩
      obtain ⟨ad, rfl, c0, c1, c2, c3, c4⟩ := atMeta (Kd.C_below HR.out HB.out) i m hm
      have hp1 := pw_cell_below HB.out hp
      have HM := Aside0.mk hm
      clear hm
      go_wp2_with fail
      refine (applyFn_any m id pa _ hp1).mono ?_
      rintro e w1 ⟨rfl, o, rfl⟩
      have HB1 := Aside0.mk (below_alloc HB.out o)
      clear c0 c1 c2 c3 c4 hp1
      generalize wr.alloc o = w1 at HB1 ⊢
      cases hbb : (m.id == id) with
      | true =>
        have HE : Aside0 (m.id = id) := ⟨by simpa using hbb⟩
        clear hbb
        go_wp2
        go_ret
        exact ⟨⟨_, rfl, .inr ⟨i, m, rfl, HM.out, HE.out, HN.out⟩⟩, HB1.out⟩
      | false =>
        have HE : Aside0 ((m.id == id) = false) := ⟨hbb⟩
        clear hbb
        go_wp2
        go_roundg (l.length - (i + 1))
        case measure => omega
        case rel => exact ⟨i + 1, by go_num, by omega, ⟨by rw [List.take_add_one, HM.out, List.any_append, HN.out]; simp [HE.out]⟩, HB1⟩
    · have hi : Aside0 (l.take i = l) := ⟨List.take_of_length_le (by omega)⟩
      go_wp2
      go_ret
      exact ⟨⟨-1, rfl, .inl ⟨rfl, by rw [← hi.out]; exact HN.out⟩⟩, HB.out⟩
end Go.Proofs.Ytelnhecpcjoonaa.Edit
