/- What a law's row hands in, read: an edit of chapter 11. -/
import Derived.Test.YtelnhecpcjoonaaLift
namespace Go.Proofs.Ytelnhecpcjoonaa.Lift
set_option linter.unusedVariables false
set_option linter.unusedSimpArgs false
open Go.ChangeShapes Go.WideShapes Go.ChangeAt Go.RowKit Go.Proofs.YtelnhecpcjoonaaW.PrintWords Go.Proofs.YtelnhecpcjoonaaW.PrintLast Go.Proofs.Ytelnhecpcjoonaa.Base Go.Proofs.Ytelnhecpcjoonaa.EditPure Go.Proofs.Ytelnhecpcjoonaa.Sets

set_option maxRecDepth 100000 in
theorem trod_ints {H : Type} {enc : TypeId × Value → H} {W : World} {base : Nat} {spare : Nat → Bool} {held : Bool} {fuel : Nat} {v : Value} {d : DataW H} {p : List MemPlace}
    (h : DataW.trod enc Try.prog W base spare held fuel 55 [v] = some (d, p)) : ∃ A l c, v = .slice A l.length c ∧ l.length ≤ c ∧ ReadsInt W .i64 A l.length l ∧ (∀ m ∈ l, inI64 m) ∧ l.length ≤ Rows.uptoBulk d := by
  cases fuel with
  | zero => simp [DataW.trod] at h
  | succ fuel =>
    rcases trod_slice Try.underlying55 h with ⟨rfl, rfl⟩ | ⟨a, len, cap, elems, rest, rfl, hlc, hcm, rfl, hm⟩
    · exact ⟨none, [], 0, rfl, Nat.le_refl _, ReadsInt.nil _ _, fun m hm => by simp at hm, by simp⟩
    · have hc : Try.prog.cellsOf 3 = 1 := by kernel_rfl
      rw [hc] at hm
      obtain ⟨e1, e2⟩ := mapM_each _ _ _ hm
      rw [List.length_range] at e1
      obtain ⟨l, hl, hq⟩ := list_of len (fun i (n : Int) => W.cell? (a.add i) = some (.int .i64 n) ∧ inI64 n) (fun i hi => by
        obtain ⟨y, h1, h2⟩ := e2 i i (by rw [List.getElem?_range hi])
        obtain ⟨cs, h3, h4⟩ := Option.bind_eq_some_iff.1 h1
        obtain ⟨_, h6, h7⟩ := World.cells?_some h3
        obtain ⟨v, rfl⟩ : ∃ v, cs = [v] := List.length_eq_one_iff.1 h6
        obtain ⟨d', p'⟩ := y
        obtain ⟨n, rfl, _, h5⟩ := trod_int Try.underlying3 h4
        refine ⟨n, ?_, inI64_of_wf h5⟩
        have := h7 0 (by omega)
        rw [add_add, Nat.mul_one] at this
        simpa using this)
      subst hl
      refine ⟨some a, l, cap, rfl, hlc, ⟨rfl, by have : maxLen = 9223372036854775807 := rfl; omega, fun _ => ⟨a, rfl, fun j hj => ?_⟩⟩, fun m hm => ?_, ?_⟩
      · have hj2 : l[j]? = some (l.getD j 0) := by rw [List.getD_eq_getElem?_getD, List.getElem?_eq_getElem hj]; rfl
        exact (hq j _ hj2).1
      · obtain ⟨i, hi⟩ := List.mem_iff_getElem?.1 hm
        exact (hq i m hi).2
      · rw [Rows.uptoBulk]
        have := bulk_len (elems.map (·.1))
        rw [List.length_map, e1] at this
        omega

set_option maxRecDepth 100000 in
set_option maxHeartbeats 1000000 in
/-- an edit that is handed in -/
theorem trod_edit {H : Type} {enc : TypeId × Value → H} {W : World} {base : Nat} {spare : Nat → Bool} {held : Bool} {fuel : Nat} {v : Value} {d : DataW H} {p : List MemPlace} (hv : ∃ cs, v = .agg cs)
    (h : DataW.trod enc Try.prog W base spare held fuel 57 v.cells.toList = some (d, p)) : ∃ D dl dc A l c seq next, v = .agg #[.slice D dl.length dc, .slice A l.length c, .int .i64 seq, .int .i64 next] ∧ ReadsInt W .i64 D dl.length dl ∧ l.length ≤ c ∧ Kd.C kMeta W A l.length l ∧ (∀ m ∈ l, wfMeta m) ∧ (∀ m ∈ dl, inI64 m) ∧ inI64 seq ∧ inI64 next ∧ dl.length + l.length ≤ Rows.uptoBulk d := by
  obtain ⟨cs, rfl⟩ := hv
  have hcs : (Value.agg cs).cells.toList = cs.toList := rfl
  rw [hcs] at h
  cases fuel with
  | zero => simp [DataW.trod] at h
  | succ fuel =>
    unfold DataW.trod at h
    rw [Try.underlying57] at h
    have hc : Try.prog.cellsOf 57 = 4 := by kernel_rfl
    have hi : Try.prog.cellsOf 3 = 1 := by kernel_rfl
    have hs : Try.prog.cellsOf 36 = 1 := by kernel_rfl
    have hd : Try.prog.cellsOf 55 = 1 := by kernel_rfl
    simp only [hc] at h
    by_cases hl : cs.toList.length = 4
    · rw [if_pos hl] at h
      obtain ⟨v0, v1, v2, v3, hcl⟩ : ∃ v0 v1 v2 v3, cs.toList = [v0, v1, v2, v3] := by
        generalize cs.toList = L at hl
        rcases L with _ | ⟨v0, _ | ⟨v1, _ | ⟨v2, _ | ⟨v3, _ | ⟨v4, r⟩⟩⟩⟩⟩ <;> simp at hl
        exact ⟨v0, v1, v2, v3, rfl⟩
      rw [hcl] at h
      obtain ⟨xs, h1, h2⟩ := Option.map_eq_some_iff.1 h
      obtain ⟨e1, e2⟩ := mapM_each _ _ _ h1
      obtain ⟨y0, f0, g0⟩ := e2 0 _ rfl
      obtain ⟨y1, f1, g1⟩ := e2 1 _ rfl
      obtain ⟨y2, f2, g2⟩ := e2 2 _ rfl
      obtain ⟨y3, f3, g3⟩ := e2 3 _ rfl
      simp only [hi, hs, hd, List.drop_zero, List.drop_succ_cons, List.take_succ_cons, List.take_zero] at f0 f1 f2 f3
      obtain ⟨d0, p0⟩ := y0
      obtain ⟨d1, p1⟩ := y1
      obtain ⟨d2, p2⟩ := y2
      obtain ⟨d3, p3⟩ := y3
      obtain ⟨D, dl, dc, rfl, _, j2, j3, j4⟩ := trod_ints f0
      obtain ⟨A, l, c, rfl, k1, k2, k3, k4⟩ := trod_metas f1
      obtain ⟨n2, rfl, rfl, w2⟩ := trod_int Try.underlying3 f2
      obtain ⟨n3, rfl, rfl, w3⟩ := trod_int Try.underlying3 f3
      refine ⟨D, dl, dc, A, l, c, n2, n3, ?_, j2, k1, k2, k3, j3, inI64_of_wf w2, inI64_of_wf w3, ?_⟩
      · congr 1
        exact Array.toList_inj.1 hcl
      · have hx : ∃ r, xs = (d0, p0) :: (d1, p1) :: r := by
          rcases xs with _ | ⟨x, _ | ⟨y, r⟩⟩
          · simp at g0
          · simp at g1
          · exact ⟨r, by simp at g0 g1; rw [g0, g1]⟩
        obtain ⟨r, hx⟩ := hx
        rw [hx] at h2
        have h3 := (Prod.mk.inj h2).1
        rw [← h3, Rows.uptoBulk, List.map_cons, List.map_cons, Rows.uptoBulkAll, Rows.uptoBulkAll]
        dsimp only
        omega
    · rw [if_neg hl] at h; cases h
end Go.Proofs.Ytelnhecpcjoonaa.Lift
