/- What a law's row hands in, read: a version of chapter 11 out of 'DataW.trod'. -/
import Derived.Test.YtfakfgblaakgdaaRows
import Derived.Test.YtfakfgblaakgdaaEditPure
import Derived.Test.YtfakfgblaakgdaaSets
import Derived.Test.YtfakfgblaakgdaaProg
import Derived.WalkKit
import Derived.ProofKit
import Derived.OpenShut
import Derived.ShutString
import Derived.ChangeOld
import Derived.Below
import Derived.SizedLaws
import Derived.KernelRfl
namespace Go.Proofs.Ytfakfgblaakgdaa.Lift
set_option linter.unusedVariables false
open Go.ChangeShapes Go.WideShapes Go.ChangeAt Go.RowKit Go.Proofs.YtfakfgblaakgdaaW.PrintWords Go.Proofs.YtfakfgblaakgdaaW.PrintLast Go.Proofs.Ytfakfgblaakgdaa.Base Go.Proofs.Ytfakfgblaakgdaa.EditPure Go.Proofs.Ytfakfgblaakgdaa.Sets

section
variable {H : Type} {enc : TypeId × Value → H} {P : Program} {W : World} {base : Nat} {spare : Nat → Bool} {held : Bool}
theorem trod_int {t : TypeId} {k : IntKind} (hu : P.underlying t = some (.int k)) {fuel : Nat} {v : Value} {d : DataW H} {p : List MemPlace} (h : DataW.trod enc P W base spare held fuel t [v] = some (d, p)) : ∃ n, v = .int k n ∧ d = .lit (.int k n) ∧ (Lit.int k n).wf = true := by
  cases fuel with
  | zero => simp [DataW.trod] at h
  | succ fuel =>
    unfold DataW.trod at h
    rw [hu] at h
    cases v <;> simp at h
    rename_i k' n
    exact ⟨n, by rw [h.1.1], h.2.1.symm, h.1.2⟩
theorem trod_str {t : TypeId} (hu : P.underlying t = some .string) {fuel : Nat} {v : Value} {d : DataW H} {p : List MemPlace} (h : DataW.trod enc P W base spare held fuel t [v] = some (d, p)) : ∃ s, v = .string s ∧ d = .lit (.string s.data.toList) := by
  cases fuel with
  | zero => simp [DataW.trod] at h
  | succ fuel =>
    unfold DataW.trod at h
    rw [hu] at h
    cases v <;> simp at h
    rename_i s
    exact ⟨s, rfl, h.2.1.symm⟩
/-- a slice: nothing, or its elements one by one -/
theorem trod_slice {t e : TypeId} (hu : P.underlying t = some (.slice e)) {fuel : Nat} {v : Value} {d : DataW H} {p : List MemPlace} (h : DataW.trod enc P W base spare held (fuel + 1) t [v] = some (d, p)) :
    (v = .slice none 0 0 ∧ d = .nil) ∨ ∃ (a : Addr) (len cap : Nat) (elems rest : List (DataW H × List MemPlace)), v = .slice (some a) len cap ∧ len ≤ cap ∧ cap ≤ maxLen ∧ d = .slice (elems.map (·.1)) (rest.map (·.1)) ∧ (List.range len).mapM (fun i => (W.cells? base (a.add (i * P.cellsOf e)) (P.cellsOf e)).bind (DataW.trod enc P W base spare held fuel e)) = some elems := by
  unfold DataW.trod at h
  rw [hu] at h
  cases v with
  | slice a len cap =>
    cases a with
    | none =>
      cases len <;> cases cap <;> simp at h
      exact .inl ⟨rfl, h.1.symm⟩
    | some a =>
      refine .inr ?_
      simp only at h
      by_cases hc : base ≤ a.block ∧ len ≤ cap ∧ cap ≤ maxLen
      · rw [if_pos hc] at h
        obtain ⟨elems, h1, h2⟩ := Option.bind_eq_some_iff.1 h
        obtain ⟨rest, h3, h4⟩ := Option.map_eq_some_iff.1 h2
        exact ⟨a, len, cap, elems, rest, rfl, hc.2.1, hc.2.2, (Prod.mk.inj h4).1.symm, h1⟩
      · rw [if_neg hc] at h; cases h
  | _ => simp at h
theorem mapM_each {α β : Type} (f : α → Option β) : ∀ (l : List α) (ys : List β), l.mapM f = some ys → ys.length = l.length ∧ ∀ (i : Nat) (x : α), l[i]? = some x → ∃ y, f x = some y ∧ ys[i]? = some y
  | [], ys, h => by
    simp at h
    subst h
    exact ⟨rfl, fun i x hx => by simp at hx⟩
  | a :: l, ys, h => by
    rw [List.mapM_cons] at h
    obtain ⟨y, h1, h2⟩ := Option.bind_eq_some_iff.1 h
    obtain ⟨zs, h3, h4⟩ := Option.bind_eq_some_iff.1 h2
    have h5 : ys = y :: zs := by simpa using h4.symm
    subst h5
    obtain ⟨e1, e2⟩ := mapM_each f l zs h3
    refine ⟨by simp [e1], fun i x hx => ?_⟩
    cases i with
    | zero => simp at hx; subst hx; exact ⟨y, h1, rfl⟩
    | succ i => exact e2 i x (by simpa using hx)
end

/-- what a table reads as -/
def dMeta {H : Type} (m : Meta) : DataW H := .agg [.lit (.int .i64 m.id), .lit (.int .i64 m.level), .lit (.int .i64 m.count), .lit (.string m.low.data.toList), .lit (.string m.high.data.toList)]
def wfMeta (m : Meta) : Prop := inI64 m.id ∧ inI64 m.level ∧ inI64 m.count
set_option maxRecDepth 100000 in
set_option maxHeartbeats 1000000 in
theorem trod_meta {H : Type} {enc : TypeId × Value → H} {W : World} {base : Nat} {spare : Nat → Bool} {held : Bool} {fuel : Nat} {cs : List Value} {d : DataW H} {p : List MemPlace}
    (h : DataW.trod enc Try.prog W base spare held fuel 48 cs = some (d, p)) : ∃ m : Meta, cs = m.cs ∧ d = dMeta m ∧ wfMeta m := by
  cases fuel with
  | zero => simp [DataW.trod] at h
  | succ fuel =>
    unfold DataW.trod at h
    rw [Try.underlying48] at h
    have hc : Try.prog.cellsOf 48 = 5 := by kernel_rfl
    have hi : Try.prog.cellsOf 3 = 1 := by kernel_rfl
    have hs : Try.prog.cellsOf 9 = 1 := by kernel_rfl
    simp only [hc] at h
    by_cases hl : cs.length = 5
    · rw [if_pos hl] at h
      obtain ⟨v0, v1, v2, v3, v4, rfl⟩ : ∃ v0 v1 v2 v3 v4, cs = [v0, v1, v2, v3, v4] := by
        rcases cs with _ | ⟨v0, _ | ⟨v1, _ | ⟨v2, _ | ⟨v3, _ | ⟨v4, _ | ⟨v5, r⟩⟩⟩⟩⟩⟩ <;> simp at hl
        exact ⟨v0, v1, v2, v3, v4, rfl⟩
      obtain ⟨xs, h1, h2⟩ := Option.map_eq_some_iff.1 h
      obtain ⟨e1, e2⟩ := mapM_each _ _ _ h1
      obtain ⟨y0, f0, g0⟩ := e2 0 _ rfl
      obtain ⟨y1, f1, g1⟩ := e2 1 _ rfl
      obtain ⟨y2, f2, g2⟩ := e2 2 _ rfl
      obtain ⟨y3, f3, g3⟩ := e2 3 _ rfl
      obtain ⟨y4, f4, g4⟩ := e2 4 _ rfl
      simp only [hi, hs, List.drop_zero, List.drop_succ_cons, List.take_succ_cons, List.take_zero] at f0 f1 f2 f3 f4
      obtain ⟨d0, p0⟩ := y0
      obtain ⟨d1, p1⟩ := y1
      obtain ⟨d2, p2⟩ := y2
      obtain ⟨d3, p3⟩ := y3
      obtain ⟨d4, p4⟩ := y4
      obtain ⟨n0, rfl, rfl, w0⟩ := trod_int Try.underlying3 f0
      obtain ⟨n1, rfl, rfl, w1⟩ := trod_int Try.underlying3 f1
      obtain ⟨n2, rfl, rfl, w2⟩ := trod_int Try.underlying3 f2
      obtain ⟨s3, rfl, rfl⟩ := trod_str Try.underlying9 f3
      obtain ⟨s4, rfl, rfl⟩ := trod_str Try.underlying9 f4
      refine ⟨⟨n0, n1, n2, s3, s4⟩, rfl, ?_, inI64_of_wf w0, inI64_of_wf w1, inI64_of_wf w2⟩
      have hx : xs = [(.lit (.int .i64 n0), p0), (.lit (.int .i64 n1), p1), (.lit (.int .i64 n2), p2), (.lit (.string s3.data.toList), p3), (.lit (.string s4.data.toList), p4)] := by
        have e1' : xs.length = 5 := e1
        apply List.ext_getElem?
        intro i
        rcases i with _ | _ | _ | _ | _ | i
        · rw [g0]; rfl
        · rw [g1]; rfl
        · rw [g2]; rfl
        · rw [g3]; rfl
        · rw [g4]; rfl
        · rw [List.getElem?_eq_none (by omega)]; simp
      rw [hx] at h2
      exact (Prod.mk.inj h2).1.symm
    · rw [if_neg hl] at h; cases h

theorem list_of {α : Type} (n : Nat) (Q : Nat → α → Prop) (h : ∀ i, i < n → ∃ x, Q i x) : ∃ l : List α, l.length = n ∧ ∀ (i : Nat) (x : α), l[i]? = some x → Q i x := by
  induction n with
  | zero => exact ⟨[], rfl, fun i x hx => by simp at hx⟩
  | succ n ih =>
    obtain ⟨l, h1, h2⟩ := ih (fun i hi => h i (by omega))
    obtain ⟨x, hx⟩ := h n (by omega)
    refine ⟨l ++ [x], by simp [h1], fun i y hy => ?_⟩
    by_cases hi : i < l.length
    · rw [List.getElem?_append_left hi] at hy; exact h2 i y hy
    · rw [List.getElem?_append_right (by omega)] at hy
      have h3 : i - l.length < 1 := (List.getElem?_eq_some_iff.1 hy).1
      have h4 : i = n := by omega
      rw [show i - l.length = 0 by omega] at hy
      have h5 : x = y := by simpa using hy
      rw [← h5, h4]; exact hx

theorem bulk_len {H : Type} (l : List (DataW H)) : l.length ≤ Rows.uptoBulkAll l := by
  induction l with
  | nil => simp
  | cons d l ih =>
    rw [Rows.uptoBulkAll, List.length_cons]
    have : 1 ≤ Rows.uptoBulk d := by
      cases d with
      | lit x => cases x <;> simp [Rows.uptoBulk]
      | _ => simp [Rows.uptoBulk]
    omega

set_option maxRecDepth 100000 in
theorem trod_metas {H : Type} {enc : TypeId × Value → H} {W : World} {base : Nat} {spare : Nat → Bool} {held : Bool} {fuel : Nat} {v : Value} {d : DataW H} {p : List MemPlace}
    (h : DataW.trod enc Try.prog W base spare held fuel 26 [v] = some (d, p)) : ∃ A l c, v = .slice A l.length c ∧ l.length ≤ c ∧ Kd.C kMeta W A l.length l ∧ (∀ m ∈ l, wfMeta m) ∧ l.length ≤ Rows.uptoBulk d := by
  cases fuel with
  | zero => simp [DataW.trod] at h
  | succ fuel =>
    rcases trod_slice Try.underlying26 h with ⟨rfl, rfl⟩ | ⟨a, len, cap, elems, rest, rfl, hlc, hcm, rfl, hm⟩
    · exact ⟨none, [], 0, rfl, Nat.le_refl _, ⟨rfl, by simp, fun h => absurd h (Nat.lt_irrefl 0)⟩, fun m hm => by simp at hm, by simp⟩
    · have hc : Try.prog.cellsOf 48 = 5 := by kernel_rfl
      rw [hc] at hm
      obtain ⟨e1, e2⟩ := mapM_each _ _ _ hm
      rw [List.length_range] at e1
      obtain ⟨l, hl, hq⟩ := list_of len (fun i (m : Meta) => (∀ j u, m.cs[j]? = some u → W.cell? ((a.add (i * 5)).add j) = some u) ∧ wfMeta m) (fun i hi => by
        obtain ⟨y, h1, h2⟩ := e2 i i (by rw [List.getElem?_range hi])
        obtain ⟨cs, h3, h4⟩ := Option.bind_eq_some_iff.1 h1
        obtain ⟨d', p'⟩ := y
        obtain ⟨m, rfl, h5, h6⟩ := trod_meta h4
        obtain ⟨_, _, h7⟩ := World.cells?_some h3
        exact ⟨m, fun j u hu => by
          have hj : j < 5 := (List.getElem?_eq_some_iff.1 hu).1
          rw [h7 j hj, hu], h6⟩)
      subst hl
      refine ⟨some a, l, cap, rfl, hlc, ?_, fun m hm => ?_, ?_⟩
      · have hm63 : l.length ≤ 9223372036854775807 := by have : maxLen = 9223372036854775807 := rfl; omega
        exact ⟨rfl, hm63, fun _ => ⟨a, rfl, fun j p hj => ⟨p.cs, rfl, kMeta_mk W p, fun i u hu => by
          show W.cell? (a.add (j * 5 + i)) = some u
          rw [← add_add]; exact (hq j p hj).1 i u hu⟩⟩⟩
      · obtain ⟨i, hi⟩ := List.mem_iff_getElem?.1 hm
        exact (hq i m hi).2
      · rw [Rows.uptoBulk]
        have := bulk_len (elems.map (·.1))
        rw [List.length_map, e1] at this
        omega

set_option maxRecDepth 100000 in
set_option maxHeartbeats 1000000 in
/-- a version that is handed in -/
theorem trod_version {H : Type} {enc : TypeId × Value → H} {W : World} {base : Nat} {spare : Nat → Bool} {held : Bool} {fuel : Nat} {v : Value} {d : DataW H} {p : List MemPlace} (hv : ∃ cs, v = .agg cs)
    (h : DataW.trod enc Try.prog W base spare held fuel 28 v.cells.toList = some (d, p)) : ∃ A l c seq next, v = .agg #[.slice A l.length c, .int .i64 seq, .int .i64 next] ∧ l.length ≤ c ∧ Kd.C kMeta W A l.length l ∧ (∀ m ∈ l, wfMeta m) ∧ inI64 seq ∧ inI64 next ∧ l.length ≤ Rows.uptoBulk d := by
  obtain ⟨cs, rfl⟩ := hv
  have hcs : (Value.agg cs).cells.toList = cs.toList := rfl
  rw [hcs] at h
  cases fuel with
  | zero => simp [DataW.trod] at h
  | succ fuel =>
    unfold DataW.trod at h
    rw [Try.underlying28] at h
    have hc : Try.prog.cellsOf 28 = 3 := by kernel_rfl
    have hi : Try.prog.cellsOf 3 = 1 := by kernel_rfl
    have hs : Try.prog.cellsOf 26 = 1 := by kernel_rfl
    simp only [hc] at h
    by_cases hl : cs.toList.length = 3
    · rw [if_pos hl] at h
      obtain ⟨v0, v1, v2, hcl⟩ : ∃ v0 v1 v2, cs.toList = [v0, v1, v2] := by
        generalize cs.toList = L at hl
        rcases L with _ | ⟨v0, _ | ⟨v1, _ | ⟨v2, _ | ⟨v3, r⟩⟩⟩⟩ <;> simp at hl
        exact ⟨v0, v1, v2, rfl⟩
      rw [hcl] at h
      obtain ⟨xs, h1, h2⟩ := Option.map_eq_some_iff.1 h
      obtain ⟨e1, e2⟩ := mapM_each _ _ _ h1
      obtain ⟨y0, f0, g0⟩ := e2 0 _ rfl
      obtain ⟨y1, f1, g1⟩ := e2 1 _ rfl
      obtain ⟨y2, f2, g2⟩ := e2 2 _ rfl
      simp only [hi, hs, List.drop_zero, List.drop_succ_cons, List.take_succ_cons, List.take_zero] at f0 f1 f2
      obtain ⟨d0, p0⟩ := y0
      obtain ⟨d1, p1⟩ := y1
      obtain ⟨d2, p2⟩ := y2
      obtain ⟨A, l, c, rfl, k1, k2, k3, k4⟩ := trod_metas f0
      obtain ⟨n1, rfl, rfl, w1⟩ := trod_int Try.underlying3 f1
      obtain ⟨n2, rfl, rfl, w2⟩ := trod_int Try.underlying3 f2
      refine ⟨A, l, c, n1, n2, ?_, k1, k2, k3, inI64_of_wf w1, inI64_of_wf w2, ?_⟩
      · congr 1
        exact Array.toList_inj.1 hcl
      · have hx : ∃ r, xs = (d0, p0) :: r := by
          rcases xs with _ | ⟨x, r⟩
          · simp at g0
          · exact ⟨r, by simp at g0; rw [g0]⟩
        obtain ⟨r, hx⟩ := hx
        rw [hx] at h2
        have h3 := (Prod.mk.inj h2).1
        rw [← h3, Rows.uptoBulk, List.map_cons, Rows.uptoBulkAll]
        dsimp only
        omega
    · rw [if_neg hl] at h; cases h
end Go.Proofs.Ytfakfgblaakgdaa.Lift
