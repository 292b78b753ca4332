/- What a law's row hands in, read: an edit of chapter 11 with its texts' sizes; octets. -/
import Derived.Test.YtelnhecpcjoonaaLift2
import Derived.Test.YtelnhecpcjoonaaVarA
namespace Go.Proofs.Ytelnhecpcjoonaa.Lift
set_option linter.unusedVariables false
set_option linter.unusedSimpArgs false
open Go.ChangeShapes Go.WideShapes Go.ChangeAt Go.RowKit Go.Proofs.YtelnhecpcjoonaaW.PrintWords Go.Proofs.YtelnhecpcjoonaaW.PrintLast Go.Proofs.Ytelnhecpcjoonaa.Base Go.Proofs.Ytelnhecpcjoonaa.EditPure Go.Proofs.Ytelnhecpcjoonaa.Sets Go.Proofs.Ytelnhecpcjoonaa.Var Go.Proofs.Ytelnhecpcjoonaa.VarPure

theorem bulk_mem {H : Type} : ∀ (l : List (DataW H)) (d : DataW H), d ∈ l → Rows.uptoBulk d ≤ Rows.uptoBulkAll l := by
  intro l
  induction l with
  | nil => intro d h; simp at h
  | cons x l ih =>
    intro d h
    rw [Rows.uptoBulkAll]
    rcases List.mem_cons.1 h with rfl | h
    · omega
    · have := ih d h; omega

set_option maxRecDepth 100000 in
theorem trod_metas2 {H : Type} {enc : TypeId × Value → H} {W : World} {base : Nat} {spare : Nat → Bool} {held : Bool} {fuel : Nat} {v : Value} {d : DataW H} {p : List MemPlace}
    (h : DataW.trod enc Try.prog W base spare held fuel 36 [v] = some (d, p)) : ∃ A l c, v = .slice A l.length c ∧ l.length ≤ c ∧ Kd.C kMeta W A l.length l ∧ (∀ m ∈ l, wfMeta m ∧ m.low.size ≤ Rows.uptoBulk d ∧ m.high.size ≤ Rows.uptoBulk d) ∧ l.length ≤ Rows.uptoBulk d := by
  cases fuel with
  | zero => simp [DataW.trod] at h
  | succ fuel =>
    rcases trod_slice Try.underlying36 h with ⟨rfl, rfl⟩ | ⟨a, len, cap, elems, rest, rfl, hlc, hcm, rfl, hm⟩
    · exact ⟨none, [], 0, rfl, Nat.le_refl _, ⟨rfl, by simp, fun h => absurd h (Nat.lt_irrefl 0)⟩, fun m hm => by simp at hm, by simp⟩
    · have hc : Try.prog.cellsOf 53 = 5 := by kernel_rfl
      rw [hc] at hm
      obtain ⟨e1, e2⟩ := mapM_each _ _ _ hm
      rw [List.length_range] at e1
      obtain ⟨l, hl, hq⟩ := list_of len (fun i (m : Meta) => (∀ j u, m.cs[j]? = some u → W.cell? ((a.add (i * 5)).add j) = some u) ∧ wfMeta m ∧ ∃ p', elems[i]? = some (dMeta m, p')) (fun i hi => by
        obtain ⟨y, h1, hy⟩ := e2 i i (by rw [List.getElem?_range hi])
        obtain ⟨cs, h3, h4⟩ := Option.bind_eq_some_iff.1 h1
        obtain ⟨d', p'⟩ := y
        obtain ⟨m, rfl, rfl, h6⟩ := trod_meta h4
        obtain ⟨_, _, h7⟩ := World.cells?_some h3
        exact ⟨m, fun j u hu => by
          have hj : j < 5 := (List.getElem?_eq_some_iff.1 hu).1
          rw [h7 j hj, hu], h6, p', hy⟩)
      subst hl
      refine ⟨some a, l, cap, rfl, hlc, ?_, fun m hm => ?_, ?_⟩
      · have hm63 : l.length ≤ 9223372036854775807 := by have : maxLen = 9223372036854775807 := rfl; omega
        exact ⟨rfl, hm63, fun _ => ⟨a, rfl, fun j p hj => ⟨p.cs, rfl, kMeta_mk W p, fun i u hu => by
          show W.cell? (a.add (j * 5 + i)) = some u
          rw [← add_add]; exact (hq j p hj).1 i u hu⟩⟩⟩
      · obtain ⟨i, hi⟩ := List.mem_iff_getElem?.1 hm
        obtain ⟨_, h1, p', h2⟩ := hq i m hi
        refine ⟨h1, ?_⟩
        have h3 := bulk_mem (elems.map (·.1)) (dMeta m) (List.mem_map.2 ⟨_, List.mem_of_getElem? h2, rfl⟩)
        rw [Rows.uptoBulk]
        have h4 : m.low.size + m.high.size ≤ Rows.uptoBulk (dMeta (H := H) m) := by
          simp only [dMeta, Rows.uptoBulk, Rows.uptoBulkAll]
          have e1 : m.low.data.toList.length = m.low.size := by rw [Array.length_toList]; rfl
          have e2 : m.high.data.toList.length = m.high.size := by rw [Array.length_toList]; rfl
          omega
        omega
      · rw [Rows.uptoBulk]
        have := bulk_len (elems.map (·.1))
        rw [List.length_map, e1] at this
        omega

set_option maxRecDepth 100000 in
set_option maxHeartbeats 1000000 in
/-- an edit that is handed in -/
theorem trod_edit2 {H : Type} {enc : TypeId × Value → H} {W : World} {base : Nat} {spare : Nat → Bool} {held : Bool} {fuel : Nat} {v : Value} {d : DataW H} {p : List MemPlace} (hv : ∃ cs, v = .agg cs)
    (h : DataW.trod enc Try.prog W base spare held fuel 57 v.cells.toList = some (d, p)) : ∃ D dl dc A l c seq next, v = .agg #[.slice D dl.length dc, .slice A l.length c, .int .i64 seq, .int .i64 next] ∧ ReadsInt W .i64 D dl.length dl ∧ l.length ≤ c ∧ Kd.C kMeta W A l.length l ∧ (∀ m ∈ l, wfMeta m ∧ m.low.size ≤ Rows.uptoBulk d ∧ m.high.size ≤ Rows.uptoBulk d) ∧ (∀ m ∈ dl, inI64 m) ∧ inI64 seq ∧ inI64 next ∧ dl.length + l.length ≤ Rows.uptoBulk d := by
  obtain ⟨cs, rfl⟩ := hv
  have hcs : (Value.agg cs).cells.toList = cs.toList := rfl
  rw [hcs] at h
  cases fuel with
  | zero => simp [DataW.trod] at h
  | succ fuel =>
    unfold DataW.trod at h
    rw [Try.underlying57] at h
    have hc : Try.prog.cellsOf 57 = 4 := by kernel_rfl
    have hi : Try.prog.cellsOf 3 = 1 := by kernel_rfl
    have hs : Try.prog.cellsOf 36 = 1 := by kernel_rfl
    have hd : Try.prog.cellsOf 55 = 1 := by kernel_rfl
    simp only [hc] at h
    by_cases hl : cs.toList.length = 4
    · rw [if_pos hl] at h
      obtain ⟨v0, v1, v2, v3, hcl⟩ : ∃ v0 v1 v2 v3, cs.toList = [v0, v1, v2, v3] := by
        generalize cs.toList = L at hl
        rcases L with _ | ⟨v0, _ | ⟨v1, _ | ⟨v2, _ | ⟨v3, _ | ⟨v4, r⟩⟩⟩⟩⟩ <;> simp at hl
        exact ⟨v0, v1, v2, v3, rfl⟩
      rw [hcl] at h
      obtain ⟨xs, h1, h2⟩ := Option.map_eq_some_iff.1 h
      obtain ⟨e1, e2⟩ := mapM_each _ _ _ h1
      obtain ⟨y0, f0, g0⟩ := e2 0 _ rfl
      obtain ⟨y1, f1, g1⟩ := e2 1 _ rfl
      obtain ⟨y2, f2, g2⟩ := e2 2 _ rfl
      obtain ⟨y3, f3, g3⟩ := e2 3 _ rfl
      simp only [hi, hs, hd, List.drop_zero, List.drop_succ_cons, List.take_succ_cons, List.take_zero] at f0 f1 f2 f3
      obtain ⟨d0, p0⟩ := y0
      obtain ⟨d1, p1⟩ := y1
      obtain ⟨d2, p2⟩ := y2
      obtain ⟨d3, p3⟩ := y3
      obtain ⟨D, dl, dc, rfl, _, j2, j3, j4⟩ := trod_ints f0
      obtain ⟨A, l, c, rfl, k1, k2, k3, k4⟩ := trod_metas2 f1
      obtain ⟨n2, rfl, rfl, w2⟩ := trod_int Try.underlying3 f2
      obtain ⟨n3, rfl, rfl, w3⟩ := trod_int Try.underlying3 f3
      have hx : ∃ r, xs = (d0, p0) :: (d1, p1) :: r := by
        rcases xs with _ | ⟨x, _ | ⟨y, r⟩⟩
        · simp at g0
        · simp at g1
        · exact ⟨r, by simp at g0 g1; rw [g0, g1]⟩
      obtain ⟨r, hx⟩ := hx
      rw [hx] at h2
      have h3 := (Prod.mk.inj h2).1
      have hbd : Rows.uptoBulk d0 + Rows.uptoBulk d1 ≤ Rows.uptoBulk d := by
        rw [← h3, Rows.uptoBulk, List.map_cons, List.map_cons, Rows.uptoBulkAll, Rows.uptoBulkAll]
        dsimp only
        omega
      refine ⟨D, dl, dc, A, l, c, n2, n3, ?_, j2, k1, k2, fun m hm => ⟨(k3 m hm).1, by have := (k3 m hm).2.1; omega, by have := (k3 m hm).2.2; omega⟩, j3, inI64_of_wf w2, inI64_of_wf w3, ?_⟩
      · congr 1
        exact Array.toList_inj.1 hcl
      · omega
    · rw [if_neg hl] at h; cases h
set_option maxRecDepth 100000 in
theorem trod_bytes {H : Type} {enc : TypeId × Value → H} {W : World} {base : Nat} {spare : Nat → Bool} {held : Bool} {fuel : Nat} {v : Value} {d : DataW H} {p : List MemPlace}
    (h : DataW.trod enc Try.prog W base spare held fuel 83 [v] = some (d, p)) : ∃ (A : Option Addr) (l : List Nat) (c : Nat), v = .slice A l.length c ∧ l.length ≤ c ∧ ReadsInt W .u8 A l.length (nb l) ∧ Bytes l ∧ l.length ≤ Rows.uptoBulk d := by
  cases fuel with
  | zero => simp [DataW.trod] at h
  | succ fuel =>
    rcases trod_slice Try.underlying83 h with ⟨rfl, rfl⟩ | ⟨a, len, cap, elems, rest, rfl, hlc, hcm, rfl, hm⟩
    · exact ⟨none, [], 0, rfl, Nat.le_refl _, ReadsInt.nil _ _, fun m hm => by simp at hm, by simp⟩
    · have hc : Try.prog.cellsOf 5 = 1 := by kernel_rfl
      rw [hc] at hm
      obtain ⟨e1, e2⟩ := mapM_each _ _ _ hm
      rw [List.length_range] at e1
      obtain ⟨l, hl, hq⟩ := list_of len (fun i (n : Nat) => W.cell? (a.add i) = some (.int .u8 (n : Int)) ∧ n < 256) (fun i hi => by
        obtain ⟨y, h1, h2⟩ := e2 i i (by rw [List.getElem?_range hi])
        obtain ⟨cs, h3, h4⟩ := Option.bind_eq_some_iff.1 h1
        obtain ⟨_, h6, h7⟩ := World.cells?_some h3
        obtain ⟨v, rfl⟩ : ∃ v, cs = [v] := List.length_eq_one_iff.1 h6
        obtain ⟨d', p'⟩ := y
        obtain ⟨n, rfl, _, h5⟩ := trod_int Try.underlying5 h4
        have hx : 0 ≤ n ∧ n ≤ 255 := by simpa [Lit.wf, IntKind.min, IntKind.max, IntKind.signed, IntKind.bits] using h5
        refine ⟨n.toNat, ?_, by omega⟩
        rw [show ((n.toNat : Nat) : Int) = n by omega]
        have := h7 0 (by omega)
        rw [add_add, Nat.mul_one] at this
        simpa using this)
      subst hl
      refine ⟨some a, l, cap, rfl, hlc, ⟨nb_len l, by have : maxLen = 9223372036854775807 := rfl; omega, fun _ => ⟨a, rfl, fun j hj => ?_⟩⟩, fun m hm => ?_, ?_⟩
      · have hj2 : l[j]? = some (l.getD j 0) := by rw [List.getD_eq_getElem?_getD, List.getElem?_eq_getElem hj]; rfl
        have := (hq j _ hj2).1
        rw [this]
        simp [nb, List.getD_eq_getElem?_getD, List.getElem?_map, List.getElem?_eq_getElem hj]
      · obtain ⟨i, hi⟩ := List.mem_iff_getElem?.1 hm
        exact (hq i m hi).2
      · rw [Rows.uptoBulk]
        have := bulk_len (elems.map (·.1))
        rw [List.length_map, e1] at this
        omega

end Go.Proofs.Ytelnhecpcjoonaa.Lift
