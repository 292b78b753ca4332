/- A block of tables that is sorted in place: its elements read and exchanged; the comparer. -/
import Derived.Test.YtelnhecpcjoonaaEditE
import Derived.Test.YtelnhecpcjoonaaCells
namespace Go.Proofs.Ytelnhecpcjoonaa.Edit
set_option linter.unusedVariables false
set_option linter.unusedSimpArgs false
open Go.RowKit Go.Proofs.YtelnhecpcjoonaaW.PrintWords Go.Proofs.YtelnhecpcjoonaaW.PrintLast Go.Proofs.Ytelnhecpcjoonaa.Base Go.Proofs.Ytelnhecpcjoonaa.EditPure Go.Proofs.Ytelnhecpcjoonaa.Sets Go.Proofs.Ytelnhecpcjoonaa.Wide Go.Proofs.Ytelnhecpcjoonaa.Cells

/-- block g holds the tables L (and room behind them) -/
def MRow (w : World) (g cap : Nat) (L : List Meta) : Prop :=
  ∃ cur : Array Value, w.heap[g]? = some (.cells cur 63 (0, 0)) ∧ cur.size = cap * 5 ∧ L.length ≤ cap ∧ cur.toList.take (L.length * 5) = L.flatMap Meta.cs

theorem flat_len (L : List Meta) : (L.flatMap Meta.cs).length = L.length * 5 := by
  induction L with
  | nil => rfl
  | cons m L ih => rw [List.flatMap_cons, List.length_append, ih, List.length_cons, Nat.succ_mul, Nat.add_comm]; rfl
theorem flat_get (L : List Meta) (i : Nat) (m : Meta) (h : L[i]? = some m) (j : Nat) (hj : j < 5) : (L.flatMap Meta.cs)[i * 5 + j]? = m.cs[j]? := by
  induction L generalizing i with
  | nil => simp at h
  | cons a L ih =>
    rw [List.flatMap_cons]
    cases i with
    | zero =>
      simp at h
      subst h
      rw [List.getElem?_append_left (by simp [Meta.cs]; omega)]
      simp
    | succ i =>
      rw [List.getElem?_append_right (by simp [Meta.cs]; omega)]
      have := ih i (by simpa using h)
      rw [← this]
      congr 1
      simp [Meta.cs]
      omega
theorem MRow.cell {w : World} {g cap : Nat} {L : List Meta} (h : MRow w g cap L) (i : Nat) (m : Meta) (hi : L[i]? = some m) (j : Nat) (hj : j < 5) : w.cell? ⟨g, i * 5 + j, none⟩ = m.cs[j]? := by
  obtain ⟨cur, h1, h2, h3, h4⟩ := h
  rw [blk_cell h1]
  have hil : i < L.length := (List.getElem?_eq_some_iff.1 hi).1
  rw [← flat_get L i m hi j hj, ← h4, List.getElem?_take, if_pos (by omega), Array.getElem?_toList]
theorem MRow.froz {w : World} {g cap : Nat} {L : List Meta} (h : MRow w g cap L) (i : Nat) : w.frozen? ⟨g, i, none⟩ = false := by
  obtain ⟨cur, h1, h2, h3, h4⟩ := h
  exact blk_frozen h1 i
theorem MRow.lt {w : World} {g cap : Nat} {L : List Meta} (h : MRow w g cap L) : g < w.heap.size := by
  obtain ⟨cur, h1, _⟩ := h
  exact blk_lt h1
theorem MRow.keep {w w1 : World} {g cap : Nat} {L : List Meta} (h : MRow w g cap L) (hb : Below w.heap.size w w1) : MRow w1 g cap L := by
  obtain ⟨cur, h1, h2⟩ := h
  exact ⟨cur, blk_keep h1 hb, h2⟩
/-- the five stores of a table into element i -/
def put5 (w : World) (g o : Nat) (m : Meta) : World :=
  ((((w.setCell ⟨g, o, none⟩ (.int .i64 m.id)).setCell ⟨g, o + 1, none⟩ (.int .i64 m.level)).setCell ⟨g, o + 2, none⟩ (.int .i64 m.count)).setCell ⟨g, o + 3, none⟩ (.string m.low)).setCell ⟨g, o + 4, none⟩ (.string m.high)
theorem flat_set (L : List Meta) (i : Nat) (m : Meta) (h : i < L.length) :
    (L.set i m).flatMap Meta.cs = (((((L.flatMap Meta.cs).set (i * 5) (.int .i64 m.id)).set (i * 5 + 1) (.int .i64 m.level)).set (i * 5 + 2) (.int .i64 m.count)).set (i * 5 + 3) (.string m.low)).set (i * 5 + 4) (.string m.high) := by
  induction L generalizing i with
  | nil => simp at h
  | cons a L ih =>
    cases i with
    | zero => simp [List.flatMap_cons, Meta.cs]
    | succ i =>
      have := ih i (by simpa using h)
      rw [List.set_cons_succ, List.flatMap_cons, List.flatMap_cons, this]
      have e : ∀ (X : List Value) (j : Nat) (v : Value), (a.cs ++ X).set ((i + 1) * 5 + j) v = a.cs ++ X.set (i * 5 + j) v := by
        intro X j v
        rw [List.set_append_right _ _ (by simp [Meta.cs]; omega)]
        congr 2
        simp [Meta.cs]
        omega
      have e0 := fun X v => e X 0 v
      simp only [Nat.add_zero] at e0
      rw [e0, e, e, e, e]
theorem MRow.set {w : World} {g cap : Nat} {L : List Meta} (h : MRow w g cap L) (i : Nat) (m : Meta) (hi : i < L.length) : MRow (put5 w g (i * 5) m) g cap (L.set i m) := by
  obtain ⟨cur, h1, h2, h3, h4⟩ := h
  refine ⟨((((cur.setIfInBounds (i * 5) (.int .i64 m.id)).setIfInBounds (i * 5 + 1) (.int .i64 m.level)).setIfInBounds (i * 5 + 2) (.int .i64 m.count)).setIfInBounds (i * 5 + 3) (.string m.low)).setIfInBounds (i * 5 + 4) (.string m.high), ?_, by simpa using h2, by simpa using h3, ?_⟩
  · exact blk_put (blk_put (blk_put (blk_put (blk_put h1 _ _ rfl) _ _ rfl) _ _ rfl) _ _ rfl) _ _ rfl
  · rw [flat_set L i m hi, ← h4, List.length_set]
    simp only [Array.toList_setIfInBounds, List.take_set]
/-- only block g has turned -/
theorem put5_grown (w : World) (g o : Nat) (m : Meta) : w.grownBy (put5 w g o m) (some g) := by
  have e : ∀ (w0 : World) (a : Addr) (v : Value), a.block = g → w0.grownBy (w0.setCell a v) (some g) := fun w0 a v ha => ⟨rfl, rfl, rfl, by simp [World.setCell], fun k _ hk => Below.heap_setCell w0 a v k (fun e => hk (by rw [e, ha]))⟩
  unfold put5
  exact grown_trans (grown_trans (grown_trans (grown_trans (e _ _ _ rfl) (e _ _ _ rfl)) (e _ _ _ rfl)) (e _ _ _ rfl)) (e _ _ _ rfl)
theorem put5_far (w : World) (g o p : Nat) (m : Meta) (h : p < o ∨ o + 5 ≤ p) : (put5 w g o m).cell? ⟨g, p, none⟩ = w.cell? ⟨g, p, none⟩ := by
  have e : ∀ (w0 : World) (q : Nat) (v : Value), p ≠ q → (w0.setCell ⟨g, q, none⟩ v).cell? ⟨g, p, none⟩ = w0.cell? ⟨g, p, none⟩ := fun w0 q v hq => World.cell?_setCell_other w0 _ _ v (by intro e; injection e with _ e2; exact hq e2.symm)
  unfold put5
  rw [e _ _ _ (by omega), e _ _ _ (by omega), e _ _ _ (by omega), e _ _ _ (by omega), e _ _ _ (by omega)]
theorem put5_froz (w : World) (g o p : Nat) (m : Meta) : (put5 w g o m).frozen? ⟨g, p, none⟩ = w.frozen? ⟨g, p, none⟩ := by
  unfold put5
  simp [go_sem]
theorem MRow.cells {w : World} {g cap : Nat} {L : List Meta} (h : MRow w g cap L) (i : Nat) (m : Meta) (hi : L[i]? = some m) :
    w.cell? ⟨g, i * 5, none⟩ = some (.int .i64 m.id) ∧ w.cell? ⟨g, i * 5 + 1, none⟩ = some (.int .i64 m.level) ∧ w.cell? ⟨g, i * 5 + 2, none⟩ = some (.int .i64 m.count) ∧ w.cell? ⟨g, i * 5 + 3, none⟩ = some (.string m.low) ∧ w.cell? ⟨g, i * 5 + 4, none⟩ = some (.string m.high) :=
  ⟨h.cell i m hi 0 (by omega), h.cell i m hi 1 (by omega), h.cell i m hi 2 (by omega), h.cell i m hi 3 (by omega), h.cell i m hi 4 (by omega)⟩
/-- the cells of q behind the stores into p -/
theorem MRow.behind {w : World} {g cap : Nat} {L : List Meta} (h : MRow w g cap L) (p q : Nat) (y m : Meta) (hq : L[q]? = some y) (hne : p ≠ q) :
    (put5 w g (p * 5) m).cell? ⟨g, q * 5, none⟩ = some (.int .i64 y.id) ∧ (put5 w g (p * 5) m).cell? ⟨g, q * 5 + 1, none⟩ = some (.int .i64 y.level) ∧ (put5 w g (p * 5) m).cell? ⟨g, q * 5 + 2, none⟩ = some (.int .i64 y.count) ∧ (put5 w g (p * 5) m).cell? ⟨g, q * 5 + 3, none⟩ = some (.string y.low) ∧ (put5 w g (p * 5) m).cell? ⟨g, q * 5 + 4, none⟩ = some (.string y.high) := by
  obtain ⟨b0, b1, b2, b3, b4⟩ := h.cells q y hq
  have hd : q * 5 + 4 < p * 5 ∨ p * 5 + 5 ≤ q * 5 := by omega
  exact ⟨(put5_far w g (p * 5) (q * 5) m (by omega)).trans b0, (put5_far w g (p * 5) (q * 5 + 1) m (by omega)).trans b1, (put5_far w g (p * 5) (q * 5 + 2) m (by omega)).trans b2, (put5_far w g (p * 5) (q * 5 + 3) m (by omega)).trans b3, (put5_far w g (p * 5) (q * 5 + 4) m (by omega)).trans b4⟩
theorem MRow.drew {w : World} {g cap : Nat} {L : List Meta} (h : MRow w g cap L) : MRow w.drew g cap L := h
/-- two tables exchanged -/
theorem MRow.exch {w : World} {g cap : Nat} {L : List Meta} (h : MRow w g cap L) (p q : Nat) (x y : Meta) (hp : p < L.length) (hq : q < L.length) :
    MRow (put5 (put5 w g (p * 5) y) g (q * 5) x).drew g cap ((L.set p y).set q x) := ((h.set p y hp).set q x (by simpa using hq)).drew
theorem exch_grown (w : World) (g o p : Nat) (x y : Meta) : w.grownBy (put5 (put5 w g o y) g p x).drew (some g) :=
  grown_drew (grown_trans (put5_grown w g o y) (put5_grown _ g p x))
theorem set_mid {α : Type} (A B : List α) (u v : α) (n : Nat) (h : n = A.length) : (A ++ u :: B).set n v = A ++ v :: B := by subst h; simp
theorem get_mid {α : Type} (A B : List α) (u : α) (n : Nat) (h : n = A.length) : (A ++ u :: B)[n]? = some u := by subst h; simp
end Go.Proofs.Ytelnhecpcjoonaa.Edit
