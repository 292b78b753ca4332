/- What an edit makes of a version: a version of one's own, or nothing and an error's number. -/
import Derived.Test.YtelnhecpcjoonaaApplyD
namespace Go.Proofs.Ytelnhecpcjoonaa.Edit
set_option linter.unusedVariables false
set_option linter.unusedSimpArgs false
open Go.RowKit Go.Proofs.YtelnhecpcjoonaaW.PrintWords Go.Proofs.YtelnhecpcjoonaaW.PrintLast Go.Proofs.Ytelnhecpcjoonaa.Base Go.Proofs.Ytelnhecpcjoonaa.EditPure Go.Proofs.Ytelnhecpcjoonaa.Sets Go.Proofs.Ytelnhecpcjoonaa.Wide Go.Proofs.Ytelnhecpcjoonaa.Cells

theorem set3_cell {w : World} {g : Nat} {x y z v : Value} {a : Addr} (h : w.cell? a = some v) (hne : a.block < g) : (((w.setCell ⟨g, 0, none⟩ x).setCell ⟨g, 1, none⟩ y).setCell ⟨g, 2, none⟩ z).cell? a = some v := by
  rw [World.cell?_setCell_far _ _ _ _ (by show g ≠ a.block; omega), World.cell?_setCell_far _ _ _ _ (by show g ≠ a.block; omega), World.cell?_setCell_far _ _ _ _ (by show g ≠ a.block; omega)]
  exact h
theorem set4_cell {w : World} {g : Nat} {x y z u v : Value} {a : Addr} (h : w.cell? a = some v) (hne : a.block < g) : ((((w.setCell ⟨g, 0, none⟩ x).setCell ⟨g, 1, none⟩ y).setCell ⟨g, 2, none⟩ z).setCell ⟨g, 3, none⟩ u).cell? a = some v := by
  rw [World.cell?_setCell_far _ _ _ _ (by show g ≠ a.block; omega)]
  exact set3_cell h hne

/-- the version in a result: that of the tables L, or none -/
structure Out (t : TypeId) (E : Int) (L : List Meta) (seq next : Int) (base : Nat) (w : World) (A : Option Addr) (n c : Nat) (a b : Int) : Prop where
  yes : E = 0 → n = L.length ∧ a = seq ∧ b = next ∧ RM t w base (.slice A n c) L
  no : E ≠ 0 → A = none ∧ n = 0 ∧ c = 0 ∧ a = 0 ∧ b = 0
section
variable {t : TypeId} {E : Int} {L : List Meta} {seq next : Int} {base : Nat} {w : World} {A : Option Addr} {n c : Nat} {a b : Int}
theorem Out.set3 (h : Out t E L seq next base w A n c a b) {g : Nat} (hp : g < base) (x y z : Value) : Out t E L seq next base (((w.setCell ⟨g, 0, none⟩ x).setCell ⟨g, 1, none⟩ y).setCell ⟨g, 2, none⟩ z) A n c a b :=
  ⟨fun e => ⟨(h.yes e).1, (h.yes e).2.1, (h.yes e).2.2.1, Rset3 (h.yes e).2.2.2 hp x y z⟩, h.no⟩
theorem Out.alloc (h : Out t E L seq next base w A n c a b) (o : Obj) : Out t E L seq next base (w.alloc o) A n c a b :=
  ⟨fun e => ⟨(h.yes e).1, (h.yes e).2.1, (h.yes e).2.2.1, Kd.R_alloc (h.yes e).2.2.2 _⟩, h.no⟩
theorem Out.below (h : Out t E L seq next base w A n c a b) {w' : World} (hb : Below w.heap.size w w') : Out t E L seq next base w' A n c a b :=
  ⟨fun e => ⟨(h.yes e).1, (h.yes e).2.1, (h.yes e).2.2.1, Kd.R_below (h.yes e).2.2.2 hb⟩, h.no⟩
theorem Out.lower (h : Out t E L seq next base w A n c a b) {base' : Nat} (hb : base' ≤ base) : Out t E L seq next base' w A n c a b :=
  ⟨fun e => ⟨(h.yes e).1, (h.yes e).2.1, (h.yes e).2.2.1, Kd.R_lower (h.yes e).2.2.2 hb⟩, h.no⟩
end

theorem apply_out (A B D : Option Addr) (c bc dc : Nat) (l add : List Meta) (drop : List Int) (seq next seq' next' E : Int) (L : List Meta) (w : World) (hE : E = applyE l seq next drop add seq' next') (hL : L = applyL l drop add)
    (hr : Kd.C kMeta w A l.length l) (hc : l.length ≤ c) (hw : ∀ m ∈ l, inI64 m.id) (hra : Kd.C kMeta w B add.length add) (hwa : ∀ m ∈ add, inI64 m.id) (hd : ReadsInt w .i64 D drop.length drop) (hb : l.length + add.length ≤ 1048576) (hdl : drop.length ≤ 1048576) :
    Calls Try.prog 21 #[.agg #[.slice A l.length c, .int .i64 seq, .int .i64 next], .agg #[.slice D drop.length dc, .slice B add.length bc, .int .i64 seq', .int .i64 next']] w fun e w' => (∃ A' n c' a b, e = .returned (.tuple #[.agg #[.slice A' n c', .int .i64 a, .int .i64 b], .int .i64 E]) ∧ Out 63 E L seq' next' w.heap.size w' A' n c' a b) ∧ Below w.heap.size w w' := by
  refine (apply_any A B D c bc dc l add drop seq next seq' next' w hr hc hw hra hwa hd hb hdl).mono fun e w' h => ?_
  rw [← hE, ← hL] at h
  refine ⟨?_, h.2⟩
  rcases h.1 with ⟨h0, v, he, ho⟩ | ⟨h0, he⟩
  · obtain ⟨A', c', rfl, h1, h2⟩ := RM_reads ho
    exact ⟨A', _, c', _, _, by rw [he, h0], fun _ => ⟨rfl, rfl, rfl, ho⟩, fun h => absurd h0 h⟩
  · exact ⟨none, 0, 0, 0, 0, he, fun h => absurd h h0, fun _ => ⟨rfl, rfl, rfl, rfl, rfl⟩⟩
end Go.Proofs.Ytelnhecpcjoonaa.Edit
