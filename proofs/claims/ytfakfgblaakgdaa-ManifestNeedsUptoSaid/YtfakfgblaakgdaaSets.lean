/- A map from whole numbers or texts to bools that the call itself makes, read as a set. Over any program. -/
import Derived.Test.YtfakfgblaakgdaaBase
import Derived.Maps.OwnOps
import Derived.Maps.OwnSet
import Derived.StringKeys
namespace Go.Proofs.Ytfakfgblaakgdaa.Sets
set_option linter.unusedVariables false
open Go.RowKit Go.Maps Go.Proofs.Ytfakfgblaakgdaa.Base

def inI64 (x : Int) : Prop := -9223372036854775808 ≤ x ∧ x ≤ 9223372036854775807
theorem wf_i64' {x : Int} (h : inI64 x) : (Lit.int .i64 x).wf = true := WalkArith.wf_i64 h
theorem inI64_of_wf {x : Int} (h : (Lit.int .i64 x).wf = true) : inI64 x := by
  simpa [Lit.wf, IntKind.min, IntKind.max, IntKind.signed, IntKind.bits, inI64] using h

section
variable {P : Program} {k e : TypeId} {w : World} {b : Nat}

/-- what a list of keys reads as -/
def setD (l : List Lit) : DataW Unit := setOf (.lit (.bool true)) l

theorem atKey_setD (k : Lit) (hk : WideAt.IsKeyLit k) (l : List Lit) (h : ∀ x ∈ l, WideAt.IsKeyLit x) : (setD l).atKey k (.lit (.bool false)) = .lit (.bool (l.any fun x => x.sameKey k)) := by
  induction l using snocInd with
  | h0 => rfl
  | h1 l c ih =>
    have ih := ih (fun x hx => h x (by simp [hx]))
    have hc := h c (by simp)
    unfold setD at ih ⊢
    rw [setOf_snoc]
    by_cases e : k = c
    · subst e
      rw [atKey_put_same (tidy_setOf _ l (fun x hx => h x (by simp [hx]))).isMap hk]
      have : k.sameKey k = true := by
        have := has_put_same (H := Unit) (D := .map []) isMap_empty hk (.lit (.bool true))
        simpa [has, DataW.put, DataW.insert] using this
      simp [this]
    · rw [atKey_put_other e, ih]
      simp [sameKey_ne (Ne.symm e)]

/-- block b is a map that reads as a set of keys -/
def SetL (P : Program) (k e : TypeId) (w : World) (b : Nat) (l : List Lit) : Prop :=
  w.ownsMap (H := Unit) P k (plainElem P e) b l.length (setD l) ∧ ∀ x ∈ l, WideAt.IsKeyLit x

theorem SetL.made (w : World) (P : Program) (k e : TypeId) : SetL P k e (w.alloc (.map #[] 0)) w.heap.size [] :=
  ⟨World.ownsMap_made w P k _, fun x hx => by simp at hx⟩
theorem SetL.lt {l : List Lit} (h : SetL P k e w b l) : b < w.heap.size := h.1.lt
theorem SetL.alloc {l : List Lit} (h : SetL P k e w b l) (o : Obj) : SetL P k e (w.alloc o) b l := ⟨h.1.alloc o, h.2⟩
theorem SetL.drew {l : List Lit} (h : SetL P k e w b l) : SetL P k e w.drew b l := ⟨h.1.drew, h.2⟩
theorem SetL.drewN {l : List Lit} (h : SetL P k e w b l) (n : Nat) : SetL P k e (w.drewN n) b l := ⟨h.1.kept (grown_drewN (grown_refl _ none) n) (by simp), h.2⟩
theorem SetL.below {w' : World} {l : List Lit} (h : SetL P k e w b l) (hb : Below w.heap.size w w') : SetL P k e w' b l := ⟨h.1.kept (Go.Proofs.YtfakfgblaakgdaaW.PrintWords.grown_of_below hb none) (by simp), h.2⟩
theorem SetL.grown {w' : World} {r : Option Nat} {l : List Lit} (h : SetL P k e w b l) (hg : w.grownBy w' r) (hr : some b ≠ r) : SetL P k e w' b l := ⟨h.1.kept hg hr, h.2⟩
theorem SetL.setCell {l : List Lit} (h : SetL P k e w b l) {a : Addr} (ha : b ≠ a.block) (u : Value) : SetL P k e (w.setCell a u) b l := ⟨h.1.setCell ha u, h.2⟩

theorem SetL.lookup {t : TypeId} {l : List Lit} (h : SetL P k e w b l) (K : Keyed P k) (ht : P.underlying t = some (.map k e)) (he : P.underlying e = some .bool) (hz : (zeroValue e).run P w = .ok (.bool false) w)
    {key : Value} {kl : Lit} (hkey : keyOf P k key = some kl) (hk : WideAt.IsKeyLit kl) : (Instr.lookup t (.map (some b)) key false).run P w = .ok (.bool (l.any fun x => x.sameKey kl)) w := by
  obtain ⟨v, ps, hrun, hv⟩ := h.1.lookup K ht hz (plainElem_bool he false) hkey
  rw [atKey_setD kl hk l h.2] at hv
  have : v = .bool (l.any fun x => x.sameKey kl) := by
    unfold plainElem at hv
    rw [he] at hv
    cases v <;> simp at hv
    rw [hv.1]
  rw [← this]; exact hrun

theorem SetL.update {t : TypeId} {l : List Lit} (h : SetL P k e w b l) (K : Keyed P k) (ht : P.underlying t = some (.map k e)) (he : P.underlying e = some .bool) (hn : l.length < maxLen)
    {key : Value} {kl : Lit} (hkey : keyOf P k key = some kl) (hk : WideAt.IsKeyLit kl) :
    ∃ w', (Instr.mapUpdate t (.map (some b)) key (.bool true)).run P w = .ok () w' ∧ SetL P k e w' b (l ++ [kl]) ∧ w.grownBy w' (some b) := by
  obtain ⟨w', hrun, r1, r2⟩ := h.1.update K ht hn hkey (plainElem_bool he true)
  refine ⟨w', hrun, ⟨?_, fun x hx => ?_⟩, r2⟩
  · unfold setD at r1 ⊢
    rw [setOf_snoc, List.length_append]
    exact r1
  · rcases List.mem_append.1 hx with hx | hx
    · exact h.2 x hx
    · rw [List.mem_singleton.1 hx]; exact hk

theorem wpList_want {ops : Array Oper} {rest : List Oper} {o : Oper} {a : Act} {Q : Exit → Act → World → Prop} (hw : Region.wanted o (yielded ops a.tmps) = true)
    (h : o.wp P a w (wpList P ops Q rest) Q) : wpList P ops Q (o :: rest) a w := by
  rw [wpList, if_pos hw]; exact Or.inl h

/-- 'm[k]' at the operation -/
theorem wpList_lookup_set {ops : Array Oper} {rest : List Oper} {o : Oper} {a : Act} {Q : Exit → Act → World → Prop}
    (hg : Region.wanted o (yielded ops a.tmps) = true) (m x : Operand) (t : TypeId) (hop : o.op = Op.lookup t m x false)
    (k e : TypeId) (K : Keyed P k) (ht : P.underlying t = some (.map k e)) (he : P.underlying e = some .bool) (hz : (zeroValue e).run P w = .ok (.bool false) w) (b : Nat) (l : List Lit)
    (hm : a.eval m = .map (some b)) (hown : SetL P k e w b l) (key : Value) (kl : Lit) (hx : a.eval x = key) (hkey : keyOf P k key = some kl) (hk : WideAt.IsKeyLit kl)
    (hK : wpList P ops Q rest (a.put o.dst (.bool (l.any fun x => x.sameKey kl))) w) :
    wpList P ops Q (o :: rest) a w := by
  refine wpList_want hg ?_
  have hrun := hown.lookup K ht he hz hkey hk
  unfold Oper.wp
  simp [execOp, hop, hm, hx, hrun, Result.andThen]
  exact hK

/-- 'm[k] = true' at the operation -/
theorem wpList_update_set {ops : Array Oper} {rest : List Oper} {o : Oper} {a : Act} {Q : Exit → Act → World → Prop}
    (hg : Region.wanted o (yielded ops a.tmps) = true) (m x v : Operand) (t : TypeId) (hop : o.op = Op.mapUpdate t m x v)
    (k e : TypeId) (K : Keyed P k) (ht : P.underlying t = some (.map k e)) (he : P.underlying e = some .bool) (b : Nat) (l : List Lit)
    (hm : a.eval m = .map (some b)) (hown : SetL P k e w b l) (hn : l.length < maxLen) (key : Value) (kl : Lit) (hx : a.eval x = key) (hv : a.eval v = .bool true) (hkey : keyOf P k key = some kl) (hk : WideAt.IsKeyLit kl)
    (hK : ∀ w', SetL P k e w' b (l ++ [kl]) → w.grownBy w' (some b) → wpList P ops Q rest (a.put o.dst undef) w') :
    wpList P ops Q (o :: rest) a w := by
  refine wpList_want hg ?_
  obtain ⟨w', hrun, r1, r2⟩ := hown.update K ht he hn hkey hk
  unfold Oper.wp
  simp [execOp, hop, hm, hx, hv, hrun, Result.andThen]
  exact hK w' r1 r2
end

/-- whole numbers as keys -/
def ilits (l : List Int) : List Lit := l.map (Lit.int .i64)
theorem any_ilits (l : List Int) (x : Int) : ((ilits l).any fun y => y.sameKey (.int .i64 x)) = l.any (fun y => y == x) := by
  unfold ilits
  rw [List.any_map]
  congr 1
  funext y
  by_cases h : y = x
  · subst h; simp [Lit.sameKey]
  · rw [show ((fun y : Lit => y.sameKey (.int .i64 x)) ∘ Lit.int .i64) y = (Lit.int .i64 y).sameKey (.int .i64 x) from rfl, sameKey_ne (by simpa using h)]
    simp [h]
end Go.Proofs.Ytfakfgblaakgdaa.Sets
