/- A part of the proof: Small words that all my walks use: what grows and stays of memory. No program. -/
import Derived.Test.YtfakfgblaakgdaaPkRuns1
import Derived.Test.YtfakfgblaakgdaaWWords
import Derived.Test.YtfakfgblaakgdaaWLast
import Derived.Maps.OwnOps
import Derived.Maps.OwnSet
import Derived.StringKeys
import Derived.Test.YtfakfgblaakgdaaRows
import Derived.Test.YtfakfgblaakgdaaProg
import Derived.WalkKit
import Derived.ProofKit
import Derived.OpenShut
import Derived.ShutString
import Derived.ChangeOld
import Derived.Below
import Derived.SizedLaws
import Derived.KernelRfl
import Derived.WalkLawsBesides
import Derived.Deep.QuietTactic
import Derived.BigQuiet
import Derived.Deep.LoopGhost
import Derived.Lib.ConvBytes
import Derived.Deep.RegionLaw
import Derived.Deep.RegionHeld3
import Derived.Deep.DeepCutAuto
import Derived.Deep.CutBlock

/- Small words that all my walks use: what grows and stays of memory. No program. -/
namespace Go.Proofs.Ytfakfgblaakgdaa.Base
open Go.RowKit Go.Proofs.YtfakfgblaakgdaaW.PrintWords Go.Proofs.YtfakfgblaakgdaaW.PrintLast

theorem grown_refl (w : World) (r : Option Nat) : w.grownBy w r := ⟨rfl, rfl, rfl, Nat.le_refl _, fun _ _ _ => rfl⟩
theorem grown_trans {a b c : World} {r : Option Nat} (h : a.grownBy b r) (k : b.grownBy c r) : a.grownBy c r :=
  ⟨k.os.trans h.os, k.tape.trans h.tape, k.output.trans h.output, Nat.le_trans h.size k.size, fun i hi hr => (k.block i (Nat.lt_of_lt_of_le hi h.size) hr).trans (h.block i hi hr)⟩
theorem grown_drew {a b : World} {r : Option Nat} (h : a.grownBy b r) : a.grownBy b.drew r := ⟨h.os, h.tape, h.output, h.size, h.block⟩
theorem grown_drewN {a b : World} {r : Option Nat} (h : a.grownBy b r) (n : Nat) : a.grownBy (b.drewN n) r := ⟨h.os, h.tape, h.output, h.size, h.block⟩
theorem grown_alloc {a b : World} {r : Option Nat} (h : a.grownBy b r) (o : Obj) : a.grownBy (b.alloc o) r := grown_trans h (World.grownBy_alloc _ o r)
/-- what was made since w, of a row that lies behind w: nothing of w has turned -/
theorem below_of_grown {w a b : World} {r : Option Nat} (hb : Below w.heap.size w a) (hg : a.grownBy b r) (hr : ∀ k, r = some k → w.heap.size ≤ k) : Below w.heap.size w b := hb.grown hg hb.size hr
theorem below_set {w a : World} (hb : Below w.heap.size w a) {p : Addr} (hp : w.heap.size ≤ p.block) (u : Value) : Below w.heap.size w (a.setCell p u) := hb.setCell hp u
theorem bcell {W w1 : World} (hb : Below W.heap.size W w1) : (∀ b o, b < W.heap.size → w1.cell? ⟨b, o, none⟩ = W.cell? ⟨b, o, none⟩) ∧ (∀ b o, b < W.heap.size → w1.frozen? ⟨b, o, none⟩ = W.frozen? ⟨b, o, none⟩) :=
  ⟨fun b o h => hb.cell (p := ⟨b, o, none⟩) h, fun b o h => hb.frozen (p := ⟨b, o, none⟩) h⟩
theorem bthen {w a b : World} (h : Below w.heap.size w a) (k : Below a.heap.size a b) : Below w.heap.size w b := below_then h h.size k
theorem new_cell (w : World) (cs : Array Value) (e : TypeId) (j : Nat) (v : Value) (h : cs[j]? = some v) : (w.alloc (.cells cs e)).cell? ⟨w.heap.size, j, none⟩ = some v := by
  rw [blk_cell (heap_alloc_new w _)]; exact h
/-- a cell of the block that was made last, behind what left all blocks as they were -/
theorem new_later {w w1 : World} {cs : Array Value} {e : TypeId} (hb : Below (w.alloc (.cells cs e)).heap.size (w.alloc (.cells cs e)) w1) (j : Nat) (v : Value) (h : cs[j]? = some v) : w1.cell? ⟨w.heap.size, j, none⟩ = some v :=
  (hb.cell (p := ⟨w.heap.size, j, none⟩) (by simp)).trans (new_cell w cs e j v h)
/-- an elder cell, behind a new block and what left all blocks as they were -/
theorem old_later {w w1 : World} {o : Obj} (hb : Below (w.alloc o).heap.size (w.alloc o) w1) {a : Addr} {v : Value} (h : w.cell? a = some v) : w1.cell? a = some v := by
  have hl := World.block_lt_of_cell? w a h
  refine (hb.cell (p := a) (by simp; omega)).trans ?_
  rw [World.cell?_of_block (Below.heap_alloc w o a.block hl)]; exact h
/-- a value with a name, its equation put aside -/
theorem named {α : Type} (x : α) : ∃ y, Aside0 (y = x) := ⟨x, ⟨rfl⟩⟩

theorem snocInd {α : Type} {p : List α → Prop} (h0 : p []) (h1 : ∀ l c, p l → p (l ++ [c])) (l : List α) : p l := by
  have h : ∀ l : List α, p l.reverse := by
    intro l
    induction l with
    | nil => exact h0
    | cons c l ih => rw [List.reverse_cons]; exact h1 _ _ ih
  have := h l.reverse
  rwa [List.reverse_reverse] at this
end Go.Proofs.Ytfakfgblaakgdaa.Base

/- Versions and edits of chapter 11 as plain data, and what the page asks of them. No program. -/
namespace Go.Proofs.Ytfakfgblaakgdaa.EditPure
open Go.RowKit Go.Proofs.YtfakfgblaakgdaaW.PrintWords Go.Proofs.YtfakfgblaakgdaaW.PrintLast Go.Proofs.Ytfakfgblaakgdaa.Base

/-- a text comes before another one -/
def sLt (a b : ByteArray) : Bool := Op.bytesLess a.toList b.toList

structure Meta where
  id : Int
  level : Int
  count : Int
  low : ByteArray
  high : ByteArray

instance : Inhabited Meta := ⟨⟨0, 0, 0, ⟨#[]⟩, ⟨#[]⟩⟩⟩

def zMeta : Meta := ⟨0, 0, 0, ⟨#[]⟩, ⟨#[]⟩⟩
def kMeta : Kd Meta := Kd.iso (Kd.pair (Kd.int .i64) (Kd.pair (Kd.int .i64) (Kd.pair (Kd.int .i64) (Kd.pair Kd.string Kd.string)))) (fun x : Meta => (x.id, x.level, x.count, x.low, x.high))
/-- a table's cells -/
def Meta.cs (m : Meta) : List Value := [.int .i64 m.id, .int .i64 m.level, .int .i64 m.count, .string m.low, .string m.high]
theorem kMeta_open {w : World} {x : Meta} {cs : List Value} (h : kMeta.K w x cs) : cs = x.cs := by
  obtain ⟨_, _, rfl, rfl, ⟨_, _, rfl, rfl, ⟨_, _, rfl, rfl, ⟨_, _, rfl, rfl, rfl⟩⟩⟩⟩ := h
  exact rfl
theorem kMeta_openM {w : World} {base : Nat} {ok : Nat → Prop} {x : Meta} {cs : List Value} (h : kMeta.M w base ok x cs) : cs = x.cs := by
  obtain ⟨_, _, rfl, rfl, ⟨_, _, rfl, rfl, ⟨_, _, rfl, rfl, ⟨_, _, rfl, rfl, rfl⟩⟩⟩⟩ := h
  exact rfl
theorem kMeta_mk (w : World) (x : Meta) : kMeta.K w x x.cs := ⟨[.int .i64 x.id], [.int .i64 x.level, .int .i64 x.count, .string x.low, .string x.high], rfl, rfl, ⟨[.int .i64 x.level], [.int .i64 x.count, .string x.low, .string x.high], rfl, rfl, ⟨[.int .i64 x.count], [.string x.low, .string x.high], rfl, rfl, ⟨[.string x.low], [.string x.high], rfl, rfl, rfl⟩⟩⟩⟩
theorem kMeta_mkM (w : World) (base : Nat) (ok : Nat → Prop) (x : Meta) : kMeta.M w base ok x x.cs := ⟨[.int .i64 x.id], [.int .i64 x.level, .int .i64 x.count, .string x.low, .string x.high], rfl, rfl, ⟨[.int .i64 x.level], [.int .i64 x.count, .string x.low, .string x.high], rfl, rfl, ⟨[.int .i64 x.count], [.string x.low, .string x.high], rfl, rfl, ⟨[.string x.low], [.string x.high], rfl, rfl, rfl⟩⟩⟩⟩

/-- three-way comparing -/
def cmpI (a b : Int) : Int := if a < b then -1 else if b < a then 1 else 0
def cmpS (a b : ByteArray) : Int := if sLt a b then -1 else if sLt b a then 1 else 0
/-- the order of tables: by level; the first by age, the others by key -/
def ord (a b : Meta) : Int := if cmpI a.level b.level != 0 then cmpI a.level b.level else if a.level == 0 then cmpI b.id a.id else cmpS a.low b.low

def within (n lo hi : Int) : Bool := decide (lo ≤ n) && decide (n ≤ hi)
def keyOk (s : ByteArray) : Bool := decide (1 ≤ s.size) && decide (s.size ≤ 96)
/-- may a table be -/
def mayM (m : Meta) : Bool := within m.id 1 2147483647 && (within m.level 0 3 && (within m.count 1 4096 && (keyOk m.low && (keyOk m.high && !sLt m.high m.low))))

/-- the cells of element i of a row of tables that is read -/
theorem atMeta {w : World} {A : Option Addr} {n : Nat} {xs : List Meta} (h : Kd.C kMeta w A n xs) (i : Nat) (m : Meta) (hi : xs[i]? = some m) :
    ∃ ad, A = some ad ∧ w.cell? (ad.add (i * 5)) = some (.int .i64 m.id) ∧ w.cell? ⟨(ad.add (i * 5)).block, (ad.add (i * 5)).off + 1, none⟩ = some (.int .i64 m.level) ∧ w.cell? ⟨(ad.add (i * 5)).block, (ad.add (i * 5)).off + 2, none⟩ = some (.int .i64 m.count) ∧ w.cell? ⟨(ad.add (i * 5)).block, (ad.add (i * 5)).off + 3, none⟩ = some (.string m.low) ∧ w.cell? ⟨(ad.add (i * 5)).block, (ad.add (i * 5)).off + 4, none⟩ = some (.string m.high) := by
  have hlt : i < xs.length := (List.getElem?_eq_some_iff.1 hi).1
  have hn := Kd.C_len h
  obtain ⟨ad, c, e, _, hK, hc0⟩ := Kd.C_get h zMeta (i : Int) (by omega) (by omega)
  have hg : xs.getD (i : Int).toNat zMeta = m := by rw [Int.toNat_natCast, List.getD_eq_getElem?_getD, hi]; rfl
  rw [hg] at hK
  rw [Int.toNat_natCast] at hc0
  have hc : ∀ j u, c[j]? = some u → w.cell? (ad.add (i * 5 + j)) = some u := hc0
  obtain rfl := kMeta_open hK
  exact ⟨ad, e, hc 0 _ rfl, by rw [← add_field _ _ 1 (by omega)]; exact hc 1 _ rfl, by rw [← add_field _ _ 2 (by omega)]; exact hc 2 _ rfl, by rw [← add_field _ _ 3 (by omega)]; exact hc 3 _ rfl, by rw [← add_field _ _ 4 (by omega)]; exact hc 4 _ rfl⟩

/-- of a table behind others: what a version that may be asks of it -/
def stepOk (next : Int) (pre : List Meta) (m : Meta) : Bool :=
  mayM m && (decide (m.id < next) && !(pre.any fun x => x.id == m.id))
def linkOk (l m : Meta) : Bool := decide (ord l m < 0) && (m.level == 0 || (m.level != l.level || sLt l.high m.low))
def lastOk (pre : List Meta) (m : Meta) : Bool := match pre.getLast? with | none => true | some l => linkOk l m
/-- the tables up to i may be -/
def okTo (next : Int) (l : List Meta) : Nat → Bool
  | 0 => true
  | i + 1 => okTo next l i && (stepOk next (l.take i) (l.getD i zMeta) && lastOk (l.take i) (l.getD i zMeta))
def headOk (n : Nat) (seq next : Int) : Bool := decide (n ≤ 256) && (within next 1 2147483647 && within seq 0 1099511627776)
/-- may a version be -/
def verOk (l : List Meta) (seq next : Int) : Bool := headOk l.length seq next && okTo next l l.length
/-- its error's number -/
def verE (l : List Meta) (seq next : Int) : Int := if verOk l seq next then 0 else 9
end Go.Proofs.Ytfakfgblaakgdaa.EditPure

/- A map from whole numbers or texts to bools that the call itself makes, read as a set. Over any program. -/
namespace Go.Proofs.Ytfakfgblaakgdaa.Sets
set_option linter.unusedVariables false
open Go.RowKit Go.Maps Go.Proofs.Ytfakfgblaakgdaa.Base

def inI64 (x : Int) : Prop := -9223372036854775808 ≤ x ∧ x ≤ 9223372036854775807
theorem wf_i64' {x : Int} (h : inI64 x) : (Lit.int .i64 x).wf = true := WalkArith.wf_i64 h
theorem inI64_of_wf {x : Int} (h : (Lit.int .i64 x).wf = true) : inI64 x := by
  simpa [Lit.wf, IntKind.min, IntKind.max, IntKind.signed, IntKind.bits, inI64] using h

section
variable {P : Program} {k e : TypeId} {w : World} {b : Nat}

/-- what a list of keys reads as -/
def setD (l : List Lit) : DataW Unit := setOf (.lit (.bool true)) l

theorem atKey_setD (k : Lit) (hk : WideAt.IsKeyLit k) (l : List Lit) (h : ∀ x ∈ l, WideAt.IsKeyLit x) : (setD l).atKey k (.lit (.bool false)) = .lit (.bool (l.any fun x => x.sameKey k)) := by
  induction l using snocInd with
  | h0 => rfl
  | h1 l c ih =>
    have ih := ih (fun x hx => h x (by simp [hx]))
    have hc := h c (by simp)
    unfold setD at ih ⊢
    rw [setOf_snoc]
    by_cases e : k = c
    · subst e
      rw [atKey_put_same (tidy_setOf _ l (fun x hx => h x (by simp [hx]))).isMap hk]
      have : k.sameKey k = true := by
        have := has_put_same (H := Unit) (D := .map []) isMap_empty hk (.lit (.bool true))
        simpa [has, DataW.put, DataW.insert] using this
      simp [this]
    · rw [atKey_put_other e, ih]
      simp [sameKey_ne (Ne.symm e)]

/-- block b is a map that reads as a set of keys -/
def SetL (P : Program) (k e : TypeId) (w : World) (b : Nat) (l : List Lit) : Prop :=
  w.ownsMap (H := Unit) P k (plainElem P e) b l.length (setD l) ∧ ∀ x ∈ l, WideAt.IsKeyLit x

theorem SetL.made (w : World) (P : Program) (k e : TypeId) : SetL P k e (w.alloc (.map #[] 0)) w.heap.size [] :=
  ⟨World.ownsMap_made w P k _, fun x hx => by simp at hx⟩
theorem SetL.lt {l : List Lit} (h : SetL P k e w b l) : b < w.heap.size := h.1.lt
theorem SetL.alloc {l : List Lit} (h : SetL P k e w b l) (o : Obj) : SetL P k e (w.alloc o) b l := ⟨h.1.alloc o, h.2⟩
theorem SetL.drew {l : List Lit} (h : SetL P k e w b l) : SetL P k e w.drew b l := ⟨h.1.drew, h.2⟩
theorem SetL.drewN {l : List Lit} (h : SetL P k e w b l) (n : Nat) : SetL P k e (w.drewN n) b l := ⟨h.1.kept (grown_drewN (grown_refl _ none) n) (by simp), h.2⟩
theorem SetL.below {w' : World} {l : List Lit} (h : SetL P k e w b l) (hb : Below w.heap.size w w') : SetL P k e w' b l := ⟨h.1.kept (Go.Proofs.YtfakfgblaakgdaaW.PrintWords.grown_of_below hb none) (by simp), h.2⟩
theorem SetL.grown {w' : World} {r : Option Nat} {l : List Lit} (h : SetL P k e w b l) (hg : w.grownBy w' r) (hr : some b ≠ r) : SetL P k e w' b l := ⟨h.1.kept hg hr, h.2⟩
theorem SetL.setCell {l : List Lit} (h : SetL P k e w b l) {a : Addr} (ha : b ≠ a.block) (u : Value) : SetL P k e (w.setCell a u) b l := ⟨h.1.setCell ha u, h.2⟩

theorem SetL.lookup {t : TypeId} {l : List Lit} (h : SetL P k e w b l) (K : Keyed P k) (ht : P.underlying t = some (.map k e)) (he : P.underlying e = some .bool) (hz : (zeroValue e).run P w = .ok (.bool false) w)
    {key : Value} {kl : Lit} (hkey : keyOf P k key = some kl) (hk : WideAt.IsKeyLit kl) : (Instr.lookup t (.map (some b)) key false).run P w = .ok (.bool (l.any fun x => x.sameKey kl)) w := by
  obtain ⟨v, ps, hrun, hv⟩ := h.1.lookup K ht hz (plainElem_bool he false) hkey
  rw [atKey_setD kl hk l h.2] at hv
  have : v = .bool (l.any fun x => x.sameKey kl) := by
    unfold plainElem at hv
    rw [he] at hv
    cases v <;> simp at hv
    rw [hv.1]
  rw [← this]; exact hrun

theorem SetL.update {t : TypeId} {l : List Lit} (h : SetL P k e w b l) (K : Keyed P k) (ht : P.underlying t = some (.map k e)) (he : P.underlying e = some .bool) (hn : l.length < maxLen)
    {key : Value} {kl : Lit} (hkey : keyOf P k key = some kl) (hk : WideAt.IsKeyLit kl) :
    ∃ w', (Instr.mapUpdate t (.map (some b)) key (.bool true)).run P w = .ok () w' ∧ SetL P k e w' b (l ++ [kl]) ∧ w.grownBy w' (some b) := by
  obtain ⟨w', hrun, r1, r2⟩ := h.1.update K ht hn hkey (plainElem_bool he true)
  refine ⟨w', hrun, ⟨?_, fun x hx => ?_⟩, r2⟩
  · unfold setD at r1 ⊢
    rw [setOf_snoc, List.length_append]
    exact r1
  · rcases List.mem_append.1 hx with hx | hx
    · exact h.2 x hx
    · rw [List.mem_singleton.1 hx]; exact hk

theorem wpList_want {ops : Array Oper} {rest : List Oper} {o : Oper} {a : Act} {Q : Exit → Act → World → Prop} (hw : Region.wanted o (yielded ops a.tmps) = true)
    (h : o.wp P a w (wpList P ops Q rest) Q) : wpList P ops Q (o :: rest) a w := by
  rw [wpList, if_pos hw]; exact Or.inl h

/-- 'm[k]' at the operation -/
theorem wpList_lookup_set {ops : Array Oper} {rest : List Oper} {o : Oper} {a : Act} {Q : Exit → Act → World → Prop}
    (hg : Region.wanted o (yielded ops a.tmps) = true) (m x : Operand) (t : TypeId) (hop : o.op = Op.lookup t m x false)
    (k e : TypeId) (K : Keyed P k) (ht : P.underlying t = some (.map k e)) (he : P.underlying e = some .bool) (hz : (zeroValue e).run P w = .ok (.bool false) w) (b : Nat) (l : List Lit)
    (hm : a.eval m = .map (some b)) (hown : SetL P k e w b l) (key : Value) (kl : Lit) (hx : a.eval x = key) (hkey : keyOf P k key = some kl) (hk : WideAt.IsKeyLit kl)
    (hK : wpList P ops Q rest (a.put o.dst (.bool (l.any fun x => x.sameKey kl))) w) :
    wpList P ops Q (o :: rest) a w := by
  refine wpList_want hg ?_
  have hrun := hown.lookup K ht he hz hkey hk
  unfold Oper.wp
  simp [execOp, hop, hm, hx, hrun, Result.andThen]
  exact hK

/-- 'm[k] = true' at the operation -/
theorem wpList_update_set {ops : Array Oper} {rest : List Oper} {o : Oper} {a : Act} {Q : Exit → Act → World → Prop}
    (hg : Region.wanted o (yielded ops a.tmps) = true) (m x v : Operand) (t : TypeId) (hop : o.op = Op.mapUpdate t m x v)
    (k e : TypeId) (K : Keyed P k) (ht : P.underlying t = some (.map k e)) (he : P.underlying e = some .bool) (b : Nat) (l : List Lit)
    (hm : a.eval m = .map (some b)) (hown : SetL P k e w b l) (hn : l.length < maxLen) (key : Value) (kl : Lit) (hx : a.eval x = key) (hv : a.eval v = .bool true) (hkey : keyOf P k key = some kl) (hk : WideAt.IsKeyLit kl)
    (hK : ∀ w', SetL P k e w' b (l ++ [kl]) → w.grownBy w' (some b) → wpList P ops Q rest (a.put o.dst undef) w') :
    wpList P ops Q (o :: rest) a w := by
  refine wpList_want hg ?_
  obtain ⟨w', hrun, r1, r2⟩ := hown.update K ht he hn hkey hk
  unfold Oper.wp
  simp [execOp, hop, hm, hx, hv, hrun, Result.andThen]
  exact hK w' r1 r2
end

/-- whole numbers as keys -/
def ilits (l : List Int) : List Lit := l.map (Lit.int .i64)
theorem any_ilits (l : List Int) (x : Int) : ((ilits l).any fun y => y.sameKey (.int .i64 x)) = l.any (fun y => y == x) := by
  unfold ilits
  rw [List.any_map]
  congr 1
  funext y
  by_cases h : y = x
  · subst h; simp [Lit.sameKey]
  · rw [show ((fun y : Lit => y.sameKey (.int .i64 x)) ∘ Lit.int .i64) y = (Lit.int .i64 y).sameKey (.int .i64 x) from rfl, sameKey_ne (by simpa using h)]
    simp [h]
end Go.Proofs.Ytfakfgblaakgdaa.Sets

/- What a law's row hands in, read: a version of chapter 11 out of 'DataW.trod'. -/
namespace Go.Proofs.Ytfakfgblaakgdaa.Lift
set_option linter.unusedVariables false
open Go.ChangeShapes Go.WideShapes Go.ChangeAt Go.RowKit Go.Proofs.YtfakfgblaakgdaaW.PrintWords Go.Proofs.YtfakfgblaakgdaaW.PrintLast Go.Proofs.Ytfakfgblaakgdaa.Base Go.Proofs.Ytfakfgblaakgdaa.EditPure Go.Proofs.Ytfakfgblaakgdaa.Sets

section
variable {H : Type} {enc : TypeId × Value → H} {P : Program} {W : World} {base : Nat} {spare : Nat → Bool} {held : Bool}
theorem trod_int {t : TypeId} {k : IntKind} (hu : P.underlying t = some (.int k)) {fuel : Nat} {v : Value} {d : DataW H} {p : List MemPlace} (h : DataW.trod enc P W base spare held fuel t [v] = some (d, p)) : ∃ n, v = .int k n ∧ d = .lit (.int k n) ∧ (Lit.int k n).wf = true := by
  cases fuel with
  | zero => simp [DataW.trod] at h
  | succ fuel =>
    unfold DataW.trod at h
    rw [hu] at h
    cases v <;> simp at h
    rename_i k' n
    exact ⟨n, by rw [h.1.1], h.2.1.symm, h.1.2⟩
theorem trod_str {t : TypeId} (hu : P.underlying t = some .string) {fuel : Nat} {v : Value} {d : DataW H} {p : List MemPlace} (h : DataW.trod enc P W base spare held fuel t [v] = some (d, p)) : ∃ s, v = .string s ∧ d = .lit (.string s.data.toList) := by
  cases fuel with
  | zero => simp [DataW.trod] at h
  | succ fuel =>
    unfold DataW.trod at h
    rw [hu] at h
    cases v <;> simp at h
    rename_i s
    exact ⟨s, rfl, h.2.1.symm⟩
/-- a slice: nothing, or its elements one by one -/
theorem trod_slice {t e : TypeId} (hu : P.underlying t = some (.slice e)) {fuel : Nat} {v : Value} {d : DataW H} {p : List MemPlace} (h : DataW.trod enc P W base spare held (fuel + 1) t [v] = some (d, p)) :
    (v = .slice none 0 0 ∧ d = .nil) ∨ ∃ (a : Addr) (len cap : Nat) (elems rest : List (DataW H × List MemPlace)), v = .slice (some a) len cap ∧ len ≤ cap ∧ cap ≤ maxLen ∧ d = .slice (elems.map (·.1)) (rest.map (·.1)) ∧ (List.range len).mapM (fun i => (W.cells? base (a.add (i * P.cellsOf e)) (P.cellsOf e)).bind (DataW.trod enc P W base spare held fuel e)) = some elems := by
  unfold DataW.trod at h
  rw [hu] at h
  cases v with
  | slice a len cap =>
    cases a with
    | none =>
      cases len <;> cases cap <;> simp at h
      exact .inl ⟨rfl, h.1.symm⟩
    | some a =>
      refine .inr ?_
      simp only at h
      by_cases hc : base ≤ a.block ∧ len ≤ cap ∧ cap ≤ maxLen
      · rw [if_pos hc] at h
        obtain ⟨elems, h1, h2⟩ := Option.bind_eq_some_iff.1 h
        obtain ⟨rest, h3, h4⟩ := Option.map_eq_some_iff.1 h2
        exact ⟨a, len, cap, elems, rest, rfl, hc.2.1, hc.2.2, (Prod.mk.inj h4).1.symm, h1⟩
      · rw [if_neg hc] at h; cases h
  | _ => simp at h
theorem mapM_each {α β : Type} (f : α → Option β) : ∀ (l : List α) (ys : List β), l.mapM f = some ys → ys.length = l.length ∧ ∀ (i : Nat) (x : α), l[i]? = some x → ∃ y, f x = some y ∧ ys[i]? = some y
  | [], ys, h => by
    simp at h
    subst h
    exact ⟨rfl, fun i x hx => by simp at hx⟩
  | a :: l, ys, h => by
    rw [List.mapM_cons] at h
    obtain ⟨y, h1, h2⟩ := Option.bind_eq_some_iff.1 h
    obtain ⟨zs, h3, h4⟩ := Option.bind_eq_some_iff.1 h2
    have h5 : ys = y :: zs := by simpa using h4.symm
    subst h5
    obtain ⟨e1, e2⟩ := mapM_each f l zs h3
    refine ⟨by simp [e1], fun i x hx => ?_⟩
    cases i with
    | zero => simp at hx; subst hx; exact ⟨y, h1, rfl⟩
    | succ i => exact e2 i x (by simpa using hx)
end

/-- what a table reads as -/
def dMeta {H : Type} (m : Meta) : DataW H := .agg [.lit (.int .i64 m.id), .lit (.int .i64 m.level), .lit (.int .i64 m.count), .lit (.string m.low.data.toList), .lit (.string m.high.data.toList)]
def wfMeta (m : Meta) : Prop := inI64 m.id ∧ inI64 m.level ∧ inI64 m.count
set_option maxRecDepth 100000 in
set_option maxHeartbeats 1000000 in
theorem trod_meta {H : Type} {enc : TypeId × Value → H} {W : World} {base : Nat} {spare : Nat → Bool} {held : Bool} {fuel : Nat} {cs : List Value} {d : DataW H} {p : List MemPlace}
    (h : DataW.trod enc Try.prog W base spare held fuel 48 cs = some (d, p)) : ∃ m : Meta, cs = m.cs ∧ d = dMeta m ∧ wfMeta m := by
  cases fuel with
  | zero => simp [DataW.trod] at h
  | succ fuel =>
    unfold DataW.trod at h
    rw [Try.underlying48] at h
    have hc : Try.prog.cellsOf 48 = 5 := by kernel_rfl
    have hi : Try.prog.cellsOf 3 = 1 := by kernel_rfl
    have hs : Try.prog.cellsOf 9 = 1 := by kernel_rfl
    simp only [hc] at h
    by_cases hl : cs.length = 5
    · rw [if_pos hl] at h
      obtain ⟨v0, v1, v2, v3, v4, rfl⟩ : ∃ v0 v1 v2 v3 v4, cs = [v0, v1, v2, v3, v4] := by
        rcases cs with _ | ⟨v0, _ | ⟨v1, _ | ⟨v2, _ | ⟨v3, _ | ⟨v4, _ | ⟨v5, r⟩⟩⟩⟩⟩⟩ <;> simp at hl
        exact ⟨v0, v1, v2, v3, v4, rfl⟩
      obtain ⟨xs, h1, h2⟩ := Option.map_eq_some_iff.1 h
      obtain ⟨e1, e2⟩ := mapM_each _ _ _ h1
      obtain ⟨y0, f0, g0⟩ := e2 0 _ rfl
      obtain ⟨y1, f1, g1⟩ := e2 1 _ rfl
      obtain ⟨y2, f2, g2⟩ := e2 2 _ rfl
      obtain ⟨y3, f3, g3⟩ := e2 3 _ rfl
      obtain ⟨y4, f4, g4⟩ := e2 4 _ rfl
      simp only [hi, hs, List.drop_zero, List.drop_succ_cons, List.take_succ_cons, List.take_zero] at f0 f1 f2 f3 f4
      obtain ⟨d0, p0⟩ := y0
      obtain ⟨d1, p1⟩ := y1
      obtain ⟨d2, p2⟩ := y2
      obtain ⟨d3, p3⟩ := y3
      obtain ⟨d4, p4⟩ := y4
      obtain ⟨n0, rfl, rfl, w0⟩ := trod_int Try.underlying3 f0
      obtain ⟨n1, rfl, rfl, w1⟩ := trod_int Try.underlying3 f1
      obtain ⟨n2, rfl, rfl, w2⟩ := trod_int Try.underlying3 f2
      obtain ⟨s3, rfl, rfl⟩ := trod_str Try.underlying9 f3
      obtain ⟨s4, rfl, rfl⟩ := trod_str Try.underlying9 f4
      refine ⟨⟨n0, n1, n2, s3, s4⟩, rfl, ?_, inI64_of_wf w0, inI64_of_wf w1, inI64_of_wf w2⟩
      have hx : xs = [(.lit (.int .i64 n0), p0), (.lit (.int .i64 n1), p1), (.lit (.int .i64 n2), p2), (.lit (.string s3.data.toList), p3), (.lit (.string s4.data.toList), p4)] := by
        have e1' : xs.length = 5 := e1
        apply List.ext_getElem?
        intro i
        rcases i with _ | _ | _ | _ | _ | i
        · rw [g0]; rfl
        · rw [g1]; rfl
        · rw [g2]; rfl
        · rw [g3]; rfl
        · rw [g4]; rfl
        · rw [List.getElem?_eq_none (by omega)]; simp
      rw [hx] at h2
      exact (Prod.mk.inj h2).1.symm
    · rw [if_neg hl] at h; cases h

theorem list_of {α : Type} (n : Nat) (Q : Nat → α → Prop) (h : ∀ i, i < n → ∃ x, Q i x) : ∃ l : List α, l.length = n ∧ ∀ (i : Nat) (x : α), l[i]? = some x → Q i x := by
  induction n with
  | zero => exact ⟨[], rfl, fun i x hx => by simp at hx⟩
  | succ n ih =>
    obtain ⟨l, h1, h2⟩ := ih (fun i hi => h i (by omega))
    obtain ⟨x, hx⟩ := h n (by omega)
    refine ⟨l ++ [x], by simp [h1], fun i y hy => ?_⟩
    by_cases hi : i < l.length
    · rw [List.getElem?_append_left hi] at hy; exact h2 i y hy
    · rw [List.getElem?_append_right (by omega)] at hy
      have h3 : i - l.length < 1 := (List.getElem?_eq_some_iff.1 hy).1
      have h4 : i = n := by omega
      rw [show i - l.length = 0 by omega] at hy
      have h5 : x = y := by simpa using hy
      rw [← h5, h4]; exact hx

theorem bulk_len {H : Type} (l : List (DataW H)) : l.length ≤ Rows.uptoBulkAll l := by
  induction l with
  | nil => simp
  | cons d l ih =>
    rw [Rows.uptoBulkAll, List.length_cons]
    have : 1 ≤ Rows.uptoBulk d := by
      cases d with
      | lit x => cases x <;> simp [Rows.uptoBulk]
      | _ => simp [Rows.uptoBulk]
    omega

set_option maxRecDepth 100000 in
theorem trod_metas {H : Type} {enc : TypeId × Value → H} {W : World} {base : Nat} {spare : Nat → Bool} {held : Bool} {fuel : Nat} {v : Value} {d : DataW H} {p : List MemPlace}
    (h : DataW.trod enc Try.prog W base spare held fuel 26 [v] = some (d, p)) : ∃ A l c, v = .slice A l.length c ∧ l.length ≤ c ∧ Kd.C kMeta W A l.length l ∧ (∀ m ∈ l, wfMeta m) ∧ l.length ≤ Rows.uptoBulk d := by
  cases fuel with
  | zero => simp [DataW.trod] at h
  | succ fuel =>
    rcases trod_slice Try.underlying26 h with ⟨rfl, rfl⟩ | ⟨a, len, cap, elems, rest, rfl, hlc, hcm, rfl, hm⟩
    · exact ⟨none, [], 0, rfl, Nat.le_refl _, ⟨rfl, by simp, fun h => absurd h (Nat.lt_irrefl 0)⟩, fun m hm => by simp at hm, by simp⟩
    · have hc : Try.prog.cellsOf 48 = 5 := by kernel_rfl
      rw [hc] at hm
      obtain ⟨e1, e2⟩ := mapM_each _ _ _ hm
      rw [List.length_range] at e1
      obtain ⟨l, hl, hq⟩ := list_of len (fun i (m : Meta) => (∀ j u, m.cs[j]? = some u → W.cell? ((a.add (i * 5)).add j) = some u) ∧ wfMeta m) (fun i hi => by
        obtain ⟨y, h1, h2⟩ := e2 i i (by rw [List.getElem?_range hi])
        obtain ⟨cs, h3, h4⟩ := Option.bind_eq_some_iff.1 h1
        obtain ⟨d', p'⟩ := y
        obtain ⟨m, rfl, h5, h6⟩ := trod_meta h4
        obtain ⟨_, _, h7⟩ := World.cells?_some h3
        exact ⟨m, fun j u hu => by
          have hj : j < 5 := (List.getElem?_eq_some_iff.1 hu).1
          rw [h7 j hj, hu], h6⟩)
      subst hl
      refine ⟨some a, l, cap, rfl, hlc, ?_, fun m hm => ?_, ?_⟩
      · have hm63 : l.length ≤ 9223372036854775807 := by have : maxLen = 9223372036854775807 := rfl; omega
        exact ⟨rfl, hm63, fun _ => ⟨a, rfl, fun j p hj => ⟨p.cs, rfl, kMeta_mk W p, fun i u hu => by
          show W.cell? (a.add (j * 5 + i)) = some u
          rw [← add_add]; exact (hq j p hj).1 i u hu⟩⟩⟩
      · obtain ⟨i, hi⟩ := List.mem_iff_getElem?.1 hm
        exact (hq i m hi).2
      · rw [Rows.uptoBulk]
        have := bulk_len (elems.map (·.1))
        rw [List.length_map, e1] at this
        omega

set_option maxRecDepth 100000 in
set_option maxHeartbeats 1000000 in
/-- a version that is handed in -/
theorem trod_version {H : Type} {enc : TypeId × Value → H} {W : World} {base : Nat} {spare : Nat → Bool} {held : Bool} {fuel : Nat} {v : Value} {d : DataW H} {p : List MemPlace} (hv : ∃ cs, v = .agg cs)
    (h : DataW.trod enc Try.prog W base spare held fuel 28 v.cells.toList = some (d, p)) : ∃ A l c seq next, v = .agg #[.slice A l.length c, .int .i64 seq, .int .i64 next] ∧ l.length ≤ c ∧ Kd.C kMeta W A l.length l ∧ (∀ m ∈ l, wfMeta m) ∧ inI64 seq ∧ inI64 next ∧ l.length ≤ Rows.uptoBulk d := by
  obtain ⟨cs, rfl⟩ := hv
  have hcs : (Value.agg cs).cells.toList = cs.toList := rfl
  rw [hcs] at h
  cases fuel with
  | zero => simp [DataW.trod] at h
  | succ fuel =>
    unfold DataW.trod at h
    rw [Try.underlying28] at h
    have hc : Try.prog.cellsOf 28 = 3 := by kernel_rfl
    have hi : Try.prog.cellsOf 3 = 1 := by kernel_rfl
    have hs : Try.prog.cellsOf 26 = 1 := by kernel_rfl
    simp only [hc] at h
    by_cases hl : cs.toList.length = 3
    · rw [if_pos hl] at h
      obtain ⟨v0, v1, v2, hcl⟩ : ∃ v0 v1 v2, cs.toList = [v0, v1, v2] := by
        generalize cs.toList = L at hl
        rcases L with _ | ⟨v0, _ | ⟨v1, _ | ⟨v2, _ | ⟨v3, r⟩⟩⟩⟩ <;> simp at hl
        exact ⟨v0, v1, v2, rfl⟩
      rw [hcl] at h
      obtain ⟨xs, h1, h2⟩ := Option.map_eq_some_iff.1 h
      obtain ⟨e1, e2⟩ := mapM_each _ _ _ h1
      obtain ⟨y0, f0, g0⟩ := e2 0 _ rfl
      obtain ⟨y1, f1, g1⟩ := e2 1 _ rfl
      obtain ⟨y2, f2, g2⟩ := e2 2 _ rfl
      simp only [hi, hs, List.drop_zero, List.drop_succ_cons, List.take_succ_cons, List.take_zero] at f0 f1 f2
      obtain ⟨d0, p0⟩ := y0
      obtain ⟨d1, p1⟩ := y1
      obtain ⟨d2, p2⟩ := y2
      obtain ⟨A, l, c, rfl, k1, k2, k3, k4⟩ := trod_metas f0
      obtain ⟨n1, rfl, rfl, w1⟩ := trod_int Try.underlying3 f1
      obtain ⟨n2, rfl, rfl, w2⟩ := trod_int Try.underlying3 f2
      refine ⟨A, l, c, n1, n2, ?_, k1, k2, k3, inI64_of_wf w1, inI64_of_wf w2, ?_⟩
      · congr 1
        exact Array.toList_inj.1 hcl
      · have hx : ∃ r, xs = (d0, p0) :: r := by
          rcases xs with _ | ⟨x, r⟩
          · simp at g0
          · exact ⟨r, by simp at g0; rw [g0]⟩
        obtain ⟨r, hx⟩ := hx
        rw [hx] at h2
        have h3 := (Prod.mk.inj h2).1
        rw [← h3, Rows.uptoBulk, List.map_cons, Rows.uptoBulkAll]
        dsimp only
        omega
    · rw [if_neg hl] at h; cases h
end Go.Proofs.Ytfakfgblaakgdaa.Lift

/- Blocks of a variable of a struct's type, as a whole: what is stored, what is read at the end. No program. -/
namespace Go.Proofs.Ytfakfgblaakgdaa.Cells
open Go.RowKit Go.Proofs.YtfakfgblaakgdaaW.PrintWords Go.Proofs.YtfakfgblaakgdaaW.PrintLast Go.Proofs.Ytfakfgblaakgdaa.Base

theorem blk_new1 (w : World) (o : Obj) (cs : Array Value) (t : TypeId) : ((w.alloc o).alloc (.cells cs t)).heap[w.heap.size + 1]? = some (.cells cs t (0, 0)) := by
  have := heap_alloc_new (w.alloc o) (.cells cs t)
  simpa using this
theorem blk_keep {w w1 : World} {g : Nat} {t : TypeId} {cs : Array Value} (h : w.heap[g]? = some (.cells cs t (0, 0))) (hb : Below w.heap.size w w1) : w1.heap[g]? = some (.cells cs t (0, 0)) := (hb.block g (blk_lt h)).trans h

section
variable {w : World} {g : Nat} {t : TypeId}
/-- the cells of a block that is written -/
theorem all3 {a b c : Value} (h : w.heap[g]? = some (.cells #[a, b, c] t (0, 0))) :
    w.cell? ⟨g, 0, none⟩ = some a ∧ w.cell? ⟨g, 1, none⟩ = some b ∧ w.cell? ⟨g, 2, none⟩ = some c ∧ w.frozen? ⟨g, 0, none⟩ = false ∧ w.frozen? ⟨g, 1, none⟩ = false ∧ w.frozen? ⟨g, 2, none⟩ = false :=
  ⟨blk_cell h 0, blk_cell h 1, blk_cell h 2, blk_frozen h 0, blk_frozen h 1, blk_frozen h 2⟩
theorem all4 {a b c d : Value} (h : w.heap[g]? = some (.cells #[a, b, c, d] t (0, 0))) :
    w.cell? ⟨g, 0, none⟩ = some a ∧ w.cell? ⟨g, 1, none⟩ = some b ∧ w.cell? ⟨g, 2, none⟩ = some c ∧ w.cell? ⟨g, 3, none⟩ = some d ∧ w.frozen? ⟨g, 0, none⟩ = false ∧ w.frozen? ⟨g, 1, none⟩ = false ∧ w.frozen? ⟨g, 2, none⟩ = false ∧ w.frozen? ⟨g, 3, none⟩ = false :=
  ⟨blk_cell h 0, blk_cell h 1, blk_cell h 2, blk_cell h 3, blk_frozen h 0, blk_frozen h 1, blk_frozen h 2, blk_frozen h 3⟩
theorem all5 {a b c d e : Value} (h : w.heap[g]? = some (.cells #[a, b, c, d, e] t (0, 0))) :
    w.cell? ⟨g, 0, none⟩ = some a ∧ w.cell? ⟨g, 1, none⟩ = some b ∧ w.cell? ⟨g, 2, none⟩ = some c ∧ w.cell? ⟨g, 3, none⟩ = some d ∧ w.cell? ⟨g, 4, none⟩ = some e ∧ w.frozen? ⟨g, 0, none⟩ = false ∧ w.frozen? ⟨g, 1, none⟩ = false ∧ w.frozen? ⟨g, 2, none⟩ = false ∧ w.frozen? ⟨g, 3, none⟩ = false ∧ w.frozen? ⟨g, 4, none⟩ = false :=
  ⟨blk_cell h 0, blk_cell h 1, blk_cell h 2, blk_cell h 3, blk_cell h 4, blk_frozen h 0, blk_frozen h 1, blk_frozen h 2, blk_frozen h 3, blk_frozen h 4⟩
theorem blk3 {a b c x y z : Value} (h : w.heap[g]? = some (.cells #[a, b, c] t (0, 0))) :
    (((w.setCell ⟨g, 0, none⟩ x).setCell ⟨g, 1, none⟩ y).setCell ⟨g, 2, none⟩ z).heap[g]? = some (.cells #[x, y, z] t (0, 0)) :=
  blk_put (cs := #[x, y, c]) (blk_put (cs := #[x, b, c]) (blk_put (cs := #[a, b, c]) h 0 x rfl) 1 y rfl) 2 z rfl
theorem blk4 {a b c d x y z u : Value} (h : w.heap[g]? = some (.cells #[a, b, c, d] t (0, 0))) :
    ((((w.setCell ⟨g, 0, none⟩ x).setCell ⟨g, 1, none⟩ y).setCell ⟨g, 2, none⟩ z).setCell ⟨g, 3, none⟩ u).heap[g]? = some (.cells #[x, y, z, u] t (0, 0)) :=
  blk_put (cs := #[x, y, z, d]) (blk3' h) 3 u rfl
where blk3' {a b c d x y z : Value} (h : w.heap[g]? = some (.cells #[a, b, c, d] t (0, 0))) :
    (((w.setCell ⟨g, 0, none⟩ x).setCell ⟨g, 1, none⟩ y).setCell ⟨g, 2, none⟩ z).heap[g]? = some (.cells #[x, y, z, d] t (0, 0)) :=
  blk_put (cs := #[x, y, c, d]) (blk_put (cs := #[x, b, c, d]) (blk_put (cs := #[a, b, c, d]) h 0 x rfl) 1 y rfl) 2 z rfl
theorem blk5 {a b c d e x y z u v : Value} (h : w.heap[g]? = some (.cells #[a, b, c, d, e] t (0, 0))) :
    (((((w.setCell ⟨g, 0, none⟩ x).setCell ⟨g, 1, none⟩ y).setCell ⟨g, 2, none⟩ z).setCell ⟨g, 3, none⟩ u).setCell ⟨g, 4, none⟩ v).heap[g]? = some (.cells #[x, y, z, u, v] t (0, 0)) :=
  blk_put (cs := #[x, y, z, u, e]) (blk_put (cs := #[x, y, z, d, e]) (blk_put (cs := #[x, y, c, d, e]) (blk_put (cs := #[x, b, c, d, e]) (blk_put (cs := #[a, b, c, d, e]) h 0 x rfl) 1 y rfl) 2 z rfl) 3 u rfl) 4 v rfl
/-- nothing below B has turned by stores into block g -/
theorem below_set3 {B : Nat} {w0 : World} (hb : Below B w0 w) (hg : B ≤ g) (x y z : Value) : Below B w0 (((w.setCell ⟨g, 0, none⟩ x).setCell ⟨g, 1, none⟩ y).setCell ⟨g, 2, none⟩ z) :=
  ((hb.setCell (p := ⟨g, 0, none⟩) hg x).setCell (p := ⟨g, 1, none⟩) hg y).setCell (p := ⟨g, 2, none⟩) hg z
theorem below_set4 {B : Nat} {w0 : World} (hb : Below B w0 w) (hg : B ≤ g) (x y z u : Value) : Below B w0 ((((w.setCell ⟨g, 0, none⟩ x).setCell ⟨g, 1, none⟩ y).setCell ⟨g, 2, none⟩ z).setCell ⟨g, 3, none⟩ u) :=
  (below_set3 hb hg x y z).setCell (p := ⟨g, 3, none⟩) hg u
theorem below_set5 {B : Nat} {w0 : World} (hb : Below B w0 w) (hg : B ≤ g) (x y z u v : Value) : Below B w0 (((((w.setCell ⟨g, 0, none⟩ x).setCell ⟨g, 1, none⟩ y).setCell ⟨g, 2, none⟩ z).setCell ⟨g, 3, none⟩ u).setCell ⟨g, 4, none⟩ v) :=
  (below_set4 hb hg x y z u).setCell (p := ⟨g, 4, none⟩) hg v
/-- a row of one's own that lies behind block g stays by stores into g -/
theorem Rset {α : Type} {k : Kd α} {e : TypeId} {base : Nat} {v : Value} {l : List α} (h : k.R e w base (fun _ => True) v l) {p : Addr} (hp : p.block < base) (u : Value) : k.R e (w.setCell p u) base (fun _ => True) v l :=
  Kd.R_mono (Kd.R_far (Kd.R_bound h) (p := p) (fun k hk => by have := hk.2.1; omega) u) (fun _ _ => trivial)
theorem Rset3 {α : Type} {k : Kd α} {e : TypeId} {base : Nat} {v : Value} {l : List α} (h : k.R e w base (fun _ => True) v l) (hp : g < base) (x y z : Value) : k.R e (((w.setCell ⟨g, 0, none⟩ x).setCell ⟨g, 1, none⟩ y).setCell ⟨g, 2, none⟩ z) base (fun _ => True) v l :=
  Rset (Rset (Rset h (p := ⟨g, 0, none⟩) hp x) (p := ⟨g, 1, none⟩) hp y) (p := ⟨g, 2, none⟩) hp z
theorem Rset4 {α : Type} {k : Kd α} {e : TypeId} {base : Nat} {v : Value} {l : List α} (h : k.R e w base (fun _ => True) v l) (hp : g < base) (x y z u : Value) : k.R e ((((w.setCell ⟨g, 0, none⟩ x).setCell ⟨g, 1, none⟩ y).setCell ⟨g, 2, none⟩ z).setCell ⟨g, 3, none⟩ u) base (fun _ => True) v l :=
  Rset (Rset3 h hp x y z) (p := ⟨g, 3, none⟩) hp u
end
end Go.Proofs.Ytfakfgblaakgdaa.Cells

/- Files of chapter 4 as plain data. No program. -/
namespace Go.Proofs.Ytfakfgblaakgdaa.Files
set_option linter.unusedVariables false
set_option linter.unusedSimpArgs false
open Go.RowKit Go.Proofs.YtfakfgblaakgdaaW.PrintWords Go.Proofs.YtfakfgblaakgdaaW.PrintLast Go.Proofs.Ytfakfgblaakgdaa.Base

structure Fl where
  id : Int
  data : List Int
  sync : Int
structure Nm where
  name : ByteArray
  id : Int
structure St where
  cap : Int
  files : List Fl
  names : List Nm
  safe : List Nm
  next : Int
instance : Inhabited Fl := ⟨⟨0, [], 0⟩⟩
instance : Inhabited Nm := ⟨⟨⟨#[]⟩, 0⟩⟩

def zFl : Fl := ⟨0, [], 0⟩
def zNm : Nm := ⟨⟨#[]⟩, 0⟩
def kOct : Kd (List Int) := Kd.slice 5 (Kd.int .u8)
def kFl : Kd Fl := Kd.iso (Kd.pair (Kd.int .i64) (Kd.pair kOct (Kd.int .i64))) (fun x : Fl => (x.id, x.data, x.sync))
def kNm : Kd Nm := Kd.iso (Kd.pair Kd.string (Kd.int .i64)) (fun x : Nm => (x.name, x.id))
def Nm.cs (m : Nm) : List Value := [.string m.name, .int .i64 m.id]
theorem kNm_open {w : World} {x : Nm} {cs : List Value} (h : kNm.K w x cs) : cs = x.cs := by
  obtain ⟨_, _, rfl, rfl, rfl⟩ := h
  exact rfl
theorem kNm_openM {w : World} {base : Nat} {ok : Nat → Prop} {x : Nm} {cs : List Value} (h : kNm.M w base ok x cs) : cs = x.cs := by
  obtain ⟨_, _, rfl, rfl, rfl⟩ := h
  exact rfl
theorem kNm_mk (w : World) (x : Nm) : kNm.K w x x.cs := ⟨[.string x.name], [.int .i64 x.id], rfl, rfl, rfl⟩
theorem kNm_mkM (w : World) (base : Nat) (ok : Nat → Prop) (x : Nm) : kNm.M w base ok x x.cs := ⟨[.string x.name], [.int .i64 x.id], rfl, rfl, rfl⟩
theorem kFl_open {w : World} {x : Fl} {cs : List Value} (h : kFl.K w x cs) : ∃ A c, cs = [.int .i64 x.id, .slice A x.data.length c, .int .i64 x.sync] ∧ x.data.length ≤ c ∧ ReadsInt w .u8 A x.data.length x.data := by
  obtain ⟨_, _, rfl, rfl, ⟨_, _, rfl, ⟨A, c, rfl, hl, hr⟩, rfl⟩⟩ := h
  exact ⟨A, c, rfl, hl, Kd.reads_of_C (d := (0 : Int)) hr⟩
theorem kFl_mk {w : World} {x : Fl} {A : Option Addr} {c : Nat} (hl : x.data.length ≤ c) (hr : ReadsInt w .u8 A x.data.length x.data) : kFl.K w x [.int .i64 x.id, .slice A x.data.length c, .int .i64 x.sync] :=
  ⟨[.int .i64 x.id], [.slice A x.data.length c, .int .i64 x.sync], rfl, rfl, ⟨[.slice A x.data.length c], [.int .i64 x.sync], rfl, ⟨A, c, rfl, hl, Kd.C_of_reads (d := (0 : Int)) hr⟩, rfl⟩⟩
theorem kFl_mkM {w : World} {base : Nat} {ok : Nat → Prop} {x : Fl} {v : Value} (h : (Kd.int .u8).R 5 w base ok v x.data) : kFl.M w base ok x [.int .i64 x.id, v, .int .i64 x.sync] :=
  ⟨[.int .i64 x.id], [v, .int .i64 x.sync], rfl, rfl, ⟨[v], [.int .i64 x.sync], rfl, ⟨v, rfl, h⟩, rfl⟩⟩

/-- the cells of file i of a row that is read -/
theorem atFl {w : World} {A : Option Addr} {n : Nat} {xs : List Fl} (h : kFl.C w A n xs) (i : Nat) (m : Fl) (hi : xs[i]? = some m) :
    ∃ ad D dc, A = some ad ∧ w.cell? (ad.add (i * 3)) = some (.int .i64 m.id) ∧ w.cell? ⟨(ad.add (i * 3)).block, (ad.add (i * 3)).off + 1, none⟩ = some (.slice D m.data.length dc) ∧ w.cell? ⟨(ad.add (i * 3)).block, (ad.add (i * 3)).off + 2, none⟩ = some (.int .i64 m.sync) ∧ m.data.length ≤ dc ∧ ReadsInt w .u8 D m.data.length m.data := by
  have hlt : i < xs.length := (List.getElem?_eq_some_iff.1 hi).1
  have hn := Kd.C_len h
  obtain ⟨ad, c, e, _, hK, hc0⟩ := Kd.C_get h zFl (i : Int) (by omega) (by omega)
  have hg : xs.getD (i : Int).toNat zFl = m := by rw [Int.toNat_natCast, List.getD_eq_getElem?_getD, hi]; rfl
  rw [hg] at hK
  rw [Int.toNat_natCast] at hc0
  have hc : ∀ j u, c[j]? = some u → w.cell? (ad.add (i * 3 + j)) = some u := hc0
  obtain ⟨D, dc, rfl, hl, hr⟩ := kFl_open hK
  exact ⟨ad, D, dc, e, hc 0 _ rfl, by rw [← add_field _ _ 1 (by omega)]; exact hc 1 _ rfl, by rw [← add_field _ _ 2 (by omega)]; exact hc 2 _ rfl, hl, hr⟩
/-- the cells of name i of a row that is read -/
theorem atNm {w : World} {A : Option Addr} {n : Nat} {xs : List Nm} (h : kNm.C w A n xs) (i : Nat) (m : Nm) (hi : xs[i]? = some m) :
    ∃ ad, A = some ad ∧ w.cell? (ad.add (i * 2)) = some (.string m.name) ∧ w.cell? ⟨(ad.add (i * 2)).block, (ad.add (i * 2)).off + 1, none⟩ = some (.int .i64 m.id) := by
  have hlt : i < xs.length := (List.getElem?_eq_some_iff.1 hi).1
  have hn := Kd.C_len h
  obtain ⟨ad, c, e, _, hK, hc0⟩ := Kd.C_get h zNm (i : Int) (by omega) (by omega)
  have hg : xs.getD (i : Int).toNat zNm = m := by rw [Int.toNat_natCast, List.getD_eq_getElem?_getD, hi]; rfl
  rw [hg] at hK
  rw [Int.toNat_natCast] at hc0
  have hc : ∀ j u, c[j]? = some u → w.cell? (ad.add (i * 2 + j)) = some u := hc0
  obtain rfl := kNm_open hK
  exact ⟨ad, e, hc 0 _ rfl, by rw [← add_field _ _ 1 (by omega)]; exact hc 1 _ rfl⟩

/-- a state that is read: where its three rows lie -/
structure Hd (w : World) (s : St) (F : Option Addr) (fc : Nat) (N : Option Addr) (nc : Nat) (S : Option Addr) (sc : Nat) : Prop where
  hF : kFl.C w F s.files.length s.files
  hN : kNm.C w N s.names.length s.names
  hS : kNm.C w S s.safe.length s.safe
  lF : s.files.length ≤ fc
  lN : s.names.length ≤ nc
  lS : s.safe.length ≤ sc
theorem Hd.below {w w1 : World} {s : St} {F N S : Option Addr} {fc nc sc : Nat} (h : Hd w s F fc N nc S sc) (hb : Below w.heap.size w w1) : Hd w1 s F fc N nc S sc :=
  ⟨Kd.C_below h.hF hb, Kd.C_below h.hN hb, Kd.C_below h.hS hb, h.lF, h.lN, h.lS⟩

/-- sizes of a state: nothing of it is too large for the machine -/
structure Small (s : St) : Prop where
  lf : s.files.length ≤ 1048576
  ln : s.names.length ≤ 1048576
  ls : s.safe.length ≤ 1048576
  ld : ∀ f ∈ s.files, f.data.length ≤ 1048576
/-- the whole numbers of a state are whole numbers of the machine -/
structure Wf (s : St) : Prop where
  wn : ∀ n ∈ s.names, -9223372036854775808 ≤ n.id ∧ n.id ≤ 9223372036854775807
  ws : ∀ n ∈ s.safe, -9223372036854775808 ≤ n.id ∧ n.id ≤ 9223372036854775807
end Go.Proofs.Ytfakfgblaakgdaa.Files

/- What a law's row hands in, read: the files of chapter 4 (printed by wip/gen_liftf.py). -/
namespace Go.Proofs.Ytfakfgblaakgdaa.Lift
set_option linter.unusedVariables false
set_option linter.unusedSimpArgs false
open Go.ChangeShapes Go.WideShapes Go.ChangeAt Go.RowKit Go.Proofs.YtfakfgblaakgdaaW.PrintWords Go.Proofs.YtfakfgblaakgdaaW.PrintLast Go.Proofs.Ytfakfgblaakgdaa.Base Go.Proofs.Ytfakfgblaakgdaa.EditPure Go.Proofs.Ytfakfgblaakgdaa.Sets Go.Proofs.Ytfakfgblaakgdaa.Files

theorem bulk_mem {H : Type} : ∀ (l : List (DataW H)) (d : DataW H), d ∈ l → Rows.uptoBulk d ≤ Rows.uptoBulkAll l := by
  intro l
  induction l with
  | nil => intro d h; simp at h
  | cons x l ih =>
    intro d h
    rw [Rows.uptoBulkAll]
    rcases List.mem_cons.1 h with rfl | h
    · omega
    · have := ih d h; omega

set_option maxRecDepth 100000 in
theorem trod_oct {H : Type} {enc : TypeId × Value → H} {W : World} {base : Nat} {spare : Nat → Bool} {held : Bool} {fuel : Nat} {v : Value} {d : DataW H} {p : List MemPlace}
    (h : DataW.trod enc Try.prog W base spare held fuel 62 [v] = some (d, p)) : ∃ A l c, v = .slice A l.length c ∧ l.length ≤ c ∧ ReadsInt W .u8 A l.length l ∧ l.length ≤ Rows.uptoBulk d ∧ ∀ x ∈ l, 0 ≤ x ∧ x ≤ 255 := by
  cases fuel with
  | zero => simp [DataW.trod] at h
  | succ fuel =>
    rcases trod_slice Try.underlying62 h with ⟨rfl, rfl⟩ | ⟨a, len, cap, elems, rest, rfl, hlc, hcm, rfl, hm⟩
    · exact ⟨none, [], 0, rfl, Nat.le_refl _, ReadsInt.nil _ _, by simp, fun m hm => by simp at hm⟩
    · have hc : Try.prog.cellsOf 5 = 1 := by kernel_rfl
      rw [hc] at hm
      obtain ⟨e1, e2⟩ := mapM_each _ _ _ hm
      rw [List.length_range] at e1
      obtain ⟨l, hl, hq⟩ := list_of len (fun i (n : Int) => W.cell? (a.add i) = some (.int .u8 n) ∧ 0 ≤ n ∧ n ≤ 255) (fun i hi => by
        obtain ⟨y, h1, h2⟩ := e2 i i (by rw [List.getElem?_range hi])
        obtain ⟨cs, h3, h4⟩ := Option.bind_eq_some_iff.1 h1
        obtain ⟨_, h6, h7⟩ := World.cells?_some h3
        obtain ⟨v, rfl⟩ : ∃ v, cs = [v] := List.length_eq_one_iff.1 h6
        obtain ⟨d', p'⟩ := y
        obtain ⟨n, rfl, _, h5⟩ := trod_int Try.underlying5 h4
        refine ⟨n, ?_, ?_⟩
        · have := h7 0 (by omega)
          rw [add_add, Nat.mul_one] at this
          simpa using this
        · simpa [Lit.wf, IntKind.min, IntKind.max, IntKind.signed, IntKind.bits] using h5)
      subst hl
      refine ⟨some a, l, cap, rfl, hlc, ⟨rfl, by have : maxLen = 9223372036854775807 := rfl; omega, fun _ => ⟨a, rfl, fun j hj => ?_⟩⟩, ?_, fun m hm => ?_⟩
      · have hj2 : l[j]? = some (l.getD j 0) := by rw [List.getD_eq_getElem?_getD, List.getElem?_eq_getElem hj]; rfl
        exact (hq j _ hj2).1
      · rw [Rows.uptoBulk]
        have := bulk_len (elems.map (·.1))
        rw [List.length_map, e1] at this
        omega
      · obtain ⟨i, hi⟩ := List.mem_iff_getElem?.1 hm
        exact (hq i m hi).2

set_option maxRecDepth 100000 in
set_option maxHeartbeats 1000000 in
theorem trod_file {H : Type} {enc : TypeId × Value → H} {W : World} {base : Nat} {spare : Nat → Bool} {held : Bool} {fuel : Nat} {cs : List Value} {d : DataW H} {p : List MemPlace}
    (h : DataW.trod enc Try.prog W base spare held fuel 106 cs = some (d, p)) : ∃ m : Fl, kFl.K W m cs ∧ (inI64 m.id ∧ inI64 m.sync) ∧ m.data.length ≤ Rows.uptoBulk d := by
  cases fuel with
  | zero => simp [DataW.trod] at h
  | succ fuel =>
    unfold DataW.trod at h
    rw [Try.underlying106] at h
    have hc : Try.prog.cellsOf 106 = 3 := by kernel_rfl
    have hqint : Try.prog.cellsOf 3 = 1 := by kernel_rfl
    have hqoct : Try.prog.cellsOf 62 = 1 := by kernel_rfl
    simp only [hc] at h
    by_cases hl : cs.length = 3
    · rw [if_pos hl] at h
      obtain ⟨v0, v1, v2, rfl⟩ : ∃ v0 v1 v2, cs = [v0, v1, v2] := by
        rcases cs with _ | ⟨v0, _ | ⟨v1, _ | ⟨v2, _ | ⟨v3, r⟩⟩⟩⟩ <;> simp at hl
        exact ⟨v0, v1, v2, rfl⟩
      obtain ⟨xs, h1, h2⟩ := Option.map_eq_some_iff.1 h
      obtain ⟨e1, e2⟩ := mapM_each _ _ _ h1
      obtain ⟨y0, f0, g0⟩ := e2 0 _ rfl
      obtain ⟨y1, f1, g1⟩ := e2 1 _ rfl
      obtain ⟨y2, f2, g2⟩ := e2 2 _ rfl
      simp only [hqint, hqoct, List.drop_zero, List.drop_succ_cons, List.take_succ_cons, List.take_zero] at f0 f1 f2
      obtain ⟨d0, p0⟩ := y0
      obtain ⟨d1, p1⟩ := y1
      obtain ⟨d2, p2⟩ := y2
      obtain ⟨n0, rfl, rfl, w0⟩ := trod_int Try.underlying3 f0
      obtain ⟨A1, x1, c1, rfl, l1, r1, b1, o1⟩ := trod_oct f1
      obtain ⟨n2, rfl, rfl, w2⟩ := trod_int Try.underlying3 f2
      have hx : xs = [(.lit (.int .i64 n0), p0), (d1, p1), (.lit (.int .i64 n2), p2)] := by
        have e1' : xs.length = 3 := e1
        apply List.ext_getElem?
        intro i
        rcases i with _ | _ | _ | i
        · rw [g0]; rfl
        · rw [g1]; rfl
        · rw [g2]; rfl
        · rw [List.getElem?_eq_none (by omega)]; simp
      rw [hx] at h2
      have hd := (Prod.mk.inj h2).1
      subst hd
      refine ⟨⟨n0, x1, n2⟩, kFl_mk l1 r1, ⟨inI64_of_wf w0, inI64_of_wf w2⟩, ?_⟩
      simp only [Rows.uptoBulk, Rows.uptoBulkAll, List.map_cons, List.map_nil]
      omega
    · rw [if_neg hl] at h; cases h

set_option maxRecDepth 100000 in
set_option maxHeartbeats 1000000 in
theorem trod_name {H : Type} {enc : TypeId × Value → H} {W : World} {base : Nat} {spare : Nat → Bool} {held : Bool} {fuel : Nat} {cs : List Value} {d : DataW H} {p : List MemPlace}
    (h : DataW.trod enc Try.prog W base spare held fuel 120 cs = some (d, p)) : ∃ m : Nm, kNm.K W m cs ∧ inI64 m.id ∧ m.name.size ≤ Rows.uptoBulk d := by
  cases fuel with
  | zero => simp [DataW.trod] at h
  | succ fuel =>
    unfold DataW.trod at h
    rw [Try.underlying120] at h
    have hc : Try.prog.cellsOf 120 = 2 := by kernel_rfl
    have hqint : Try.prog.cellsOf 3 = 1 := by kernel_rfl
    have hqstr : Try.prog.cellsOf 9 = 1 := by kernel_rfl
    simp only [hc] at h
    by_cases hl : cs.length = 2
    · rw [if_pos hl] at h
      obtain ⟨v0, v1, rfl⟩ : ∃ v0 v1, cs = [v0, v1] := by
        rcases cs with _ | ⟨v0, _ | ⟨v1, _ | ⟨v2, r⟩⟩⟩ <;> simp at hl
        exact ⟨v0, v1, rfl⟩
      obtain ⟨xs, h1, h2⟩ := Option.map_eq_some_iff.1 h
      obtain ⟨e1, e2⟩ := mapM_each _ _ _ h1
      obtain ⟨y0, f0, g0⟩ := e2 0 _ rfl
      obtain ⟨y1, f1, g1⟩ := e2 1 _ rfl
      simp only [hqint, hqstr, List.drop_zero, List.drop_succ_cons, List.take_succ_cons, List.take_zero] at f0 f1
      obtain ⟨d0, p0⟩ := y0
      obtain ⟨d1, p1⟩ := y1
      obtain ⟨s0, rfl, rfl⟩ := trod_str Try.underlying9 f0
      obtain ⟨n1, rfl, rfl, w1⟩ := trod_int Try.underlying3 f1
      have hx : xs = [(.lit (.string s0.data.toList), p0), (.lit (.int .i64 n1), p1)] := by
        have e1' : xs.length = 2 := e1
        apply List.ext_getElem?
        intro i
        rcases i with _ | _ | i
        · rw [g0]; rfl
        · rw [g1]; rfl
        · rw [List.getElem?_eq_none (by omega)]; simp
      rw [hx] at h2
      have hd := (Prod.mk.inj h2).1
      subst hd
      refine ⟨⟨s0, n1⟩, kNm_mk W _, inI64_of_wf w1, ?_⟩
      simp only [Rows.uptoBulk, Rows.uptoBulkAll, List.map_cons, List.map_nil]
      have e1 : s0.data.toList.length = s0.size := by rw [Array.length_toList]; rfl
      omega
    · rw [if_neg hl] at h; cases h

set_option maxRecDepth 100000 in
theorem trod_files {H : Type} {enc : TypeId × Value → H} {W : World} {base : Nat} {spare : Nat → Bool} {held : Bool} {fuel : Nat} {v : Value} {d : DataW H} {p : List MemPlace}
    (h : DataW.trod enc Try.prog W base spare held fuel 22 [v] = some (d, p)) : ∃ A l c, v = .slice A l.length c ∧ l.length ≤ c ∧ kFl.C W A l.length l ∧ (∀ m ∈ l, (inI64 m.id ∧ inI64 m.sync) ∧ m.data.length ≤ Rows.uptoBulk d) ∧ l.length ≤ Rows.uptoBulk d := by
  cases fuel with
  | zero => simp [DataW.trod] at h
  | succ fuel =>
    rcases trod_slice Try.underlying22 h with ⟨rfl, rfl⟩ | ⟨a, len, cap, elems, rest, rfl, hlc, hcm, rfl, hm⟩
    · exact ⟨none, [], 0, rfl, Nat.le_refl _, Kd.C_nil kFl W, fun m hm => by simp at hm, by simp⟩
    · have hc : Try.prog.cellsOf 106 = 3 := by kernel_rfl
      rw [hc] at hm
      obtain ⟨e1, e2⟩ := mapM_each _ _ _ hm
      rw [List.length_range] at e1
      obtain ⟨l, hl, hq⟩ := list_of len (fun i (m : Fl) => ∃ cs, (∀ j u, cs[j]? = some u → W.cell? ((a.add (i * 3)).add j) = some u) ∧ kFl.K W m cs ∧ ∃ d', d' ∈ elems.map (·.1) ∧ (inI64 m.id ∧ inI64 m.sync) ∧ m.data.length ≤ Rows.uptoBulk d') (fun i hi => by
        obtain ⟨y, h1, hy⟩ := e2 i i (by rw [List.getElem?_range hi])
        obtain ⟨cs, h3, h4⟩ := Option.bind_eq_some_iff.1 h1
        obtain ⟨d', p'⟩ := y
        obtain ⟨m, hK, h6⟩ := trod_file h4
        obtain ⟨_, _, h7⟩ := World.cells?_some h3
        have h8 := kFl.K_len hK
        exact ⟨m, cs, fun j u hu => by
          have hj : j < 3 := by have := (List.getElem?_eq_some_iff.1 hu).1; rw [h8] at this; exact this
          rw [h7 j hj, hu], hK, d', List.mem_map.2 ⟨_, List.mem_of_getElem? hy, rfl⟩, h6⟩)
      subst hl
      refine ⟨some a, l, cap, rfl, hlc, ?_, fun m hm => ?_, ?_⟩
      · have hm63 : l.length ≤ 9223372036854775807 := by have : maxLen = 9223372036854775807 := rfl; omega
        exact ⟨rfl, hm63, fun _ => ⟨a, rfl, fun j p hj => by
          obtain ⟨cs, q1, q2, _⟩ := hq j p hj
          exact ⟨cs, kFl.K_len q2, q2, fun i u hu => by
            show W.cell? (a.add (j * 3 + i)) = some u
            rw [← add_add]; exact q1 i u hu⟩⟩⟩
      · obtain ⟨i, hi⟩ := List.mem_iff_getElem?.1 hm
        obtain ⟨cs, _, _, d', h1, h2⟩ := hq i m hi
        have h3 := bulk_mem (elems.map (·.1)) d' h1
        rw [Rows.uptoBulk]
        exact ⟨h2.1, by omega⟩
      · rw [Rows.uptoBulk]
        have := bulk_len (elems.map (·.1))
        rw [List.length_map, e1] at this
        omega

set_option maxRecDepth 100000 in
theorem trod_names {H : Type} {enc : TypeId × Value → H} {W : World} {base : Nat} {spare : Nat → Bool} {held : Bool} {fuel : Nat} {v : Value} {d : DataW H} {p : List MemPlace}
    (h : DataW.trod enc Try.prog W base spare held fuel 23 [v] = some (d, p)) : ∃ A l c, v = .slice A l.length c ∧ l.length ≤ c ∧ kNm.C W A l.length l ∧ (∀ m ∈ l, inI64 m.id ∧ m.name.size ≤ Rows.uptoBulk d) ∧ l.length ≤ Rows.uptoBulk d := by
  cases fuel with
  | zero => simp [DataW.trod] at h
  | succ fuel =>
    rcases trod_slice Try.underlying23 h with ⟨rfl, rfl⟩ | ⟨a, len, cap, elems, rest, rfl, hlc, hcm, rfl, hm⟩
    · exact ⟨none, [], 0, rfl, Nat.le_refl _, Kd.C_nil kNm W, fun m hm => by simp at hm, by simp⟩
    · have hc : Try.prog.cellsOf 120 = 2 := by kernel_rfl
      rw [hc] at hm
      obtain ⟨e1, e2⟩ := mapM_each _ _ _ hm
      rw [List.length_range] at e1
      obtain ⟨l, hl, hq⟩ := list_of len (fun i (m : Nm) => ∃ cs, (∀ j u, cs[j]? = some u → W.cell? ((a.add (i * 2)).add j) = some u) ∧ kNm.K W m cs ∧ ∃ d', d' ∈ elems.map (·.1) ∧ inI64 m.id ∧ m.name.size ≤ Rows.uptoBulk d') (fun i hi => by
        obtain ⟨y, h1, hy⟩ := e2 i i (by rw [List.getElem?_range hi])
        obtain ⟨cs, h3, h4⟩ := Option.bind_eq_some_iff.1 h1
        obtain ⟨d', p'⟩ := y
        obtain ⟨m, hK, h6⟩ := trod_name h4
        obtain ⟨_, _, h7⟩ := World.cells?_some h3
        have h8 := kNm.K_len hK
        exact ⟨m, cs, fun j u hu => by
          have hj : j < 2 := by have := (List.getElem?_eq_some_iff.1 hu).1; rw [h8] at this; exact this
          rw [h7 j hj, hu], hK, d', List.mem_map.2 ⟨_, List.mem_of_getElem? hy, rfl⟩, h6⟩)
      subst hl
      refine ⟨some a, l, cap, rfl, hlc, ?_, fun m hm => ?_, ?_⟩
      · have hm63 : l.length ≤ 9223372036854775807 := by have : maxLen = 9223372036854775807 := rfl; omega
        exact ⟨rfl, hm63, fun _ => ⟨a, rfl, fun j p hj => by
          obtain ⟨cs, q1, q2, _⟩ := hq j p hj
          exact ⟨cs, kNm.K_len q2, q2, fun i u hu => by
            show W.cell? (a.add (j * 2 + i)) = some u
            rw [← add_add]; exact q1 i u hu⟩⟩⟩
      · obtain ⟨i, hi⟩ := List.mem_iff_getElem?.1 hm
        obtain ⟨cs, _, _, d', h1, h2⟩ := hq i m hi
        have h3 := bulk_mem (elems.map (·.1)) d' h1
        rw [Rows.uptoBulk]
        exact ⟨h2.1, by omega⟩
      · rw [Rows.uptoBulk]
        have := bulk_len (elems.map (·.1))
        rw [List.length_map, e1] at this
        omega

set_option maxRecDepth 100000 in
set_option maxHeartbeats 1000000 in
/-- files that are handed in -/
theorem trod_state {H : Type} {enc : TypeId × Value → H} {W : World} {base : Nat} {spare : Nat → Bool} {held : Bool} {fuel : Nat} {v : Value} {d : DataW H} {p : List MemPlace} (hv : ∃ cs, v = .agg cs)
    (h : DataW.trod enc Try.prog W base spare held fuel 25 v.cells.toList = some (d, p)) : ∃ (s : St) (F N S : Option Addr) (fc nc sc : Nat), v = .agg #[.int .i64 s.cap, .slice F s.files.length fc, .slice N s.names.length nc, .slice S s.safe.length sc, .int .i64 s.next] ∧ Hd W s F fc N nc S sc ∧ Wf s ∧ (inI64 s.cap ∧ inI64 s.next ∧ ∀ f ∈ s.files, inI64 f.id ∧ inI64 f.sync) ∧ (Rows.uptoBulk d ≤ 1048576 → Small s ∧ s.files.length + s.names.length + s.safe.length ≤ 1048576) := by
  obtain ⟨ca, rfl⟩ := hv
  have hcs : (Value.agg ca).cells.toList = ca.toList := rfl
  rw [hcs] at h
  obtain ⟨cs, hcc⟩ : ∃ cs, ca.toList = cs := ⟨_, rfl⟩
  rw [hcc] at h
  cases fuel with
  | zero => simp [DataW.trod] at h
  | succ fuel =>
    unfold DataW.trod at h
    rw [Try.underlying25] at h
    have hc : Try.prog.cellsOf 25 = 5 := by kernel_rfl
    have hqfiles : Try.prog.cellsOf 22 = 1 := by kernel_rfl
    have hqint : Try.prog.cellsOf 3 = 1 := by kernel_rfl
    have hqnames : Try.prog.cellsOf 23 = 1 := by kernel_rfl
    simp only [hc] at h
    by_cases hl : cs.length = 5
    · rw [if_pos hl] at h
      obtain ⟨v0, v1, v2, v3, v4, rfl⟩ : ∃ v0 v1 v2 v3 v4, cs = [v0, v1, v2, v3, v4] := by
        rcases cs with _ | ⟨v0, _ | ⟨v1, _ | ⟨v2, _ | ⟨v3, _ | ⟨v4, _ | ⟨v5, r⟩⟩⟩⟩⟩⟩ <;> simp at hl
        exact ⟨v0, v1, v2, v3, v4, rfl⟩
      obtain ⟨xs, h1, h2⟩ := Option.map_eq_some_iff.1 h
      obtain ⟨e1, e2⟩ := mapM_each _ _ _ h1
      obtain ⟨y0, f0, g0⟩ := e2 0 _ rfl
      obtain ⟨y1, f1, g1⟩ := e2 1 _ rfl
      obtain ⟨y2, f2, g2⟩ := e2 2 _ rfl
      obtain ⟨y3, f3, g3⟩ := e2 3 _ rfl
      obtain ⟨y4, f4, g4⟩ := e2 4 _ rfl
      simp only [hqfiles, hqint, hqnames, List.drop_zero, List.drop_succ_cons, List.take_succ_cons, List.take_zero] at f0 f1 f2 f3 f4
      obtain ⟨d0, p0⟩ := y0
      obtain ⟨d1, p1⟩ := y1
      obtain ⟨d2, p2⟩ := y2
      obtain ⟨d3, p3⟩ := y3
      obtain ⟨d4, p4⟩ := y4
      obtain ⟨n0, rfl, rfl, w0⟩ := trod_int Try.underlying3 f0
      obtain ⟨A1, x1, c1, rfl, l1, r1, k1, b1⟩ := trod_files f1
      obtain ⟨A2, x2, c2, rfl, l2, r2, k2, b2⟩ := trod_names f2
      obtain ⟨A3, x3, c3, rfl, l3, r3, k3, b3⟩ := trod_names f3
      obtain ⟨n4, rfl, rfl, w4⟩ := trod_int Try.underlying3 f4
      have hx : xs = [(.lit (.int .i64 n0), p0), (d1, p1), (d2, p2), (d3, p3), (.lit (.int .i64 n4), p4)] := by
        have e1' : xs.length = 5 := e1
        apply List.ext_getElem?
        intro i
        rcases i with _ | _ | _ | _ | _ | i
        · rw [g0]; rfl
        · rw [g1]; rfl
        · rw [g2]; rfl
        · rw [g3]; rfl
        · rw [g4]; rfl
        · rw [List.getElem?_eq_none (by omega)]; simp
      rw [hx] at h2
      have hd := (Prod.mk.inj h2).1
      subst hd
      refine ⟨⟨n0, x1, x2, x3, n4⟩, A1, A2, A3, c1, c2, c3, ?_, ⟨r1, r2, r3, l1, l2, l3⟩, ⟨fun n hn => (k2 n hn).1, fun n hn => (k3 n hn).1⟩, ⟨inI64_of_wf w0, inI64_of_wf w4, fun f hf => (k1 f hf).1⟩, fun hb => ?_⟩
      · congr 1
        exact Array.toList_inj.1 hcc
      · simp only [Rows.uptoBulk, Rows.uptoBulkAll, List.map_cons, List.map_nil] at hb
        exact ⟨⟨by show x1.length ≤ _; omega, by show x2.length ≤ _; omega, by show x3.length ≤ _; omega, fun f hf => by have := (k1 f hf).2; omega⟩, by show x1.length + x2.length + x3.length ≤ _; omega⟩
    · rw [if_neg hl] at h; cases h
end Go.Proofs.Ytfakfgblaakgdaa.Lift

/- The shelf's contracts of math/bits.LeadingZeros8 and Len64 at this translation (the numbers by name). -/
namespace Go.Proofs
end Go.Proofs

/- Rows of whole numbers of one's own; CopyInts. -/
namespace Go.Proofs.Ytfakfgblaakgdaa.Ints
set_option linter.unusedVariables false
set_option linter.unusedSimpArgs false
open Go.RowKit Go.Proofs.YtfakfgblaakgdaaW.PrintWords Go.Proofs.YtfakfgblaakgdaaW.PrintLast Go.Proofs.Ytfakfgblaakgdaa.Base Go.Proofs.Ytfakfgblaakgdaa.Cells

theorem infoI : (Try.prog.info? 3).map (fun i => (i.zero, i.size, i.bytes)) = some (some (.int .i64 0), 1, 8) := by kernel_rfl
/-- a row of whole numbers of one's own -/
abbrev RI (w : World) (base : Nat) (v : Value) (l : List Int) : Prop := w.ownsRow base 3 1 v l.length (nums .i64 l)
theorem RI_reads {w : World} {base : Nat} {v : Value} {l : List Int} (h : RI w base v l) : ∃ A c, v = .slice A l.length c ∧ ReadsInt w .i64 A l.length l := own_reads h
theorem RI_set {w : World} {base : Nat} {v : Value} {l : List Int} (h : RI w base v l) {p : Addr} (hp : p.block < base) (u : Value) : RI (w.setCell p u) base v l :=
  own_setCell h (fun e => by have := own_base h p.block e.symm; omega) u

end Go.Proofs.Ytfakfgblaakgdaa.Ints

/- varint.Size, bytes.Clone, varint.Put, varint.Get: walked. -/
namespace Go.Proofs.Ytfakfgblaakgdaa.Var
set_option linter.unusedVariables false
set_option linter.unusedSimpArgs false
open Go.RowKit Go.Proofs.YtfakfgblaakgdaaW.PrintWords Go.Proofs.YtfakfgblaakgdaaW.PrintLast Go.Proofs.Ytfakfgblaakgdaa.Base Go.Proofs.Ytfakfgblaakgdaa.Cells Go.Proofs.Ytfakfgblaakgdaa.Ints Go.Proofs.Ytfakfgblaakgdaa.VarPure

/-- octets as numbers of Go -/
def nb (l : List Nat) : List Int := l.map (Nat.cast : Nat → Int)
theorem nb_len (l : List Nat) : (nb l).length = l.length := by simp [nb]
/-- a row of octets of one's own -/
abbrev RB (w : World) (base : Nat) (v : Value) (l : List Int) : Prop := w.ownsRow base 5 1 v l.length (nums .u8 l)
theorem RB_reads {w : World} {base : Nat} {v : Value} {l : List Int} (h : RB w base v l) : ∃ A c, v = .slice A l.length c ∧ ReadsInt w .u8 A l.length l := own_reads h
theorem infoB : (Try.prog.info? 5).map (fun i => (i.zero, i.size, i.bytes)) = some (some (.int .u8 0), 1, 1) := by kernel_rfl

set_option maxRecDepth 100000 in
set_option maxHeartbeats 1000000 in
theorem cloneB_any (ad : Addr) (c : Nat) (l : List Int) (w : World) (hr : ReadsInt w .u8 (some ad) l.length l) (hb : l.length ≤ 1048576) :
    Calls Try.prog 50 #[.slice (some ad) l.length c] w fun e w' => ∃ v, e = .returned v ∧ RB w' w.heap.size v l ∧ Below w.heap.size w w' := by
  have HR := Aside0.mk hr
  clear hr
  have hnil : ∀ W, (binOp .eql 62 (.slice (some ad) l.length c) (.slice none 0 0)).run Try.prog W = .ok (.bool false) W := fun W => Lib.run_eql_slice_nil (P := Try.prog) W 62 5 (some ad) l.length c 0 0 Try.underlying62
  have HO : Aside0 (RB (w.alloc (.cells #[] 5)) w.heap.size (.slice (some ⟨w.heap.size, 0, none⟩) 0 0) []) := ⟨by
    have h2 := World.ownsRow_lit (base := w.heap.size) (e := 5) (size := 1) w #[] 0 (Nat.le_refl _) (by simp [maxLen]) (by simp)
    exact h2⟩
  have HB : Aside0 (Below w.heap.size w (w.alloc (.cells #[] 5))) := ⟨below_alloc (Below.refl _ _) _⟩
  have HC := Aside0.mk (HR.out.below HB.out)
  go_enter Try.func50, Try.ntmps50
  go_wp2_with (at_builtin; refine print_append_row (w0 := w) w.heap.size (by rfl) (.tmp 5) (.tmp 6) 62 5 .u8 1 (by rfl) Try.underlying62 infoB (by decide) (.slice (some ⟨w.heap.size, 0, none⟩) 0 0) [] l (some ad) l.length c (by rfl) (by rfl) ?aO ?aR ?aB ?aS ?c1 ?_; (case aO => exact HO.out); (case aR => exact HC.out); (case aB => exact HB.out); (case aS => exact HB.out.size); (case c1 => simp only [List.length_nil]; omega); intro v1 w1 hown hB1 hg1 hat; have HO1 := Aside0.mk hown; have HB1 := Aside0.mk hB1; clear hown hB1 hg1 hat)
  go_ret
  exact ⟨_, rfl, by have := HO1.out; rwa [List.nil_append] at this, HB1.out⟩

/-- the nine octets behind i rounds -/
def pc (n i : Nat) : List Value := (List.range 9).map fun j => .int .u8 (if 9 ≤ j + i then ((n / 256 ^ (8 - j) % 256 : Nat) : Int) else 0)
theorem pc_set (m i : Nat) (hi : i < 9) : (pc m i).toArray.setIfInBounds (8 - i) (.int .u8 ((m / 256 ^ i % 256 : Nat) : Int)) = (pc m (i + 1)).toArray := by
  apply Array.toList_inj.1
  rw [Array.toList_setIfInBounds]
  refine List.ext_getElem (by simp [pc]) (fun j h1 h2 => ?_)
  have hj : j < 9 := by simpa [pc] using h2
  rw [List.getElem_set]
  simp only [pc, List.getElem_map, List.getElem_range]
  by_cases he : 8 - i = j
  · rw [if_pos he, if_pos (by omega), show 8 - j = i by omega]
  · rw [if_neg he]
    congr 1
    by_cases h9 : 9 ≤ j + i
    · rw [if_pos h9, if_pos (by omega)]
    · rw [if_neg h9, if_neg (by omega)]
theorem be_range : ∀ (k n : Nat), be k n = (List.range k).map fun t => n / 256 ^ (k - 1 - t) % 256
  | 0, _ => rfl
  | k + 1, n => by
    rw [be, be_range k, List.range_succ, List.map_append, List.map_singleton]
    congr 1
    · refine List.map_congr_left (fun t ht => ?_)
      have ht := List.mem_range.1 ht
      rw [Nat.div_div_eq_div_mul, show k + 1 - 1 - t = (k - 1 - t) + 1 by omega, Nat.pow_succ, Nat.mul_comm]
    · simp

theorem cloneK_any (ad : Addr) (c k : Nat) (l : List Int) (w : World) (hk : k = l.length) (hr : ReadsInt w .u8 (some ad) k l) (hb : k ≤ 1048576) :
    Calls Try.prog 50 #[.slice (some ad) k c] w fun e w' => ∃ v, e = .returned v ∧ RB w' w.heap.size v l ∧ Below w.heap.size w w' := by
  subst hk
  exact cloneB_any ad c l w hr hb

theorem be_head {n k : Nat} (hk : sizeN n = k) (hk1 : 1 ≤ k) (hk8 : k ≤ 8) (hn : n < 2 ^ 64) : ∃ b t, be k n = b :: t ∧ b < 2 ^ (8 - k) := by
  have hlt := sizeN_of hn hk hk8
  obtain ⟨j, rfl⟩ : ∃ j, k = j + 1 := ⟨k - 1, by omega⟩
  have hbl := be_len (j + 1) n
  have h256 : n < 256 ^ (j + 1) := by
    refine Nat.lt_of_lt_of_le hlt ?_
    rw [show (256 : Nat) = 2 ^ 8 by rfl, ← Nat.pow_mul]
    exact Nat.pow_le_pow_right (by omega) (by omega)
  have hv := val_be (j + 1) n h256
  rcases hbe : be (j + 1) n with _ | ⟨b, t⟩
  · rw [hbe] at hbl; simp at hbl
  · rw [hbe] at hbl hv
    have htl : t.length = j := by simpa using hbl
    rw [val_cons, htl] at hv
    refine ⟨b, t, rfl, ?_⟩
    have h1 : b * 256 ^ j < 2 ^ (7 * (j + 1)) := by omega
    have h2 : 2 ^ (7 * (j + 1)) = 2 ^ (8 - (j + 1)) * 256 ^ j := by
      rw [show (256 : Nat) = 2 ^ 8 by rfl, ← Nat.pow_mul, ← Nat.pow_add]; congr 1; omega
    rw [h2] at h1
    exact Nat.lt_of_mul_lt_mul_right h1
theorem or_mask1 : ∀ b : Fin 128, bits .or .u8 (b.val : Int) (bits .xor .u8 IntKind.u8.max 255) = ((b.val + mask 1 : Nat) : Int) := by decide +kernel
theorem or_mask2 : ∀ b : Fin 64, bits .or .u8 (b.val : Int) (bits .xor .u8 IntKind.u8.max 127) = ((b.val + mask 2 : Nat) : Int) := by decide +kernel
theorem or_mask3 : ∀ b : Fin 32, bits .or .u8 (b.val : Int) (bits .xor .u8 IntKind.u8.max 63) = ((b.val + mask 3 : Nat) : Int) := by decide +kernel
theorem or_mask4 : ∀ b : Fin 16, bits .or .u8 (b.val : Int) (bits .xor .u8 IntKind.u8.max 31) = ((b.val + mask 4 : Nat) : Int) := by decide +kernel
theorem or_mask5 : ∀ b : Fin 8, bits .or .u8 (b.val : Int) (bits .xor .u8 IntKind.u8.max 15) = ((b.val + mask 5 : Nat) : Int) := by decide +kernel
theorem or_mask6 : ∀ b : Fin 4, bits .or .u8 (b.val : Int) (bits .xor .u8 IntKind.u8.max 7) = ((b.val + mask 6 : Nat) : Int) := by decide +kernel
theorem or_mask7 : ∀ b : Fin 2, bits .or .u8 (b.val : Int) (bits .xor .u8 IntKind.u8.max 3) = ((b.val + mask 7 : Nat) : Int) := by decide +kernel
theorem or_mask8 : ∀ b : Fin 1, bits .or .u8 (b.val : Int) (bits .xor .u8 IntKind.u8.max 1) = ((b.val + mask 8 : Nat) : Int) := by decide +kernel
theorem or_mask {k b : Nat} (hk1 : 1 ≤ k) (hk8 : k ≤ 8) (hb : b < 2 ^ (8 - k)) : bits .or .u8 (b : Int) (bits .xor .u8 IntKind.u8.max (255 / 2 ^ (k - 1))) = ((b + mask k : Nat) : Int) := by
  rcases (show k = 1 ∨ k = 2 ∨ k = 3 ∨ k = 4 ∨ k = 5 ∨ k = 6 ∨ k = 7 ∨ k = 8 by omega) with rfl | rfl | rfl | rfl | rfl | rfl | rfl | rfl
  · exact or_mask1 ⟨b, hb⟩
  · exact or_mask2 ⟨b, hb⟩
  · exact or_mask3 ⟨b, hb⟩
  · exact or_mask4 ⟨b, hb⟩
  · exact or_mask5 ⟨b, hb⟩
  · exact or_mask6 ⟨b, hb⟩
  · exact or_mask7 ⟨b, hb⟩
  · exact or_mask8 ⟨b, hb⟩
theorem put_done {w w1 w2 : World} {g2 cap k m : Nat} {q s : Int} (hk1 : 1 ≤ k) (hk9 : k ≤ 9) (hkk : sizeN m = k) (hm : m < 2 ^ 64)
    (hO : w2.ownsRow w1.heap.size 5 1 (.slice (some ⟨g2, 0, none⟩) k cap) k (nums .u8 (nb (be k m)))) (hq : rd (nb (be k m)) 0 = q) (hs : s = 255 / 2 ^ (k - 1)) (hg : w1.heap.size ≤ g2) (hb : Below w.heap.size w w1) (hb2 : Below w1.heap.size w1 w2) :
    ∃ L, RB (w2.setCell ⟨g2, 0, none⟩ (.int .u8 (bits .or .u8 q (bits .xor .u8 IntKind.u8.max s)))).drew w.heap.size (.slice (some ⟨g2, 0, none⟩) k cap) L ∧ 1 ≤ L.length ∧ L.length ≤ 9 ∧ ((m : Int) < 72057594037927936 → L = nb (putN m)) ∧ Below w.heap.size w (w2.setCell ⟨g2, 0, none⟩ (.int .u8 (bits .or .u8 q (bits .xor .u8 IntKind.u8.max s)))).drew := by
  have hst := (own_store hO 0 (bits .or .u8 q (bits .xor .u8 IntKind.u8.max s))).1
  have hl : ((nb (be k m)).set (0 : Int).toNat (bits .or .u8 q (bits .xor .u8 IntKind.u8.max s))).length = k := by rw [List.length_set, nb_len, be_len]
  refine ⟨_, ?_, by rw [hl]; exact hk1, by rw [hl]; exact hk9, fun h => ?_, below_drew (((bthen hb hb2)).setCell (p := ⟨g2, 0, none⟩) (Nat.le_trans hb.size hg) _)⟩
  · rw [RB, hl]
    exact World.ownsRow.drew (own_weaken hst hb.size)
  · have h56 : m < 2 ^ 56 := by have : (2 : Nat) ^ 56 = 72057594037927936 := rfl; omega
    have hk8 : k ≤ 8 := by have := sizeN_lt (n := m) (k := 8) (by omega) (by omega) (by simpa using h56); omega
    obtain ⟨b, t, hbe, hlt⟩ := be_head hkk hk1 hk8 hm
    have hqb : q = (b : Int) := by rw [← hq, hbe]; rfl
    rw [hqb, hs, or_mask hk1 hk8 hlt, putN, hkk, hbe]
    rfl

end Go.Proofs.Ytfakfgblaakgdaa.Var

/- files: may a name be; walked. -/
namespace Go.Proofs.Ytfakfgblaakgdaa.Files
set_option linter.unusedVariables false
set_option linter.unusedSimpArgs false
open Go.RowKit Go.Proofs.YtfakfgblaakgdaaW.PrintWords Go.Proofs.YtfakfgblaakgdaaW.PrintLast Go.Proofs.Ytfakfgblaakgdaa.Base Go.Proofs.Ytfakfgblaakgdaa.Cells Go.Proofs.Ytfakfgblaakgdaa.Ints Go.Proofs.Ytfakfgblaakgdaa.Var

def badB (c : Int) : Bool := decide (c < 33) || decide (126 < c)
/-- may a name be -/
def mayF (s : ByteArray) : Bool := decide (1 ≤ s.size) && (decide (s.size ≤ 32) && !(bytesOf s).any badB)

set_option maxRecDepth 100000 in
theorem mayC_any (c : Int) (w : World) : Calls Try.prog 91 #[.int .u8 c] w fun e w' => e = .returned (.bool (badB c)) ∧ w' = w := by
  by_cases h : c < 33
  · have hb : Aside0 (badB c = true) := ⟨by simp [badB, h]⟩
    go_enter Try.func91, Try.ntmps91
    go_wp2
    go_ret
    exact ⟨by rw [hb.out]; rfl, rfl⟩
  · have hb : Aside0 (badB c = decide (126 < c)) := ⟨by simp [badB, h]⟩
    go_enter Try.func91, Try.ntmps91
    go_wp2
    go_ret
    exact ⟨by rw [hb.out]; rfl, rfl⟩

set_option maxRecDepth 100000 in
set_option maxHeartbeats 1000000 in
theorem indexMay_any (A : Option Addr) (c : Nat) (l : List Int) (w : World) (hr : ReadsInt w .u8 A l.length l) (hb : l.length ≤ 1048576) :
    Calls Try.prog 95 #[.slice A l.length c, .func (.func 91) #[] #[]] w fun e w' => (∃ r, e = .returned (.int .i64 r) ∧ decide (0 ≤ r) = l.any badB) ∧ w' = w := by
  have HR := Aside0.mk hr
  clear hr
  go_enter Try.func95, Try.ntmps95
  go_wp2
  go_loopg [8] l.length (fun g v8 wr => ∃ i : Nat, v8 = .int .i64 i ∧ g + i = l.length ∧ Aside0 ((l.take i).any badB = false) ∧ w = wr)
  case atStart => exact ⟨0, rfl, by omega, ⟨rfl⟩, rfl⟩
  case round =>
    obtain ⟨i, rfl, hg, HN, rfl⟩ := hrel
    by_cases hlt : i < l.length
    · obtain ⟨x, hx⟩ : ∃ x, l[i]? = some x := ⟨_, List.getElem?_eq_getElem hlt⟩
      obtain ⟨ad, rfl, c0⟩ := HR.out.at_ i (by omega) (by omega)
      have hrd : rd l i = x := by simp [rd, List.getD_eq_getElem?_getD, hx]
      rw [Int.toNat_natCast, hrd] at c0
      have HX := Aside0.mk hx
      clear hx hrd
      go_wp2_with fail
      refine (mayC_any x _).mono ?_
      rintro e w1 ⟨rfl, rfl⟩
      cases hbb : badB x with
      | true =>
        have HE : Aside0 (l.any badB = true) := ⟨List.any_eq_true.2 ⟨x, List.mem_of_getElem? HX.out, hbb⟩⟩
        clear hbb
        go_wp2
        go_ret
        exact ⟨⟨_, rfl, by rw [HE.out]; simp⟩, rfl⟩
      | false =>
        have HE : Aside0 ((l.take (i + 1)).any badB = false) := ⟨by rw [List.take_add_one, HX.out, List.any_append, HN.out]; simp [hbb]⟩
        clear hbb
        go_wp2
        go_roundg (l.length - (i + 1))
        case measure => omega
        case rel => exact ⟨i + 1, by go_num, by omega, HE, rfl⟩
    · have hi : Aside0 (l.take i = l) := ⟨List.take_of_length_le (by omega)⟩
      go_wp2
      go_ret
      exact ⟨⟨-1, rfl, by rw [← hi.out, HN.out]; rfl⟩, rfl⟩

set_option maxRecDepth 100000 in
theorem containsMay_any (A : Option Addr) (c : Nat) (l : List Int) (w : World) (hr : ReadsInt w .u8 A l.length l) (hb : l.length ≤ 1048576) :
    Calls Try.prog 90 #[.slice A l.length c, .func (.func 91) #[] #[]] w fun e w' => e = .returned (.bool (l.any badB)) ∧ w' = w := by
  obtain ⟨q, hq⟩ := named (l.any badB)
  rw [← hq.out]
  go_enter Try.func90, Try.ntmps90
  go_wp2_with fail
  refine (indexMay_any A c l _ hr hb).mono ?_
  rintro e w1 ⟨⟨r, rfl, hrr⟩, rfl⟩
  rw [← hq.out] at hrr
  go_wp2
  go_ret
  exact ⟨by rw [← hrr]; rfl, rfl⟩

set_option maxRecDepth 100000 in
set_option maxHeartbeats 1000000 in
theorem may_any (s : ByteArray) (w : World) : Calls Try.prog 82 #[.string s] w fun e w' => e = .returned (.bool (mayF s)) ∧ Below w.heap.size w w' := by
  obtain ⟨q, hq⟩ := named (mayF s)
  rw [← hq.out]
  have hqq : Aside0 (q = (decide (1 ≤ s.size) && (decide (s.size ≤ 32) && !(bytesOf s).any badB))) := ⟨by rw [hq.out]; rfl⟩
  by_cases h0 : s.size = 0
  · have hs : s = ⟨#[]⟩ := by
      cases s with
      | mk d => congr 1; exact Array.eq_empty_of_size_eq_zero h0
    have hv : Aside0 (q = false) := ⟨by rw [hqq.out]; simp [h0]⟩
    subst hs
    go_enter Try.func82, Try.ntmps82
    go_wp2
    go_ret
    exact ⟨by rw [hv.out]; rfl, Below.refl _ _⟩
  · have hne : (s.data.toList == (⟨#[]⟩ : ByteArray).data.toList) = false := by
      cases s with
      | mk d =>
        have h1 : d.toList ≠ [] := fun e => h0 (by have := congrArg List.length e; rw [Array.length_toList] at this; exact this)
        simpa using h1
    have hie : s.toList.isEmpty = false := by
      rw [List.isEmpty_eq_false_iff, ByteArray.toList_eq]
      intro e
      have h1 := congrArg List.length e
      simp at h1
      exact h0 (by rw [← data_length, e]; rfl)
    by_cases h32 : s.size ≤ 32
    · go_enter Try.func82, Try.ntmps82
      have hconv := Lib.run_convert_string_bytes (P := Try.prog) w 9 62 5 s Try.underlying9 Try.underlying62 Try.underlying5
      have hbel : Below w.heap.size w (Lib.bytesWorld w 5 s) := ⟨rfl, rfl, rfl, by rw [Lib.bytesWorld_size]; omega, fun k hk => Lib.bytesWorld_at_old w _ s k hk⟩
      have hrd : ReadsInt (Lib.bytesWorld w 5 s) .u8 (some ⟨w.heap.size, 0, none⟩) (bytesOf s).length (bytesOf s) := by
        refine ⟨rfl, by rw [bytesOf_length]; omega, fun _ => ⟨_, rfl, fun j hj => ?_⟩⟩
        rw [bytesOf_length] at hj
        rw [show ((⟨w.heap.size, 0, none⟩ : Addr).add j) = ⟨w.heap.size, j, none⟩ by rw [Addr.add_lit, Nat.zero_add], Lib.bytesWorld_cell w _ s j hj]
        have hj' : j < s.data.toList.length := by rw [data_length]; exact hj
        simp [bytesOf, List.getD_eq_getElem?_getD, List.getElem?_map, List.getElem?_eq_getElem hj']
      have hcall := containsMay_any (some ⟨w.heap.size, 0, none⟩) (grownCap w s.size 0 5) (bytesOf s) _ hrd (by rw [bytesOf_length]; omega)
      rw [bytesOf_length] at hcall
      obtain ⟨WB, hWB⟩ : ∃ WB, WB = Lib.bytesWorld w 5 s := ⟨_, rfl⟩
      obtain ⟨cp, hcp⟩ : ∃ cp, cp = grownCap w s.size 0 5 := ⟨_, rfl⟩
      rw [← hWB, ← hcp] at hconv
      rw [← hWB] at hbel
      rw [← hWB, ← hcp] at hcall
      obtain ⟨bd, hbd⟩ := named ((bytesOf s).any badB)
      rw [← hbd.out] at hcall hqq
      have hv : Aside0 (q = !bd) := ⟨by rw [hqq.out]; simp [h32]; omega⟩
      clear hWB hcp hrd
      go_wp2_with (go_at_call 90; refine hcall.mono ?_; rintro e w1 ⟨rfl, rfl⟩)
      go_ret
      exact ⟨by rw [hv.out]; rfl, hbel⟩
    · have hv : Aside0 (q = false) := ⟨by rw [hqq.out]; simp [h32]⟩
      have h33 : (32 : Int) < s.size := by omega
      go_enter Try.func82, Try.ntmps82
      go_wp2
      go_ret
      exact ⟨by rw [hv.out]; rfl, Below.refl _ _⟩
end Go.Proofs.Ytfakfgblaakgdaa.Files

/- A state of chapter 4 for the program: CopyBytes, some, names, Of: walked. -/
namespace Go.Proofs.Ytfakfgblaakgdaa.Files
set_option linter.unusedVariables false
set_option linter.unusedSimpArgs false
open Go.RowKit Go.Proofs.YtfakfgblaakgdaaW.PrintWords Go.Proofs.YtfakfgblaakgdaaW.PrintLast Go.Proofs.Ytfakfgblaakgdaa.Base Go.Proofs.Ytfakfgblaakgdaa.Cells Go.Proofs.Ytfakfgblaakgdaa.Ints Go.Proofs.Ytfakfgblaakgdaa.Var

theorem infoFl : (Try.prog.info? 79).map (fun i => (i.zero, i.size, i.bytes)) = some (some (.agg #[.int .i64 0, .slice none 0 0, .int .i64 0]), 3, 40) := by kernel_rfl
theorem infoNm : (Try.prog.info? 81).map (fun i => (i.zero, i.size, i.bytes)) = some (some (.agg #[.string ⟨#[]⟩, .int .i64 0]), 2, 24) := by kernel_rfl

set_option maxRecDepth 100000 in
set_option maxHeartbeats 1000000 in
theorem copyBytes_any (A : Option Addr) (c : Nat) (l : List Int) (w : World) (hr : ReadsInt w .u8 A l.length l) (hb : l.length ≤ 1048576) :
    Calls Try.prog 29 #[.slice A l.length c] w fun e w' => ∃ v, e = .returned v ∧ RB w' w.heap.size v l ∧ Below w.heap.size w w' := by
  have HR := Aside0.mk hr
  clear hr
  go_enter Try.func29, Try.ntmps29
  go_wp2_with (at_builtin; refine print_append_row (w0 := w) w.heap.size (by rfl) (.tmp 4) (.tmp 5) 62 5 .u8 1 (by rfl) Try.underlying62 infoB (by decide) (.slice none 0 0) [] l A l.length c (by rfl) (by rfl) ?aO ?aR ?aB ?aS ?c1 ?_; (case aO => exact own_nil _ _ _ _); (case aR => exact HR.out); (case aB => exact Below.refl _ _); (case aS => exact Nat.le_refl _); (case c1 => simp only [List.length_nil]; omega); intro v1 w1 hown hB1 hg1 hat; have HO1 := Aside0.mk hown; have HB1 := Aside0.mk hB1; clear hown hB1 hg1 hat)
  go_ret
  exact ⟨_, rfl, by have := HO1.out; rwa [List.nil_append] at this, HB1.out⟩

/-- a row of files of one's own -/
abbrev RF (w : World) (base : Nat) (v : Value) (l : List Fl) : Prop := kFl.R 79 w base (fun _ => True) v l
/-- a row of names of one's own -/
abbrev RN (w : World) (base : Nat) (v : Value) (l : List Nm) : Prop := kNm.R 81 w base (fun _ => True) v l

set_option maxRecDepth 100000 in
set_option maxHeartbeats 1000000 in
theorem names_any (A : Option Addr) (c : Nat) (l : List Nm) (w : World) (hr : kNm.C w A l.length l) (hb : l.length ≤ 1048576) :
    Calls Try.prog 39 #[.slice A l.length c] w fun e w' => ∃ v, e = .returned v ∧ RN w' w.heap.size v l ∧ Below w.heap.size w w' := by
  have HR := Aside0.mk hr
  clear hr
  go_enter Try.func39, Try.ntmps39
  go_wp2
  go_loopg [3, 4] l.length (fun g v3 v4 wr => ∃ i : Nat, v4 = .int .i64 i ∧ g + i = l.length ∧ Aside0 (RN wr w.heap.size v3 (l.take i)) ∧ Aside0 (Below w.heap.size w wr))
  case atStart => exact ⟨0, rfl, by omega, ⟨Kd.R_nil kNm _ _ _ _⟩, ⟨Below.refl _ _⟩⟩
  case round =>
    obtain ⟨i, rfl, hg, HO, HB⟩ := hrel
    by_cases hlt : i < l.length
    · have HC := Aside0.mk (Kd.C_below HR.out HB.out)
      obtain ⟨m, hm⟩ : ∃ m, l[i]? = some m := ⟨_, List.getElem?_eq_getElem hlt⟩
      obtain ⟨ad, rfl, c0, c1⟩ := atNm HC.out i m hm
      have ht : Aside0 (l.take (i + 1) = l.take i ++ [m]) := ⟨by rw [List.take_add_one, hm]; rfl⟩
      have hl : (l.take i).length = i := by rw [List.length_take]; omega
      have HL := Aside0.mk hl
      clear hm hl
      go_wp2_with (first | (at_builtin; refine Kd.R_append kNm (w0 := w) w.heap.size rfl (.tmp 11) (.tmp 16) 31 81 (.agg #[.string ⟨#[]⟩, .int .i64 0]) 24 rfl Try.underlying31 infoNm rfl (by decide) (by omega) u3 (l.take i) m m.cs (fun _ => True) (fun _ => False) rfl rfl ?aP (fun _ hk => hk.elim) (fun _ _ => trivial) ?aO ?aB ?aS ?c1 ?_; (case aP => exact kNm_mkM _ _ _ m); (case aO => exact HO.out); (case aB => exact HB.out); (case aS => exact HB.out.size); (case c1 => rw [HL.out]; omega); intro v1 w1 hown hB1 hg1 hat; have HO1 := Aside0.mk hown; have HB1 := Aside0.mk hB1; clear hown hB1 hg1 hat))
      go_roundg (l.length - (i + 1))
      case measure => omega
      case rel => exact ⟨i + 1, by go_num, by omega, ⟨by rw [ht.out]; exact HO1.out⟩, HB1⟩
    · have hi : Aside0 (l.take i = l) := ⟨List.take_of_length_le (by omega)⟩
      go_wp2
      go_ret
      exact ⟨_, rfl, by rw [← hi.out]; exact HO.out, HB.out⟩

set_option maxRecDepth 100000 in
set_option maxHeartbeats 1000000 in
theorem some_any (A : Option Addr) (c : Nat) (l : List Fl) (w : World) (hr : kFl.C w A l.length l) (hb : l.length ≤ 1048576) (hd : ∀ f ∈ l, f.data.length ≤ 1048576) :
    Calls Try.prog 38 #[.slice A l.length c] w fun e w' => ∃ v, e = .returned v ∧ RF w' w.heap.size v l ∧ Below w.heap.size w w' := by
  have HR := Aside0.mk hr
  have HD := Aside0.mk hd
  clear hr hd
  go_enter Try.func38, Try.ntmps38
  go_wp2
  go_loopg [3, 4] l.length (fun g v3 v4 wr => ∃ i : Nat, v4 = .int .i64 i ∧ g + i = l.length ∧ Aside0 (RF wr w.heap.size v3 (l.take i)) ∧ Aside0 (Below w.heap.size w wr))
  case atStart => exact ⟨0, rfl, by omega, ⟨Kd.R_nil kFl _ _ _ _⟩, ⟨Below.refl _ _⟩⟩
  case round =>
    obtain ⟨i, rfl, hg, HO, HB⟩ := hrel
    by_cases hlt : i < l.length
    · have HC := Aside0.mk (Kd.C_below HR.out HB.out)
      obtain ⟨m, hm⟩ : ∃ m, l[i]? = some m := ⟨_, List.getElem?_eq_getElem hlt⟩
      obtain ⟨ad, D, dc, rfl, c0, c1, c2, hdc, hrd⟩ := atFl HC.out i m hm
      have ht : Aside0 (l.take (i + 1) = l.take i ++ [m]) := ⟨by rw [List.take_add_one, hm]; rfl⟩
      have hl : (l.take i).length = i := by rw [List.length_take]; omega
      have HL := Aside0.mk hl
      have hmd : Aside0 (m.data.length ≤ 1048576) := ⟨HD.out m (List.mem_of_getElem? hm)⟩
      have HRD := Aside0.mk hrd
      obtain ⟨n, hn⟩ : ∃ n, n = m.data.length := ⟨_, rfl⟩
      rw [← hn] at c1
      have HN := Aside0.mk hn
      have c0d : wr.drew.cell? (ad.add (i * 3)) = some (.int .i64 m.id) := c0
      have c1d : wr.drew.cell? ⟨(ad.add (i * 3)).block, (ad.add (i * 3)).off + 1, none⟩ = some (.slice D n dc) := c1
      have c2d : wr.drew.cell? ⟨(ad.add (i * 3)).block, (ad.add (i * 3)).off + 2, none⟩ = some (.int .i64 m.sync) := c2
      obtain ⟨V, hV⟩ : ∃ V, V = u3 := ⟨_, rfl⟩
      clear hm hl hrd hn hdc
      go_wp2_with fail
      go_region_law (first | (refine Kd.R_append_step kFl (w0 := w) w.heap.size (by rfl) (.tmp 11) (.tmp 29) 30 79 (.agg #[.int .i64 0, .slice none 0 0, .int .i64 0]) 40 rfl Try.underlying30 infoFl rfl (by decide) (by omega) u3 (l.take i) m [.int .i64 m.id, .slice A4 n c4, .int .i64 m.sync] (fun _ => True) (fun k => wr.heap.size ≤ k) rfl rfl ?aP ?aK (fun _ _ => trivial) ?aO ?aB ?aS ?c1 ?_; (case aP => exact HP4.out); (case aK => exact HK4.out); (case aO => exact HO4.out); (case aB => exact HB4.out); (case aS => exact HB4.out.size); (case c1 => rw [HL.out]; omega); intro v1 w1 hown hB1 hg1 hat; have HO1 := Aside0.mk hown; have HB1 := Aside0.mk hB1; clear hown hB1 hg1 hat) | (go_simp; go_wp2_with (go_at_call 29; refine (?cc : Calls Try.prog 29 #[.slice D n dc] wr.drew fun e w' => ∃ A4 c4, e = .returned (.slice A4 n c4) ∧ RF w' w.heap.size u3 (l.take i) ∧ kFl.M w' w.heap.size (fun k => wr.heap.size ≤ k) m [.int .i64 m.id, .slice A4 n c4, .int .i64 m.sync] ∧ (∀ k, wr.heap.size ≤ k → True ∧ some k ≠ u3.ownBlock) ∧ Below wr.heap.size wr w').mono ?_; (case cc => rw [HN.out]; refine (copyBytes_any D dc m.data wr.drew (HRD.out.below (below_drew (Below.refl _ _))) hmd.out).mono ?_; rintro e w4 ⟨v4, rfl, hb4, hbe4⟩; obtain ⟨A4, c4, rfl, _⟩ := RB_reads hb4; exact ⟨A4, c4, rfl, Kd.R_below HO.out (bthen (below_drew (Below.refl _ _)) hbe4), kFl_mkM (Kd.R_of_own (own_weaken hb4 HB.out.size) (fun k hk => own_base hb4 k hk)), fun k hk => ⟨trivial, fun e => by have := Kd.R_lt HO.out k e.symm; omega⟩, bthen (below_drew (Below.refl _ _)) hbe4⟩); rintro e w4 ⟨A4, c4, rfl, ho4, hm4, hk4, hbe4⟩; have HO4 := Aside0.mk ho4; have HP4 := Aside0.mk hm4; have HK4 := Aside0.mk hk4; have HB4 := Aside0.mk (bthen HB.out hbe4); have q0 := pw_cell_below hbe4 c0; have q1 := pw_cell_below hbe4 c1; have q2 := pw_cell_below hbe4 c2; clear ho4 hm4 hk4 hbe4)))
      all_goals go_wp2
      all_goals go_roundg (l.length - (i + 1))
      all_goals first
        | (guard_target =~ (_ : Nat) < _; omega)
        | exact ⟨i + 1, by go_num, by omega, ⟨by rw [ht.out]; exact HO1.out⟩, HB1⟩
    · have hi : Aside0 (l.take i = l) := ⟨List.take_of_length_le (by omega)⟩
      go_wp2
      go_ret
      exact ⟨_, rfl, by rw [← hi.out]; exact HO.out, HB.out⟩
end Go.Proofs.Ytfakfgblaakgdaa.Files

/- The leaves of chapter 11, walked: comparing, the order of tables, may a table be. -/
namespace Go.Proofs.Ytfakfgblaakgdaa.Edit
set_option linter.unusedVariables false
set_option linter.unusedSimpArgs false
open Go.RowKit Go.Proofs.YtfakfgblaakgdaaW.PrintWords Go.Proofs.YtfakfgblaakgdaaW.PrintLast Go.Proofs.Ytfakfgblaakgdaa.Base Go.Proofs.Ytfakfgblaakgdaa.EditPure

theorem isNaNI_any (n : Int) (w : World) :
    Calls Try.prog 87 #[.int .i64 n] w fun e w' => e = .returned (.bool false) ∧ w = w' := by
  go_enter Try.func87, Try.ntmps87
  go_wp2
  go_ret
  exact ⟨by simp, rfl⟩

theorem cmpI_any (a b : Int) (w : World) :
    Calls Try.prog 78 #[.int .i64 a, .int .i64 b] w fun e w' => e = .returned (.int .i64 (cmpI a b)) ∧ w = w' := by
  by_cases h : a < b
  · have hw : Aside0 (cmpI a b = -1) := ⟨by simp [cmpI, h]⟩
    go_enter Try.func78, Try.ntmps78
    go_wp2_with (go_at_call 87; refine (isNaNI_any _ _).mono ?_; rintro e w' ⟨rfl, rfl⟩)
    go_ret
    exact ⟨by rw [hw.out]; rfl, rfl⟩
  · by_cases h2 : b < a
    · have hw : Aside0 (cmpI a b = 1) := ⟨by simp [cmpI, h, h2]⟩
      go_enter Try.func78, Try.ntmps78
      go_wp2_with (go_at_call 87; refine (isNaNI_any _ _).mono ?_; rintro e w' ⟨rfl, rfl⟩)
      go_ret
      exact ⟨by rw [hw.out]; rfl, rfl⟩
    · have hw : Aside0 (cmpI a b = 0) := ⟨by simp [cmpI, h, h2]⟩
      go_enter Try.func78, Try.ntmps78
      go_wp2_with (go_at_call 87; refine (isNaNI_any _ _).mono ?_; rintro e w' ⟨rfl, rfl⟩)
      go_ret
      exact ⟨by rw [hw.out]; rfl, rfl⟩

theorem isNaNS_any (n : ByteArray) (w : World) :
    Calls Try.prog 94 #[.string n] w fun e w' => e = .returned (.bool false) ∧ w = w' := by
  go_enter Try.func94, Try.ntmps94
  go_wp2
  go_ret
  exact ⟨by simp, rfl⟩

theorem bytesLess_asymm : ∀ (a b : List UInt8), Op.bytesLess a b = true → Op.bytesLess b a = false
  | [], [], h => by simp [Op.bytesLess] at h
  | [], _ :: _, _ => by simp [Op.bytesLess]
  | _ :: _, [], h => by simp [Op.bytesLess] at h
  | a :: x, b :: y, h => by
    simp only [Op.bytesLess, Bool.or_eq_true, decide_eq_true_eq, Bool.and_eq_true, beq_iff_eq] at h
    simp only [Op.bytesLess, Bool.or_eq_false_iff, decide_eq_false_iff_not, Bool.and_eq_false_iff, beq_eq_false_iff_ne]
    rcases h with h | ⟨rfl, h⟩
    · exact ⟨fun h' => by have := UInt8.lt_iff_toNat_lt.1 h; have := UInt8.lt_iff_toNat_lt.1 h'; omega, .inl (fun e => by subst e; have := UInt8.lt_iff_toNat_lt.1 h; omega)⟩
    · exact ⟨fun h' => by have := UInt8.lt_iff_toNat_lt.1 h'; omega, .inr (bytesLess_asymm x y h)⟩
theorem bytesLess_total : ∀ (a b : List UInt8), Op.bytesLess a b = false → Op.bytesLess b a = false → a = b
  | [], [], _, _ => rfl
  | [], _ :: _, h, _ => by simp [Op.bytesLess] at h
  | _ :: _, [], _, h => by simp [Op.bytesLess] at h
  | a :: x, b :: y, h, h' => by
    simp only [Op.bytesLess, Bool.or_eq_false_iff, decide_eq_false_iff_not, Bool.and_eq_false_iff, beq_eq_false_iff_ne] at h h'
    have e : a = b := by
      have h1 := h.1; have h2 := h'.1
      rw [UInt8.lt_iff_toNat_lt] at h1 h2
      exact UInt8.toNat_inj.1 (by omega)
    subst e
    rw [bytesLess_total x y (h.2.resolve_left (fun h => h rfl)) (h'.2.resolve_left (fun h => h rfl))]

theorem leq_bytes (a b : List UInt8) : (Op.bytesLess a b || a == b) = !Op.bytesLess b a := by
  cases h : Op.bytesLess a b with
  | true => rw [bytesLess_asymm _ _ h]; rfl
  | false =>
    cases h2 : Op.bytesLess b a with
    | true =>
      have : (a == b) = false := by rw [beq_eq_false_iff_ne]; intro e; rw [e, ← e] at h; subst e; rw [h] at h2; cases h2
      rw [this]; rfl
    | false => rw [bytesLess_total _ _ h h2]; simp

theorem cmpS_any (a b : ByteArray) (w : World) :
    Calls Try.prog 86 #[.string a, .string b] w fun e w' => e = .returned (.int .i64 (cmpS a b)) ∧ w = w' := by
  by_cases h : Op.bytesLess a.toList b.toList = true
  · have hw : Aside0 (cmpS a b = -1) := ⟨by simp [cmpS, sLt, h]⟩
    go_enter Try.func86, Try.ntmps86
    go_wp2_with (go_at_call 94; refine (isNaNS_any _ _).mono ?_; rintro e w' ⟨rfl, rfl⟩)
    go_ret
    exact ⟨by rw [hw.out]; rfl, rfl⟩
  · have h := Bool.eq_false_iff.2 h
    by_cases h2 : Op.bytesLess b.toList a.toList = true
    · have hw : Aside0 (cmpS a b = 1) := ⟨by simp [cmpS, sLt, h, h2]⟩
      have h3 : (a.toList == b.toList) = false := by
        rw [beq_eq_false_iff_ne]; intro e; rw [e] at h h2; rw [h] at h2; cases h2
      go_enter Try.func86, Try.ntmps86
      go_wp2_with (go_at_call 94; refine (isNaNS_any _ _).mono ?_; rintro e w' ⟨rfl, rfl⟩)
      go_ret
      exact ⟨by rw [hw.out]; rfl, rfl⟩
    · have h2 := Bool.eq_false_iff.2 h2
      have hw : Aside0 (cmpS a b = 0) := ⟨by simp [cmpS, sLt, h, h2]⟩
      have h3 : (a.toList == b.toList) = true := by rw [beq_iff_eq]; exact bytesLess_total _ _ h h2
      go_enter Try.func86, Try.ntmps86
      go_wp2_with (go_at_call 94; refine (isNaNS_any _ _).mono ?_; rintro e w' ⟨rfl, rfl⟩)
      go_ret
      exact ⟨by rw [hw.out]; rfl, rfl⟩

end Go.Proofs.Ytfakfgblaakgdaa.Edit

/- edit.Check, walked. -/
namespace Go.Proofs.Ytfakfgblaakgdaa.Edit
set_option linter.unusedVariables false
set_option linter.unusedSimpArgs false
open Go.RowKit Go.Proofs.YtfakfgblaakgdaaW.PrintWords Go.Proofs.YtfakfgblaakgdaaW.PrintLast Go.Proofs.Ytfakfgblaakgdaa.Base Go.Proofs.Ytfakfgblaakgdaa.EditPure Go.Proofs.Ytfakfgblaakgdaa.Sets

/-- the ints of tables are ints -/
def wfM (m : Meta) : Prop := inI64 m.id ∧ inI64 m.level ∧ inI64 m.count

theorem zeroBool (w : World) : (zeroValue 4).run Try.prog w = .ok (.bool false) w := by kernel_rfl

end Go.Proofs.Ytfakfgblaakgdaa.Edit

/- files: used, file (a binary search among files): walked. -/
namespace Go.Proofs.Ytfakfgblaakgdaa.Files
set_option linter.unusedVariables false
set_option linter.unusedSimpArgs false
open Go.RowKit Go.Proofs.YtfakfgblaakgdaaW.PrintWords Go.Proofs.YtfakfgblaakgdaaW.PrintLast Go.Proofs.Ytfakfgblaakgdaa.Base Go.Proofs.Ytfakfgblaakgdaa.Cells Go.Proofs.Ytfakfgblaakgdaa.Ints Go.Proofs.Ytfakfgblaakgdaa.Var Go.Proofs.Ytfakfgblaakgdaa.EditPure Go.Proofs.Ytfakfgblaakgdaa.Edit

/-- octets of all files -/
def usedF (l : List Fl) : Int := (l.map fun f => (f.data.length : Int)).sum
theorem usedF_snoc (l : List Fl) (f : Fl) : usedF (l ++ [f]) = usedF l + f.data.length := by simp [usedF]

set_option maxRecDepth 100000 in
set_option maxHeartbeats 1000000 in
theorem used_any (g : Nat) (F : Option Addr) (fc : Nat) (l : List Fl) (w : World) (hx : w.cell? ⟨g, 1, none⟩ = some (.slice F l.length fc)) (hr : kFl.C w F l.length l) (hb : l.length ≤ 1048576) (hd : ∀ f ∈ l, f.data.length ≤ 1048576) :
    Calls Try.prog 57 #[.pointer (some ⟨g, 0, none⟩)] w fun e w' => e = .returned (.int .i64 (usedF l)) ∧ Below w.heap.size w w' := by
  have HR := Aside0.mk hr
  have HD := Aside0.mk hd
  clear hr hd
  go_enter Try.func57, Try.ntmps57
  go_wp2
  go_loopg [3, 11] l.length (fun gk v3 v11 wr => ∃ (i : Nat) (n : Int), v11 = .int .i64 i ∧ v3 = .int .i64 n ∧ gk + i = l.length ∧ 0 ≤ n ∧ n ≤ (i : Int) * 1048576 ∧ Aside0 (n = usedF (l.take i)) ∧ Aside0 (Below w.heap.size w wr))
  case atStart => exact ⟨0, 0, rfl, rfl, by omega, by omega, by omega, ⟨rfl⟩, ⟨Below.refl _ _⟩⟩
  case round =>
    obtain ⟨i, n, rfl, rfl, hg, hn0, hn1, HN, HB⟩ := hrel
    by_cases hlt : i < l.length
    · have HC := Aside0.mk (Kd.C_below HR.out HB.out)
      obtain ⟨m, hm⟩ : ∃ m, l[i]? = some m := ⟨_, List.getElem?_eq_getElem hlt⟩
      obtain ⟨ad, D, dc, rfl, c0, c1, c2, hdc, hrd⟩ := atFl HC.out i m hm
      have ht : Aside0 (usedF (l.take (i + 1)) = n + m.data.length) := ⟨by rw [List.take_add_one, hm, Option.toList_some, usedF_snoc, HN.out]⟩
      have hmd : m.data.length ≤ 1048576 := HD.out m (List.mem_of_getElem? hm)
      have hlt' : (i : Int) < l.length := by omega
      clear hm hrd hdc HN
      go_wp2
      go_roundg (l.length - (i + 1))
      case measure => omega
      case rel => exact ⟨i + 1, _, by go_num, rfl, by omega, by omega, by push_cast; omega, ⟨ht.out.symm⟩, ⟨by refine bthen HB.out ?_; repeat (first | exact Below.refl _ _ | apply below_alloc)⟩⟩
    · have hi : Aside0 (l.take i = l) := ⟨List.take_of_length_le (by omega)⟩
      go_wp2
      go_ret
      exact ⟨by rw [HN.out, hi.out]; rfl, HB.out⟩

theorem fileFn_any (id x s : Int) (D : Option Addr) (n dc : Nat) (w : World) :
    Calls Try.prog 77 #[.agg #[.int .i64 id, .slice D n dc, .int .i64 s], .int .i64 x] w fun e w' => e = .returned (.int .i64 (cmpI id x)) ∧ Below w.heap.size w w' := by
  go_enter Try.func77, Try.ntmps77
  go_wp2_with (go_at_call 78; refine (cmpI_any _ _ _).mono ?_; rintro e w' ⟨rfl, rfl⟩)
  go_ret
  exact ⟨rfl, below_alloc (Below.refl _ _) _⟩

/-- files in order of their numbers -/
def Asc (l : List Fl) : Prop := l.Pairwise (fun a b => a.id < b.id)
theorem Asc.lt {l : List Fl} (h : Asc l) {i j : Nat} {a b : Fl} (hij : i < j) (ha : l[i]? = some a) (hb : l[j]? = some b) : a.id < b.id := by
  obtain ⟨h1, rfl⟩ := List.getElem?_eq_some_iff.1 ha
  obtain ⟨h2, rfl⟩ := List.getElem?_eq_some_iff.1 hb
  exact List.pairwise_iff_getElem.1 h i j h1 h2 hij

/-- place r of number x: what lies ahead is less, what lies behind is no less -/
def Place (l : List Fl) (x : Int) (r : Nat) : Prop := r ≤ l.length ∧ (∀ k f, l[k]? = some f → k < r → f.id < x) ∧ (∀ k f, l[k]? = some f → r ≤ k → x ≤ f.id)
/-- is a file of that number there -/
def hasId (l : List Fl) (x : Int) : Bool := l.any (fun f => f.id == x)
theorem hasId_place {l : List Fl} {x : Int} {r : Nat} (ha : Asc l) (h : Place l x r) : hasId l x = (match l[r]? with | none => false | some f => f.id == x) := by
  rw [Bool.eq_iff_iff]
  constructor
  · intro h1
    obtain ⟨f, hf, hx⟩ := List.any_eq_true.1 h1
    have hx' : f.id = x := by simpa using hx
    obtain ⟨k, hk⟩ := List.mem_iff_getElem?.1 hf
    have hkr : r ≤ k := by
      rcases Nat.lt_or_ge k r with hlt | hge
      · have := h.2.1 k f hk hlt; omega
      · exact hge
    rcases Nat.eq_or_lt_of_le hkr with rfl | hlt
    · rw [hk]; exact hx
    · have hkl := (List.getElem?_eq_some_iff.1 hk).1
      have hr : l[r]? = some (l[r]'(by omega)) := List.getElem?_eq_getElem (by omega)
      have h2 := ha.lt hlt hr hk
      have h3 := h.2.2 r _ hr (Nat.le_refl _)
      omega
  · intro h1
    cases hr : l[r]? with
    | none => rw [hr] at h1; simp at h1
    | some f =>
      rw [hr] at h1
      exact List.any_eq_true.2 ⟨f, List.mem_of_getElem? hr, h1⟩

def fileV : Value := .func (.func 77) #[] #[]

set_option maxRecDepth 100000 in
set_option maxHeartbeats 2000000 in
theorem bsearch_any (F : Option Addr) (fc : Nat) (l : List Fl) (x : Int) (w : World) (hr : kFl.C w F l.length l) (hb : l.length ≤ 1048576) (ha : Asc l) :
    Calls Try.prog 76 #[.slice F l.length fc, .int .i64 x, fileV] w fun e w' => (∃ r : Int, e = .returned (.tuple #[.int .i64 r, .bool (hasId l x)]) ∧ 0 ≤ r ∧ Place l x r.toNat) ∧ Below w.heap.size w w' := by
  have HR := Aside0.mk hr
  have HA := Aside0.mk ha
  obtain ⟨b, HBv⟩ := named (hasId l x)
  rw [← HBv.out]
  obtain ⟨fv, hfv⟩ : ∃ fv, fv = fileV := ⟨_, rfl⟩
  have HF := Aside0.mk hfv
  rw [← hfv]
  have CF : Aside0 (∀ (m : Fl) (D : Option Addr) (dc : Nat) (W : World), Calls Try.prog 77 #[.agg #[.int .i64 m.id, .slice D m.data.length dc, .int .i64 m.sync], .int .i64 x] W fun e w' => e = .returned (.int .i64 (cmpI m.id x)) ∧ Below W.heap.size W w') := ⟨fun m D dc W => fileFn_any _ _ _ _ _ _ _⟩
  clear hr ha hfv
  go_enter Try.func76, Try.ntmps76
  rw [HF.out, fileV]
  go_wp2
  go_loopg [9, 10] l.length (fun gk v9 v10 wr => ∃ i j : Nat, v9 = .int .i64 i ∧ v10 = .int .i64 j ∧ gk + i = j ∧ j ≤ l.length ∧ Aside0 ((∀ k f, l[k]? = some f → k < i → f.id < x) ∧ (∀ k f, l[k]? = some f → j ≤ k → x ≤ f.id)) ∧ Aside0 (Below w.heap.size w wr))
  case atStart => exact ⟨0, l.length, rfl, rfl, by omega, Nat.le_refl _, ⟨fun k f _ h => by omega, fun k f h1 h2 => by have := (List.getElem?_eq_some_iff.1 h1).1; omega⟩, ⟨Below.refl _ _⟩⟩
  case round =>
    obtain ⟨i, j, rfl, rfl, hg, hjl, HP, HB⟩ := hrel
    by_cases hij : i < j
    · have hij' : (i : Int) < j := by omega
      obtain ⟨c, hc⟩ : ∃ c : Nat, c = (i + j) / 2 := ⟨_, rfl⟩
      have hcc : ((i : Int) + j) / 2 = c := by omega
      have hcl : (c : Int) < l.length := by omega
      have hic : i ≤ c := by omega
      have hcj : c < j := by omega
      have hij2 : (i : Int) + j ≤ 3000000 := by omega
      have HC := Aside0.mk (Kd.C_below HR.out HB.out)
      obtain ⟨m, hm⟩ : ∃ m, l[c]? = some m := ⟨_, List.getElem?_eq_getElem (by omega)⟩
      obtain ⟨ad, D, dc, rfl, c0, c1, c2, hdc, hrd⟩ := atFl HC.out c m hm
      have HM := Aside0.mk hm
      clear hm hrd hdc hc
      by_cases hlt : m.id < x
      · have hcm : Aside0 (cmpI m.id x = -1) := ⟨by simp [cmpI, hlt]⟩
        have HL := Aside0.mk hlt
        clear hlt
        go_wp2_with fail
        refine (CF.out m D dc _).mono ?_
        rw [hcm.out]
        rintro e w1 ⟨rfl, hb1⟩
        have HB1 := Aside0.mk (bthen HB.out hb1)
        clear hb1
        go_wp2
        go_roundg (j - (c + 1))
        case measure => omega
        case rel =>
          refine ⟨c + 1, j, by go_num, rfl, by omega, hjl, ⟨fun k f hk hkc => ?_, HP.out.2⟩, HB1⟩
          rcases Nat.lt_or_ge k c with h1 | h1
          · exact Int.lt_trans (HA.out.lt h1 hk HM.out) HL.out
          · obtain rfl : k = c := by omega
            rw [HM.out] at hk; injection hk with hk; rw [← hk]; exact HL.out
      · have HL := Aside0.mk (show x ≤ m.id by omega)
        obtain ⟨o, ho⟩ : ∃ o, cmpI m.id x = o := ⟨_, rfl⟩
        have ho0 : ¬ (o < 0) := by rw [← ho]; unfold cmpI; rw [if_neg hlt]; split <;> decide
        clear hlt
        go_wp2_with fail
        refine (CF.out m D dc _).mono ?_
        rw [ho]
        rintro e w1 ⟨rfl, hb1⟩
        have HB1 := Aside0.mk (bthen HB.out hb1)
        clear hb1
        go_wp2
        go_roundg (c - i)
        case measure => omega
        case rel =>
          refine ⟨i, c, rfl, rfl, by omega, by omega, ⟨HP.out.1, fun k f hk hkc => ?_⟩, HB1⟩
          rcases Nat.eq_or_lt_of_le hkc with rfl | h1
          · rw [HM.out] at hk; injection hk with hk; rw [← hk]; exact HL.out
          · exact Int.le_of_lt (Int.lt_of_le_of_lt HL.out (HA.out.lt h1 HM.out hk))
    · obtain rfl : i = j := by omega
      have HPl : Aside0 (Place l x i) := ⟨⟨hjl, HP.out.1, HP.out.2⟩⟩
      have hh := hasId_place HA.out HPl.out
      rw [← HBv.out] at hh
      clear HP
      by_cases hil : i < l.length
      · have hil' : (i : Int) < l.length := by omega
        have HC := Aside0.mk (Kd.C_below HR.out HB.out)
        obtain ⟨m, hm⟩ : ∃ m, l[i]? = some m := ⟨_, List.getElem?_eq_getElem hil⟩
        obtain ⟨ad, D, dc, rfl, c0, c1, c2, hdc, hrd⟩ := atFl HC.out i m hm
        rw [hm] at hh
        obtain ⟨o, ho⟩ : ∃ o, cmpI m.id x = o := ⟨_, rfl⟩
        have HO : Aside0 (b = (o == 0)) := ⟨by
          rw [hh, ← ho]; unfold cmpI
          by_cases h1 : m.id < x
          · have : (m.id == x) = false := by simp; omega
            simp only [this, h1, if_true]; rfl
          · by_cases h2 : x < m.id
            · have : (m.id == x) = false := by simp; omega
              simp only [this, h1, h2, if_true, if_false]; rfl
            · have : (m.id == x) = true := by simp; omega
              simp only [this, h1, h2, if_false]; rfl⟩
        clear hm hrd hdc hh
        go_wp2_with fail
        refine (CF.out m D dc _).mono ?_
        rw [ho]
        rintro e w1 ⟨rfl, hb1⟩
        have HB1 := Aside0.mk (bthen HB.out hb1)
        clear hb1
        go_wp2
        refine bodyPost_ret (results_tmp2 rfl _ _ _) rfl ?_
        exact ⟨⟨i, by rw [HO.out]; rfl, by omega, by simpa using HPl.out⟩, HB1.out⟩
      · have hil' : ¬ ((i : Int) < l.length) := by omega
        have hb0 : b = false := by rw [hh, List.getElem?_eq_none (by omega)]
        subst hb0
        clear hh
        go_wp2
        refine bodyPost_ret (results_tmp2 rfl _ _ _) rfl ?_
        exact ⟨⟨i, rfl, by omega, by simpa using HPl.out⟩, HB.out⟩

/-- where a file lies -/
def fileP (F : Option Addr) (l : List Fl) (x : Int) : Option Addr := (l.findIdx? (fun f => f.id == x)).bind fun r => F.map (fun a => a.add (r * 3))
theorem find_place {l : List Fl} {x : Int} {r : Nat} (ha : Asc l) (h : Place l x r) : l.findIdx? (fun f => f.id == x) = if hasId l x then some r else none := by
  have hid := hasId_place ha h
  cases hb : hasId l x with
  | false =>
    rw [if_neg (by decide), List.findIdx?_eq_none_iff]
    intro f hf
    cases hq : (f.id == x) with
    | false => rfl
    | true => exact absurd (List.any_eq_true.2 ⟨f, hf, hq⟩) (by unfold hasId at hb; rw [hb]; decide)
  | true =>
    rw [hb] at hid
    rw [if_pos rfl, List.findIdx?_eq_some_iff_getElem]
    cases hq : l[r]? with
    | none => rw [hq] at hid; simp at hid
    | some f =>
      rw [hq] at hid
      obtain ⟨hr, rfl⟩ := List.getElem?_eq_some_iff.1 hq
      refine ⟨hr, hid.symm, fun j hj => ?_⟩
      have := h.2.1 j l[j] (List.getElem?_eq_getElem (by omega)) hj
      simp; omega
theorem fileP_none {F : Option Addr} {l : List Fl} {x : Int} (h : hasId l x = false) : fileP F l x = none := by
  have : l.findIdx? (fun f => f.id == x) = none := by
    rw [List.findIdx?_eq_none_iff]
    intro f hf
    cases hq : (f.id == x) with
    | false => rfl
    | true => exact absurd (List.any_eq_true.2 ⟨f, hf, hq⟩) (by unfold hasId at h; rw [h]; decide)
  rw [fileP, this]; rfl

set_option maxRecDepth 100000 in
set_option maxHeartbeats 1000000 in
theorem file_any (g : Nat) (F : Option Addr) (fc : Nat) (l : List Fl) (x : Int) (w : World) (hx : w.cell? ⟨g, 1, none⟩ = some (.slice F l.length fc)) (hr : kFl.C w F l.length l) (hb : l.length ≤ 1048576) (ha : Asc l) :
    Calls Try.prog 51 #[.pointer (some ⟨g, 0, none⟩), .int .i64 x] w fun e w' => e = .returned (.pointer (fileP F l x)) ∧ Below w.heap.size w w' := by
  have HR := Aside0.mk hr
  have HA := Aside0.mk ha
  clear hr ha
  obtain ⟨b, hbb⟩ := named (hasId l x)
  obtain ⟨q, hq⟩ := named (fileP F l x)
  rw [← hq.out]
  go_enter Try.func51, Try.ntmps51
  go_wp2_with fail
  refine (bsearch_any F fc l x _ HR.out hb HA.out).mono ?_
  rw [← hbb.out]
  rintro e w1 ⟨⟨r, rfl, hr0, hpl⟩, hb1⟩
  have HB1 := Aside0.mk hb1
  have hx1 := pw_cell_below hb1 hx
  have hid := hasId_place HA.out hpl
  have hfp := find_place HA.out hpl
  rw [← hbb.out] at hid hfp
  cases b with
  | false =>
    have HQ : Aside0 (q = none) := ⟨by rw [hq.out]; exact fileP_none hbb.out.symm⟩
    clear hid hb1 hpl hfp
    go_wp2
    go_ret
    exact ⟨by rw [HQ.out]; rfl, HB1.out⟩
  | true =>
    obtain ⟨f, hf⟩ : ∃ f, l[r.toNat]? = some f := by
      cases hq : l[r.toNat]? with
      | none => rw [hq] at hid; simp at hid
      | some f => exact ⟨f, rfl⟩
    have hrl := (List.getElem?_eq_some_iff.1 hf).1
    have hrl' : r < l.length := by omega
    obtain ⟨ad, D, dc, rfl, _⟩ := atFl HR.out r.toNat f hf
    have HQ : Aside0 (q = some (ad.add (r.toNat * 3))) := ⟨by rw [hq.out, fileP, hfp]; rfl⟩
    clear hid hb1 hpl hf hfp
    go_wp2
    go_ret
    exact ⟨by rw [HQ.out]; rfl, HB1.out⟩
end Go.Proofs.Ytfakfgblaakgdaa.Files

/- A region that draws its order, whose operations only read and whose callees only read and lay new blocks: walked once, in the order of the text. -/
namespace Go.Proofs.Ytfakfgblaakgdaa.Wide
open Go.RowKit Go.Proofs.YtfakfgblaakgdaaW.PrintWords Go.Proofs.Ytfakfgblaakgdaa.Base
set_option linter.unusedVariables false

/-- a world in which all that was there stands as it was -/
def Later (W : World) : Type := { w' : World // Below W.heap.size W w' }
def wb (W : World) (x : Later W) : World := x.val
instance (W : World) : Nonempty (Later W) := ⟨⟨W, Below.refl _ _⟩⟩
theorem wb_below (W : World) (x : Later W) : Below W.heap.size W (wb W x) := x.property
theorem wb_cell {W : World} {a : Addr} {v : Value} (h : W.cell? a = some v) (x : Later W) : (wb W x).cell? a = some v :=
  ((wb_below W x).cell (World.block_lt_of_cell? W a h)).trans h

section
variable {P : Program}
theorem wp_region_wide {id : Nat} {Q : Exit → Act → World → Prop} {a : Act} {w : World} {l : List Oper} (hm : P.follows .mixedOrders = true) (hB : Region.lexB .any l.toArray = true)
    (h : wpQuiet P l.toArray (fun w' => ∃ x : Later w, w' = wb w x) (fun a' => ∀ w', (∃ x : Later w, w' = wb w x) → Q .normal a' w') l a) : (Code.region id l.toArray true).wp P Q a w :=
  wp_region_quiet (C := fun w' => ∃ x : Later w, w' = wb w x) hm hB ⟨⟨w.drew, below_drew (Below.refl _ _)⟩, rfl⟩ (by simpa using h)

/-- a callee's contract: it leaves all that was there as it was -/
theorem wide_of {f : FuncId} {args : Array Value} {w : World} {x : Later w} {v : Value}
    (h : Calls P f args (wb w x) fun e w' => e = .returned v ∧ Below (wb w x).heap.size (wb w x) w') : Calls P f args (wb w x) fun e w'' => e = .returned v ∧ ∃ y : Later w, w'' = wb w y :=
  h.mono fun _ w' ⟨he, hm⟩ => ⟨he, ⟨w', bthen (wb_below w x) hm⟩, rfl⟩
theorem wide_same {f : FuncId} {args : Array Value} {w : World} {x : Later w} {v : Value}
    (h : Calls P f args (wb w x) fun e w' => e = .returned v ∧ wb w x = w') : Calls P f args (wb w x) fun e w'' => e = .returned v ∧ ∃ y : Later w, w'' = wb w y :=
  h.mono fun _ w' ⟨he, hm⟩ => ⟨he, x, hm.symm⟩
end
end Go.Proofs.Ytfakfgblaakgdaa.Wide
