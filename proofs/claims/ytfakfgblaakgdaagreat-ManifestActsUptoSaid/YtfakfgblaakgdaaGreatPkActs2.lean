/- A part of the proof: Small words that all my walks use: what grows and stays of memory. No program. -/
import Derived.Test.YtfakfgblaakgdaaGreatPkActs1
import Derived.Test.YtfakfgblaakgdaaGreatWWords
import Derived.Test.YtfakfgblaakgdaaGreatWLast
import Derived.Maps.OwnOps
import Derived.Maps.OwnSet
import Derived.StringKeys
import Derived.Test.YtfakfgblaakgdaaGreatRows
import Derived.Test.YtfakfgblaakgdaaGreatProg
import Derived.WalkKit
import Derived.ProofKit
import Derived.OpenShut
import Derived.ShutString
import Derived.ChangeOld
import Derived.Below
import Derived.SizedLaws
import Derived.KernelRfl
import Derived.Shelf.Small.Bits
import Derived.Shelf.Strconv.Itoa0
import Derived.WalkLawsBesides
import Derived.Deep.QuietTactic
import Derived.BigQuiet
import Derived.Deep.LoopGhost
import Derived.Lib.ConvBytes
import Derived.Deep.RegionLaw
import Derived.Deep.RegionHeld3

/- Small words that all my walks use: what grows and stays of memory. No program. -/
namespace Go.Proofs.YtfakfgblaakgdaaGreat.Base
open Go.RowKit Go.Proofs.YtfakfgblaakgdaaGreatW.PrintWords Go.Proofs.YtfakfgblaakgdaaGreatW.PrintLast

theorem grown_refl (w : World) (r : Option Nat) : w.grownBy w r := ⟨rfl, rfl, rfl, Nat.le_refl _, fun _ _ _ => rfl⟩
theorem grown_trans {a b c : World} {r : Option Nat} (h : a.grownBy b r) (k : b.grownBy c r) : a.grownBy c r :=
  ⟨k.os.trans h.os, k.tape.trans h.tape, k.output.trans h.output, Nat.le_trans h.size k.size, fun i hi hr => (k.block i (Nat.lt_of_lt_of_le hi h.size) hr).trans (h.block i hi hr)⟩
theorem grown_drew {a b : World} {r : Option Nat} (h : a.grownBy b r) : a.grownBy b.drew r := ⟨h.os, h.tape, h.output, h.size, h.block⟩
theorem grown_alloc {a b : World} {r : Option Nat} (h : a.grownBy b r) (o : Obj) : a.grownBy (b.alloc o) r := grown_trans h (World.grownBy_alloc _ o r)
/-- what was made since w, of a row that lies behind w: nothing of w has turned -/
theorem below_of_grown {w a b : World} {r : Option Nat} (hb : Below w.heap.size w a) (hg : a.grownBy b r) (hr : ∀ k, r = some k → w.heap.size ≤ k) : Below w.heap.size w b := hb.grown hg hb.size hr
theorem bcell {W w1 : World} (hb : Below W.heap.size W w1) : (∀ b o, b < W.heap.size → w1.cell? ⟨b, o, none⟩ = W.cell? ⟨b, o, none⟩) ∧ (∀ b o, b < W.heap.size → w1.frozen? ⟨b, o, none⟩ = W.frozen? ⟨b, o, none⟩) :=
  ⟨fun b o h => hb.cell (p := ⟨b, o, none⟩) h, fun b o h => hb.frozen (p := ⟨b, o, none⟩) h⟩
theorem bthen {w a b : World} (h : Below w.heap.size w a) (k : Below a.heap.size a b) : Below w.heap.size w b := below_then h h.size k
theorem new_cell (w : World) (cs : Array Value) (e : TypeId) (j : Nat) (v : Value) (h : cs[j]? = some v) : (w.alloc (.cells cs e)).cell? ⟨w.heap.size, j, none⟩ = some v := by
  rw [blk_cell (heap_alloc_new w _)]; exact h
/-- a cell of the block that was made last, behind what left all blocks as they were -/
theorem new_later {w w1 : World} {cs : Array Value} {e : TypeId} (hb : Below (w.alloc (.cells cs e)).heap.size (w.alloc (.cells cs e)) w1) (j : Nat) (v : Value) (h : cs[j]? = some v) : w1.cell? ⟨w.heap.size, j, none⟩ = some v :=
  (hb.cell (p := ⟨w.heap.size, j, none⟩) (by simp)).trans (new_cell w cs e j v h)
/-- an elder cell, behind a new block and what left all blocks as they were -/
theorem old_later {w w1 : World} {o : Obj} (hb : Below (w.alloc o).heap.size (w.alloc o) w1) {a : Addr} {v : Value} (h : w.cell? a = some v) : w1.cell? a = some v := by
  have hl := World.block_lt_of_cell? w a h
  refine (hb.cell (p := a) (by simp; omega)).trans ?_
  rw [World.cell?_of_block (Below.heap_alloc w o a.block hl)]; exact h
/-- a value with a name, its equation put aside -/
theorem named {α : Type} (x : α) : ∃ y, Aside0 (y = x) := ⟨x, ⟨rfl⟩⟩

theorem snocInd {α : Type} {p : List α → Prop} (h0 : p []) (h1 : ∀ l c, p l → p (l ++ [c])) (l : List α) : p l := by
  have h : ∀ l : List α, p l.reverse := by
    intro l
    induction l with
    | nil => exact h0
    | cons c l ih => rw [List.reverse_cons]; exact h1 _ _ ih
  have := h l.reverse
  rwa [List.reverse_reverse] at this
end Go.Proofs.YtfakfgblaakgdaaGreat.Base

/- Versions and edits of chapter 11 as plain data, and what the page asks of them. No program. -/
namespace Go.Proofs.YtfakfgblaakgdaaGreat.EditPure
open Go.RowKit Go.Proofs.YtfakfgblaakgdaaGreatW.PrintWords Go.Proofs.YtfakfgblaakgdaaGreatW.PrintLast Go.Proofs.YtfakfgblaakgdaaGreat.Base

/-- a text comes before another one -/
def sLt (a b : ByteArray) : Bool := Op.bytesLess a.toList b.toList

structure Meta where
  id : Int
  level : Int
  count : Int
  low : ByteArray
  high : ByteArray

instance : Inhabited Meta := ⟨⟨0, 0, 0, ⟨#[]⟩, ⟨#[]⟩⟩⟩

def zMeta : Meta := ⟨0, 0, 0, ⟨#[]⟩, ⟨#[]⟩⟩
def kMeta : Kd Meta := Kd.iso (Kd.pair (Kd.int .i64) (Kd.pair (Kd.int .i64) (Kd.pair (Kd.int .i64) (Kd.pair Kd.string Kd.string)))) (fun x : Meta => (x.id, x.level, x.count, x.low, x.high))
/-- a table's cells -/
def Meta.cs (m : Meta) : List Value := [.int .i64 m.id, .int .i64 m.level, .int .i64 m.count, .string m.low, .string m.high]
theorem kMeta_open {w : World} {x : Meta} {cs : List Value} (h : kMeta.K w x cs) : cs = x.cs := by
  obtain ⟨_, _, rfl, rfl, ⟨_, _, rfl, rfl, ⟨_, _, rfl, rfl, ⟨_, _, rfl, rfl, rfl⟩⟩⟩⟩ := h
  exact rfl
theorem kMeta_mk (w : World) (x : Meta) : kMeta.K w x x.cs := ⟨[.int .i64 x.id], [.int .i64 x.level, .int .i64 x.count, .string x.low, .string x.high], rfl, rfl, ⟨[.int .i64 x.level], [.int .i64 x.count, .string x.low, .string x.high], rfl, rfl, ⟨[.int .i64 x.count], [.string x.low, .string x.high], rfl, rfl, ⟨[.string x.low], [.string x.high], rfl, rfl, rfl⟩⟩⟩⟩
theorem kMeta_mkM (w : World) (base : Nat) (ok : Nat → Prop) (x : Meta) : kMeta.M w base ok x x.cs := ⟨[.int .i64 x.id], [.int .i64 x.level, .int .i64 x.count, .string x.low, .string x.high], rfl, rfl, ⟨[.int .i64 x.level], [.int .i64 x.count, .string x.low, .string x.high], rfl, rfl, ⟨[.int .i64 x.count], [.string x.low, .string x.high], rfl, rfl, ⟨[.string x.low], [.string x.high], rfl, rfl, rfl⟩⟩⟩⟩

/-- three-way comparing -/
def cmpI (a b : Int) : Int := if a < b then -1 else if b < a then 1 else 0
def cmpS (a b : ByteArray) : Int := if sLt a b then -1 else if sLt b a then 1 else 0
/-- the order of tables: by level; the first by age, the others by key -/
def ord (a b : Meta) : Int := if cmpI a.level b.level != 0 then cmpI a.level b.level else if a.level == 0 then cmpI b.id a.id else cmpS a.low b.low

def within (n lo hi : Int) : Bool := decide (lo ≤ n) && decide (n ≤ hi)
def keyOk (s : ByteArray) : Bool := decide (1 ≤ s.size) && decide (s.size ≤ 96)
/-- may a table be -/
def mayM (m : Meta) : Bool := within m.id 1 2147483647 && (within m.level 0 3 && (within m.count 1 4096 && (keyOk m.low && (keyOk m.high && !sLt m.high m.low))))

/-- the cells of element i of a row of tables that is read -/
theorem atMeta {w : World} {A : Option Addr} {n : Nat} {xs : List Meta} (h : Kd.C kMeta w A n xs) (i : Nat) (m : Meta) (hi : xs[i]? = some m) :
    ∃ ad, A = some ad ∧ w.cell? (ad.add (i * 5)) = some (.int .i64 m.id) ∧ w.cell? ⟨(ad.add (i * 5)).block, (ad.add (i * 5)).off + 1, none⟩ = some (.int .i64 m.level) ∧ w.cell? ⟨(ad.add (i * 5)).block, (ad.add (i * 5)).off + 2, none⟩ = some (.int .i64 m.count) ∧ w.cell? ⟨(ad.add (i * 5)).block, (ad.add (i * 5)).off + 3, none⟩ = some (.string m.low) ∧ w.cell? ⟨(ad.add (i * 5)).block, (ad.add (i * 5)).off + 4, none⟩ = some (.string m.high) := by
  have hlt : i < xs.length := (List.getElem?_eq_some_iff.1 hi).1
  have hn := Kd.C_len h
  obtain ⟨ad, c, e, _, hK, hc0⟩ := Kd.C_get h zMeta (i : Int) (by omega) (by omega)
  have hg : xs.getD (i : Int).toNat zMeta = m := by rw [Int.toNat_natCast, List.getD_eq_getElem?_getD, hi]; rfl
  rw [hg] at hK
  rw [Int.toNat_natCast] at hc0
  have hc : ∀ j u, c[j]? = some u → w.cell? (ad.add (i * 5 + j)) = some u := hc0
  obtain rfl := kMeta_open hK
  exact ⟨ad, e, hc 0 _ rfl, by rw [← add_field _ _ 1 (by omega)]; exact hc 1 _ rfl, by rw [← add_field _ _ 2 (by omega)]; exact hc 2 _ rfl, by rw [← add_field _ _ 3 (by omega)]; exact hc 3 _ rfl, by rw [← add_field _ _ 4 (by omega)]; exact hc 4 _ rfl⟩

/-- of a table behind others: what a version that may be asks of it -/
def stepOk (next : Int) (pre : List Meta) (m : Meta) : Bool :=
  mayM m && (decide (m.id < next) && !(pre.any fun x => x.id == m.id))
def linkOk (l m : Meta) : Bool := decide (ord l m < 0) && (m.level == 0 || (m.level != l.level || sLt l.high m.low))
def lastOk (pre : List Meta) (m : Meta) : Bool := match pre.getLast? with | none => true | some l => linkOk l m
/-- the tables up to i may be -/
def okTo (next : Int) (l : List Meta) : Nat → Bool
  | 0 => true
  | i + 1 => okTo next l i && (stepOk next (l.take i) (l.getD i zMeta) && lastOk (l.take i) (l.getD i zMeta))
def headOk (n : Nat) (seq next : Int) : Bool := decide (n ≤ 256) && (within next 1 2147483647 && within seq 0 1099511627776)
/-- may a version be -/
def verOk (l : List Meta) (seq next : Int) : Bool := headOk l.length seq next && okTo next l l.length
/-- its error's number -/
def verE (l : List Meta) (seq next : Int) : Int := if verOk l seq next then 0 else 9
end Go.Proofs.YtfakfgblaakgdaaGreat.EditPure

/- A map from whole numbers or texts to bools that the call itself makes, read as a set. Over any program. -/
namespace Go.Proofs.YtfakfgblaakgdaaGreat.Sets
set_option linter.unusedVariables false
open Go.RowKit Go.Maps Go.Proofs.YtfakfgblaakgdaaGreat.Base

def inI64 (x : Int) : Prop := -9223372036854775808 ≤ x ∧ x ≤ 9223372036854775807
theorem wf_i64' {x : Int} (h : inI64 x) : (Lit.int .i64 x).wf = true := WalkArith.wf_i64 h
theorem inI64_of_wf {x : Int} (h : (Lit.int .i64 x).wf = true) : inI64 x := by
  simpa [Lit.wf, IntKind.min, IntKind.max, IntKind.signed, IntKind.bits, inI64] using h

section
variable {P : Program} {k e : TypeId} {w : World} {b : Nat}

/-- what a list of keys reads as -/
def setD (l : List Lit) : DataW Unit := setOf (.lit (.bool true)) l

theorem atKey_setD (k : Lit) (hk : WideAt.IsKeyLit k) (l : List Lit) (h : ∀ x ∈ l, WideAt.IsKeyLit x) : (setD l).atKey k (.lit (.bool false)) = .lit (.bool (l.any fun x => x.sameKey k)) := by
  induction l using snocInd with
  | h0 => rfl
  | h1 l c ih =>
    have ih := ih (fun x hx => h x (by simp [hx]))
    have hc := h c (by simp)
    unfold setD at ih ⊢
    rw [setOf_snoc]
    by_cases e : k = c
    · subst e
      rw [atKey_put_same (tidy_setOf _ l (fun x hx => h x (by simp [hx]))).isMap hk]
      have : k.sameKey k = true := by
        have := has_put_same (H := Unit) (D := .map []) isMap_empty hk (.lit (.bool true))
        simpa [has, DataW.put, DataW.insert] using this
      simp [this]
    · rw [atKey_put_other e, ih]
      simp [sameKey_ne (Ne.symm e)]

/-- block b is a map that reads as a set of keys -/
def SetL (P : Program) (k e : TypeId) (w : World) (b : Nat) (l : List Lit) : Prop :=
  w.ownsMap (H := Unit) P k (plainElem P e) b l.length (setD l) ∧ ∀ x ∈ l, WideAt.IsKeyLit x

theorem SetL.made (w : World) (P : Program) (k e : TypeId) : SetL P k e (w.alloc (.map #[] 0)) w.heap.size [] :=
  ⟨World.ownsMap_made w P k _, fun x hx => by simp at hx⟩
theorem SetL.lt {l : List Lit} (h : SetL P k e w b l) : b < w.heap.size := h.1.lt
theorem SetL.alloc {l : List Lit} (h : SetL P k e w b l) (o : Obj) : SetL P k e (w.alloc o) b l := ⟨h.1.alloc o, h.2⟩
theorem SetL.drew {l : List Lit} (h : SetL P k e w b l) : SetL P k e w.drew b l := ⟨h.1.drew, h.2⟩
theorem SetL.below {w' : World} {l : List Lit} (h : SetL P k e w b l) (hb : Below w.heap.size w w') : SetL P k e w' b l := ⟨h.1.kept (Go.Proofs.YtfakfgblaakgdaaGreatW.PrintWords.grown_of_below hb none) (by simp), h.2⟩
theorem SetL.grown {w' : World} {r : Option Nat} {l : List Lit} (h : SetL P k e w b l) (hg : w.grownBy w' r) (hr : some b ≠ r) : SetL P k e w' b l := ⟨h.1.kept hg hr, h.2⟩
theorem SetL.setCell {l : List Lit} (h : SetL P k e w b l) {a : Addr} (ha : b ≠ a.block) (u : Value) : SetL P k e (w.setCell a u) b l := ⟨h.1.setCell ha u, h.2⟩

theorem SetL.lookup {t : TypeId} {l : List Lit} (h : SetL P k e w b l) (K : Keyed P k) (ht : P.underlying t = some (.map k e)) (he : P.underlying e = some .bool) (hz : (zeroValue e).run P w = .ok (.bool false) w)
    {key : Value} {kl : Lit} (hkey : keyOf P k key = some kl) (hk : WideAt.IsKeyLit kl) : (Instr.lookup t (.map (some b)) key false).run P w = .ok (.bool (l.any fun x => x.sameKey kl)) w := by
  obtain ⟨v, ps, hrun, hv⟩ := h.1.lookup K ht hz (plainElem_bool he false) hkey
  rw [atKey_setD kl hk l h.2] at hv
  have : v = .bool (l.any fun x => x.sameKey kl) := by
    unfold plainElem at hv
    rw [he] at hv
    cases v <;> simp at hv
    rw [hv.1]
  rw [← this]; exact hrun

theorem SetL.update {t : TypeId} {l : List Lit} (h : SetL P k e w b l) (K : Keyed P k) (ht : P.underlying t = some (.map k e)) (he : P.underlying e = some .bool) (hn : l.length < maxLen)
    {key : Value} {kl : Lit} (hkey : keyOf P k key = some kl) (hk : WideAt.IsKeyLit kl) :
    ∃ w', (Instr.mapUpdate t (.map (some b)) key (.bool true)).run P w = .ok () w' ∧ SetL P k e w' b (l ++ [kl]) ∧ w.grownBy w' (some b) := by
  obtain ⟨w', hrun, r1, r2⟩ := h.1.update K ht hn hkey (plainElem_bool he true)
  refine ⟨w', hrun, ⟨?_, fun x hx => ?_⟩, r2⟩
  · unfold setD at r1 ⊢
    rw [setOf_snoc, List.length_append]
    exact r1
  · rcases List.mem_append.1 hx with hx | hx
    · exact h.2 x hx
    · rw [List.mem_singleton.1 hx]; exact hk

theorem wpList_want {ops : Array Oper} {rest : List Oper} {o : Oper} {a : Act} {Q : Exit → Act → World → Prop} (hw : Region.wanted o (yielded ops a.tmps) = true)
    (h : o.wp P a w (wpList P ops Q rest) Q) : wpList P ops Q (o :: rest) a w := by
  rw [wpList, if_pos hw]; exact Or.inl h

/-- 'm[k]' at the operation -/
theorem wpList_lookup_set {ops : Array Oper} {rest : List Oper} {o : Oper} {a : Act} {Q : Exit → Act → World → Prop}
    (hg : Region.wanted o (yielded ops a.tmps) = true) (m x : Operand) (t : TypeId) (hop : o.op = Op.lookup t m x false)
    (k e : TypeId) (K : Keyed P k) (ht : P.underlying t = some (.map k e)) (he : P.underlying e = some .bool) (hz : (zeroValue e).run P w = .ok (.bool false) w) (b : Nat) (l : List Lit)
    (hm : a.eval m = .map (some b)) (hown : SetL P k e w b l) (key : Value) (kl : Lit) (hx : a.eval x = key) (hkey : keyOf P k key = some kl) (hk : WideAt.IsKeyLit kl)
    (hK : wpList P ops Q rest (a.put o.dst (.bool (l.any fun x => x.sameKey kl))) w) :
    wpList P ops Q (o :: rest) a w := by
  refine wpList_want hg ?_
  have hrun := hown.lookup K ht he hz hkey hk
  unfold Oper.wp
  simp [execOp, hop, hm, hx, hrun, Result.andThen]
  exact hK

/-- 'm[k] = true' at the operation -/
theorem wpList_update_set {ops : Array Oper} {rest : List Oper} {o : Oper} {a : Act} {Q : Exit → Act → World → Prop}
    (hg : Region.wanted o (yielded ops a.tmps) = true) (m x v : Operand) (t : TypeId) (hop : o.op = Op.mapUpdate t m x v)
    (k e : TypeId) (K : Keyed P k) (ht : P.underlying t = some (.map k e)) (he : P.underlying e = some .bool) (b : Nat) (l : List Lit)
    (hm : a.eval m = .map (some b)) (hown : SetL P k e w b l) (hn : l.length < maxLen) (key : Value) (kl : Lit) (hx : a.eval x = key) (hv : a.eval v = .bool true) (hkey : keyOf P k key = some kl) (hk : WideAt.IsKeyLit kl)
    (hK : ∀ w', SetL P k e w' b (l ++ [kl]) → w.grownBy w' (some b) → wpList P ops Q rest (a.put o.dst undef) w') :
    wpList P ops Q (o :: rest) a w := by
  refine wpList_want hg ?_
  obtain ⟨w', hrun, r1, r2⟩ := hown.update K ht he hn hkey hk
  unfold Oper.wp
  simp [execOp, hop, hm, hx, hv, hrun, Result.andThen]
  exact hK w' r1 r2
end

/-- whole numbers as keys -/
def ilits (l : List Int) : List Lit := l.map (Lit.int .i64)
theorem any_ilits (l : List Int) (x : Int) : ((ilits l).any fun y => y.sameKey (.int .i64 x)) = l.any (fun y => y == x) := by
  unfold ilits
  rw [List.any_map]
  congr 1
  funext y
  by_cases h : y = x
  · subst h; simp [Lit.sameKey]
  · rw [show ((fun y : Lit => y.sameKey (.int .i64 x)) ∘ Lit.int .i64) y = (Lit.int .i64 y).sameKey (.int .i64 x) from rfl, sameKey_ne (by simpa using h)]
    simp [h]
end Go.Proofs.YtfakfgblaakgdaaGreat.Sets

/- What a law's row hands in, read: a version of chapter 11 out of 'DataW.trod'. -/
namespace Go.Proofs.YtfakfgblaakgdaaGreat.Lift
set_option linter.unusedVariables false
open Go.ChangeShapes Go.WideShapes Go.ChangeAt Go.RowKit Go.Proofs.YtfakfgblaakgdaaGreatW.PrintWords Go.Proofs.YtfakfgblaakgdaaGreatW.PrintLast Go.Proofs.YtfakfgblaakgdaaGreat.Base Go.Proofs.YtfakfgblaakgdaaGreat.EditPure Go.Proofs.YtfakfgblaakgdaaGreat.Sets

section
variable {H : Type} {enc : TypeId × Value → H} {P : Program} {W : World} {base : Nat} {spare : Nat → Bool} {held : Bool}
theorem trod_int {t : TypeId} {k : IntKind} (hu : P.underlying t = some (.int k)) {fuel : Nat} {v : Value} {d : DataW H} {p : List MemPlace} (h : DataW.trod enc P W base spare held fuel t [v] = some (d, p)) : ∃ n, v = .int k n ∧ d = .lit (.int k n) ∧ (Lit.int k n).wf = true := by
  cases fuel with
  | zero => simp [DataW.trod] at h
  | succ fuel =>
    unfold DataW.trod at h
    rw [hu] at h
    cases v <;> simp at h
    rename_i k' n
    exact ⟨n, by rw [h.1.1], h.2.1.symm, h.1.2⟩
theorem trod_str {t : TypeId} (hu : P.underlying t = some .string) {fuel : Nat} {v : Value} {d : DataW H} {p : List MemPlace} (h : DataW.trod enc P W base spare held fuel t [v] = some (d, p)) : ∃ s, v = .string s ∧ d = .lit (.string s.data.toList) := by
  cases fuel with
  | zero => simp [DataW.trod] at h
  | succ fuel =>
    unfold DataW.trod at h
    rw [hu] at h
    cases v <;> simp at h
    rename_i s
    exact ⟨s, rfl, h.2.1.symm⟩
/-- a slice: nothing, or its elements one by one -/
theorem trod_slice {t e : TypeId} (hu : P.underlying t = some (.slice e)) {fuel : Nat} {v : Value} {d : DataW H} {p : List MemPlace} (h : DataW.trod enc P W base spare held (fuel + 1) t [v] = some (d, p)) :
    (v = .slice none 0 0 ∧ d = .nil) ∨ ∃ (a : Addr) (len cap : Nat) (elems rest : List (DataW H × List MemPlace)), v = .slice (some a) len cap ∧ len ≤ cap ∧ cap ≤ maxLen ∧ d = .slice (elems.map (·.1)) (rest.map (·.1)) ∧ (List.range len).mapM (fun i => (W.cells? base (a.add (i * P.cellsOf e)) (P.cellsOf e)).bind (DataW.trod enc P W base spare held fuel e)) = some elems := by
  unfold DataW.trod at h
  rw [hu] at h
  cases v with
  | slice a len cap =>
    cases a with
    | none =>
      cases len <;> cases cap <;> simp at h
      exact .inl ⟨rfl, h.1.symm⟩
    | some a =>
      refine .inr ?_
      simp only at h
      by_cases hc : base ≤ a.block ∧ len ≤ cap ∧ cap ≤ maxLen
      · rw [if_pos hc] at h
        obtain ⟨elems, h1, h2⟩ := Option.bind_eq_some_iff.1 h
        obtain ⟨rest, h3, h4⟩ := Option.map_eq_some_iff.1 h2
        exact ⟨a, len, cap, elems, rest, rfl, hc.2.1, hc.2.2, (Prod.mk.inj h4).1.symm, h1⟩
      · rw [if_neg hc] at h; cases h
  | _ => simp at h
theorem mapM_each {α β : Type} (f : α → Option β) : ∀ (l : List α) (ys : List β), l.mapM f = some ys → ys.length = l.length ∧ ∀ (i : Nat) (x : α), l[i]? = some x → ∃ y, f x = some y ∧ ys[i]? = some y
  | [], ys, h => by
    simp at h
    subst h
    exact ⟨rfl, fun i x hx => by simp at hx⟩
  | a :: l, ys, h => by
    rw [List.mapM_cons] at h
    obtain ⟨y, h1, h2⟩ := Option.bind_eq_some_iff.1 h
    obtain ⟨zs, h3, h4⟩ := Option.bind_eq_some_iff.1 h2
    have h5 : ys = y :: zs := by simpa using h4.symm
    subst h5
    obtain ⟨e1, e2⟩ := mapM_each f l zs h3
    refine ⟨by simp [e1], fun i x hx => ?_⟩
    cases i with
    | zero => simp at hx; subst hx; exact ⟨y, h1, rfl⟩
    | succ i => exact e2 i x (by simpa using hx)
end

/-- what a table reads as -/
def dMeta {H : Type} (m : Meta) : DataW H := .agg [.lit (.int .i64 m.id), .lit (.int .i64 m.level), .lit (.int .i64 m.count), .lit (.string m.low.data.toList), .lit (.string m.high.data.toList)]
def wfMeta (m : Meta) : Prop := inI64 m.id ∧ inI64 m.level ∧ inI64 m.count
set_option maxRecDepth 100000 in
set_option maxHeartbeats 1000000 in
theorem trod_meta {H : Type} {enc : TypeId × Value → H} {W : World} {base : Nat} {spare : Nat → Bool} {held : Bool} {fuel : Nat} {cs : List Value} {d : DataW H} {p : List MemPlace}
    (h : DataW.trod enc Tryz.prog W base spare held fuel 139 cs = some (d, p)) : ∃ m : Meta, cs = m.cs ∧ d = dMeta m ∧ wfMeta m := by
  cases fuel with
  | zero => simp [DataW.trod] at h
  | succ fuel =>
    unfold DataW.trod at h
    rw [Tryz.underlying139] at h
    have hc : Tryz.prog.cellsOf 139 = 5 := by kernel_rfl
    have hi : Tryz.prog.cellsOf 3 = 1 := by kernel_rfl
    have hs : Tryz.prog.cellsOf 9 = 1 := by kernel_rfl
    simp only [hc] at h
    by_cases hl : cs.length = 5
    · rw [if_pos hl] at h
      obtain ⟨v0, v1, v2, v3, v4, rfl⟩ : ∃ v0 v1 v2 v3 v4, cs = [v0, v1, v2, v3, v4] := by
        rcases cs with _ | ⟨v0, _ | ⟨v1, _ | ⟨v2, _ | ⟨v3, _ | ⟨v4, _ | ⟨v5, r⟩⟩⟩⟩⟩⟩ <;> simp at hl
        exact ⟨v0, v1, v2, v3, v4, rfl⟩
      obtain ⟨xs, h1, h2⟩ := Option.map_eq_some_iff.1 h
      obtain ⟨e1, e2⟩ := mapM_each _ _ _ h1
      obtain ⟨y0, f0, g0⟩ := e2 0 _ rfl
      obtain ⟨y1, f1, g1⟩ := e2 1 _ rfl
      obtain ⟨y2, f2, g2⟩ := e2 2 _ rfl
      obtain ⟨y3, f3, g3⟩ := e2 3 _ rfl
      obtain ⟨y4, f4, g4⟩ := e2 4 _ rfl
      simp only [hi, hs, List.drop_zero, List.drop_succ_cons, List.take_succ_cons, List.take_zero] at f0 f1 f2 f3 f4
      obtain ⟨d0, p0⟩ := y0
      obtain ⟨d1, p1⟩ := y1
      obtain ⟨d2, p2⟩ := y2
      obtain ⟨d3, p3⟩ := y3
      obtain ⟨d4, p4⟩ := y4
      obtain ⟨n0, rfl, rfl, w0⟩ := trod_int Tryz.underlying3 f0
      obtain ⟨n1, rfl, rfl, w1⟩ := trod_int Tryz.underlying3 f1
      obtain ⟨n2, rfl, rfl, w2⟩ := trod_int Tryz.underlying3 f2
      obtain ⟨s3, rfl, rfl⟩ := trod_str Tryz.underlying9 f3
      obtain ⟨s4, rfl, rfl⟩ := trod_str Tryz.underlying9 f4
      refine ⟨⟨n0, n1, n2, s3, s4⟩, rfl, ?_, inI64_of_wf w0, inI64_of_wf w1, inI64_of_wf w2⟩
      have hx : xs = [(.lit (.int .i64 n0), p0), (.lit (.int .i64 n1), p1), (.lit (.int .i64 n2), p2), (.lit (.string s3.data.toList), p3), (.lit (.string s4.data.toList), p4)] := by
        have e1' : xs.length = 5 := e1
        apply List.ext_getElem?
        intro i
        rcases i with _ | _ | _ | _ | _ | i
        · rw [g0]; rfl
        · rw [g1]; rfl
        · rw [g2]; rfl
        · rw [g3]; rfl
        · rw [g4]; rfl
        · rw [List.getElem?_eq_none (by omega)]; simp
      rw [hx] at h2
      exact (Prod.mk.inj h2).1.symm
    · rw [if_neg hl] at h; cases h

theorem list_of {α : Type} (n : Nat) (Q : Nat → α → Prop) (h : ∀ i, i < n → ∃ x, Q i x) : ∃ l : List α, l.length = n ∧ ∀ (i : Nat) (x : α), l[i]? = some x → Q i x := by
  induction n with
  | zero => exact ⟨[], rfl, fun i x hx => by simp at hx⟩
  | succ n ih =>
    obtain ⟨l, h1, h2⟩ := ih (fun i hi => h i (by omega))
    obtain ⟨x, hx⟩ := h n (by omega)
    refine ⟨l ++ [x], by simp [h1], fun i y hy => ?_⟩
    by_cases hi : i < l.length
    · rw [List.getElem?_append_left hi] at hy; exact h2 i y hy
    · rw [List.getElem?_append_right (by omega)] at hy
      have h3 : i - l.length < 1 := (List.getElem?_eq_some_iff.1 hy).1
      have h4 : i = n := by omega
      rw [show i - l.length = 0 by omega] at hy
      have h5 : x = y := by simpa using hy
      rw [← h5, h4]; exact hx

theorem bulk_len {H : Type} (l : List (DataW H)) : l.length ≤ Rows.uptoBulkAll l := by
  induction l with
  | nil => simp
  | cons d l ih =>
    rw [Rows.uptoBulkAll, List.length_cons]
    have : 1 ≤ Rows.uptoBulk d := by
      cases d with
      | lit x => cases x <;> simp [Rows.uptoBulk]
      | _ => simp [Rows.uptoBulk]
    omega

end Go.Proofs.YtfakfgblaakgdaaGreat.Lift

/- Blocks of a variable of a struct's type, as a whole: what is stored, what is read at the end. No program. -/
namespace Go.Proofs.YtfakfgblaakgdaaGreat.Cells
open Go.RowKit Go.Proofs.YtfakfgblaakgdaaGreatW.PrintWords Go.Proofs.YtfakfgblaakgdaaGreatW.PrintLast Go.Proofs.YtfakfgblaakgdaaGreat.Base

theorem blk_new1 (w : World) (o : Obj) (cs : Array Value) (t : TypeId) : ((w.alloc o).alloc (.cells cs t)).heap[w.heap.size + 1]? = some (.cells cs t (0, 0)) := by
  have := heap_alloc_new (w.alloc o) (.cells cs t)
  simpa using this
theorem blk_keep {w w1 : World} {g : Nat} {t : TypeId} {cs : Array Value} (h : w.heap[g]? = some (.cells cs t (0, 0))) (hb : Below w.heap.size w w1) : w1.heap[g]? = some (.cells cs t (0, 0)) := (hb.block g (blk_lt h)).trans h

section
variable {w : World} {g : Nat} {t : TypeId}
/-- the cells of a block that is written -/
theorem all3 {a b c : Value} (h : w.heap[g]? = some (.cells #[a, b, c] t (0, 0))) :
    w.cell? ⟨g, 0, none⟩ = some a ∧ w.cell? ⟨g, 1, none⟩ = some b ∧ w.cell? ⟨g, 2, none⟩ = some c ∧ w.frozen? ⟨g, 0, none⟩ = false ∧ w.frozen? ⟨g, 1, none⟩ = false ∧ w.frozen? ⟨g, 2, none⟩ = false :=
  ⟨blk_cell h 0, blk_cell h 1, blk_cell h 2, blk_frozen h 0, blk_frozen h 1, blk_frozen h 2⟩
theorem all4 {a b c d : Value} (h : w.heap[g]? = some (.cells #[a, b, c, d] t (0, 0))) :
    w.cell? ⟨g, 0, none⟩ = some a ∧ w.cell? ⟨g, 1, none⟩ = some b ∧ w.cell? ⟨g, 2, none⟩ = some c ∧ w.cell? ⟨g, 3, none⟩ = some d ∧ w.frozen? ⟨g, 0, none⟩ = false ∧ w.frozen? ⟨g, 1, none⟩ = false ∧ w.frozen? ⟨g, 2, none⟩ = false ∧ w.frozen? ⟨g, 3, none⟩ = false :=
  ⟨blk_cell h 0, blk_cell h 1, blk_cell h 2, blk_cell h 3, blk_frozen h 0, blk_frozen h 1, blk_frozen h 2, blk_frozen h 3⟩
theorem all5 {a b c d e : Value} (h : w.heap[g]? = some (.cells #[a, b, c, d, e] t (0, 0))) :
    w.cell? ⟨g, 0, none⟩ = some a ∧ w.cell? ⟨g, 1, none⟩ = some b ∧ w.cell? ⟨g, 2, none⟩ = some c ∧ w.cell? ⟨g, 3, none⟩ = some d ∧ w.cell? ⟨g, 4, none⟩ = some e ∧ w.frozen? ⟨g, 0, none⟩ = false ∧ w.frozen? ⟨g, 1, none⟩ = false ∧ w.frozen? ⟨g, 2, none⟩ = false ∧ w.frozen? ⟨g, 3, none⟩ = false ∧ w.frozen? ⟨g, 4, none⟩ = false :=
  ⟨blk_cell h 0, blk_cell h 1, blk_cell h 2, blk_cell h 3, blk_cell h 4, blk_frozen h 0, blk_frozen h 1, blk_frozen h 2, blk_frozen h 3, blk_frozen h 4⟩
theorem blk3 {a b c x y z : Value} (h : w.heap[g]? = some (.cells #[a, b, c] t (0, 0))) :
    (((w.setCell ⟨g, 0, none⟩ x).setCell ⟨g, 1, none⟩ y).setCell ⟨g, 2, none⟩ z).heap[g]? = some (.cells #[x, y, z] t (0, 0)) :=
  blk_put (cs := #[x, y, c]) (blk_put (cs := #[x, b, c]) (blk_put (cs := #[a, b, c]) h 0 x rfl) 1 y rfl) 2 z rfl
theorem blk4 {a b c d x y z u : Value} (h : w.heap[g]? = some (.cells #[a, b, c, d] t (0, 0))) :
    ((((w.setCell ⟨g, 0, none⟩ x).setCell ⟨g, 1, none⟩ y).setCell ⟨g, 2, none⟩ z).setCell ⟨g, 3, none⟩ u).heap[g]? = some (.cells #[x, y, z, u] t (0, 0)) :=
  blk_put (cs := #[x, y, z, d]) (blk3' h) 3 u rfl
where blk3' {a b c d x y z : Value} (h : w.heap[g]? = some (.cells #[a, b, c, d] t (0, 0))) :
    (((w.setCell ⟨g, 0, none⟩ x).setCell ⟨g, 1, none⟩ y).setCell ⟨g, 2, none⟩ z).heap[g]? = some (.cells #[x, y, z, d] t (0, 0)) :=
  blk_put (cs := #[x, y, c, d]) (blk_put (cs := #[x, b, c, d]) (blk_put (cs := #[a, b, c, d]) h 0 x rfl) 1 y rfl) 2 z rfl
theorem blk5 {a b c d e x y z u v : Value} (h : w.heap[g]? = some (.cells #[a, b, c, d, e] t (0, 0))) :
    (((((w.setCell ⟨g, 0, none⟩ x).setCell ⟨g, 1, none⟩ y).setCell ⟨g, 2, none⟩ z).setCell ⟨g, 3, none⟩ u).setCell ⟨g, 4, none⟩ v).heap[g]? = some (.cells #[x, y, z, u, v] t (0, 0)) :=
  blk_put (cs := #[x, y, z, u, e]) (blk_put (cs := #[x, y, z, d, e]) (blk_put (cs := #[x, y, c, d, e]) (blk_put (cs := #[x, b, c, d, e]) (blk_put (cs := #[a, b, c, d, e]) h 0 x rfl) 1 y rfl) 2 z rfl) 3 u rfl) 4 v rfl
/-- nothing below B has turned by stores into block g -/
theorem below_set3 {B : Nat} {w0 : World} (hb : Below B w0 w) (hg : B ≤ g) (x y z : Value) : Below B w0 (((w.setCell ⟨g, 0, none⟩ x).setCell ⟨g, 1, none⟩ y).setCell ⟨g, 2, none⟩ z) :=
  ((hb.setCell (p := ⟨g, 0, none⟩) hg x).setCell (p := ⟨g, 1, none⟩) hg y).setCell (p := ⟨g, 2, none⟩) hg z
theorem below_set4 {B : Nat} {w0 : World} (hb : Below B w0 w) (hg : B ≤ g) (x y z u : Value) : Below B w0 ((((w.setCell ⟨g, 0, none⟩ x).setCell ⟨g, 1, none⟩ y).setCell ⟨g, 2, none⟩ z).setCell ⟨g, 3, none⟩ u) :=
  (below_set3 hb hg x y z).setCell (p := ⟨g, 3, none⟩) hg u
theorem below_set5 {B : Nat} {w0 : World} (hb : Below B w0 w) (hg : B ≤ g) (x y z u v : Value) : Below B w0 (((((w.setCell ⟨g, 0, none⟩ x).setCell ⟨g, 1, none⟩ y).setCell ⟨g, 2, none⟩ z).setCell ⟨g, 3, none⟩ u).setCell ⟨g, 4, none⟩ v) :=
  (below_set4 hb hg x y z u).setCell (p := ⟨g, 4, none⟩) hg v
/-- a row of one's own that lies behind block g stays by stores into g -/
theorem Rset {α : Type} {k : Kd α} {e : TypeId} {base : Nat} {v : Value} {l : List α} (h : k.R e w base (fun _ => True) v l) {p : Addr} (hp : p.block < base) (u : Value) : k.R e (w.setCell p u) base (fun _ => True) v l :=
  Kd.R_mono (Kd.R_far (Kd.R_bound h) (p := p) (fun k hk => by have := hk.2.1; omega) u) (fun _ _ => trivial)
theorem Rset3 {α : Type} {k : Kd α} {e : TypeId} {base : Nat} {v : Value} {l : List α} (h : k.R e w base (fun _ => True) v l) (hp : g < base) (x y z : Value) : k.R e (((w.setCell ⟨g, 0, none⟩ x).setCell ⟨g, 1, none⟩ y).setCell ⟨g, 2, none⟩ z) base (fun _ => True) v l :=
  Rset (Rset (Rset h (p := ⟨g, 0, none⟩) hp x) (p := ⟨g, 1, none⟩) hp y) (p := ⟨g, 2, none⟩) hp z
theorem Rset4 {α : Type} {k : Kd α} {e : TypeId} {base : Nat} {v : Value} {l : List α} (h : k.R e w base (fun _ => True) v l) (hp : g < base) (x y z u : Value) : k.R e ((((w.setCell ⟨g, 0, none⟩ x).setCell ⟨g, 1, none⟩ y).setCell ⟨g, 2, none⟩ z).setCell ⟨g, 3, none⟩ u) base (fun _ => True) v l :=
  Rset (Rset3 h hp x y z) (p := ⟨g, 3, none⟩) hp u
end
end Go.Proofs.YtfakfgblaakgdaaGreat.Cells

/- Files of chapter 4 as plain data. No program. -/
namespace Go.Proofs.YtfakfgblaakgdaaGreat.Files
set_option linter.unusedVariables false
set_option linter.unusedSimpArgs false
open Go.RowKit Go.Proofs.YtfakfgblaakgdaaGreatW.PrintWords Go.Proofs.YtfakfgblaakgdaaGreatW.PrintLast Go.Proofs.YtfakfgblaakgdaaGreat.Base

structure Fl where
  id : Int
  data : List Int
  sync : Int
structure Nm where
  name : ByteArray
  id : Int
structure St where
  cap : Int
  files : List Fl
  names : List Nm
  safe : List Nm
  next : Int
instance : Inhabited Fl := ⟨⟨0, [], 0⟩⟩
instance : Inhabited Nm := ⟨⟨⟨#[]⟩, 0⟩⟩

def zFl : Fl := ⟨0, [], 0⟩
def zNm : Nm := ⟨⟨#[]⟩, 0⟩
def kOct : Kd (List Int) := Kd.slice 5 (Kd.int .u8)
def kFl : Kd Fl := Kd.iso (Kd.pair (Kd.int .i64) (Kd.pair kOct (Kd.int .i64))) (fun x : Fl => (x.id, x.data, x.sync))
def kNm : Kd Nm := Kd.iso (Kd.pair Kd.string (Kd.int .i64)) (fun x : Nm => (x.name, x.id))
def Nm.cs (m : Nm) : List Value := [.string m.name, .int .i64 m.id]
theorem kNm_open {w : World} {x : Nm} {cs : List Value} (h : kNm.K w x cs) : cs = x.cs := by
  obtain ⟨_, _, rfl, rfl, rfl⟩ := h
  exact rfl
theorem kNm_openM {w : World} {base : Nat} {ok : Nat → Prop} {x : Nm} {cs : List Value} (h : kNm.M w base ok x cs) : cs = x.cs := by
  obtain ⟨_, _, rfl, rfl, rfl⟩ := h
  exact rfl
theorem kNm_mk (w : World) (x : Nm) : kNm.K w x x.cs := ⟨[.string x.name], [.int .i64 x.id], rfl, rfl, rfl⟩
theorem kNm_mkM (w : World) (base : Nat) (ok : Nat → Prop) (x : Nm) : kNm.M w base ok x x.cs := ⟨[.string x.name], [.int .i64 x.id], rfl, rfl, rfl⟩
theorem kFl_open {w : World} {x : Fl} {cs : List Value} (h : kFl.K w x cs) : ∃ A c, cs = [.int .i64 x.id, .slice A x.data.length c, .int .i64 x.sync] ∧ x.data.length ≤ c ∧ ReadsInt w .u8 A x.data.length x.data := by
  obtain ⟨_, _, rfl, rfl, ⟨_, _, rfl, ⟨A, c, rfl, hl, hr⟩, rfl⟩⟩ := h
  exact ⟨A, c, rfl, hl, Kd.reads_of_C (d := (0 : Int)) hr⟩
theorem kFl_mk {w : World} {x : Fl} {A : Option Addr} {c : Nat} (hl : x.data.length ≤ c) (hr : ReadsInt w .u8 A x.data.length x.data) : kFl.K w x [.int .i64 x.id, .slice A x.data.length c, .int .i64 x.sync] :=
  ⟨[.int .i64 x.id], [.slice A x.data.length c, .int .i64 x.sync], rfl, rfl, ⟨[.slice A x.data.length c], [.int .i64 x.sync], rfl, ⟨A, c, rfl, hl, Kd.C_of_reads (d := (0 : Int)) hr⟩, rfl⟩⟩
theorem kFl_mkM {w : World} {base : Nat} {ok : Nat → Prop} {x : Fl} {v : Value} (h : (Kd.int .u8).R 5 w base ok v x.data) : kFl.M w base ok x [.int .i64 x.id, v, .int .i64 x.sync] :=
  ⟨[.int .i64 x.id], [v, .int .i64 x.sync], rfl, rfl, ⟨[v], [.int .i64 x.sync], rfl, ⟨v, rfl, h⟩, rfl⟩⟩

/-- the cells of file i of a row that is read -/
theorem atFl {w : World} {A : Option Addr} {n : Nat} {xs : List Fl} (h : kFl.C w A n xs) (i : Nat) (m : Fl) (hi : xs[i]? = some m) :
    ∃ ad D dc, A = some ad ∧ w.cell? (ad.add (i * 3)) = some (.int .i64 m.id) ∧ w.cell? ⟨(ad.add (i * 3)).block, (ad.add (i * 3)).off + 1, none⟩ = some (.slice D m.data.length dc) ∧ w.cell? ⟨(ad.add (i * 3)).block, (ad.add (i * 3)).off + 2, none⟩ = some (.int .i64 m.sync) ∧ m.data.length ≤ dc ∧ ReadsInt w .u8 D m.data.length m.data := by
  have hlt : i < xs.length := (List.getElem?_eq_some_iff.1 hi).1
  have hn := Kd.C_len h
  obtain ⟨ad, c, e, _, hK, hc0⟩ := Kd.C_get h zFl (i : Int) (by omega) (by omega)
  have hg : xs.getD (i : Int).toNat zFl = m := by rw [Int.toNat_natCast, List.getD_eq_getElem?_getD, hi]; rfl
  rw [hg] at hK
  rw [Int.toNat_natCast] at hc0
  have hc : ∀ j u, c[j]? = some u → w.cell? (ad.add (i * 3 + j)) = some u := hc0
  obtain ⟨D, dc, rfl, hl, hr⟩ := kFl_open hK
  exact ⟨ad, D, dc, e, hc 0 _ rfl, by rw [← add_field _ _ 1 (by omega)]; exact hc 1 _ rfl, by rw [← add_field _ _ 2 (by omega)]; exact hc 2 _ rfl, hl, hr⟩
/-- the cells of name i of a row that is read -/
theorem atNm {w : World} {A : Option Addr} {n : Nat} {xs : List Nm} (h : kNm.C w A n xs) (i : Nat) (m : Nm) (hi : xs[i]? = some m) :
    ∃ ad, A = some ad ∧ w.cell? (ad.add (i * 2)) = some (.string m.name) ∧ w.cell? ⟨(ad.add (i * 2)).block, (ad.add (i * 2)).off + 1, none⟩ = some (.int .i64 m.id) := by
  have hlt : i < xs.length := (List.getElem?_eq_some_iff.1 hi).1
  have hn := Kd.C_len h
  obtain ⟨ad, c, e, _, hK, hc0⟩ := Kd.C_get h zNm (i : Int) (by omega) (by omega)
  have hg : xs.getD (i : Int).toNat zNm = m := by rw [Int.toNat_natCast, List.getD_eq_getElem?_getD, hi]; rfl
  rw [hg] at hK
  rw [Int.toNat_natCast] at hc0
  have hc : ∀ j u, c[j]? = some u → w.cell? (ad.add (i * 2 + j)) = some u := hc0
  obtain rfl := kNm_open hK
  exact ⟨ad, e, hc 0 _ rfl, by rw [← add_field _ _ 1 (by omega)]; exact hc 1 _ rfl⟩

/-- a state that is read: where its three rows lie -/
structure Hd (w : World) (s : St) (F : Option Addr) (fc : Nat) (N : Option Addr) (nc : Nat) (S : Option Addr) (sc : Nat) : Prop where
  hF : kFl.C w F s.files.length s.files
  hN : kNm.C w N s.names.length s.names
  hS : kNm.C w S s.safe.length s.safe
  lF : s.files.length ≤ fc
  lN : s.names.length ≤ nc
  lS : s.safe.length ≤ sc
theorem Hd.below {w w1 : World} {s : St} {F N S : Option Addr} {fc nc sc : Nat} (h : Hd w s F fc N nc S sc) (hb : Below w.heap.size w w1) : Hd w1 s F fc N nc S sc :=
  ⟨Kd.C_below h.hF hb, Kd.C_below h.hN hb, Kd.C_below h.hS hb, h.lF, h.lN, h.lS⟩

/-- sizes of a state: nothing of it is too large for the machine -/
structure Small (s : St) : Prop where
  lf : s.files.length ≤ 1048576
  ln : s.names.length ≤ 1048576
  ls : s.safe.length ≤ 1048576
  ld : ∀ f ∈ s.files, f.data.length ≤ 1048576
/-- the whole numbers of a state are whole numbers of the machine -/
structure Wf (s : St) : Prop where
  wn : ∀ n ∈ s.names, -9223372036854775808 ≤ n.id ∧ n.id ≤ 9223372036854775807
  ws : ∀ n ∈ s.safe, -9223372036854775808 ≤ n.id ∧ n.id ≤ 9223372036854775807
end Go.Proofs.YtfakfgblaakgdaaGreat.Files

/- What a law's row hands in, read: the files of chapter 4 (printed by wip/gen_liftf.py). -/
namespace Go.Proofs.YtfakfgblaakgdaaGreat.Lift
set_option linter.unusedVariables false
set_option linter.unusedSimpArgs false
open Go.ChangeShapes Go.WideShapes Go.ChangeAt Go.RowKit Go.Proofs.YtfakfgblaakgdaaGreatW.PrintWords Go.Proofs.YtfakfgblaakgdaaGreatW.PrintLast Go.Proofs.YtfakfgblaakgdaaGreat.Base Go.Proofs.YtfakfgblaakgdaaGreat.EditPure Go.Proofs.YtfakfgblaakgdaaGreat.Sets Go.Proofs.YtfakfgblaakgdaaGreat.Files

theorem bulk_mem {H : Type} : ∀ (l : List (DataW H)) (d : DataW H), d ∈ l → Rows.uptoBulk d ≤ Rows.uptoBulkAll l := by
  intro l
  induction l with
  | nil => intro d h; simp at h
  | cons x l ih =>
    intro d h
    rw [Rows.uptoBulkAll]
    rcases List.mem_cons.1 h with rfl | h
    · omega
    · have := ih d h; omega

set_option maxRecDepth 100000 in
theorem trod_oct {H : Type} {enc : TypeId × Value → H} {W : World} {base : Nat} {spare : Nat → Bool} {held : Bool} {fuel : Nat} {v : Value} {d : DataW H} {p : List MemPlace}
    (h : DataW.trod enc Tryz.prog W base spare held fuel 88 [v] = some (d, p)) : ∃ A l c, v = .slice A l.length c ∧ l.length ≤ c ∧ ReadsInt W .u8 A l.length l ∧ l.length ≤ Rows.uptoBulk d ∧ ∀ x ∈ l, 0 ≤ x ∧ x ≤ 255 := by
  cases fuel with
  | zero => simp [DataW.trod] at h
  | succ fuel =>
    rcases trod_slice Tryz.underlying88 h with ⟨rfl, rfl⟩ | ⟨a, len, cap, elems, rest, rfl, hlc, hcm, rfl, hm⟩
    · exact ⟨none, [], 0, rfl, Nat.le_refl _, ReadsInt.nil _ _, by simp, fun m hm => by simp at hm⟩
    · have hc : Tryz.prog.cellsOf 5 = 1 := by kernel_rfl
      rw [hc] at hm
      obtain ⟨e1, e2⟩ := mapM_each _ _ _ hm
      rw [List.length_range] at e1
      obtain ⟨l, hl, hq⟩ := list_of len (fun i (n : Int) => W.cell? (a.add i) = some (.int .u8 n) ∧ 0 ≤ n ∧ n ≤ 255) (fun i hi => by
        obtain ⟨y, h1, h2⟩ := e2 i i (by rw [List.getElem?_range hi])
        obtain ⟨cs, h3, h4⟩ := Option.bind_eq_some_iff.1 h1
        obtain ⟨_, h6, h7⟩ := World.cells?_some h3
        obtain ⟨v, rfl⟩ : ∃ v, cs = [v] := List.length_eq_one_iff.1 h6
        obtain ⟨d', p'⟩ := y
        obtain ⟨n, rfl, _, h5⟩ := trod_int Tryz.underlying5 h4
        refine ⟨n, ?_, ?_⟩
        · have := h7 0 (by omega)
          rw [add_add, Nat.mul_one] at this
          simpa using this
        · simpa [Lit.wf, IntKind.min, IntKind.max, IntKind.signed, IntKind.bits] using h5)
      subst hl
      refine ⟨some a, l, cap, rfl, hlc, ⟨rfl, by have : maxLen = 9223372036854775807 := rfl; omega, fun _ => ⟨a, rfl, fun j hj => ?_⟩⟩, ?_, fun m hm => ?_⟩
      · have hj2 : l[j]? = some (l.getD j 0) := by rw [List.getD_eq_getElem?_getD, List.getElem?_eq_getElem hj]; rfl
        exact (hq j _ hj2).1
      · rw [Rows.uptoBulk]
        have := bulk_len (elems.map (·.1))
        rw [List.length_map, e1] at this
        omega
      · obtain ⟨i, hi⟩ := List.mem_iff_getElem?.1 hm
        exact (hq i m hi).2

set_option maxRecDepth 100000 in
set_option maxHeartbeats 1000000 in
theorem trod_file {H : Type} {enc : TypeId × Value → H} {W : World} {base : Nat} {spare : Nat → Bool} {held : Bool} {fuel : Nat} {cs : List Value} {d : DataW H} {p : List MemPlace}
    (h : DataW.trod enc Tryz.prog W base spare held fuel 114 cs = some (d, p)) : ∃ m : Fl, kFl.K W m cs ∧ (inI64 m.id ∧ inI64 m.sync) ∧ m.data.length ≤ Rows.uptoBulk d := by
  cases fuel with
  | zero => simp [DataW.trod] at h
  | succ fuel =>
    unfold DataW.trod at h
    rw [Tryz.underlying114] at h
    have hc : Tryz.prog.cellsOf 114 = 3 := by kernel_rfl
    have hqint : Tryz.prog.cellsOf 3 = 1 := by kernel_rfl
    have hqoct : Tryz.prog.cellsOf 88 = 1 := by kernel_rfl
    simp only [hc] at h
    by_cases hl : cs.length = 3
    · rw [if_pos hl] at h
      obtain ⟨v0, v1, v2, rfl⟩ : ∃ v0 v1 v2, cs = [v0, v1, v2] := by
        rcases cs with _ | ⟨v0, _ | ⟨v1, _ | ⟨v2, _ | ⟨v3, r⟩⟩⟩⟩ <;> simp at hl
        exact ⟨v0, v1, v2, rfl⟩
      obtain ⟨xs, h1, h2⟩ := Option.map_eq_some_iff.1 h
      obtain ⟨e1, e2⟩ := mapM_each _ _ _ h1
      obtain ⟨y0, f0, g0⟩ := e2 0 _ rfl
      obtain ⟨y1, f1, g1⟩ := e2 1 _ rfl
      obtain ⟨y2, f2, g2⟩ := e2 2 _ rfl
      simp only [hqint, hqoct, List.drop_zero, List.drop_succ_cons, List.take_succ_cons, List.take_zero] at f0 f1 f2
      obtain ⟨d0, p0⟩ := y0
      obtain ⟨d1, p1⟩ := y1
      obtain ⟨d2, p2⟩ := y2
      obtain ⟨n0, rfl, rfl, w0⟩ := trod_int Tryz.underlying3 f0
      obtain ⟨A1, x1, c1, rfl, l1, r1, b1, o1⟩ := trod_oct f1
      obtain ⟨n2, rfl, rfl, w2⟩ := trod_int Tryz.underlying3 f2
      have hx : xs = [(.lit (.int .i64 n0), p0), (d1, p1), (.lit (.int .i64 n2), p2)] := by
        have e1' : xs.length = 3 := e1
        apply List.ext_getElem?
        intro i
        rcases i with _ | _ | _ | i
        · rw [g0]; rfl
        · rw [g1]; rfl
        · rw [g2]; rfl
        · rw [List.getElem?_eq_none (by omega)]; simp
      rw [hx] at h2
      have hd := (Prod.mk.inj h2).1
      subst hd
      refine ⟨⟨n0, x1, n2⟩, kFl_mk l1 r1, ⟨inI64_of_wf w0, inI64_of_wf w2⟩, ?_⟩
      simp only [Rows.uptoBulk, Rows.uptoBulkAll, List.map_cons, List.map_nil]
      omega
    · rw [if_neg hl] at h; cases h

set_option maxRecDepth 100000 in
set_option maxHeartbeats 1000000 in
theorem trod_name {H : Type} {enc : TypeId × Value → H} {W : World} {base : Nat} {spare : Nat → Bool} {held : Bool} {fuel : Nat} {cs : List Value} {d : DataW H} {p : List MemPlace}
    (h : DataW.trod enc Tryz.prog W base spare held fuel 147 cs = some (d, p)) : ∃ m : Nm, kNm.K W m cs ∧ inI64 m.id ∧ m.name.size ≤ Rows.uptoBulk d := by
  cases fuel with
  | zero => simp [DataW.trod] at h
  | succ fuel =>
    unfold DataW.trod at h
    rw [Tryz.underlying147] at h
    have hc : Tryz.prog.cellsOf 147 = 2 := by kernel_rfl
    have hqint : Tryz.prog.cellsOf 3 = 1 := by kernel_rfl
    have hqstr : Tryz.prog.cellsOf 9 = 1 := by kernel_rfl
    simp only [hc] at h
    by_cases hl : cs.length = 2
    · rw [if_pos hl] at h
      obtain ⟨v0, v1, rfl⟩ : ∃ v0 v1, cs = [v0, v1] := by
        rcases cs with _ | ⟨v0, _ | ⟨v1, _ | ⟨v2, r⟩⟩⟩ <;> simp at hl
        exact ⟨v0, v1, rfl⟩
      obtain ⟨xs, h1, h2⟩ := Option.map_eq_some_iff.1 h
      obtain ⟨e1, e2⟩ := mapM_each _ _ _ h1
      obtain ⟨y0, f0, g0⟩ := e2 0 _ rfl
      obtain ⟨y1, f1, g1⟩ := e2 1 _ rfl
      simp only [hqint, hqstr, List.drop_zero, List.drop_succ_cons, List.take_succ_cons, List.take_zero] at f0 f1
      obtain ⟨d0, p0⟩ := y0
      obtain ⟨d1, p1⟩ := y1
      obtain ⟨s0, rfl, rfl⟩ := trod_str Tryz.underlying9 f0
      obtain ⟨n1, rfl, rfl, w1⟩ := trod_int Tryz.underlying3 f1
      have hx : xs = [(.lit (.string s0.data.toList), p0), (.lit (.int .i64 n1), p1)] := by
        have e1' : xs.length = 2 := e1
        apply List.ext_getElem?
        intro i
        rcases i with _ | _ | i
        · rw [g0]; rfl
        · rw [g1]; rfl
        · rw [List.getElem?_eq_none (by omega)]; simp
      rw [hx] at h2
      have hd := (Prod.mk.inj h2).1
      subst hd
      refine ⟨⟨s0, n1⟩, kNm_mk W _, inI64_of_wf w1, ?_⟩
      simp only [Rows.uptoBulk, Rows.uptoBulkAll, List.map_cons, List.map_nil]
      have e1 : s0.data.toList.length = s0.size := by rw [Array.length_toList]; rfl
      omega
    · rw [if_neg hl] at h; cases h

set_option maxRecDepth 100000 in
theorem trod_names {H : Type} {enc : TypeId × Value → H} {W : World} {base : Nat} {spare : Nat → Bool} {held : Bool} {fuel : Nat} {v : Value} {d : DataW H} {p : List MemPlace}
    (h : DataW.trod enc Tryz.prog W base spare held fuel 23 [v] = some (d, p)) : ∃ A l c, v = .slice A l.length c ∧ l.length ≤ c ∧ kNm.C W A l.length l ∧ (∀ m ∈ l, inI64 m.id ∧ m.name.size ≤ Rows.uptoBulk d) ∧ l.length ≤ Rows.uptoBulk d := by
  cases fuel with
  | zero => simp [DataW.trod] at h
  | succ fuel =>
    rcases trod_slice Tryz.underlying23 h with ⟨rfl, rfl⟩ | ⟨a, len, cap, elems, rest, rfl, hlc, hcm, rfl, hm⟩
    · exact ⟨none, [], 0, rfl, Nat.le_refl _, Kd.C_nil kNm W, fun m hm => by simp at hm, by simp⟩
    · have hc : Tryz.prog.cellsOf 147 = 2 := by kernel_rfl
      rw [hc] at hm
      obtain ⟨e1, e2⟩ := mapM_each _ _ _ hm
      rw [List.length_range] at e1
      obtain ⟨l, hl, hq⟩ := list_of len (fun i (m : Nm) => ∃ cs, (∀ j u, cs[j]? = some u → W.cell? ((a.add (i * 2)).add j) = some u) ∧ kNm.K W m cs ∧ ∃ d', d' ∈ elems.map (·.1) ∧ inI64 m.id ∧ m.name.size ≤ Rows.uptoBulk d') (fun i hi => by
        obtain ⟨y, h1, hy⟩ := e2 i i (by rw [List.getElem?_range hi])
        obtain ⟨cs, h3, h4⟩ := Option.bind_eq_some_iff.1 h1
        obtain ⟨d', p'⟩ := y
        obtain ⟨m, hK, h6⟩ := trod_name h4
        obtain ⟨_, _, h7⟩ := World.cells?_some h3
        have h8 := kNm.K_len hK
        exact ⟨m, cs, fun j u hu => by
          have hj : j < 2 := by have := (List.getElem?_eq_some_iff.1 hu).1; rw [h8] at this; exact this
          rw [h7 j hj, hu], hK, d', List.mem_map.2 ⟨_, List.mem_of_getElem? hy, rfl⟩, h6⟩)
      subst hl
      refine ⟨some a, l, cap, rfl, hlc, ?_, fun m hm => ?_, ?_⟩
      · have hm63 : l.length ≤ 9223372036854775807 := by have : maxLen = 9223372036854775807 := rfl; omega
        exact ⟨rfl, hm63, fun _ => ⟨a, rfl, fun j p hj => by
          obtain ⟨cs, q1, q2, _⟩ := hq j p hj
          exact ⟨cs, kNm.K_len q2, q2, fun i u hu => by
            show W.cell? (a.add (j * 2 + i)) = some u
            rw [← add_add]; exact q1 i u hu⟩⟩⟩
      · obtain ⟨i, hi⟩ := List.mem_iff_getElem?.1 hm
        obtain ⟨cs, _, _, d', h1, h2⟩ := hq i m hi
        have h3 := bulk_mem (elems.map (·.1)) d' h1
        rw [Rows.uptoBulk]
        exact ⟨h2.1, by omega⟩
      · rw [Rows.uptoBulk]
        have := bulk_len (elems.map (·.1))
        rw [List.length_map, e1] at this
        omega

end Go.Proofs.YtfakfgblaakgdaaGreat.Lift

/- The shelf's contracts of math/bits.LeadingZeros8 and Len64 at this translation (the numbers by name). -/
namespace Go.Proofs
open Go.Shelf
def Tryz.laysBits_ren : Go.Shelf.Ren := ⟨fun | 126 => 161 | 131 => 133 | 129 => 123 | n => n, fun | 9 => 9 | 5 => 5 | 3 => 3 | 4 => 4 | 46 => 205 | 53 => 97 | n => n, fun | n => n⟩
theorem Tryz.lays129 : Go.Proofs.Lays.n129 Tryz.prog Tryz.laysBits_ren := {
  mixed := by kernel_rfl
  f129 := Tryz.func123.trans (congrArg some (by kernel_rfl))
  t4 := Tryz.underlying4
  a4 := Tryz.isAgg4
  z4 := Tryz.sizeOf4
  v4 := Tryz.zeroValue4
  t46 := Tryz.underlying205
  a46 := Tryz.isAgg205
  z46 := Tryz.sizeOf205
  v46 := Tryz.zeroValue205
  t53 := Tryz.underlying97
  a53 := Tryz.isAgg97
  z53 := Tryz.sizeOf97
  v53 := Tryz.zeroValue97
  t3 := Tryz.underlying3
  a3 := Tryz.isAgg3
  z3 := Tryz.sizeOf3
  v3 := Tryz.zeroValue3
  t5 := Tryz.underlying5
  a5 := Tryz.isAgg5
  z5 := Tryz.sizeOf5
  v5 := Tryz.zeroValue5
  t9 := Tryz.underlying9
  a9 := Tryz.isAgg9
  z9 := Tryz.sizeOf9
  v9 := Tryz.zeroValue9 }
theorem Tryz.bits_Len64 (x : Int) (w : World) (h0 : 0 ≤ x) (h1 : x ≤ 18446744073709551615) :
    Calls Tryz.prog 123 #[.int .u64 x] w fun e w' => e = .returned (.int .i64 (Lib.bitLen x.toNat)) ∧ w' = w := Any.bits_Len64 Tryz.lays129 x w h0 h1
end Go.Proofs

/- Rows of whole numbers of one's own; CopyInts. -/
namespace Go.Proofs.YtfakfgblaakgdaaGreat.Ints
set_option linter.unusedVariables false
set_option linter.unusedSimpArgs false
open Go.RowKit Go.Proofs.YtfakfgblaakgdaaGreatW.PrintWords Go.Proofs.YtfakfgblaakgdaaGreatW.PrintLast Go.Proofs.YtfakfgblaakgdaaGreat.Base Go.Proofs.YtfakfgblaakgdaaGreat.Cells

theorem infoI : (Tryz.prog.info? 3).map (fun i => (i.zero, i.size, i.bytes)) = some (some (.int .i64 0), 1, 8) := by kernel_rfl
/-- a row of whole numbers of one's own -/
abbrev RI (w : World) (base : Nat) (v : Value) (l : List Int) : Prop := w.ownsRow base 3 1 v l.length (nums .i64 l)
theorem RI_reads {w : World} {base : Nat} {v : Value} {l : List Int} (h : RI w base v l) : ∃ A c, v = .slice A l.length c ∧ ReadsInt w .i64 A l.length l := own_reads h
theorem RI_set {w : World} {base : Nat} {v : Value} {l : List Int} (h : RI w base v l) {p : Addr} (hp : p.block < base) (u : Value) : RI (w.setCell p u) base v l :=
  own_setCell h (fun e => by have := own_base h p.block e.symm; omega) u

set_option maxRecDepth 100000 in
set_option maxHeartbeats 1000000 in
theorem copyInts_any (A : Option Addr) (c : Nat) (l : List Int) (w : World) (hr : ReadsInt w .i64 A l.length l) (hb : l.length ≤ 1048576) :
    Calls Tryz.prog 32 #[.slice A l.length c] w fun e w' => ∃ v, e = .returned v ∧ RI w' w.heap.size v l ∧ Below w.heap.size w w' := by
  have HR := Aside0.mk hr
  clear hr
  go_enter Tryz.func32, Tryz.ntmps32
  go_wp2_with (at_builtin; refine print_append_row (w0 := w) w.heap.size (by rfl) (.tmp 4) (.tmp 5) 29 3 .i64 8 (by rfl) Tryz.underlying29 infoI (by decide) (.slice none 0 0) [] l A l.length c (by rfl) (by rfl) ?aO ?aR ?aB ?aS ?c1 ?_; (case aO => exact own_nil _ _ _ _); (case aR => exact HR.out); (case aB => exact Below.refl _ _); (case aS => exact Nat.le_refl _); (case c1 => simp only [List.length_nil]; omega); intro v1 w1 hown hB1 hg1 hat; have HO1 := Aside0.mk hown; have HB1 := Aside0.mk hB1; clear hown hB1 hg1 hat)
  go_ret
  exact ⟨_, rfl, by have := HO1.out; rwa [List.nil_append] at this, HB1.out⟩
end Go.Proofs.YtfakfgblaakgdaaGreat.Ints

/- varint.Size, bytes.Clone, varint.Put, varint.Get: walked. -/
namespace Go.Proofs.YtfakfgblaakgdaaGreat.Var
set_option linter.unusedVariables false
set_option linter.unusedSimpArgs false
open Go.RowKit Go.Proofs.YtfakfgblaakgdaaGreatW.PrintWords Go.Proofs.YtfakfgblaakgdaaGreatW.PrintLast Go.Proofs.YtfakfgblaakgdaaGreat.Base Go.Proofs.YtfakfgblaakgdaaGreat.Cells Go.Proofs.YtfakfgblaakgdaaGreat.Ints Go.Proofs.YtfakfgblaakgdaaGreat.VarPure

/-- octets as numbers of Go -/
def nb (l : List Nat) : List Int := l.map (Nat.cast : Nat → Int)
theorem nb_len (l : List Nat) : (nb l).length = l.length := by simp [nb]
/-- a row of octets of one's own -/
abbrev RB (w : World) (base : Nat) (v : Value) (l : List Int) : Prop := w.ownsRow base 5 1 v l.length (nums .u8 l)
theorem RB_reads {w : World} {base : Nat} {v : Value} {l : List Int} (h : RB w base v l) : ∃ A c, v = .slice A l.length c ∧ ReadsInt w .u8 A l.length l := own_reads h
theorem infoB : (Tryz.prog.info? 5).map (fun i => (i.zero, i.size, i.bytes)) = some (some (.int .u8 0), 1, 1) := by kernel_rfl

set_option maxRecDepth 100000 in
theorem size_any (n : Int) (h0 : 0 ≤ n) (h1 : n ≤ 18446744073709551615) (w : World) :
    Calls Tryz.prog 84 #[.int .u64 n] w fun e w' => e = .returned (.int .i64 (sizeN n.toNat)) ∧ w' = w := by
  have hb := Lib.bitLen_le n.toNat 64 (by omega) (by omega)
  obtain ⟨b, hbb⟩ : ∃ b, Lib.bitLen n.toNat = b := ⟨_, rfl⟩
  rw [hbb] at hb
  have hs : Aside0 ((sizeN n.toNat : Int) = min 9 (max 1 (((b : Int) + 6) / 7))) := ⟨by unfold sizeN; rw [hbb]; omega⟩
  go_enter Tryz.func84, Tryz.ntmps84
  go_wp2_with (go_at_call 123; refine (Tryz.bits_Len64 n _ h0 h1).mono ?_; rw [hbb]; rintro e w' ⟨rfl, rfl⟩)
  go_ret
  refine ⟨?_, rfl⟩
  rw [hs.out]
  rfl

set_option maxRecDepth 100000 in
set_option maxHeartbeats 1000000 in
theorem cloneB_any (ad : Addr) (c : Nat) (l : List Int) (w : World) (hr : ReadsInt w .u8 (some ad) l.length l) (hb : l.length ≤ 1048576) :
    Calls Tryz.prog 85 #[.slice (some ad) l.length c] w fun e w' => ∃ v, e = .returned v ∧ RB w' w.heap.size v l ∧ Below w.heap.size w w' := by
  have HR := Aside0.mk hr
  clear hr
  have hnil : ∀ W, (binOp .eql 88 (.slice (some ad) l.length c) (.slice none 0 0)).run Tryz.prog W = .ok (.bool false) W := fun W => Lib.run_eql_slice_nil (P := Tryz.prog) W 88 5 (some ad) l.length c 0 0 Tryz.underlying88
  have HO : Aside0 (RB (w.alloc (.cells #[] 5)) w.heap.size (.slice (some ⟨w.heap.size, 0, none⟩) 0 0) []) := ⟨by
    have h2 := World.ownsRow_lit (base := w.heap.size) (e := 5) (size := 1) w #[] 0 (Nat.le_refl _) (by simp [maxLen]) (by simp)
    exact h2⟩
  have HB : Aside0 (Below w.heap.size w (w.alloc (.cells #[] 5))) := ⟨below_alloc (Below.refl _ _) _⟩
  have HC := Aside0.mk (HR.out.below HB.out)
  go_enter Tryz.func85, Tryz.ntmps85
  go_wp2_with (at_builtin; refine print_append_row (w0 := w) w.heap.size (by rfl) (.tmp 5) (.tmp 6) 88 5 .u8 1 (by rfl) Tryz.underlying88 infoB (by decide) (.slice (some ⟨w.heap.size, 0, none⟩) 0 0) [] l (some ad) l.length c (by rfl) (by rfl) ?aO ?aR ?aB ?aS ?c1 ?_; (case aO => exact HO.out); (case aR => exact HC.out); (case aB => exact HB.out); (case aS => exact HB.out.size); (case c1 => simp only [List.length_nil]; omega); intro v1 w1 hown hB1 hg1 hat; have HO1 := Aside0.mk hown; have HB1 := Aside0.mk hB1; clear hown hB1 hg1 hat)
  go_ret
  exact ⟨_, rfl, by have := HO1.out; rwa [List.nil_append] at this, HB1.out⟩

/-- the nine octets behind i rounds -/
def pc (n i : Nat) : List Value := (List.range 9).map fun j => .int .u8 (if 9 ≤ j + i then ((n / 256 ^ (8 - j) % 256 : Nat) : Int) else 0)
theorem pc_set (m i : Nat) (hi : i < 9) : (pc m i).toArray.setIfInBounds (8 - i) (.int .u8 ((m / 256 ^ i % 256 : Nat) : Int)) = (pc m (i + 1)).toArray := by
  apply Array.toList_inj.1
  rw [Array.toList_setIfInBounds]
  refine List.ext_getElem (by simp [pc]) (fun j h1 h2 => ?_)
  have hj : j < 9 := by simpa [pc] using h2
  rw [List.getElem_set]
  simp only [pc, List.getElem_map, List.getElem_range]
  by_cases he : 8 - i = j
  · rw [if_pos he, if_pos (by omega), show 8 - j = i by omega]
  · rw [if_neg he]
    congr 1
    by_cases h9 : 9 ≤ j + i
    · rw [if_pos h9, if_pos (by omega)]
    · rw [if_neg h9, if_neg (by omega)]
theorem be_range : ∀ (k n : Nat), be k n = (List.range k).map fun t => n / 256 ^ (k - 1 - t) % 256
  | 0, _ => rfl
  | k + 1, n => by
    rw [be, be_range k, List.range_succ, List.map_append, List.map_singleton]
    congr 1
    · refine List.map_congr_left (fun t ht => ?_)
      have ht := List.mem_range.1 ht
      rw [Nat.div_div_eq_div_mul, show k + 1 - 1 - t = (k - 1 - t) + 1 by omega, Nat.pow_succ, Nat.mul_comm]
    · simp

theorem put_reads {w : World} {g : Nat} (m k : Nat) (hk : k ≤ 9) (h : w.heap[g]? = some (.cells (pc m 9).toArray 166 (0, 0))) : ReadsInt w .u8 (some ⟨g, 9 - k, none⟩) k (nb (be k m)) := by
  refine ⟨by rw [nb_len, be_len], by omega, fun _ => ⟨_, rfl, fun j hj => ?_⟩⟩
  have ha : ((⟨g, 9 - k, none⟩ : Addr).add j) = ⟨g, 9 - k + j, none⟩ := by rw [Addr.add_lit]
  rw [ha, blk_cell h]
  have h1 : (nb (be k m)).getD j 0 = ((m / 256 ^ (k - 1 - j) % 256 : Nat) : Int) := by
    rw [List.getD_eq_getElem?_getD, nb, be_range]
    simp [List.getElem?_map, List.getElem?_range hj]
  rw [h1, List.getElem?_toArray, pc, List.getElem?_map, List.getElem?_range (by omega)]
  simp only [Option.map_some]
  rw [if_pos (by omega), show 8 - (9 - k + j) = k - 1 - j by omega]
theorem cloneK_any (ad : Addr) (c k : Nat) (l : List Int) (w : World) (hk : k = l.length) (hr : ReadsInt w .u8 (some ad) k l) (hb : k ≤ 1048576) :
    Calls Tryz.prog 85 #[.slice (some ad) k c] w fun e w' => ∃ v, e = .returned v ∧ RB w' w.heap.size v l ∧ Below w.heap.size w w' := by
  subst hk
  exact cloneB_any ad c l w hr hb

theorem be_head {n k : Nat} (hk : sizeN n = k) (hk1 : 1 ≤ k) (hk8 : k ≤ 8) (hn : n < 2 ^ 64) : ∃ b t, be k n = b :: t ∧ b < 2 ^ (8 - k) := by
  have hlt := sizeN_of hn hk hk8
  obtain ⟨j, rfl⟩ : ∃ j, k = j + 1 := ⟨k - 1, by omega⟩
  have hbl := be_len (j + 1) n
  have h256 : n < 256 ^ (j + 1) := by
    refine Nat.lt_of_lt_of_le hlt ?_
    rw [show (256 : Nat) = 2 ^ 8 by rfl, ← Nat.pow_mul]
    exact Nat.pow_le_pow_right (by omega) (by omega)
  have hv := val_be (j + 1) n h256
  rcases hbe : be (j + 1) n with _ | ⟨b, t⟩
  · rw [hbe] at hbl; simp at hbl
  · rw [hbe] at hbl hv
    have htl : t.length = j := by simpa using hbl
    rw [val_cons, htl] at hv
    refine ⟨b, t, rfl, ?_⟩
    have h1 : b * 256 ^ j < 2 ^ (7 * (j + 1)) := by omega
    have h2 : 2 ^ (7 * (j + 1)) = 2 ^ (8 - (j + 1)) * 256 ^ j := by
      rw [show (256 : Nat) = 2 ^ 8 by rfl, ← Nat.pow_mul, ← Nat.pow_add]; congr 1; omega
    rw [h2] at h1
    exact Nat.lt_of_mul_lt_mul_right h1
theorem or_mask1 : ∀ b : Fin 128, bits .or .u8 (b.val : Int) (bits .xor .u8 IntKind.u8.max 255) = ((b.val + mask 1 : Nat) : Int) := by decide +kernel
theorem or_mask2 : ∀ b : Fin 64, bits .or .u8 (b.val : Int) (bits .xor .u8 IntKind.u8.max 127) = ((b.val + mask 2 : Nat) : Int) := by decide +kernel
theorem or_mask3 : ∀ b : Fin 32, bits .or .u8 (b.val : Int) (bits .xor .u8 IntKind.u8.max 63) = ((b.val + mask 3 : Nat) : Int) := by decide +kernel
theorem or_mask4 : ∀ b : Fin 16, bits .or .u8 (b.val : Int) (bits .xor .u8 IntKind.u8.max 31) = ((b.val + mask 4 : Nat) : Int) := by decide +kernel
theorem or_mask5 : ∀ b : Fin 8, bits .or .u8 (b.val : Int) (bits .xor .u8 IntKind.u8.max 15) = ((b.val + mask 5 : Nat) : Int) := by decide +kernel
theorem or_mask6 : ∀ b : Fin 4, bits .or .u8 (b.val : Int) (bits .xor .u8 IntKind.u8.max 7) = ((b.val + mask 6 : Nat) : Int) := by decide +kernel
theorem or_mask7 : ∀ b : Fin 2, bits .or .u8 (b.val : Int) (bits .xor .u8 IntKind.u8.max 3) = ((b.val + mask 7 : Nat) : Int) := by decide +kernel
theorem or_mask8 : ∀ b : Fin 1, bits .or .u8 (b.val : Int) (bits .xor .u8 IntKind.u8.max 1) = ((b.val + mask 8 : Nat) : Int) := by decide +kernel
theorem or_mask {k b : Nat} (hk1 : 1 ≤ k) (hk8 : k ≤ 8) (hb : b < 2 ^ (8 - k)) : bits .or .u8 (b : Int) (bits .xor .u8 IntKind.u8.max (255 / 2 ^ (k - 1))) = ((b + mask k : Nat) : Int) := by
  rcases (show k = 1 ∨ k = 2 ∨ k = 3 ∨ k = 4 ∨ k = 5 ∨ k = 6 ∨ k = 7 ∨ k = 8 by omega) with rfl | rfl | rfl | rfl | rfl | rfl | rfl | rfl
  · exact or_mask1 ⟨b, hb⟩
  · exact or_mask2 ⟨b, hb⟩
  · exact or_mask3 ⟨b, hb⟩
  · exact or_mask4 ⟨b, hb⟩
  · exact or_mask5 ⟨b, hb⟩
  · exact or_mask6 ⟨b, hb⟩
  · exact or_mask7 ⟨b, hb⟩
  · exact or_mask8 ⟨b, hb⟩
theorem put_done {w w1 w2 : World} {g2 cap k m : Nat} {q s : Int} (hk1 : 1 ≤ k) (hk9 : k ≤ 9) (hkk : sizeN m = k) (hm : m < 2 ^ 64)
    (hO : w2.ownsRow w1.heap.size 5 1 (.slice (some ⟨g2, 0, none⟩) k cap) k (nums .u8 (nb (be k m)))) (hq : rd (nb (be k m)) 0 = q) (hs : s = 255 / 2 ^ (k - 1)) (hg : w1.heap.size ≤ g2) (hb : Below w.heap.size w w1) (hb2 : Below w1.heap.size w1 w2) :
    ∃ L, RB (w2.setCell ⟨g2, 0, none⟩ (.int .u8 (bits .or .u8 q (bits .xor .u8 IntKind.u8.max s)))).drew w.heap.size (.slice (some ⟨g2, 0, none⟩) k cap) L ∧ 1 ≤ L.length ∧ L.length ≤ 9 ∧ ((m : Int) < 72057594037927936 → L = nb (putN m)) ∧ Below w.heap.size w (w2.setCell ⟨g2, 0, none⟩ (.int .u8 (bits .or .u8 q (bits .xor .u8 IntKind.u8.max s)))).drew := by
  have hst := (own_store hO 0 (bits .or .u8 q (bits .xor .u8 IntKind.u8.max s))).1
  have hl : ((nb (be k m)).set (0 : Int).toNat (bits .or .u8 q (bits .xor .u8 IntKind.u8.max s))).length = k := by rw [List.length_set, nb_len, be_len]
  refine ⟨_, ?_, by rw [hl]; exact hk1, by rw [hl]; exact hk9, fun h => ?_, below_drew (((bthen hb hb2)).setCell (p := ⟨g2, 0, none⟩) (Nat.le_trans hb.size hg) _)⟩
  · rw [RB, hl]
    exact World.ownsRow.drew (own_weaken hst hb.size)
  · have h56 : m < 2 ^ 56 := by have : (2 : Nat) ^ 56 = 72057594037927936 := rfl; omega
    have hk8 : k ≤ 8 := by have := sizeN_lt (n := m) (k := 8) (by omega) (by omega) (by simpa using h56); omega
    obtain ⟨b, t, hbe, hlt⟩ := be_head hkk hk1 hk8 hm
    have hqb : q = (b : Int) := by rw [← hq, hbe]; rfl
    rw [hqb, hs, or_mask hk1 hk8 hlt, putN, hkk, hbe]
    rfl

set_option maxRecDepth 100000 in
set_option maxHeartbeats 4000000 in
theorem put_any (n : Int) (h0 : 0 ≤ n) (h1 : n ≤ 18446744073709551615) (w : World) :
    Calls Tryz.prog 40 #[.int .u64 n] w fun e w' => ∃ v L, e = .returned v ∧ RB w' w.heap.size v L ∧ 1 ≤ L.length ∧ L.length ≤ 9 ∧ (n < 72057594037927936 → L = nb (putN n.toNat)) ∧ Below w.heap.size w w' := by
  obtain ⟨m, rfl⟩ : ∃ m : Nat, n = m := ⟨n.toNat, by omega⟩
  go_enter Tryz.func40, Tryz.ntmps40
  go_wp2
  go_loopg [7] 9 (fun g v7 wr => ∃ i : Nat, v7 = .int .i64 i ∧ g + i = 9 ∧ Aside0 (wr.heap[w.heap.size]? = some (.cells (pc m i).toArray 166 (0, 0))) ∧ Aside0 (Below w.heap.size w wr))
  case atStart => exact ⟨0, rfl, rfl, ⟨blk_new _ _⟩, ⟨below_alloc (Below.refl _ _) _⟩⟩
  case round =>
    obtain ⟨i, rfl, hg, HK, HB⟩ := hrel
    by_cases hi : i < 9
    · have hc := fun j => blk_cell HK.out j
      have hf := fun j => blk_frozen HK.out j
      rcases (show i = 0 ∨ i = 1 ∨ i = 2 ∨ i = 3 ∨ i = 4 ∨ i = 5 ∨ i = 6 ∨ i = 7 ∨ i = 8 by omega) with rfl | rfl | rfl | rfl | rfl | rfl | rfl | rfl | rfl
      · have hc8 := hc 8
        have hf8 := hf 8
        clear hc hf
        go_wp2
        go_roundg 8
        case measure => omega
        case rel => exact ⟨1, rfl, rfl, ⟨blk_put HK.out 8 _ ((congrArg (fun z => (pc m 0).toArray.setIfInBounds 8 (.int .u8 z)) (show _ = ((m / 256 ^ 0 % 256 : Nat) : Int) by simp <;> omega)).trans (pc_set m 0 (by omega)))⟩, ⟨HB.out.setCell (p := ⟨w.heap.size, 8, none⟩) (Nat.le_refl _) _⟩⟩
      · have hc8 := hc 7
        have hf8 := hf 7
        clear hc hf
        go_wp2
        go_roundg 7
        case measure => omega
        case rel => exact ⟨2, rfl, rfl, ⟨blk_put HK.out 7 _ ((congrArg (fun z => (pc m 1).toArray.setIfInBounds 7 (.int .u8 z)) (show _ = ((m / 256 ^ 1 % 256 : Nat) : Int) by simp <;> omega)).trans (pc_set m 1 (by omega)))⟩, ⟨HB.out.setCell (p := ⟨w.heap.size, 7, none⟩) (Nat.le_refl _) _⟩⟩
      · have hc8 := hc 6
        have hf8 := hf 6
        clear hc hf
        go_wp2
        go_roundg 6
        case measure => omega
        case rel => exact ⟨3, rfl, rfl, ⟨blk_put HK.out 6 _ ((congrArg (fun z => (pc m 2).toArray.setIfInBounds 6 (.int .u8 z)) (show _ = ((m / 256 ^ 2 % 256 : Nat) : Int) by simp <;> omega)).trans (pc_set m 2 (by omega)))⟩, ⟨HB.out.setCell (p := ⟨w.heap.size, 6, none⟩) (Nat.le_refl _) _⟩⟩
      · have hc8 := hc 5
        have hf8 := hf 5
        clear hc hf
        go_wp2
        go_roundg 5
        case measure => omega
        case rel => exact ⟨4, rfl, rfl, ⟨blk_put HK.out 5 _ ((congrArg (fun z => (pc m 3).toArray.setIfInBounds 5 (.int .u8 z)) (show _ = ((m / 256 ^ 3 % 256 : Nat) : Int) by simp <;> omega)).trans (pc_set m 3 (by omega)))⟩, ⟨HB.out.setCell (p := ⟨w.heap.size, 5, none⟩) (Nat.le_refl _) _⟩⟩
      · have hc8 := hc 4
        have hf8 := hf 4
        clear hc hf
        go_wp2
        go_roundg 4
        case measure => omega
        case rel => exact ⟨5, rfl, rfl, ⟨blk_put HK.out 4 _ ((congrArg (fun z => (pc m 4).toArray.setIfInBounds 4 (.int .u8 z)) (show _ = ((m / 256 ^ 4 % 256 : Nat) : Int) by simp <;> omega)).trans (pc_set m 4 (by omega)))⟩, ⟨HB.out.setCell (p := ⟨w.heap.size, 4, none⟩) (Nat.le_refl _) _⟩⟩
      · have hc8 := hc 3
        have hf8 := hf 3
        clear hc hf
        go_wp2
        go_roundg 3
        case measure => omega
        case rel => exact ⟨6, rfl, rfl, ⟨blk_put HK.out 3 _ ((congrArg (fun z => (pc m 5).toArray.setIfInBounds 3 (.int .u8 z)) (show _ = ((m / 256 ^ 5 % 256 : Nat) : Int) by simp <;> omega)).trans (pc_set m 5 (by omega)))⟩, ⟨HB.out.setCell (p := ⟨w.heap.size, 3, none⟩) (Nat.le_refl _) _⟩⟩
      · have hc8 := hc 2
        have hf8 := hf 2
        clear hc hf
        go_wp2
        go_roundg 2
        case measure => omega
        case rel => exact ⟨7, rfl, rfl, ⟨blk_put HK.out 2 _ ((congrArg (fun z => (pc m 6).toArray.setIfInBounds 2 (.int .u8 z)) (show _ = ((m / 256 ^ 6 % 256 : Nat) : Int) by simp <;> omega)).trans (pc_set m 6 (by omega)))⟩, ⟨HB.out.setCell (p := ⟨w.heap.size, 2, none⟩) (Nat.le_refl _) _⟩⟩
      · have hc8 := hc 1
        have hf8 := hf 1
        clear hc hf
        go_wp2
        go_roundg 1
        case measure => omega
        case rel => exact ⟨8, rfl, rfl, ⟨blk_put HK.out 1 _ ((congrArg (fun z => (pc m 7).toArray.setIfInBounds 1 (.int .u8 z)) (show _ = ((m / 256 ^ 7 % 256 : Nat) : Int) by simp <;> omega)).trans (pc_set m 7 (by omega)))⟩, ⟨HB.out.setCell (p := ⟨w.heap.size, 1, none⟩) (Nat.le_refl _) _⟩⟩
      · have hc8 := hc 0
        have hf8 := hf 0
        clear hc hf
        go_wp2
        go_roundg 0
        case measure => omega
        case rel => exact ⟨9, rfl, rfl, ⟨blk_put HK.out 0 _ ((congrArg (fun z => (pc m 8).toArray.setIfInBounds 0 (.int .u8 z)) (show _ = ((m / 256 ^ 8 % 256 : Nat) : Int) by simp <;> omega)).trans (pc_set m 8 (by omega)))⟩, ⟨HB.out.setCell (p := ⟨w.heap.size, 0, none⟩) (Nat.le_refl _) _⟩⟩
    · obtain rfl : i = 9 := by omega
      obtain ⟨k, hk⟩ : ∃ k, sizeN m = k := ⟨_, rfl⟩
      have hk9 := sizeN_pos m
      rw [hk] at hk9
      have hkk := Aside0.mk hk
      clear hk
      go_wp2_with fail
      refine (size_any (m : Int) h0 h1 _).mono ?_
      rw [Int.toNat_natCast, hkk.out]
      rintro e w1 ⟨rfl, rfl⟩
      rcases (show k = 1 ∨ k = 2 ∨ k = 3 ∨ k = 4 ∨ k = 5 ∨ k = 6 ∨ k = 7 ∨ k = 8 ∨ k = 9 by omega) with rfl | rfl | rfl | rfl | rfl | rfl | rfl | rfl | rfl
      · go_wp2_with fail
        refine (cloneK_any ⟨w.heap.size, 8, none⟩ _ 1 (nb (be 1 m)) _ (by rw [nb_len, be_len]) (put_reads m 1 (by omega) HK.out) (by omega)).mono ?_
        rintro e w2 ⟨v, rfl, ho, hb2⟩
        have hl : (nb (be 1 m)).length = 1 := by rw [nb_len, be_len]
        rw [RB, hl] at ho
        obtain ⟨g2, cap, rfl, hgb, hgl⟩ := ho.form (by omega)
        obtain ⟨hc0, hf0⟩ := own_at ho 0 (by omega) (by omega)
        obtain ⟨q, hq⟩ : ∃ q, rd (nb (be 1 m)) 0 = q := ⟨_, rfl⟩
        rw [hq] at hc0
        simp only [Int.toNat_zero] at hc0 hf0
        have HO := Aside0.mk ho
        have HQ := Aside0.mk hq
        have hcd : w2.drew.cell? ⟨g2, 0, none⟩ = some (.int .u8 q) := hc0
        have hfd : w2.drew.frozen? ⟨g2, 0, none⟩ = false := hf0
        clear ho hq
        go_wp2_with fail
        go_region
        go_wp2
        go_ret
        exact ⟨_, rfl, put_done (by omega) (by omega) hkk.out (by have : (2 : Nat) ^ 64 = 18446744073709551616 := rfl; omega) HO.out HQ.out (by decide) hgb HB.out hb2⟩
      · go_wp2_with fail
        refine (cloneK_any ⟨w.heap.size, 7, none⟩ _ 2 (nb (be 2 m)) _ (by rw [nb_len, be_len]) (put_reads m 2 (by omega) HK.out) (by omega)).mono ?_
        rintro e w2 ⟨v, rfl, ho, hb2⟩
        have hl : (nb (be 2 m)).length = 2 := by rw [nb_len, be_len]
        rw [RB, hl] at ho
        obtain ⟨g2, cap, rfl, hgb, hgl⟩ := ho.form (by omega)
        obtain ⟨hc0, hf0⟩ := own_at ho 0 (by omega) (by omega)
        obtain ⟨q, hq⟩ : ∃ q, rd (nb (be 2 m)) 0 = q := ⟨_, rfl⟩
        rw [hq] at hc0
        simp only [Int.toNat_zero] at hc0 hf0
        have HO := Aside0.mk ho
        have HQ := Aside0.mk hq
        have hcd : w2.drew.cell? ⟨g2, 0, none⟩ = some (.int .u8 q) := hc0
        have hfd : w2.drew.frozen? ⟨g2, 0, none⟩ = false := hf0
        clear ho hq
        go_wp2_with fail
        go_region
        go_wp2
        go_ret
        exact ⟨_, rfl, put_done (by omega) (by omega) hkk.out (by have : (2 : Nat) ^ 64 = 18446744073709551616 := rfl; omega) HO.out HQ.out (by decide) hgb HB.out hb2⟩
      · go_wp2_with fail
        refine (cloneK_any ⟨w.heap.size, 6, none⟩ _ 3 (nb (be 3 m)) _ (by rw [nb_len, be_len]) (put_reads m 3 (by omega) HK.out) (by omega)).mono ?_
        rintro e w2 ⟨v, rfl, ho, hb2⟩
        have hl : (nb (be 3 m)).length = 3 := by rw [nb_len, be_len]
        rw [RB, hl] at ho
        obtain ⟨g2, cap, rfl, hgb, hgl⟩ := ho.form (by omega)
        obtain ⟨hc0, hf0⟩ := own_at ho 0 (by omega) (by omega)
        obtain ⟨q, hq⟩ : ∃ q, rd (nb (be 3 m)) 0 = q := ⟨_, rfl⟩
        rw [hq] at hc0
        simp only [Int.toNat_zero] at hc0 hf0
        have HO := Aside0.mk ho
        have HQ := Aside0.mk hq
        have hcd : w2.drew.cell? ⟨g2, 0, none⟩ = some (.int .u8 q) := hc0
        have hfd : w2.drew.frozen? ⟨g2, 0, none⟩ = false := hf0
        clear ho hq
        go_wp2_with fail
        go_region
        go_wp2
        go_ret
        exact ⟨_, rfl, put_done (by omega) (by omega) hkk.out (by have : (2 : Nat) ^ 64 = 18446744073709551616 := rfl; omega) HO.out HQ.out (by decide) hgb HB.out hb2⟩
      · go_wp2_with fail
        refine (cloneK_any ⟨w.heap.size, 5, none⟩ _ 4 (nb (be 4 m)) _ (by rw [nb_len, be_len]) (put_reads m 4 (by omega) HK.out) (by omega)).mono ?_
        rintro e w2 ⟨v, rfl, ho, hb2⟩
        have hl : (nb (be 4 m)).length = 4 := by rw [nb_len, be_len]
        rw [RB, hl] at ho
        obtain ⟨g2, cap, rfl, hgb, hgl⟩ := ho.form (by omega)
        obtain ⟨hc0, hf0⟩ := own_at ho 0 (by omega) (by omega)
        obtain ⟨q, hq⟩ : ∃ q, rd (nb (be 4 m)) 0 = q := ⟨_, rfl⟩
        rw [hq] at hc0
        simp only [Int.toNat_zero] at hc0 hf0
        have HO := Aside0.mk ho
        have HQ := Aside0.mk hq
        have hcd : w2.drew.cell? ⟨g2, 0, none⟩ = some (.int .u8 q) := hc0
        have hfd : w2.drew.frozen? ⟨g2, 0, none⟩ = false := hf0
        clear ho hq
        go_wp2_with fail
        go_region
        go_wp2
        go_ret
        exact ⟨_, rfl, put_done (by omega) (by omega) hkk.out (by have : (2 : Nat) ^ 64 = 18446744073709551616 := rfl; omega) HO.out HQ.out (by decide) hgb HB.out hb2⟩
      · go_wp2_with fail
        refine (cloneK_any ⟨w.heap.size, 4, none⟩ _ 5 (nb (be 5 m)) _ (by rw [nb_len, be_len]) (put_reads m 5 (by omega) HK.out) (by omega)).mono ?_
        rintro e w2 ⟨v, rfl, ho, hb2⟩
        have hl : (nb (be 5 m)).length = 5 := by rw [nb_len, be_len]
        rw [RB, hl] at ho
        obtain ⟨g2, cap, rfl, hgb, hgl⟩ := ho.form (by omega)
        obtain ⟨hc0, hf0⟩ := own_at ho 0 (by omega) (by omega)
        obtain ⟨q, hq⟩ : ∃ q, rd (nb (be 5 m)) 0 = q := ⟨_, rfl⟩
        rw [hq] at hc0
        simp only [Int.toNat_zero] at hc0 hf0
        have HO := Aside0.mk ho
        have HQ := Aside0.mk hq
        have hcd : w2.drew.cell? ⟨g2, 0, none⟩ = some (.int .u8 q) := hc0
        have hfd : w2.drew.frozen? ⟨g2, 0, none⟩ = false := hf0
        clear ho hq
        go_wp2_with fail
        go_region
        go_wp2
        go_ret
        exact ⟨_, rfl, put_done (by omega) (by omega) hkk.out (by have : (2 : Nat) ^ 64 = 18446744073709551616 := rfl; omega) HO.out HQ.out (by decide) hgb HB.out hb2⟩
      · go_wp2_with fail
        refine (cloneK_any ⟨w.heap.size, 3, none⟩ _ 6 (nb (be 6 m)) _ (by rw [nb_len, be_len]) (put_reads m 6 (by omega) HK.out) (by omega)).mono ?_
        rintro e w2 ⟨v, rfl, ho, hb2⟩
        have hl : (nb (be 6 m)).length = 6 := by rw [nb_len, be_len]
        rw [RB, hl] at ho
        obtain ⟨g2, cap, rfl, hgb, hgl⟩ := ho.form (by omega)
        obtain ⟨hc0, hf0⟩ := own_at ho 0 (by omega) (by omega)
        obtain ⟨q, hq⟩ : ∃ q, rd (nb (be 6 m)) 0 = q := ⟨_, rfl⟩
        rw [hq] at hc0
        simp only [Int.toNat_zero] at hc0 hf0
        have HO := Aside0.mk ho
        have HQ := Aside0.mk hq
        have hcd : w2.drew.cell? ⟨g2, 0, none⟩ = some (.int .u8 q) := hc0
        have hfd : w2.drew.frozen? ⟨g2, 0, none⟩ = false := hf0
        clear ho hq
        go_wp2_with fail
        go_region
        go_wp2
        go_ret
        exact ⟨_, rfl, put_done (by omega) (by omega) hkk.out (by have : (2 : Nat) ^ 64 = 18446744073709551616 := rfl; omega) HO.out HQ.out (by decide) hgb HB.out hb2⟩
      · go_wp2_with fail
        refine (cloneK_any ⟨w.heap.size, 2, none⟩ _ 7 (nb (be 7 m)) _ (by rw [nb_len, be_len]) (put_reads m 7 (by omega) HK.out) (by omega)).mono ?_
        rintro e w2 ⟨v, rfl, ho, hb2⟩
        have hl : (nb (be 7 m)).length = 7 := by rw [nb_len, be_len]
        rw [RB, hl] at ho
        obtain ⟨g2, cap, rfl, hgb, hgl⟩ := ho.form (by omega)
        obtain ⟨hc0, hf0⟩ := own_at ho 0 (by omega) (by omega)
        obtain ⟨q, hq⟩ : ∃ q, rd (nb (be 7 m)) 0 = q := ⟨_, rfl⟩
        rw [hq] at hc0
        simp only [Int.toNat_zero] at hc0 hf0
        have HO := Aside0.mk ho
        have HQ := Aside0.mk hq
        have hcd : w2.drew.cell? ⟨g2, 0, none⟩ = some (.int .u8 q) := hc0
        have hfd : w2.drew.frozen? ⟨g2, 0, none⟩ = false := hf0
        clear ho hq
        go_wp2_with fail
        go_region
        go_wp2
        go_ret
        exact ⟨_, rfl, put_done (by omega) (by omega) hkk.out (by have : (2 : Nat) ^ 64 = 18446744073709551616 := rfl; omega) HO.out HQ.out (by decide) hgb HB.out hb2⟩
      · go_wp2_with fail
        refine (cloneK_any ⟨w.heap.size, 1, none⟩ _ 8 (nb (be 8 m)) _ (by rw [nb_len, be_len]) (put_reads m 8 (by omega) HK.out) (by omega)).mono ?_
        rintro e w2 ⟨v, rfl, ho, hb2⟩
        have hl : (nb (be 8 m)).length = 8 := by rw [nb_len, be_len]
        rw [RB, hl] at ho
        obtain ⟨g2, cap, rfl, hgb, hgl⟩ := ho.form (by omega)
        obtain ⟨hc0, hf0⟩ := own_at ho 0 (by omega) (by omega)
        obtain ⟨q, hq⟩ : ∃ q, rd (nb (be 8 m)) 0 = q := ⟨_, rfl⟩
        rw [hq] at hc0
        simp only [Int.toNat_zero] at hc0 hf0
        have HO := Aside0.mk ho
        have HQ := Aside0.mk hq
        have hcd : w2.drew.cell? ⟨g2, 0, none⟩ = some (.int .u8 q) := hc0
        have hfd : w2.drew.frozen? ⟨g2, 0, none⟩ = false := hf0
        clear ho hq
        go_wp2_with fail
        go_region
        go_wp2
        go_ret
        exact ⟨_, rfl, put_done (by omega) (by omega) hkk.out (by have : (2 : Nat) ^ 64 = 18446744073709551616 := rfl; omega) HO.out HQ.out (by decide) hgb HB.out hb2⟩
      · go_wp2_with fail
        refine (cloneK_any ⟨w.heap.size, 0, none⟩ _ 9 (nb (be 9 m)) _ (by rw [nb_len, be_len]) (put_reads m 9 (by omega) HK.out) (by omega)).mono ?_
        rintro e w2 ⟨v, rfl, ho, hb2⟩
        have hl : (nb (be 9 m)).length = 9 := by rw [nb_len, be_len]
        rw [RB, hl] at ho
        obtain ⟨g2, cap, rfl, hgb, hgl⟩ := ho.form (by omega)
        obtain ⟨hc0, hf0⟩ := own_at ho 0 (by omega) (by omega)
        obtain ⟨q, hq⟩ : ∃ q, rd (nb (be 9 m)) 0 = q := ⟨_, rfl⟩
        rw [hq] at hc0
        simp only [Int.toNat_zero] at hc0 hf0
        have HO := Aside0.mk ho
        have HQ := Aside0.mk hq
        have hcd : w2.drew.cell? ⟨g2, 0, none⟩ = some (.int .u8 q) := hc0
        have hfd : w2.drew.frozen? ⟨g2, 0, none⟩ = false := hf0
        clear ho hq
        go_wp2_with fail
        go_region
        go_wp2
        go_ret
        exact ⟨_, rfl, put_done (by omega) (by omega) hkk.out (by have : (2 : Nat) ^ 64 = 18446744073709551616 := rfl; omega) HO.out HQ.out (by decide) hgb HB.out hb2⟩
end Go.Proofs.YtfakfgblaakgdaaGreat.Var

/- files: may a name be; walked. -/
namespace Go.Proofs.YtfakfgblaakgdaaGreat.Files
set_option linter.unusedVariables false
set_option linter.unusedSimpArgs false
open Go.RowKit Go.Proofs.YtfakfgblaakgdaaGreatW.PrintWords Go.Proofs.YtfakfgblaakgdaaGreatW.PrintLast Go.Proofs.YtfakfgblaakgdaaGreat.Base Go.Proofs.YtfakfgblaakgdaaGreat.Cells Go.Proofs.YtfakfgblaakgdaaGreat.Ints Go.Proofs.YtfakfgblaakgdaaGreat.Var

def badB (c : Int) : Bool := decide (c < 33) || decide (126 < c)
/-- may a name be -/
def mayF (s : ByteArray) : Bool := decide (1 ≤ s.size) && (decide (s.size ≤ 32) && !(bytesOf s).any badB)

set_option maxRecDepth 100000 in
theorem mayC_any (c : Int) (w : World) : Calls Tryz.prog 151 #[.int .u8 c] w fun e w' => e = .returned (.bool (badB c)) ∧ w' = w := by
  by_cases h : c < 33
  · have hb : Aside0 (badB c = true) := ⟨by simp [badB, h]⟩
    go_enter Tryz.func151, Tryz.ntmps151
    go_wp2
    go_ret
    exact ⟨by rw [hb.out]; rfl, rfl⟩
  · have hb : Aside0 (badB c = decide (126 < c)) := ⟨by simp [badB, h]⟩
    go_enter Tryz.func151, Tryz.ntmps151
    go_wp2
    go_ret
    exact ⟨by rw [hb.out]; rfl, rfl⟩

set_option maxRecDepth 100000 in
set_option maxHeartbeats 1000000 in
theorem indexMay_any (A : Option Addr) (c : Nat) (l : List Int) (w : World) (hr : ReadsInt w .u8 A l.length l) (hb : l.length ≤ 1048576) :
    Calls Tryz.prog 169 #[.slice A l.length c, .func (.func 151) #[] #[]] w fun e w' => (∃ r, e = .returned (.int .i64 r) ∧ decide (0 ≤ r) = l.any badB) ∧ w' = w := by
  have HR := Aside0.mk hr
  clear hr
  go_enter Tryz.func169, Tryz.ntmps169
  go_wp2
  go_loopg [8] l.length (fun g v8 wr => ∃ i : Nat, v8 = .int .i64 i ∧ g + i = l.length ∧ Aside0 ((l.take i).any badB = false) ∧ w = wr)
  case atStart => exact ⟨0, rfl, by omega, ⟨rfl⟩, rfl⟩
  case round =>
    obtain ⟨i, rfl, hg, HN, rfl⟩ := hrel
    by_cases hlt : i < l.length
    · obtain ⟨x, hx⟩ : ∃ x, l[i]? = some x := ⟨_, List.getElem?_eq_getElem hlt⟩
      obtain ⟨ad, rfl, c0⟩ := HR.out.at_ i (by omega) (by omega)
      have hrd : rd l i = x := by simp [rd, List.getD_eq_getElem?_getD, hx]
      rw [Int.toNat_natCast, hrd] at c0
      have HX := Aside0.mk hx
      clear hx hrd
      go_wp2_with fail
      refine (mayC_any x _).mono ?_
      rintro e w1 ⟨rfl, rfl⟩
      cases hbb : badB x with
      | true =>
        have HE : Aside0 (l.any badB = true) := ⟨List.any_eq_true.2 ⟨x, List.mem_of_getElem? HX.out, hbb⟩⟩
        clear hbb
        go_wp2
        go_ret
        exact ⟨⟨_, rfl, by rw [HE.out]; simp⟩, rfl⟩
      | false =>
        have HE : Aside0 ((l.take (i + 1)).any badB = false) := ⟨by rw [List.take_add_one, HX.out, List.any_append, HN.out]; simp [hbb]⟩
        clear hbb
        go_wp2
        go_roundg (l.length - (i + 1))
        case measure => omega
        case rel => exact ⟨i + 1, by go_num, by omega, HE, rfl⟩
    · have hi : Aside0 (l.take i = l) := ⟨List.take_of_length_le (by omega)⟩
      go_wp2
      go_ret
      exact ⟨⟨-1, rfl, by rw [← hi.out, HN.out]; rfl⟩, rfl⟩

set_option maxRecDepth 100000 in
theorem containsMay_any (A : Option Addr) (c : Nat) (l : List Int) (w : World) (hr : ReadsInt w .u8 A l.length l) (hb : l.length ≤ 1048576) :
    Calls Tryz.prog 150 #[.slice A l.length c, .func (.func 151) #[] #[]] w fun e w' => e = .returned (.bool (l.any badB)) ∧ w' = w := by
  obtain ⟨q, hq⟩ := named (l.any badB)
  rw [← hq.out]
  go_enter Tryz.func150, Tryz.ntmps150
  go_wp2_with fail
  refine (indexMay_any A c l _ hr hb).mono ?_
  rintro e w1 ⟨⟨r, rfl, hrr⟩, rfl⟩
  rw [← hq.out] at hrr
  go_wp2
  go_ret
  exact ⟨by rw [← hrr]; rfl, rfl⟩

set_option maxRecDepth 100000 in
set_option maxHeartbeats 1000000 in
theorem may_any (s : ByteArray) (w : World) : Calls Tryz.prog 115 #[.string s] w fun e w' => e = .returned (.bool (mayF s)) ∧ Below w.heap.size w w' := by
  obtain ⟨q, hq⟩ := named (mayF s)
  rw [← hq.out]
  have hqq : Aside0 (q = (decide (1 ≤ s.size) && (decide (s.size ≤ 32) && !(bytesOf s).any badB))) := ⟨by rw [hq.out]; rfl⟩
  by_cases h0 : s.size = 0
  · have hs : s = ⟨#[]⟩ := by
      cases s with
      | mk d => congr 1; exact Array.eq_empty_of_size_eq_zero h0
    have hv : Aside0 (q = false) := ⟨by rw [hqq.out]; simp [h0]⟩
    subst hs
    go_enter Tryz.func115, Tryz.ntmps115
    go_wp2
    go_ret
    exact ⟨by rw [hv.out]; rfl, Below.refl _ _⟩
  · have hne : (s.data.toList == (⟨#[]⟩ : ByteArray).data.toList) = false := by
      cases s with
      | mk d =>
        have h1 : d.toList ≠ [] := fun e => h0 (by have := congrArg List.length e; rw [Array.length_toList] at this; exact this)
        simpa using h1
    have hie : s.toList.isEmpty = false := by
      rw [List.isEmpty_eq_false_iff, ByteArray.toList_eq]
      intro e
      have h1 := congrArg List.length e
      simp at h1
      exact h0 (by rw [← data_length, e]; rfl)
    by_cases h32 : s.size ≤ 32
    · go_enter Tryz.func115, Tryz.ntmps115
      have hconv := Lib.run_convert_string_bytes (P := Tryz.prog) w 9 88 5 s Tryz.underlying9 Tryz.underlying88 Tryz.underlying5
      have hbel : Below w.heap.size w (Lib.bytesWorld w 5 s) := ⟨rfl, rfl, rfl, by rw [Lib.bytesWorld_size]; omega, fun k hk => Lib.bytesWorld_at_old w _ s k hk⟩
      have hrd : ReadsInt (Lib.bytesWorld w 5 s) .u8 (some ⟨w.heap.size, 0, none⟩) (bytesOf s).length (bytesOf s) := by
        refine ⟨rfl, by rw [bytesOf_length]; omega, fun _ => ⟨_, rfl, fun j hj => ?_⟩⟩
        rw [bytesOf_length] at hj
        rw [show ((⟨w.heap.size, 0, none⟩ : Addr).add j) = ⟨w.heap.size, j, none⟩ by rw [Addr.add_lit, Nat.zero_add], Lib.bytesWorld_cell w _ s j hj]
        have hj' : j < s.data.toList.length := by rw [data_length]; exact hj
        simp [bytesOf, List.getD_eq_getElem?_getD, List.getElem?_map, List.getElem?_eq_getElem hj']
      have hcall := containsMay_any (some ⟨w.heap.size, 0, none⟩) (grownCap w s.size 0 5) (bytesOf s) _ hrd (by rw [bytesOf_length]; omega)
      rw [bytesOf_length] at hcall
      obtain ⟨WB, hWB⟩ : ∃ WB, WB = Lib.bytesWorld w 5 s := ⟨_, rfl⟩
      obtain ⟨cp, hcp⟩ : ∃ cp, cp = grownCap w s.size 0 5 := ⟨_, rfl⟩
      rw [← hWB, ← hcp] at hconv
      rw [← hWB] at hbel
      rw [← hWB, ← hcp] at hcall
      obtain ⟨bd, hbd⟩ := named ((bytesOf s).any badB)
      rw [← hbd.out] at hcall hqq
      have hv : Aside0 (q = !bd) := ⟨by rw [hqq.out]; simp [h32]; omega⟩
      clear hWB hcp hrd
      go_wp2_with (go_at_call 150; refine hcall.mono ?_; rintro e w1 ⟨rfl, rfl⟩)
      go_ret
      exact ⟨by rw [hv.out]; rfl, hbel⟩
    · have hv : Aside0 (q = false) := ⟨by rw [hqq.out]; simp [h32]⟩
      have h33 : (32 : Int) < s.size := by omega
      go_enter Tryz.func115, Tryz.ntmps115
      go_wp2
      go_ret
      exact ⟨by rw [hv.out]; rfl, Below.refl _ _⟩
end Go.Proofs.YtfakfgblaakgdaaGreat.Files

/- A state of chapter 4 for the program: CopyBytes, some, names, Of: walked. -/
namespace Go.Proofs.YtfakfgblaakgdaaGreat.Files
set_option linter.unusedVariables false
set_option linter.unusedSimpArgs false
open Go.RowKit Go.Proofs.YtfakfgblaakgdaaGreatW.PrintWords Go.Proofs.YtfakfgblaakgdaaGreatW.PrintLast Go.Proofs.YtfakfgblaakgdaaGreat.Base Go.Proofs.YtfakfgblaakgdaaGreat.Cells Go.Proofs.YtfakfgblaakgdaaGreat.Ints Go.Proofs.YtfakfgblaakgdaaGreat.Var

theorem infoFl : (Tryz.prog.info? 113).map (fun i => (i.zero, i.size, i.bytes)) = some (some (.agg #[.int .i64 0, .slice none 0 0, .int .i64 0]), 3, 40) := by kernel_rfl
theorem infoNm : (Tryz.prog.info? 146).map (fun i => (i.zero, i.size, i.bytes)) = some (some (.agg #[.string ⟨#[]⟩, .int .i64 0]), 2, 24) := by kernel_rfl

set_option maxRecDepth 100000 in
set_option maxHeartbeats 1000000 in
theorem copyBytes_any (A : Option Addr) (c : Nat) (l : List Int) (w : World) (hr : ReadsInt w .u8 A l.length l) (hb : l.length ≤ 1048576) :
    Calls Tryz.prog 71 #[.slice A l.length c] w fun e w' => ∃ v, e = .returned v ∧ RB w' w.heap.size v l ∧ Below w.heap.size w w' := by
  have HR := Aside0.mk hr
  clear hr
  go_enter Tryz.func71, Tryz.ntmps71
  go_wp2_with (at_builtin; refine print_append_row (w0 := w) w.heap.size (by rfl) (.tmp 4) (.tmp 5) 88 5 .u8 1 (by rfl) Tryz.underlying88 infoB (by decide) (.slice none 0 0) [] l A l.length c (by rfl) (by rfl) ?aO ?aR ?aB ?aS ?c1 ?_; (case aO => exact own_nil _ _ _ _); (case aR => exact HR.out); (case aB => exact Below.refl _ _); (case aS => exact Nat.le_refl _); (case c1 => simp only [List.length_nil]; omega); intro v1 w1 hown hB1 hg1 hat; have HO1 := Aside0.mk hown; have HB1 := Aside0.mk hB1; clear hown hB1 hg1 hat)
  go_ret
  exact ⟨_, rfl, by have := HO1.out; rwa [List.nil_append] at this, HB1.out⟩

/-- a row of files of one's own -/
abbrev RF (w : World) (base : Nat) (v : Value) (l : List Fl) : Prop := kFl.R 113 w base (fun _ => True) v l
/-- a row of names of one's own -/
abbrev RN (w : World) (base : Nat) (v : Value) (l : List Nm) : Prop := kNm.R 146 w base (fun _ => True) v l

set_option maxRecDepth 100000 in
set_option maxHeartbeats 1000000 in
theorem names_any (A : Option Addr) (c : Nat) (l : List Nm) (w : World) (hr : kNm.C w A l.length l) (hb : l.length ≤ 1048576) :
    Calls Tryz.prog 30 #[.slice A l.length c] w fun e w' => ∃ v, e = .returned v ∧ RN w' w.heap.size v l ∧ Below w.heap.size w w' := by
  have HR := Aside0.mk hr
  clear hr
  go_enter Tryz.func30, Tryz.ntmps30
  go_wp2
  go_loopg [3, 4] l.length (fun g v3 v4 wr => ∃ i : Nat, v4 = .int .i64 i ∧ g + i = l.length ∧ Aside0 (RN wr w.heap.size v3 (l.take i)) ∧ Aside0 (Below w.heap.size w wr))
  case atStart => exact ⟨0, rfl, by omega, ⟨Kd.R_nil kNm _ _ _ _⟩, ⟨Below.refl _ _⟩⟩
  case round =>
    obtain ⟨i, rfl, hg, HO, HB⟩ := hrel
    by_cases hlt : i < l.length
    · have HC := Aside0.mk (Kd.C_below HR.out HB.out)
      obtain ⟨m, hm⟩ : ∃ m, l[i]? = some m := ⟨_, List.getElem?_eq_getElem hlt⟩
      obtain ⟨ad, rfl, c0, c1⟩ := atNm HC.out i m hm
      have ht : Aside0 (l.take (i + 1) = l.take i ++ [m]) := ⟨by rw [List.take_add_one, hm]; rfl⟩
      have hl : (l.take i).length = i := by rw [List.length_take]; omega
      have HL := Aside0.mk hl
      clear hm hl
      go_wp2_with (first | (at_builtin; refine Kd.R_append kNm (w0 := w) w.heap.size rfl (.tmp 11) (.tmp 16) 33 146 (.agg #[.string ⟨#[]⟩, .int .i64 0]) 24 rfl Tryz.underlying33 infoNm rfl (by decide) (by omega) u3 (l.take i) m m.cs (fun _ => True) (fun _ => False) rfl rfl ?aP (fun _ hk => hk.elim) (fun _ _ => trivial) ?aO ?aB ?aS ?c1 ?_; (case aP => exact kNm_mkM _ _ _ m); (case aO => exact HO.out); (case aB => exact HB.out); (case aS => exact HB.out.size); (case c1 => rw [HL.out]; omega); intro v1 w1 hown hB1 hg1 hat; have HO1 := Aside0.mk hown; have HB1 := Aside0.mk hB1; clear hown hB1 hg1 hat))
      go_roundg (l.length - (i + 1))
      case measure => omega
      case rel => exact ⟨i + 1, by go_num, by omega, ⟨by rw [ht.out]; exact HO1.out⟩, HB1⟩
    · have hi : Aside0 (l.take i = l) := ⟨List.take_of_length_le (by omega)⟩
      go_wp2
      go_ret
      exact ⟨_, rfl, by rw [← hi.out]; exact HO.out, HB.out⟩

set_option maxRecDepth 100000 in
set_option maxHeartbeats 1000000 in
theorem some_any (A : Option Addr) (c : Nat) (l : List Fl) (w : World) (hr : kFl.C w A l.length l) (hb : l.length ≤ 1048576) (hd : ∀ f ∈ l, f.data.length ≤ 1048576) :
    Calls Tryz.prog 29 #[.slice A l.length c] w fun e w' => ∃ v, e = .returned v ∧ RF w' w.heap.size v l ∧ Below w.heap.size w w' := by
  have HR := Aside0.mk hr
  have HD := Aside0.mk hd
  clear hr hd
  go_enter Tryz.func29, Tryz.ntmps29
  go_wp2
  go_loopg [3, 4] l.length (fun g v3 v4 wr => ∃ i : Nat, v4 = .int .i64 i ∧ g + i = l.length ∧ Aside0 (RF wr w.heap.size v3 (l.take i)) ∧ Aside0 (Below w.heap.size w wr))
  case atStart => exact ⟨0, rfl, by omega, ⟨Kd.R_nil kFl _ _ _ _⟩, ⟨Below.refl _ _⟩⟩
  case round =>
    obtain ⟨i, rfl, hg, HO, HB⟩ := hrel
    by_cases hlt : i < l.length
    · have HC := Aside0.mk (Kd.C_below HR.out HB.out)
      obtain ⟨m, hm⟩ : ∃ m, l[i]? = some m := ⟨_, List.getElem?_eq_getElem hlt⟩
      obtain ⟨ad, D, dc, rfl, c0, c1, c2, hdc, hrd⟩ := atFl HC.out i m hm
      have ht : Aside0 (l.take (i + 1) = l.take i ++ [m]) := ⟨by rw [List.take_add_one, hm]; rfl⟩
      have hl : (l.take i).length = i := by rw [List.length_take]; omega
      have HL := Aside0.mk hl
      have hmd : Aside0 (m.data.length ≤ 1048576) := ⟨HD.out m (List.mem_of_getElem? hm)⟩
      have HRD := Aside0.mk hrd
      obtain ⟨n, hn⟩ : ∃ n, n = m.data.length := ⟨_, rfl⟩
      rw [← hn] at c1
      have HN := Aside0.mk hn
      have c0d : wr.drew.cell? (ad.add (i * 3)) = some (.int .i64 m.id) := c0
      have c1d : wr.drew.cell? ⟨(ad.add (i * 3)).block, (ad.add (i * 3)).off + 1, none⟩ = some (.slice D n dc) := c1
      have c2d : wr.drew.cell? ⟨(ad.add (i * 3)).block, (ad.add (i * 3)).off + 2, none⟩ = some (.int .i64 m.sync) := c2
      obtain ⟨V, hV⟩ : ∃ V, V = u3 := ⟨_, rfl⟩
      clear hm hl hrd hn hdc
      go_wp2_with fail
      go_region_law (first | (refine Kd.R_append_step kFl (w0 := w) w.heap.size (by rfl) (.tmp 11) (.tmp 29) 32 113 (.agg #[.int .i64 0, .slice none 0 0, .int .i64 0]) 40 rfl Tryz.underlying32 infoFl rfl (by decide) (by omega) u3 (l.take i) m [.int .i64 m.id, .slice A4 n c4, .int .i64 m.sync] (fun _ => True) (fun k => wr.heap.size ≤ k) rfl rfl ?aP ?aK (fun _ _ => trivial) ?aO ?aB ?aS ?c1 ?_; (case aP => exact HP4.out); (case aK => exact HK4.out); (case aO => exact HO4.out); (case aB => exact HB4.out); (case aS => exact HB4.out.size); (case c1 => rw [HL.out]; omega); intro v1 w1 hown hB1 hg1 hat; have HO1 := Aside0.mk hown; have HB1 := Aside0.mk hB1; clear hown hB1 hg1 hat) | (go_simp; go_wp2_with (go_at_call 71; refine (?cc : Calls Tryz.prog 71 #[.slice D n dc] wr.drew fun e w' => ∃ A4 c4, e = .returned (.slice A4 n c4) ∧ RF w' w.heap.size u3 (l.take i) ∧ kFl.M w' w.heap.size (fun k => wr.heap.size ≤ k) m [.int .i64 m.id, .slice A4 n c4, .int .i64 m.sync] ∧ (∀ k, wr.heap.size ≤ k → True ∧ some k ≠ u3.ownBlock) ∧ Below wr.heap.size wr w').mono ?_; (case cc => rw [HN.out]; refine (copyBytes_any D dc m.data wr.drew (HRD.out.below (below_drew (Below.refl _ _))) hmd.out).mono ?_; rintro e w4 ⟨v4, rfl, hb4, hbe4⟩; obtain ⟨A4, c4, rfl, _⟩ := RB_reads hb4; exact ⟨A4, c4, rfl, Kd.R_below HO.out (bthen (below_drew (Below.refl _ _)) hbe4), kFl_mkM (Kd.R_of_own (own_weaken hb4 HB.out.size) (fun k hk => own_base hb4 k hk)), fun k hk => ⟨trivial, fun e => by have := Kd.R_lt HO.out k e.symm; omega⟩, bthen (below_drew (Below.refl _ _)) hbe4⟩); rintro e w4 ⟨A4, c4, rfl, ho4, hm4, hk4, hbe4⟩; have HO4 := Aside0.mk ho4; have HP4 := Aside0.mk hm4; have HK4 := Aside0.mk hk4; have HB4 := Aside0.mk (bthen HB.out hbe4); have q0 := pw_cell_below hbe4 c0; have q1 := pw_cell_below hbe4 c1; have q2 := pw_cell_below hbe4 c2; clear ho4 hm4 hk4 hbe4)))
      all_goals go_wp2
      all_goals go_roundg (l.length - (i + 1))
      all_goals first
        | (guard_target =~ (_ : Nat) < _; omega)
        | exact ⟨i + 1, by go_num, by omega, ⟨by rw [ht.out]; exact HO1.out⟩, HB1⟩
    · have hi : Aside0 (l.take i = l) := ⟨List.take_of_length_le (by omega)⟩
      go_wp2
      go_ret
      exact ⟨_, rfl, by rw [← hi.out]; exact HO.out, HB.out⟩
end Go.Proofs.YtfakfgblaakgdaaGreat.Files
