/- A part of the proof: Worlds in which the library's tables hold what their initialisers lay: the witness of a row that lists them. -/
import Derived.Test.YteloamnakikbbaaDoorCards
import Derived.Test.YteloamnakikbbaaDoorTie
import Derived.WalkKit
import Derived.ProofKit
import Derived.OpenShut
import Derived.ShutString
import Derived.ChangeOld
import Derived.Below
import Derived.SizedLaws
import Derived.JoinedCond
import Derived.Deep.DeepHandedRow
import Derived.Lib.LaidTab
import Derived.Test.YteloamnakikbbaaDoorWWords
import Derived.Test.YteloamnakikbbaaDoorWLast
import Derived.Test.YteloamnakikbbaaDoorRows
import Derived.Test.YteloamnakikbbaaDoorProg
import Derived.KernelRfl
import Derived.Shelf.Small.Bits
import Derived.Shelf.Strconv.Itoa0
import Derived.Lib.ItoaNum
import Derived.WalkLawsBesides
import Derived.Deep.QuietTactic
import Derived.BigQuiet
import Derived.Deep.LoopGhost
import Derived.Deep.DeepCutAuto
import Derived.Deep.CutBlock
import Derived.Deep.RegionHeld3

/- Worlds in which the library's tables hold what their initialisers lay: the witness of a row that lists them. -/
namespace Go.Proofs.YteloamnakikbbaaDoor.Laid
open Go.ChangeShapes Go.WideShapes Go.ChangeAt Go.RowKit
set_option linter.unusedVariables false
theorem own : ownKnob Tryd.prog.godebug = none := by kernel_rfl
theorem laidOut : laidOutB Tryd.prog = true := by kernel_rfl
def u8s (l : List Nat) : Array Value := (l.map fun (n : Nat) => Value.int .u8 (n : Int)).toArray
def bruijn : List Nat := [0, 1, 56, 2, 57, 49, 28, 3, 61, 58, 42, 50, 38, 29, 17, 4, 62, 47, 59, 36, 45, 43, 51, 22, 53, 39, 33, 30, 24, 18, 12, 5, 63, 55, 48, 27, 60, 41, 37, 16, 46, 35, 44, 21, 52, 32, 23, 11, 54, 26, 40, 15, 34, 20, 31, 10, 25, 14, 19, 9, 13, 8, 7, 6]
def accept : List Nat := [128, 191, 160, 191, 128, 159, 144, 191, 128, 143, 0, 0, 0, 0, 0, 0, 0, 0, 0, 0, 0, 0, 0, 0, 0, 0, 0, 0, 0, 0, 0, 0]
def putCells (cs : Array Value) : Obj → Obj
  | .cells _ t f => .cells cs t f
  | o => o
/-- the settled world, the tables (blocks 0, 1, 2) holding what their initialisers lay -/
noncomputable def laidWorld (os : Os) : World :=
  { World.holding Tryd.prog os ⟨#[], #[], []⟩ with heap := (((World.holding Tryd.prog os ⟨#[], #[], []⟩).heap.modify 0 (putCells (u8s bruijn))).modify 1 (putCells (u8s Pinned.utf8FirstZ))).modify 2 (putCells (u8s accept)) }
end Go.Proofs.YteloamnakikbbaaDoor.Laid

/- Small words that all my walks use: what grows and stays of memory. No program. -/
namespace Go.Proofs.YteloamnakikbbaaDoor.Base
open Go.RowKit Go.Proofs.YteloamnakikbbaaDoorW.PrintWords Go.Proofs.YteloamnakikbbaaDoorW.PrintLast

theorem grown_refl (w : World) (r : Option Nat) : w.grownBy w r := ⟨rfl, rfl, rfl, Nat.le_refl _, fun _ _ _ => rfl⟩
theorem grown_trans {a b c : World} {r : Option Nat} (h : a.grownBy b r) (k : b.grownBy c r) : a.grownBy c r :=
  ⟨k.os.trans h.os, k.tape.trans h.tape, k.output.trans h.output, Nat.le_trans h.size k.size, fun i hi hr => (k.block i (Nat.lt_of_lt_of_le hi h.size) hr).trans (h.block i hi hr)⟩
theorem grown_drew {a b : World} {r : Option Nat} (h : a.grownBy b r) : a.grownBy b.drew r := ⟨h.os, h.tape, h.output, h.size, h.block⟩
theorem grown_drewN {a b : World} {r : Option Nat} (h : a.grownBy b r) (n : Nat) : a.grownBy (b.drewN n) r := ⟨h.os, h.tape, h.output, h.size, h.block⟩
theorem grown_alloc {a b : World} {r : Option Nat} (h : a.grownBy b r) (o : Obj) : a.grownBy (b.alloc o) r := grown_trans h (World.grownBy_alloc _ o r)
/-- what was made since w, of a row that lies behind w: nothing of w has turned -/
theorem below_of_grown {w a b : World} {r : Option Nat} (hb : Below w.heap.size w a) (hg : a.grownBy b r) (hr : ∀ k, r = some k → w.heap.size ≤ k) : Below w.heap.size w b := hb.grown hg hb.size hr
theorem below_set {w a : World} (hb : Below w.heap.size w a) {p : Addr} (hp : w.heap.size ≤ p.block) (u : Value) : Below w.heap.size w (a.setCell p u) := hb.setCell hp u
theorem bcell {W w1 : World} (hb : Below W.heap.size W w1) : (∀ b o, b < W.heap.size → w1.cell? ⟨b, o, none⟩ = W.cell? ⟨b, o, none⟩) ∧ (∀ b o, b < W.heap.size → w1.frozen? ⟨b, o, none⟩ = W.frozen? ⟨b, o, none⟩) :=
  ⟨fun b o h => hb.cell (p := ⟨b, o, none⟩) h, fun b o h => hb.frozen (p := ⟨b, o, none⟩) h⟩
theorem bthen {w a b : World} (h : Below w.heap.size w a) (k : Below a.heap.size a b) : Below w.heap.size w b := below_then h h.size k
theorem new_cell (w : World) (cs : Array Value) (e : TypeId) (j : Nat) (v : Value) (h : cs[j]? = some v) : (w.alloc (.cells cs e)).cell? ⟨w.heap.size, j, none⟩ = some v := by
  rw [blk_cell (heap_alloc_new w _)]; exact h
/-- a cell of the block that was made last, behind what left all blocks as they were -/
theorem new_later {w w1 : World} {cs : Array Value} {e : TypeId} (hb : Below (w.alloc (.cells cs e)).heap.size (w.alloc (.cells cs e)) w1) (j : Nat) (v : Value) (h : cs[j]? = some v) : w1.cell? ⟨w.heap.size, j, none⟩ = some v :=
  (hb.cell (p := ⟨w.heap.size, j, none⟩) (by simp)).trans (new_cell w cs e j v h)
/-- an elder cell, behind a new block and what left all blocks as they were -/
theorem old_later {w w1 : World} {o : Obj} (hb : Below (w.alloc o).heap.size (w.alloc o) w1) {a : Addr} {v : Value} (h : w.cell? a = some v) : w1.cell? a = some v := by
  have hl := World.block_lt_of_cell? w a h
  refine (hb.cell (p := a) (by simp; omega)).trans ?_
  rw [World.cell?_of_block (Below.heap_alloc w o a.block hl)]; exact h
/-- a value with a name, its equation put aside -/
theorem named {α : Type} (x : α) : ∃ y, Aside0 (y = x) := ⟨x, ⟨rfl⟩⟩

theorem snocInd {α : Type} {p : List α → Prop} (h0 : p []) (h1 : ∀ l c, p l → p (l ++ [c])) (l : List α) : p l := by
  have h : ∀ l : List α, p l.reverse := by
    intro l
    induction l with
    | nil => exact h0
    | cons c l ih => rw [List.reverse_cons]; exact h1 _ _ ih
  have := h l.reverse
  rwa [List.reverse_reverse] at this
end Go.Proofs.YteloamnakikbbaaDoor.Base

/- Jobs and limits in plain Lean: what the program and the document compute. No program. -/
namespace Go.Proofs.YteloamnakikbbaaDoor.JobPure
set_option linter.unusedVariables false
set_option linter.unusedSimpArgs false
open Go.RowKit

structure Jb where
  id : Int
  name : ByteArray
  rule : ByteArray
  payload : ByteArray
  status : Int
  due : Int
  tries : Int
  worker : Int
  token : Int
  til : Int
abbrev jc (j : Jb) : Array Value := #[.int .i64 j.id, .string j.name, .string j.rule, .string j.payload, .int .i64 j.status, .int .i64 j.due, .int .i64 j.tries, .int .i64 j.worker, .int .i64 j.token, .int .i64 j.til]
abbrev jv (j : Jb) : Value := .agg #[.int .i64 j.id, .string j.name, .string j.rule, .string j.payload, .int .i64 j.status, .int .i64 j.due, .int .i64 j.tries, .int .i64 j.worker, .int .i64 j.token, .int .i64 j.til]
def j0 : Jb := ⟨0, ⟨#[]⟩, ⟨#[]⟩, ⟨#[]⟩, 0, 0, 0, 0, 0, 0⟩

def limOk (b c t : Int) : Bool := decide (1 ≤ b ∧ b ≤ 1048576 ∧ b ≤ c ∧ c ≤ 1073741824 ∧ 1 ≤ t ∧ t ≤ 16)
def limE (b c t : Int) : Int := if limOk b c t then 0 else 4
def delayP (b c : Int) (k : Nat) : Int := min c (b * (2 ^ k : Nat))

theorem limOk_iff {b c t : Int} : limOk b c t = true ↔ (1 ≤ b ∧ b ≤ 1048576 ∧ b ≤ c ∧ c ≤ 1073741824 ∧ 1 ≤ t ∧ t ≤ 16) := by simp [limOk]
theorem delay_bd {b c : Int} (k : Nat) (hb : 1 ≤ b) (hc : 1 ≤ c) : 1 ≤ delayP b c k ∧ delayP b c k ≤ c := by
  unfold delayP
  have h1 := Nat.one_le_two_pow (n := k)
  generalize 2 ^ k = p at h1 ⊢
  have h2 : 1 * 1 ≤ b * (p : Int) := Int.mul_le_mul hb (by omega) (by omega) (by omega)
  omega
/-- beyond as many doublings as the cap has bits it is the cap -/
theorem delay_cap {b c : Int} {k : Nat} (hb : 1 ≤ b) (hc : c < (2 ^ k : Nat)) : delayP b c k = c := by
  unfold delayP
  generalize 2 ^ k = p at hc ⊢
  have h2 : (p : Int) ≤ b * (p : Int) := by
    have := Int.mul_le_mul_of_nonneg_right hb (show (0 : Int) ≤ (p : Int) by omega)
    rwa [Int.one_mul] at this
  omega

def hmay (w t u : Int) : Bool := decide (1 ≤ w ∧ w ≤ 2147483648 ∧ 1 ≤ t ∧ t ≤ 1099511627776 ∧ 0 ≤ u ∧ u ≤ 32503680000)
def hnone (w t u : Int) : Bool := decide (w = 0 ∧ t = 0 ∧ u = 0)
/-- the numbers and the sizes of a job -/
def chkA (j : Jb) : Bool := decide (1 ≤ j.id ∧ j.id ≤ 1099511627776 ∧ j.name.size ≤ 32 ∧ j.payload.size ≤ 200 ∧ 0 ≤ j.due ∧ j.due ≤ 32503680000 ∧ 0 ≤ j.tries ∧ j.tries ≤ 16)
/-- who holds it, by its status -/
def chkB (j : Jb) : Bool := if j.status = 2 then hmay j.worker j.token j.til && decide (j.due = 0) else if j.status = 3 then decide (j.rule.size = 0) && hnone j.worker j.token j.til else if j.status = 1 then hnone j.worker j.token j.til else false
/-- its rule; pe is what reading it tells -/
def chkC (pe : Int) (j : Jb) : Bool := decide (j.rule.size = 0) || (pe == 0 && decide (j.rule.size ≤ 200))
def chk (pe : Int) (j : Jb) : Bool := chkA j && chkB j && chkC pe j
def chkE (pe : Int) (j : Jb) : Int := if chk pe j then 0 else 9
/-- hold -/
def holdJ (j : Jb) (s d w t u : Int) : Jb := { j with status := s, due := d, worker := w, token := t, til := u }
/-- Lease -/
def leaseE (pe : Int) (j : Jb) (w t u : Int) : Int := if chk pe j then (if j.status = 1 then (if hmay w t u then 0 else 4) else 81) else 9
def leaseJ (pe : Int) (j : Jb) (w t u : Int) : Jb := if leaseE pe j w t u = 0 then holdJ j 2 0 w t u else j0
/-- leased -/
def leasedE (j : Jb) (now : Int) : Int := if j.status = 2 then (if 0 ≤ now ∧ now ≤ 32503679999 then 0 else 4) else 81
/-- again: nx is when its rule comes next -/
def againJ (nx : Int × Bool) (j : Jb) : Jb × Bool := if j.rule.size = 0 then (j0, false) else (holdJ { j with tries := 0 } 1 nx.1 0 0 0, nx.2)
def failE (pe : Int) (j : Jb) (b c t now : Int) : Int := if chk pe j then (if limOk b c t then leasedE j now else 4) else 9
def failT (j : Jb) : Int := min (j.tries + 1) 16
/-- Fail of a job that is leased -/
def failG (nx : Int × Bool) (j : Jb) (b c t now : Int) : Jb :=
  if now + delayP b c (failT j - 1).toNat < 32503680000 ∧ failT j < t then holdJ { j with tries := failT j } 1 (now + delayP b c (failT j - 1).toNat) 0 0 0
  else if (againJ nx { j with tries := failT j }).2 then (againJ nx { j with tries := failT j }).1
  else holdJ { j with tries := failT j, rule := ⟨#[]⟩ } 3 now 0 0 0
def failJ (pe : Int) (nx : Int × Bool) (j : Jb) (b c t now : Int) : Jb := if failE pe j b c t now = 0 then failG nx j b c t now else j0
def finE (pe : Int) (j : Jb) (now : Int) : Int := if chk pe j then leasedE j now else 9
end Go.Proofs.YteloamnakikbbaaDoor.JobPure

/- Limits and jobs that are handed in, read out of 'DataW.trod'. -/
namespace Go.Proofs.YteloamnakikbbaaDoor.LiftJ
set_option linter.unusedVariables false
open Go.ChangeShapes Go.WideShapes Go.ChangeAt Go.RowKit Go.Proofs.YteloamnakikbbaaDoorW.PrintWords Go.Proofs.YteloamnakikbbaaDoorW.PrintLast Go.Proofs.YteloamnakikbbaaDoor.Base

section
variable {H : Type} {enc : TypeId × Value → H} {P : Program} {W : World} {base : Nat} {spare : Nat → Bool} {held : Bool}
theorem trod_int {t : TypeId} {k : IntKind} (hu : P.underlying t = some (.int k)) {fuel : Nat} {v : Value} {d : DataW H} {p : List MemPlace} (h : DataW.trod enc P W base spare held fuel t [v] = some (d, p)) : ∃ n, v = .int k n ∧ d = .lit (.int k n) ∧ (Lit.int k n).wf = true := by
  cases fuel with
  | zero => simp [DataW.trod] at h
  | succ fuel =>
    unfold DataW.trod at h
    rw [hu] at h
    cases v <;> simp at h
    rename_i k' n
    exact ⟨n, by rw [h.1.1], h.2.1.symm, h.1.2⟩
theorem trod_str {t : TypeId} (hu : P.underlying t = some .string) {fuel : Nat} {v : Value} {d : DataW H} {p : List MemPlace} (h : DataW.trod enc P W base spare held fuel t [v] = some (d, p)) : ∃ s, v = .string s ∧ d = .lit (.string s.data.toList) := by
  cases fuel with
  | zero => simp [DataW.trod] at h
  | succ fuel =>
    unfold DataW.trod at h
    rw [hu] at h
    cases v <;> simp at h
    rename_i s
    exact ⟨s, rfl, h.2.1.symm⟩
theorem mapM_each {α β : Type} (f : α → Option β) : ∀ (l : List α) (ys : List β), l.mapM f = some ys → ys.length = l.length ∧ ∀ (i : Nat) (x : α), l[i]? = some x → ∃ y, f x = some y ∧ ys[i]? = some y
  | [], ys, h => by
    simp at h
    subst h
    exact ⟨rfl, fun i x hx => by simp at hx⟩
  | a :: l, ys, h => by
    rw [List.mapM_cons] at h
    obtain ⟨y, h1, h2⟩ := Option.bind_eq_some_iff.1 h
    obtain ⟨zs, h3, h4⟩ := Option.bind_eq_some_iff.1 h2
    have h5 : ys = y :: zs := by simpa using h4.symm
    subst h5
    obtain ⟨e1, e2⟩ := mapM_each f l zs h3
    refine ⟨by simp [e1], fun i x hx => ?_⟩
    cases i with
    | zero => simp at hx; subst hx; exact ⟨y, h1, rfl⟩
    | succ i => exact e2 i x (by simpa using hx)
end
set_option maxRecDepth 100000 in
set_option maxHeartbeats 1000000 in
theorem trod_lim {H : Type} {enc : TypeId × Value → H} {W : World} {base : Nat} {spare : Nat → Bool} {held : Bool} {fuel : Nat} {v : Value} {d : DataW H} {p : List MemPlace} (hv : ∃ cs, v = .agg cs)
    (h : DataW.trod enc Tryd.prog W base spare held fuel 23 v.cells.toList = some (d, p)) : ∃ b c t, v = .agg #[.int .i64 b, .int .i64 c, .int .i64 t] := by
  obtain ⟨cs, rfl⟩ := hv
  have hcs : (Value.agg cs).cells.toList = cs.toList := rfl
  rw [hcs] at h
  cases fuel with
  | zero => simp [DataW.trod] at h
  | succ fuel =>
    unfold DataW.trod at h
    rw [Tryd.underlying23] at h
    have hc : Tryd.prog.cellsOf 23 = 3 := by kernel_rfl
    have hi : Tryd.prog.cellsOf 3 = 1 := by kernel_rfl
    simp only [hc] at h
    by_cases hl : cs.toList.length = 3
    · rw [if_pos hl] at h
      obtain ⟨v0, v1, v2, hcl⟩ : ∃ v0 v1 v2, cs.toList = [v0, v1, v2] := by
        generalize cs.toList = L at hl
        rcases L with _ | ⟨v0, _ | ⟨v1, _ | ⟨v2, _ | ⟨v3, r⟩⟩⟩⟩ <;> simp at hl
        exact ⟨v0, v1, v2, rfl⟩
      rw [hcl] at h
      obtain ⟨xs, h1, h2⟩ := Option.map_eq_some_iff.1 h
      obtain ⟨e1, e2⟩ := mapM_each _ _ _ h1
      obtain ⟨y0, f0, g0⟩ := e2 0 _ rfl
      obtain ⟨y1, f1, g1⟩ := e2 1 _ rfl
      obtain ⟨y2, f2, g2⟩ := e2 2 _ rfl
      simp only [hi, List.drop_zero, List.drop_succ_cons, List.take_succ_cons, List.take_zero] at f0 f1 f2
      obtain ⟨d0, p0⟩ := y0
      obtain ⟨d1, p1⟩ := y1
      obtain ⟨d2, p2⟩ := y2
      obtain ⟨b, rfl, _⟩ := trod_int Tryd.underlying3 f0
      obtain ⟨c, rfl, _⟩ := trod_int Tryd.underlying3 f1
      obtain ⟨t, rfl, _⟩ := trod_int Tryd.underlying3 f2
      exact ⟨b, c, t, congrArg Value.agg (Array.toList_inj.1 hcl)⟩
    · rw [if_neg hl] at h; cases h
end Go.Proofs.YteloamnakikbbaaDoor.LiftJ

/- The shelf's contracts of math/bits.LeadingZeros8 and Len64 at this translation (the numbers by name). -/
namespace Go.Proofs
open Go.Shelf
def Tryd.laysBits_ren : Go.Shelf.Ren := ⟨fun | 126 => 76 | 131 => 64 | 129 => 63 | n => n, fun | 9 => 9 | 5 => 5 | 3 => 3 | 4 => 4 | 46 => 58 | 53 => 25 | n => n, fun | n => n⟩
theorem Tryd.lays131 : Go.Proofs.Lays.n131 Tryd.prog Tryd.laysBits_ren := {
  mixed := by kernel_rfl
  f126 := Tryd.func76.trans (congrArg some (by kernel_rfl))
  f131 := Tryd.func64.trans (congrArg some (by kernel_rfl))
  t3 := Tryd.underlying3
  a3 := Tryd.isAgg3
  z3 := Tryd.sizeOf3
  v3 := Tryd.zeroValue3
  t5 := Tryd.underlying5
  a5 := Tryd.isAgg5
  z5 := Tryd.sizeOf5
  v5 := Tryd.zeroValue5
  t9 := Tryd.underlying9
  a9 := Tryd.isAgg9
  z9 := Tryd.sizeOf9
  v9 := Tryd.zeroValue9 }
theorem Tryd.bits_LeadingZeros8 (x : Int) (w : World) (h0 : 0 ≤ x) (h1 : x ≤ 255) :
    Calls Tryd.prog 64 #[.int .u8 x] w fun e w' => e = .returned (.int .i64 (8 - (Lib.bitLen x.toNat : Int))) ∧ w' = w := Any.bits_LeadingZeros8 Tryd.lays131 x w h0 h1
theorem Tryd.lays129 : Go.Proofs.Lays.n129 Tryd.prog Tryd.laysBits_ren := {
  mixed := by kernel_rfl
  f129 := Tryd.func63.trans (congrArg some (by kernel_rfl))
  t4 := Tryd.underlying4
  a4 := Tryd.isAgg4
  z4 := Tryd.sizeOf4
  v4 := Tryd.zeroValue4
  t46 := Tryd.underlying58
  a46 := Tryd.isAgg58
  z46 := Tryd.sizeOf58
  v46 := Tryd.zeroValue58
  t53 := Tryd.underlying25
  a53 := Tryd.isAgg25
  z53 := Tryd.sizeOf25
  v53 := Tryd.zeroValue25
  t3 := Tryd.underlying3
  a3 := Tryd.isAgg3
  z3 := Tryd.sizeOf3
  v3 := Tryd.zeroValue3
  t5 := Tryd.underlying5
  a5 := Tryd.isAgg5
  z5 := Tryd.sizeOf5
  v5 := Tryd.zeroValue5
  t9 := Tryd.underlying9
  a9 := Tryd.isAgg9
  z9 := Tryd.sizeOf9
  v9 := Tryd.zeroValue9 }
theorem Tryd.bits_Len64 (x : Int) (w : World) (h0 : 0 ≤ x) (h1 : x ≤ 18446744073709551615) :
    Calls Tryd.prog 63 #[.int .u64 x] w fun e w' => e = .returned (.int .i64 (Lib.bitLen x.toNat)) ∧ w' = w := Any.bits_Len64 Tryd.lays129 x w h0 h1
end Go.Proofs

/- The shelf's contract of math/bits.Len at this translation (the numbers by name). -/
namespace Go.Proofs
open Go.Shelf
def Tryd.laysBitsL_ren : Go.Shelf.Ren := ⟨fun | 125 => 62 | 126 => 76 | 128 => 75 | 129 => 63 | n => n, fun | 9 => 9 | 5 => 5 | 3 => 3 | 4 => 4 | 46 => 58 | 51 => 147 | 53 => 25 | n => n, fun | n => n⟩
theorem Tryd.lays125 : Go.Proofs.Lays.n125 Tryd.prog Tryd.laysBitsL_ren := {
  mixed := by kernel_rfl
  f125 := Tryd.func62.trans (congrArg some (by kernel_rfl))
  f128 := Tryd.func75.trans (congrArg some (by kernel_rfl))
  f129 := Tryd.func63.trans (congrArg some (by kernel_rfl))
  t3 := Tryd.underlying3
  a3 := Tryd.isAgg3
  z3 := Tryd.sizeOf3
  v3 := Tryd.zeroValue3
  t4 := Tryd.underlying4
  a4 := Tryd.isAgg4
  z4 := Tryd.sizeOf4
  v4 := Tryd.zeroValue4
  t5 := Tryd.underlying5
  a5 := Tryd.isAgg5
  z5 := Tryd.sizeOf5
  v5 := Tryd.zeroValue5
  t9 := Tryd.underlying9
  a9 := Tryd.isAgg9
  z9 := Tryd.sizeOf9
  v9 := Tryd.zeroValue9
  t46 := Tryd.underlying58
  a46 := Tryd.isAgg58
  z46 := Tryd.sizeOf58
  v46 := Tryd.zeroValue58
  t51 := Tryd.underlying147
  a51 := Tryd.isAgg147
  z51 := Tryd.sizeOf147
  v51 := Tryd.zeroValue147
  t53 := Tryd.underlying25
  a53 := Tryd.isAgg25
  z53 := Tryd.sizeOf25
  v53 := Tryd.zeroValue25 }
theorem Tryd.bits_Len (x : Int) (w : World) (h0 : 0 ≤ x) (h1 : x ≤ 18446744073709551615) :
    Calls Tryd.prog 62 #[.int .u64 x] w fun e w' => e = .returned (.int .i64 (Lib.bitLen x.toNat)) ∧ w' = w := Any.bits_Len Tryd.lays125 x w h0 h1
end Go.Proofs

/- Limits (backoff, and the document's), walked: Check, Delay, Due. -/
namespace Go.Proofs.YteloamnakikbbaaDoor.Job
set_option linter.unusedVariables false
set_option linter.unusedSimpArgs false
open Go.RowKit Go.Proofs.YteloamnakikbbaaDoorW.PrintWords Go.Proofs.YteloamnakikbbaaDoorW.PrintLast Go.Proofs.YteloamnakikbbaaDoor.Base Go.Proofs.YteloamnakikbbaaDoor.JobPure

theorem limE_no {b c t : Int} (h : ¬ (1 ≤ b ∧ b ≤ 1048576 ∧ b ≤ c ∧ c ≤ 1073741824 ∧ 1 ≤ t ∧ t ≤ 16)) : limE b c t = 4 := by
  have : limOk b c t = false := by simpa [limOk] using h
  rw [limE, this]; rfl
theorem limE_yes {b c t : Int} (h : 1 ≤ b ∧ b ≤ 1048576 ∧ b ≤ c ∧ c ≤ 1073741824 ∧ 1 ≤ t ∧ t ≤ 16) : limE b c t = 0 := by
  rw [limE, limOk_iff.2 h]; rfl

set_option maxRecDepth 100000 in
theorem lim_any (b c t : Int) (w : World) :
    Calls Tryd.prog 15 #[.agg #[.int .i64 b, .int .i64 c, .int .i64 t]] w fun e w' => e = .returned (.int .i64 (limE b c t)) ∧ Below w.heap.size w w' := by
  have HE : Aside0 ((¬ (1 ≤ b ∧ b ≤ 1048576 ∧ b ≤ c ∧ c ≤ 1073741824 ∧ 1 ≤ t ∧ t ≤ 16) → limE b c t = 4) ∧ ((1 ≤ b ∧ b ≤ 1048576 ∧ b ≤ c ∧ c ≤ 1073741824 ∧ 1 ≤ t ∧ t ≤ 16) → limE b c t = 0)) := ⟨limE_no, limE_yes⟩
  go_enter Tryd.func15, Tryd.ntmps15
  go_wp2
  all_goals go_ret
  all_goals refine ⟨?_, below_alloc (Below.refl _ _) _⟩
  all_goals first
    | (rw [HE.out.1 (by omega)]; rfl)
    | (rw [HE.out.2 (by omega)]; rfl)
set_option maxRecDepth 100000 in
theorem rlim_any (b c t : Int) (w : World) :
    Calls Tryd.prog 9 #[.agg #[.int .i64 b, .int .i64 c, .int .i64 t]] w fun e w' => e = .returned (.int .i64 (limE b c t)) ∧ Below w.heap.size w w' := by
  have HE : Aside0 ((¬ (1 ≤ b ∧ b ≤ 1048576 ∧ b ≤ c ∧ c ≤ 1073741824 ∧ 1 ≤ t ∧ t ≤ 16) → limE b c t = 4) ∧ ((1 ≤ b ∧ b ≤ 1048576 ∧ b ≤ c ∧ c ≤ 1073741824 ∧ 1 ≤ t ∧ t ≤ 16) → limE b c t = 0)) := ⟨limE_no, limE_yes⟩
  go_enter Tryd.func9, Tryd.ntmps9
  go_wp2
  all_goals go_ret
  all_goals refine ⟨?_, below_alloc (Below.refl _ _) _⟩
  all_goals first
    | (rw [HE.out.1 (by omega)]; rfl)
    | (rw [HE.out.2 (by omega)]; rfl)

theorem bitLen_lt (x : Nat) (h : x < 2 ^ 64) : x < 2 ^ Lib.bitLen x := by
  by_cases h0 : x = 0
  · subst h0; exact Nat.two_pow_pos _
  · exact (Lib.bitLenAux_bounds 64 x h h0).2.2
theorem delay_fits {b : Int} {k : Nat} (h1 : 1 ≤ b) (h2 : b ≤ 1048576) (hk : k ≤ 31) : 0 ≤ b * 2 ^ k ∧ b * 2 ^ k ≤ 2251799813685248 := by
  have h3 : (2 : Int) ^ k ≤ 2147483648 := by
    have := Nat.pow_le_pow_right (n := 2) (by omega) hk
    have h4 : ((2 ^ k : Nat) : Int) ≤ ((2 ^ 31 : Nat) : Int) := by omega
    simpa using h4
  have h5 : (0 : Int) ≤ (2 : Int) ^ k := Int.pow_nonneg (by omega)
  generalize (2 : Int) ^ k = p at h3 h5
  have h6 : b * p ≤ 1048576 * 2147483648 := Int.mul_le_mul h2 h3 h5 (by omega)
  exact ⟨Int.mul_nonneg (by omega) h5, by omega⟩
/-- Delay, of limits that may be -/
theorem delay_any (b c t : Int) (k : Nat) (w : World) (hl : limOk b c t = true) (hk : k ≤ 64) :
    Calls Tryd.prog 47 #[.agg #[.int .i64 b, .int .i64 c, .int .i64 t], .int .i64 k] w fun e w' => e = .returned (.tuple #[.int .i64 (delayP b c k), .int .i64 0]) ∧ Below w.heap.size w w' := by
  obtain ⟨b1, b2, bc, c2, t1, t2⟩ := limOk_iff.1 hl
  have hlE : Aside0 (limE b c t = 0) := ⟨by rw [limE, hl]; rfl⟩
  obtain ⟨q, hq⟩ : ∃ q, Lib.bitLen c.toNat = q := ⟨_, rfl⟩
  have hq1 := Lib.bitLen_le c.toNat 31 (by omega) (by omega)
  rw [hq] at hq1
  obtain ⟨d, hd⟩ := named (delayP b c k)
  rw [← hd.out]
  have HQ := Aside0.mk hq
  clear hl hq
  have e1 : IntKind.u64.wrap c = c := by rw [IntKind.wrap_u64]; omega
  have k0 : (0 : Int) ≤ (k : Int) := by omega
  by_cases hkq : q < k
  · have HD : Aside0 (d = c) := ⟨by
      rw [hd.out]
      have h1 := bitLen_lt c.toNat (by omega)
      rw [HQ.out] at h1
      refine delay_cap b1 ?_
      have := Nat.pow_lt_pow_right (a := 2) (by omega) hkq
      omega⟩
    obtain rfl := HD.out
    go_enter Tryd.func47, Tryd.ntmps47
    go_wp2_with (first
      | (go_at_call 15; refine (lim_any _ _ _ _).mono ?_; rw [hlE.out]; rintro e w1 ⟨rfl, hb1⟩; obtain ⟨hc1, hf1⟩ := bcell hb1; (have HB1 := Aside0.mk hb1); clear hb1)
      | (go_at_call 62; refine (Tryd.bits_Len _ _ (by omega) (by omega)).mono ?_; rw [HQ.out]; rintro e w' ⟨rfl, rfl⟩))
    go_ret2
    exact ⟨rfl, bthen (below_alloc (Below.refl _ _) _) HB1.out⟩
  · go_enter Tryd.func47, Tryd.ntmps47
    go_wp2_with (first
      | (go_at_call 15; refine (lim_any _ _ _ _).mono ?_; rw [hlE.out]; rintro e w1 ⟨rfl, hb1⟩; obtain ⟨hc1, hf1⟩ := bcell hb1; (have HB1 := Aside0.mk hb1); clear hb1)
      | (go_at_call 62; refine (Tryd.bits_Len _ _ (by omega) (by omega)).mono ?_; rw [HQ.out]; rintro e w' ⟨rfl, rfl⟩))
    go_region
    go_wp2
    go_ret2
    have h1 := delay_fits (b := b) (k := k) b1 b2 (by omega)
    refine ⟨?_, (bthen (below_alloc (Below.refl _ _) _) HB1.out).drew⟩
    have h2 : wrap64 (b * 2 ^ k) = b * 2 ^ k := by
      rw [wrap64]; omega
    rw [hd.out, delayP]
    simp [h2]
end Go.Proofs.YteloamnakikbbaaDoor.Job

/- Blocks of a variable of a struct's type, as a whole: what is stored, what is read at the end. No program. -/
namespace Go.Proofs.YteloamnakikbbaaDoor.Cells
open Go.RowKit Go.Proofs.YteloamnakikbbaaDoorW.PrintWords Go.Proofs.YteloamnakikbbaaDoorW.PrintLast Go.Proofs.YteloamnakikbbaaDoor.Base

theorem blk_new1 (w : World) (o : Obj) (cs : Array Value) (t : TypeId) : ((w.alloc o).alloc (.cells cs t)).heap[w.heap.size + 1]? = some (.cells cs t (0, 0)) := by
  have := heap_alloc_new (w.alloc o) (.cells cs t)
  simpa using this
theorem blk_keep {w w1 : World} {g : Nat} {t : TypeId} {cs : Array Value} (h : w.heap[g]? = some (.cells cs t (0, 0))) (hb : Below w.heap.size w w1) : w1.heap[g]? = some (.cells cs t (0, 0)) := (hb.block g (blk_lt h)).trans h

section
variable {w : World} {g : Nat} {t : TypeId}
/-- the cells of a block that is written -/
theorem all3 {a b c : Value} (h : w.heap[g]? = some (.cells #[a, b, c] t (0, 0))) :
    w.cell? ⟨g, 0, none⟩ = some a ∧ w.cell? ⟨g, 1, none⟩ = some b ∧ w.cell? ⟨g, 2, none⟩ = some c ∧ w.frozen? ⟨g, 0, none⟩ = false ∧ w.frozen? ⟨g, 1, none⟩ = false ∧ w.frozen? ⟨g, 2, none⟩ = false :=
  ⟨blk_cell h 0, blk_cell h 1, blk_cell h 2, blk_frozen h 0, blk_frozen h 1, blk_frozen h 2⟩
theorem all4 {a b c d : Value} (h : w.heap[g]? = some (.cells #[a, b, c, d] t (0, 0))) :
    w.cell? ⟨g, 0, none⟩ = some a ∧ w.cell? ⟨g, 1, none⟩ = some b ∧ w.cell? ⟨g, 2, none⟩ = some c ∧ w.cell? ⟨g, 3, none⟩ = some d ∧ w.frozen? ⟨g, 0, none⟩ = false ∧ w.frozen? ⟨g, 1, none⟩ = false ∧ w.frozen? ⟨g, 2, none⟩ = false ∧ w.frozen? ⟨g, 3, none⟩ = false :=
  ⟨blk_cell h 0, blk_cell h 1, blk_cell h 2, blk_cell h 3, blk_frozen h 0, blk_frozen h 1, blk_frozen h 2, blk_frozen h 3⟩
theorem all5 {a b c d e : Value} (h : w.heap[g]? = some (.cells #[a, b, c, d, e] t (0, 0))) :
    w.cell? ⟨g, 0, none⟩ = some a ∧ w.cell? ⟨g, 1, none⟩ = some b ∧ w.cell? ⟨g, 2, none⟩ = some c ∧ w.cell? ⟨g, 3, none⟩ = some d ∧ w.cell? ⟨g, 4, none⟩ = some e ∧ w.frozen? ⟨g, 0, none⟩ = false ∧ w.frozen? ⟨g, 1, none⟩ = false ∧ w.frozen? ⟨g, 2, none⟩ = false ∧ w.frozen? ⟨g, 3, none⟩ = false ∧ w.frozen? ⟨g, 4, none⟩ = false :=
  ⟨blk_cell h 0, blk_cell h 1, blk_cell h 2, blk_cell h 3, blk_cell h 4, blk_frozen h 0, blk_frozen h 1, blk_frozen h 2, blk_frozen h 3, blk_frozen h 4⟩
theorem blk3 {a b c x y z : Value} (h : w.heap[g]? = some (.cells #[a, b, c] t (0, 0))) :
    (((w.setCell ⟨g, 0, none⟩ x).setCell ⟨g, 1, none⟩ y).setCell ⟨g, 2, none⟩ z).heap[g]? = some (.cells #[x, y, z] t (0, 0)) :=
  blk_put (cs := #[x, y, c]) (blk_put (cs := #[x, b, c]) (blk_put (cs := #[a, b, c]) h 0 x rfl) 1 y rfl) 2 z rfl
theorem blk4 {a b c d x y z u : Value} (h : w.heap[g]? = some (.cells #[a, b, c, d] t (0, 0))) :
    ((((w.setCell ⟨g, 0, none⟩ x).setCell ⟨g, 1, none⟩ y).setCell ⟨g, 2, none⟩ z).setCell ⟨g, 3, none⟩ u).heap[g]? = some (.cells #[x, y, z, u] t (0, 0)) :=
  blk_put (cs := #[x, y, z, d]) (blk3' h) 3 u rfl
where blk3' {a b c d x y z : Value} (h : w.heap[g]? = some (.cells #[a, b, c, d] t (0, 0))) :
    (((w.setCell ⟨g, 0, none⟩ x).setCell ⟨g, 1, none⟩ y).setCell ⟨g, 2, none⟩ z).heap[g]? = some (.cells #[x, y, z, d] t (0, 0)) :=
  blk_put (cs := #[x, y, c, d]) (blk_put (cs := #[x, b, c, d]) (blk_put (cs := #[a, b, c, d]) h 0 x rfl) 1 y rfl) 2 z rfl
theorem blk5 {a b c d e x y z u v : Value} (h : w.heap[g]? = some (.cells #[a, b, c, d, e] t (0, 0))) :
    (((((w.setCell ⟨g, 0, none⟩ x).setCell ⟨g, 1, none⟩ y).setCell ⟨g, 2, none⟩ z).setCell ⟨g, 3, none⟩ u).setCell ⟨g, 4, none⟩ v).heap[g]? = some (.cells #[x, y, z, u, v] t (0, 0)) :=
  blk_put (cs := #[x, y, z, u, e]) (blk_put (cs := #[x, y, z, d, e]) (blk_put (cs := #[x, y, c, d, e]) (blk_put (cs := #[x, b, c, d, e]) (blk_put (cs := #[a, b, c, d, e]) h 0 x rfl) 1 y rfl) 2 z rfl) 3 u rfl) 4 v rfl
/-- nothing below B has turned by stores into block g -/
theorem below_set3 {B : Nat} {w0 : World} (hb : Below B w0 w) (hg : B ≤ g) (x y z : Value) : Below B w0 (((w.setCell ⟨g, 0, none⟩ x).setCell ⟨g, 1, none⟩ y).setCell ⟨g, 2, none⟩ z) :=
  ((hb.setCell (p := ⟨g, 0, none⟩) hg x).setCell (p := ⟨g, 1, none⟩) hg y).setCell (p := ⟨g, 2, none⟩) hg z
theorem below_set4 {B : Nat} {w0 : World} (hb : Below B w0 w) (hg : B ≤ g) (x y z u : Value) : Below B w0 ((((w.setCell ⟨g, 0, none⟩ x).setCell ⟨g, 1, none⟩ y).setCell ⟨g, 2, none⟩ z).setCell ⟨g, 3, none⟩ u) :=
  (below_set3 hb hg x y z).setCell (p := ⟨g, 3, none⟩) hg u
theorem below_set5 {B : Nat} {w0 : World} (hb : Below B w0 w) (hg : B ≤ g) (x y z u v : Value) : Below B w0 (((((w.setCell ⟨g, 0, none⟩ x).setCell ⟨g, 1, none⟩ y).setCell ⟨g, 2, none⟩ z).setCell ⟨g, 3, none⟩ u).setCell ⟨g, 4, none⟩ v) :=
  (below_set4 hb hg x y z u).setCell (p := ⟨g, 4, none⟩) hg v
/-- a row of one's own that lies behind block g stays by stores into g -/
theorem Rset {α : Type} {k : Kd α} {e : TypeId} {base : Nat} {v : Value} {l : List α} (h : k.R e w base (fun _ => True) v l) {p : Addr} (hp : p.block < base) (u : Value) : k.R e (w.setCell p u) base (fun _ => True) v l :=
  Kd.R_mono (Kd.R_far (Kd.R_bound h) (p := p) (fun k hk => by have := hk.2.1; omega) u) (fun _ _ => trivial)
theorem Rset3 {α : Type} {k : Kd α} {e : TypeId} {base : Nat} {v : Value} {l : List α} (h : k.R e w base (fun _ => True) v l) (hp : g < base) (x y z : Value) : k.R e (((w.setCell ⟨g, 0, none⟩ x).setCell ⟨g, 1, none⟩ y).setCell ⟨g, 2, none⟩ z) base (fun _ => True) v l :=
  Rset (Rset (Rset h (p := ⟨g, 0, none⟩) hp x) (p := ⟨g, 1, none⟩) hp y) (p := ⟨g, 2, none⟩) hp z
theorem Rset4 {α : Type} {k : Kd α} {e : TypeId} {base : Nat} {v : Value} {l : List α} (h : k.R e w base (fun _ => True) v l) (hp : g < base) (x y z u : Value) : k.R e ((((w.setCell ⟨g, 0, none⟩ x).setCell ⟨g, 1, none⟩ y).setCell ⟨g, 2, none⟩ z).setCell ⟨g, 3, none⟩ u) base (fun _ => True) v l :=
  Rset (Rset3 h hp x y z) (p := ⟨g, 3, none⟩) hp u
end
end Go.Proofs.YteloamnakikbbaaDoor.Cells

/- job: within, holder, may, hold, leased, Check, walked. -/
namespace Go.Proofs.YteloamnakikbbaaDoor.Job
set_option linter.unusedVariables false
set_option linter.unusedSimpArgs false
open Go.RowKit Go.Proofs.YteloamnakikbbaaDoorW.PrintWords Go.Proofs.YteloamnakikbbaaDoorW.PrintLast Go.Proofs.YteloamnakikbbaaDoor.Base Go.Proofs.YteloamnakikbbaaDoor.Cells Go.Proofs.YteloamnakikbbaaDoor.JobPure

theorem blk_new2 (w : World) (o o2 : Obj) (cs : Array Value) (t : TypeId) : (((w.alloc o).alloc o2).alloc (.cells cs t)).drew.heap[w.heap.size + 1 + 1]? = some (.cells cs t (0, 0)) := by
  have h := heap_alloc_new ((w.alloc o).alloc o2) (.cells cs t)
  have e : ((w.alloc o).alloc o2).heap.size = w.heap.size + 1 + 1 := by simp
  rw [e] at h
  exact h
def within (n lo hi : Int) : Bool := decide (lo ≤ n) && decide (n ≤ hi)
theorem within_any (n lo hi : Int) (w : World) :
    Calls Tryd.prog 22 #[.int .i64 n, .int .i64 lo, .int .i64 hi] w fun e w' => e = .returned (.bool (within n lo hi)) ∧ w = w' := by
  by_cases h : lo ≤ n
  · have hw : Aside0 (within n lo hi = decide (n ≤ hi)) := ⟨by simp [within, h]⟩
    go_enter Tryd.func22, Tryd.ntmps22
    go_wp2
    go_ret
    exact ⟨by rw [hw.out]; rfl, rfl⟩
  · have hw : Aside0 (within n lo hi = false) := ⟨by simp [within, h]⟩
    go_enter Tryd.func22, Tryd.ntmps22
    go_wp2
    go_ret
    exact ⟨by rw [hw.out]; rfl, rfl⟩

theorem within_iff {n lo hi : Int} : within n lo hi = true ↔ lo ≤ n ∧ n ≤ hi := by simp [within]
theorem hmay_eq (w t u : Int) : hmay w t u = (within w 1 2147483648 && (within t 1 1099511627776 && within u 0 32503680000)) := by
  rw [Bool.eq_iff_iff]; simp [hmay, within]; omega

set_option maxRecDepth 100000 in
theorem may_any (a b c : Int) (w : World) :
    Calls Tryd.prog 24 #[.agg #[.int .i64 a, .int .i64 b, .int .i64 c]] w fun e w' => e = .returned (.bool (hmay a b c)) ∧ Below w.heap.size w w' := by
  obtain ⟨r, hr⟩ := named (hmay a b c)
  have HR : Aside0 (r = (within a 1 2147483648 && (within b 1 1099511627776 && within c 0 32503680000))) := ⟨by rw [hr.out, hmay_eq]⟩
  rw [← hr.out]
  go_enter Tryd.func24, Tryd.ntmps24
  go_wp2_with (go_at_call 22; refine (within_any _ _ _ _).mono ?_; rintro e w' ⟨rfl, rfl⟩)
  all_goals go_ret
  all_goals refine ⟨?_, below_alloc (Below.refl _ _) _⟩
  all_goals rw [HR.out]
  all_goals simp [*]

set_option maxRecDepth 100000 in
theorem holder_any (j : Jb) (w : World) :
    Calls Tryd.prog 23 #[.agg #[.int .i64 j.id, .string j.name, .string j.rule, .string j.payload, .int .i64 j.status, .int .i64 j.due, .int .i64 j.tries, .int .i64 j.worker, .int .i64 j.token, .int .i64 j.til]] w fun e w' => e = .returned (.agg #[.int .i64 j.worker, .int .i64 j.token, .int .i64 j.til]) ∧ Below w.heap.size w w' := by
  go_enter Tryd.func23, Tryd.ntmps23
  go_wp2
  refine bodyPost_ret (results_cell_row rfl _ _ (w.heap.size + 1) 61 #[.int .i64 j.worker, .int .i64 j.token, .int .i64 j.til] (0, 0) _ rfl (blk_new1 _ _ _ _) Tryd.underlying61 rfl (by kernel_rfl)) rfl ?_
  exact ⟨rfl, below_alloc (below_alloc (Below.refl _ _) _) _⟩
set_option maxRecDepth 100000 in
theorem hold_any (j : Jb) (s d a b c : Int) (w : World) :
    Calls Tryd.prog 34 #[.agg #[.int .i64 j.id, .string j.name, .string j.rule, .string j.payload, .int .i64 j.status, .int .i64 j.due, .int .i64 j.tries, .int .i64 j.worker, .int .i64 j.token, .int .i64 j.til], .int .i64 s, .int .i64 d, .agg #[.int .i64 a, .int .i64 b, .int .i64 c]] w fun e w' => e = .returned (.agg #[.int .i64 j.id, .string j.name, .string j.rule, .string j.payload, .int .i64 s, .int .i64 d, .int .i64 j.tries, .int .i64 a, .int .i64 b, .int .i64 c]) ∧ Below w.heap.size w w' := by
  go_enter Tryd.func34, Tryd.ntmps34
  go_wp2
  go_region
  go_wp2
  refine bodyPost_ret (results_cell_row rfl _ _ (w.heap.size + 1 + 1) 35 #[.int .i64 j.id, .string j.name, .string j.rule, .string j.payload, .int .i64 s, .int .i64 d, .int .i64 j.tries, .int .i64 a, .int .i64 b, .int .i64 c] (0, 0) _ rfl (blk_new2 _ _ _ _ _) Tryd.underlying35 rfl (by kernel_rfl)) rfl ?_
  exact ⟨rfl, below_drew (below_alloc (below_alloc (below_alloc (Below.refl _ _) _) _) _)⟩
set_option maxRecDepth 100000 in
theorem leased_any (j : Jb) (now : Int) (w : World) :
    Calls Tryd.prog 31 #[.agg #[.int .i64 j.id, .string j.name, .string j.rule, .string j.payload, .int .i64 j.status, .int .i64 j.due, .int .i64 j.tries, .int .i64 j.worker, .int .i64 j.token, .int .i64 j.til], .int .i64 now] w fun e w' => e = .returned (.int .i64 (leasedE j now)) ∧ Below w.heap.size w w' := by
  obtain ⟨r, hr⟩ := named (leasedE j now)
  have HR : Aside0 (r = if j.status = 2 then (if within now 0 32503679999 = true then 0 else 4) else 81) := ⟨by rw [hr.out, leasedE]; simp only [within_iff]⟩
  rw [← hr.out]
  obtain ⟨q, hq⟩ := named (within now 0 32503679999)
  rw [← hq.out] at HR
  by_cases h2 : j.status = 2
  · cases q with
    | true =>
      have HR1 : Aside0 (r = 0) := ⟨by rw [HR.out, if_pos h2, if_pos rfl]⟩
      have HQ : Aside0 (within now 0 32503679999 = true) := ⟨hq.out.symm⟩
      obtain rfl := HR1.out
      go_enter Tryd.func31, Tryd.ntmps31
      go_wp2_with (go_at_call 22; refine (within_any _ _ _ _).mono ?_; rw [HQ.out]; rintro e w' ⟨rfl, rfl⟩)
      go_ret
      exact ⟨rfl, below_alloc (Below.refl _ _) _⟩
    | false =>
      have HR1 : Aside0 (r = 4) := ⟨by rw [HR.out, if_pos h2, if_neg (by decide)]⟩
      have HQ : Aside0 (within now 0 32503679999 = false) := ⟨hq.out.symm⟩
      obtain rfl := HR1.out
      go_enter Tryd.func31, Tryd.ntmps31
      go_wp2_with (go_at_call 22; refine (within_any _ _ _ _).mono ?_; rw [HQ.out]; rintro e w' ⟨rfl, rfl⟩)
      go_ret
      exact ⟨rfl, below_alloc (Below.refl _ _) _⟩
  · have HR1 : Aside0 (r = 81) := ⟨by rw [HR.out, if_neg h2]⟩
    obtain rfl := HR1.out
    have hn : (j.status != 2) = true := by simpa using h2
    go_enter Tryd.func31, Tryd.ntmps31
    go_wp2
    go_ret
    exact ⟨rfl, below_alloc (Below.refl _ _) _⟩
end Go.Proofs.YteloamnakikbbaaDoor.Job

/- Blocks of a variable of a struct of ten cells: what is read, what is stored. No program. -/
namespace Go.Proofs.YteloamnakikbbaaDoor.Cells
open Go.RowKit Go.Proofs.YteloamnakikbbaaDoorW.PrintWords Go.Proofs.YteloamnakikbbaaDoorW.PrintLast Go.Proofs.YteloamnakikbbaaDoor.Base

section
variable {w : World} {g : Nat} {t : TypeId}
theorem all10 {a b c d e f h i j k : Value} (hh : w.heap[g]? = some (.cells #[a, b, c, d, e, f, h, i, j, k] t (0, 0))) :
    w.cell? ⟨g, 0, none⟩ = some a ∧ w.cell? ⟨g, 1, none⟩ = some b ∧ w.cell? ⟨g, 2, none⟩ = some c ∧ w.cell? ⟨g, 3, none⟩ = some d ∧ w.cell? ⟨g, 4, none⟩ = some e ∧ w.cell? ⟨g, 5, none⟩ = some f ∧ w.cell? ⟨g, 6, none⟩ = some h ∧ w.cell? ⟨g, 7, none⟩ = some i ∧ w.cell? ⟨g, 8, none⟩ = some j ∧ w.cell? ⟨g, 9, none⟩ = some k :=
  ⟨blk_cell hh 0, blk_cell hh 1, blk_cell hh 2, blk_cell hh 3, blk_cell hh 4, blk_cell hh 5, blk_cell hh 6, blk_cell hh 7, blk_cell hh 8, blk_cell hh 9⟩
theorem frz10 {a b c d e f h i j k : Value} (hh : w.heap[g]? = some (.cells #[a, b, c, d, e, f, h, i, j, k] t (0, 0))) :
    w.frozen? ⟨g, 0, none⟩ = false ∧ w.frozen? ⟨g, 1, none⟩ = false ∧ w.frozen? ⟨g, 2, none⟩ = false ∧ w.frozen? ⟨g, 3, none⟩ = false ∧ w.frozen? ⟨g, 4, none⟩ = false ∧ w.frozen? ⟨g, 5, none⟩ = false ∧ w.frozen? ⟨g, 6, none⟩ = false ∧ w.frozen? ⟨g, 7, none⟩ = false ∧ w.frozen? ⟨g, 8, none⟩ = false ∧ w.frozen? ⟨g, 9, none⟩ = false :=
  ⟨blk_frozen hh 0, blk_frozen hh 1, blk_frozen hh 2, blk_frozen hh 3, blk_frozen hh 4, blk_frozen hh 5, blk_frozen hh 6, blk_frozen hh 7, blk_frozen hh 8, blk_frozen hh 9⟩
theorem blk10 {a b c d e f h i j k x0 x1 x2 x3 x4 x5 x6 x7 x8 x9 : Value} (hh : w.heap[g]? = some (.cells #[a, b, c, d, e, f, h, i, j, k] t (0, 0))) :
    ((((((((((w.setCell ⟨g, 0, none⟩ x0).setCell ⟨g, 1, none⟩ x1).setCell ⟨g, 2, none⟩ x2).setCell ⟨g, 3, none⟩ x3).setCell ⟨g, 4, none⟩ x4).setCell ⟨g, 5, none⟩ x5).setCell ⟨g, 6, none⟩ x6).setCell ⟨g, 7, none⟩ x7).setCell ⟨g, 8, none⟩ x8).setCell ⟨g, 9, none⟩ x9).heap[g]? = some (.cells #[x0, x1, x2, x3, x4, x5, x6, x7, x8, x9] t (0, 0)) :=
  blk_put (cs := #[x0, x1, x2, x3, x4, x5, x6, x7, x8, k]) (blk_put (cs := #[x0, x1, x2, x3, x4, x5, x6, x7, j, k]) (blk_put (cs := #[x0, x1, x2, x3, x4, x5, x6, i, j, k]) (blk_put (cs := #[x0, x1, x2, x3, x4, x5, h, i, j, k]) (blk_put (cs := #[x0, x1, x2, x3, x4, f, h, i, j, k]) (blk_put (cs := #[x0, x1, x2, x3, e, f, h, i, j, k]) (blk_put (cs := #[x0, x1, x2, d, e, f, h, i, j, k]) (blk_put (cs := #[x0, x1, c, d, e, f, h, i, j, k]) (blk_put (cs := #[x0, b, c, d, e, f, h, i, j, k]) (blk_put (cs := #[a, b, c, d, e, f, h, i, j, k]) hh 0 x0 rfl) 1 x1 rfl) 2 x2 rfl) 3 x3 rfl) 4 x4 rfl) 5 x5 rfl) 6 x6 rfl) 7 x7 rfl) 8 x8 rfl) 9 x9 rfl
theorem below_set10 {B : Nat} {w0 : World} (hb : Below B w0 w) (hg : B ≤ g) (x0 x1 x2 x3 x4 x5 x6 x7 x8 x9 : Value) : Below B w0 ((((((((((w.setCell ⟨g, 0, none⟩ x0).setCell ⟨g, 1, none⟩ x1).setCell ⟨g, 2, none⟩ x2).setCell ⟨g, 3, none⟩ x3).setCell ⟨g, 4, none⟩ x4).setCell ⟨g, 5, none⟩ x5).setCell ⟨g, 6, none⟩ x6).setCell ⟨g, 7, none⟩ x7).setCell ⟨g, 8, none⟩ x8).setCell ⟨g, 9, none⟩ x9) :=
  (((((((((hb.setCell (p := ⟨g, 0, none⟩) hg x0).setCell (p := ⟨g, 1, none⟩) hg x1).setCell (p := ⟨g, 2, none⟩) hg x2).setCell (p := ⟨g, 3, none⟩) hg x3).setCell (p := ⟨g, 4, none⟩) hg x4).setCell (p := ⟨g, 5, none⟩) hg x5).setCell (p := ⟨g, 6, none⟩) hg x6).setCell (p := ⟨g, 7, none⟩) hg x7).setCell (p := ⟨g, 8, none⟩) hg x8).setCell (p := ⟨g, 9, none⟩) hg x9
theorem far10 {k : Nat} {cs : Array Value} {t2 : TypeId} (hk : w.heap[k]? = some (.cells cs t2 (0, 0))) (hne : k ≠ g) (x0 x1 x2 x3 x4 x5 x6 x7 x8 x9 : Value) : ((((((((((w.setCell ⟨g, 0, none⟩ x0).setCell ⟨g, 1, none⟩ x1).setCell ⟨g, 2, none⟩ x2).setCell ⟨g, 3, none⟩ x3).setCell ⟨g, 4, none⟩ x4).setCell ⟨g, 5, none⟩ x5).setCell ⟨g, 6, none⟩ x6).setCell ⟨g, 7, none⟩ x7).setCell ⟨g, 8, none⟩ x8).setCell ⟨g, 9, none⟩ x9).heap[k]? = some (.cells cs t2 (0, 0)) := by
  rw [Below.heap_setCell _ ⟨g, 9, none⟩ _ _ hne, Below.heap_setCell _ ⟨g, 8, none⟩ _ _ hne, Below.heap_setCell _ ⟨g, 7, none⟩ _ _ hne, Below.heap_setCell _ ⟨g, 6, none⟩ _ _ hne, Below.heap_setCell _ ⟨g, 5, none⟩ _ _ hne, Below.heap_setCell _ ⟨g, 4, none⟩ _ _ hne, Below.heap_setCell _ ⟨g, 3, none⟩ _ _ hne, Below.heap_setCell _ ⟨g, 2, none⟩ _ _ hne, Below.heap_setCell _ ⟨g, 1, none⟩ _ _ hne, Below.heap_setCell _ ⟨g, 0, none⟩ _ _ hne]
  exact hk
end
end Go.Proofs.YteloamnakikbbaaDoor.Cells

/- job.Check, walked. -/
namespace Go.Proofs.YteloamnakikbbaaDoor.Job
set_option linter.unusedVariables false
set_option linter.unusedSimpArgs false
open Go.RowKit Go.Proofs.YteloamnakikbbaaDoorW.PrintWords Go.Proofs.YteloamnakikbbaaDoorW.PrintLast Go.Proofs.YteloamnakikbbaaDoor.Base Go.Proofs.YteloamnakikbbaaDoor.Cells Go.Proofs.YteloamnakikbbaaDoor.JobPure

/-- what reading a rule's text tells: its error, and a rule -/
def ParseSays (r : ByteArray) (pe : Int) : Prop := r ≠ ⟨#[]⟩ → ∀ w, Calls Tryd.prog 25 #[.string r] w fun e w' => ∃ (a b c d f : Int) (x y : Bool), e = .returned (.tuple #[.agg #[.int .u64 a, .int .u64 b, .int .u64 c, .int .u64 d, .int .u64 f, .bool x, .bool y], .int .i64 pe]) ∧ Below w.heap.size w w'

theorem tl0 {r : ByteArray} (h : r ≠ ⟨#[]⟩) : ¬ r.toList = [] ∧ r.toList.isEmpty = false := by
  have h1 : ¬ r.toList = [] := fun e => h (by
    rw [ByteArray.toList_eq] at e
    cases r with
    | mk d =>
      have : d = #[] := by simpa using e
      rw [this])
  exact ⟨h1, by simpa using h1⟩
theorem size0 {r : ByteArray} : r.size = 0 ↔ r = ⟨#[]⟩ := ByteArray.size_eq_zero_iff
set_option maxRecDepth 100000 in
set_option maxHeartbeats 1000000 in
theorem check_any (pe : Int) (j : Jb) (w : World) (hp : ParseSays j.rule pe) :
    Calls Tryd.prog 11 #[.agg #[.int .i64 j.id, .string j.name, .string j.rule, .string j.payload, .int .i64 j.status, .int .i64 j.due, .int .i64 j.tries, .int .i64 j.worker, .int .i64 j.token, .int .i64 j.til]] w fun e w' => e = .returned (.int .i64 (chkE pe j)) ∧ Below w.heap.size w w' := by
  obtain ⟨id, name, rule, payload, status, due, tries, worker, token, til⟩ := j
  dsimp only at hp ⊢
  obtain ⟨r, hr⟩ := named (chkE pe ⟨id, name, rule, payload, status, due, tries, worker, token, til⟩)
  obtain ⟨A, hA⟩ := named (chkA ⟨id, name, rule, payload, status, due, tries, worker, token, til⟩)
  obtain ⟨B, hB⟩ := named (chkB ⟨id, name, rule, payload, status, due, tries, worker, token, til⟩)
  have HA : Aside0 (A = (within id 1 1099511627776 && (decide ((name.size : Int) ≤ 32) && (decide ((payload.size : Int) ≤ 200) && (within due 0 32503680000 && within tries 0 16))))) := ⟨by
    rw [hA.out, chkA, Bool.eq_iff_iff]; simp [within]; omega⟩
  have HP := Aside0.mk hp
  have HR : Aside0 (r = if (A && B && chkC pe ⟨id, name, rule, payload, status, due, tries, worker, token, til⟩) = true then 0 else 9) := ⟨by rw [hr.out, chkE, chk, hA.out, hB.out]⟩
  rw [← hr.out]
  clear hp
  go_enter Tryd.func11, Tryd.ntmps11
  go_upto_region 1 with (fail)
  obtain ⟨W, hW⟩ : ∃ W, W = w.alloc (.cells #[.int .i64 id, .string name, .string rule, .string payload, .int .i64 status, .int .i64 due, .int .i64 tries, .int .i64 worker, .int .i64 token, .int .i64 til] 35) := ⟨_, rfl⟩
  rw [← hW]
  have HJ : Aside0 (W.heap[w.heap.size]? = some (.cells #[.int .i64 id, .string name, .string rule, .string payload, .int .i64 status, .int .i64 due, .int .i64 tries, .int .i64 worker, .int .i64 token, .int .i64 til] 35 (0, 0))) := ⟨by rw [hW]; exact blk_new _ _⟩
  have HW : Aside0 (Below w.heap.size w W) := ⟨by rw [hW]; exact below_alloc (Below.refl _ _) _⟩
  clear hW
  obtain ⟨c0, c1, c2, c3, c4, c5, c6, c7, c8, c9⟩ := all10 HJ.out
  go_cut [3] (fun v3 wc => v3 = .bool A ∧ wc = W)
  case first =>
    go_wp2_with (go_at_call 22; refine (within_any _ _ _ _).mono ?_; rintro e w' ⟨rfl, rfl⟩)
    all_goals go_meet
    all_goals refine ⟨?_, rfl⟩
    all_goals rw [HA.out]
    all_goals first | (simp [*]; done) | (simp; intros; omega)
  case rest =>
    obtain ⟨rfl, rfl⟩ := hcut
    go_upto_block 0 with (fail)
    go_cut [3] (fun v3 wx => v3 = .bool (A && B) ∧ Aside0 (wx.heap[w.heap.size]? = some (.cells #[.int .i64 id, .string name, .string rule, .string payload, .int .i64 status, .int .i64 due, .int .i64 tries, .int .i64 worker, .int .i64 token, .int .i64 til] 35 (0, 0)) ∧ Below w.heap.size w wx))
    case first =>
      obtain ⟨q, hq⟩ := named (hmay worker token til)
      have HWc : Aside0 (Below wc.heap.size wc wc) := ⟨Below.refl _ _⟩
      by_cases s2 : status = 2
      · have HB : Aside0 (B = (q && decide (due = 0))) := ⟨by rw [hB.out, chkB, if_pos s2, hq.out]⟩
        have e2 : (status == 2) = true := by simpa using s2
        clear s2
        cases A with
        | true =>
          cases q with
          | true =>
            go_wp2_with (first
              | (go_at_call 23; refine (holder_any ⟨id, name, rule, payload, status, due, tries, worker, token, til⟩ _).mono ?_; rintro e w1 ⟨rfl, hb1⟩; (have HB1 := Aside0.mk hb1); clear hb1 c0 c1 c2 c3 c4 c5 c6 c7 c8 c9)
              | (go_at_call 24; refine (may_any _ _ _ _).mono ?_; rw [← hq.out]; rintro e w2 ⟨rfl, hb2⟩; (have HB2 := Aside0.mk (bthen HB1.out hb2)); obtain ⟨_, _, _, _, _, d5, _, _, _, _⟩ := all10 (blk_keep HJ.out HB2.out); clear hb2))
            all_goals go_meet
            all_goals refine ⟨?_, blk_keep HJ.out HB2.out, bthen HW.out HB2.out⟩
            all_goals rw [HB.out]
            all_goals rfl
          | false =>
            go_wp2_with (first
              | (go_at_call 23; refine (holder_any ⟨id, name, rule, payload, status, due, tries, worker, token, til⟩ _).mono ?_; rintro e w1 ⟨rfl, hb1⟩; (have HB1 := Aside0.mk hb1); clear hb1 c0 c1 c2 c3 c4 c5 c6 c7 c8 c9)
              | (go_at_call 24; refine (may_any _ _ _ _).mono ?_; rw [← hq.out]; rintro e w2 ⟨rfl, hb2⟩; (have HB2 := Aside0.mk (bthen HB1.out hb2)); obtain ⟨_, _, _, _, _, d5, _, _, _, _⟩ := all10 (blk_keep HJ.out HB2.out); clear hb2))
            all_goals go_meet
            all_goals refine ⟨?_, blk_keep HJ.out HB2.out, bthen HW.out HB2.out⟩
            all_goals rw [HB.out]
            all_goals rfl
        | false =>
          go_wp2
          go_meet
          exact ⟨rfl, HJ.out, HW.out⟩
      · have e2 : (status == 2) = false := by simpa using s2
        have n2 := Aside0.mk s2
        clear s2
        by_cases s3 : status = 3
        · have HB : Aside0 (B = (decide (rule = ⟨#[]⟩) && hnone worker token til)) := ⟨by rw [hB.out, chkB, if_neg n2.out, if_pos s3]; congr 1; rw [decide_eq_decide]; exact size0⟩
          have e3 : (status == 3) = true := by simpa using s3
          clear s3
          cases A with
          | true =>
            by_cases r0 : rule = ⟨#[]⟩
            · subst r0
              by_cases w0 : worker = 0
              · subst w0
                by_cases t0 : token = 0
                · subst t0
                  by_cases u0 : til = 0
                  · subst u0
                    go_wp2_with (go_at_call 23; refine (holder_any ⟨id, name, ⟨#[]⟩, payload, status, due, tries, 0, 0, 0⟩ _).mono ?_; rintro e w1 ⟨rfl, hb1⟩; (have HB1 := Aside0.mk hb1); clear hb1 c0 c1 c2 c3 c4 c5 c6 c7 c8 c9)
                    all_goals go_meet
                    all_goals refine ⟨?_, blk_keep HJ.out HB1.out, bthen HW.out HB1.out⟩
                    all_goals rw [HB.out]
                    all_goals rfl
                  · go_wp2_with (go_at_call 23; refine (holder_any ⟨id, name, ⟨#[]⟩, payload, status, due, tries, 0, 0, til⟩ _).mono ?_; rintro e w1 ⟨rfl, hb1⟩; (have HB1 := Aside0.mk hb1); clear hb1 c0 c1 c2 c3 c4 c5 c6 c7 c8 c9)
                    all_goals go_meet
                    all_goals refine ⟨?_, blk_keep HJ.out HB1.out, bthen HW.out HB1.out⟩
                    all_goals rw [HB.out]
                    all_goals simp [hnone, u0]
                · go_wp2_with (go_at_call 23; refine (holder_any ⟨id, name, ⟨#[]⟩, payload, status, due, tries, 0, token, til⟩ _).mono ?_; rintro e w1 ⟨rfl, hb1⟩; (have HB1 := Aside0.mk hb1); clear hb1 c0 c1 c2 c3 c4 c5 c6 c7 c8 c9)
                  all_goals go_meet
                  all_goals refine ⟨?_, blk_keep HJ.out HB1.out, bthen HW.out HB1.out⟩
                  all_goals rw [HB.out]
                  all_goals simp [hnone, t0]
              · go_wp2_with (go_at_call 23; refine (holder_any ⟨id, name, ⟨#[]⟩, payload, status, due, tries, worker, token, til⟩ _).mono ?_; rintro e w1 ⟨rfl, hb1⟩; (have HB1 := Aside0.mk hb1); clear hb1 c0 c1 c2 c3 c4 c5 c6 c7 c8 c9)
                all_goals go_meet
                all_goals refine ⟨?_, blk_keep HJ.out HB1.out, bthen HW.out HB1.out⟩
                all_goals rw [HB.out]
                all_goals simp [hnone, w0]
            · obtain ⟨r1, r2⟩ := tl0 r0
              go_wp2
              all_goals go_meet
              all_goals exact ⟨by rw [HB.out]; simp [r0], HJ.out, HW.out⟩
          | false =>
            go_wp2
            go_meet
            exact ⟨rfl, HJ.out, HW.out⟩
        · have e3 : (status == 3) = false := by simpa using s3
          have n3 := Aside0.mk s3
          clear s3
          by_cases s1 : status = 1
          · have HB : Aside0 (B = hnone worker token til) := ⟨by rw [hB.out, chkB, if_neg n2.out, if_neg n3.out, if_pos s1]⟩
            have e1 : (status == 1) = true := by simpa using s1
            clear s1
            cases A with
            | true =>
              by_cases w0 : worker = 0
              · subst w0
                by_cases t0 : token = 0
                · subst t0
                  by_cases u0 : til = 0
                  · subst u0
                    go_wp2_with (go_at_call 23; refine (holder_any ⟨id, name, rule, payload, status, due, tries, 0, 0, 0⟩ _).mono ?_; rintro e w1 ⟨rfl, hb1⟩; (have HB1 := Aside0.mk hb1); clear hb1 c0 c1 c2 c3 c4 c5 c6 c7 c8 c9)
                    all_goals go_meet
                    all_goals refine ⟨?_, blk_keep HJ.out HB1.out, bthen HW.out HB1.out⟩
                    all_goals rw [HB.out]
                    all_goals rfl
                  · go_wp2_with (go_at_call 23; refine (holder_any ⟨id, name, rule, payload, status, due, tries, 0, 0, til⟩ _).mono ?_; rintro e w1 ⟨rfl, hb1⟩; (have HB1 := Aside0.mk hb1); clear hb1 c0 c1 c2 c3 c4 c5 c6 c7 c8 c9)
                    all_goals go_meet
                    all_goals refine ⟨?_, blk_keep HJ.out HB1.out, bthen HW.out HB1.out⟩
                    all_goals rw [HB.out]
                    all_goals simp [hnone, u0]
                · go_wp2_with (go_at_call 23; refine (holder_any ⟨id, name, rule, payload, status, due, tries, 0, token, til⟩ _).mono ?_; rintro e w1 ⟨rfl, hb1⟩; (have HB1 := Aside0.mk hb1); clear hb1 c0 c1 c2 c3 c4 c5 c6 c7 c8 c9)
                  all_goals go_meet
                  all_goals refine ⟨?_, blk_keep HJ.out HB1.out, bthen HW.out HB1.out⟩
                  all_goals rw [HB.out]
                  all_goals simp [hnone, t0]
              · go_wp2_with (go_at_call 23; refine (holder_any ⟨id, name, rule, payload, status, due, tries, worker, token, til⟩ _).mono ?_; rintro e w1 ⟨rfl, hb1⟩; (have HB1 := Aside0.mk hb1); clear hb1 c0 c1 c2 c3 c4 c5 c6 c7 c8 c9)
                all_goals go_meet
                all_goals refine ⟨?_, blk_keep HJ.out HB1.out, bthen HW.out HB1.out⟩
                all_goals rw [HB.out]
                all_goals simp [hnone, w0]
            | false =>
              go_wp2
              go_meet
              exact ⟨rfl, HJ.out, HW.out⟩
          · have HB : Aside0 (B = false) := ⟨by rw [hB.out, chkB, if_neg n2.out, if_neg n3.out, if_neg s1]⟩
            have e1 : (status == 1) = false := by simpa using s1
            clear s1
            obtain rfl := HB.out
            go_wp2
            go_meet
            exact ⟨by rw [Bool.and_false], HJ.out, HW.out⟩
    case rest =>
      obtain ⟨rfl, HK⟩ := hcut
      obtain ⟨A', hA'⟩ := named (A && B)
      rw [← hA'.out] at HR ⊢
      have HK1 := Aside0.mk HK.out.1
      have HK2 := Aside0.mk HK.out.2
      clear HK c0 c1 c2 c3 c4 c5 c6 c7 c8 c9 HJ HW HA
      obtain ⟨c0, c1, c2, c3, c4, c5, c6, c7, c8, c9⟩ := all10 HK1.out
      by_cases r0 : rule = ⟨#[]⟩
      · have HC : Aside0 (r = if A' = true then 0 else 9) := ⟨by
          rw [HR.out]
          have : chkC pe ⟨id, name, rule, payload, status, due, tries, worker, token, til⟩ = true := by rw [chkC]; simp only [decide_eq_true (size0.2 r0), Bool.true_or]
          rw [this, Bool.and_true]⟩
        subst r0
        cases A' with
        | true =>
          have HC1 : Aside0 (r = 0) := ⟨by rw [HC.out]; rfl⟩
          obtain rfl := HC1.out
          go_wp2
          go_ret
          exact ⟨rfl, HK2.out⟩
        | false =>
          have HC1 : Aside0 (r = 9) := ⟨by rw [HC.out]; rfl⟩
          obtain rfl := HC1.out
          go_wp2
          go_ret
          exact ⟨rfl, HK2.out⟩
      · obtain ⟨r1, r2⟩ := tl0 r0
        cases A' with
        | true =>
          have HC : Aside0 (r = if (pe == 0 && decide (rule.size ≤ 200)) = true then 0 else 9) := ⟨by
            rw [HR.out, Bool.true_and, chkC]
            have : decide (rule.size = 0) = false := decide_eq_false (fun h => r0 (size0.1 h))
            rw [this, Bool.false_or]⟩
          have HPr := Aside0.mk (HP.out r0)
          by_cases p0 : pe = 0
          · subst p0
            by_cases l0 : rule.size ≤ 200
            · have HC1 : Aside0 (r = 0) := ⟨by rw [HC.out]; simp [l0]⟩
              obtain rfl := HC1.out
              have hl : decide ((rule.size : Int) ≤ 200) = true := decide_eq_true (by omega)
              go_wp2_with (go_at_call 25; refine (HPr.out _).mono ?_; rintro e w1 ⟨p1, p2, p3, p4, p5, p6, p7, rfl, hb1⟩; (have HB1 := Aside0.mk hb1); obtain ⟨_, _, d2, _, _, _, _, _, _, _⟩ := all10 (blk_keep HK1.out hb1); (have hlt := blk_lt (blk_keep HK1.out hb1)); clear hb1 c0 c1 c2 c3 c4 c5 c6 c7 c8 c9)
              go_ret
              exact ⟨rfl, below_alloc (bthen HK2.out HB1.out) _⟩
            · have HC1 : Aside0 (r = 9) := ⟨by rw [HC.out]; simp [l0]⟩
              obtain rfl := HC1.out
              have hl : decide ((rule.size : Int) ≤ 200) = false := decide_eq_false (by omega)
              go_wp2_with (go_at_call 25; refine (HPr.out _).mono ?_; rintro e w1 ⟨p1, p2, p3, p4, p5, p6, p7, rfl, hb1⟩; (have HB1 := Aside0.mk hb1); obtain ⟨_, _, d2, _, _, _, _, _, _, _⟩ := all10 (blk_keep HK1.out hb1); (have hlt := blk_lt (blk_keep HK1.out hb1)); clear hb1 c0 c1 c2 c3 c4 c5 c6 c7 c8 c9)
              go_ret
              exact ⟨rfl, below_alloc (bthen HK2.out HB1.out) _⟩
          · have HC1 : Aside0 (r = 9) := ⟨by rw [HC.out]; simp [p0]⟩
            obtain rfl := HC1.out
            go_wp2_with (go_at_call 25; refine (HPr.out _).mono ?_; rintro e w1 ⟨p1, p2, p3, p4, p5, p6, p7, rfl, hb1⟩; (have HB1 := Aside0.mk hb1); obtain ⟨_, _, d2, _, _, _, _, _, _, _⟩ := all10 (blk_keep HK1.out hb1); (have hlt := blk_lt (blk_keep HK1.out hb1)); clear hb1 c0 c1 c2 c3 c4 c5 c6 c7 c8 c9)
            go_ret
            exact ⟨rfl, below_alloc (bthen HK2.out HB1.out) _⟩
        | false =>
          have HC1 : Aside0 (r = 9) := ⟨by rw [HR.out, Bool.false_and]; decide⟩
          obtain rfl := HC1.out
          go_wp2
          go_ret
          exact ⟨rfl, HK2.out⟩
end Go.Proofs.YteloamnakikbbaaDoor.Job

/- backoff.Due, job.Lease, again: walked. -/
namespace Go.Proofs.YteloamnakikbbaaDoor.Job
set_option linter.unusedVariables false
set_option linter.unusedSimpArgs false
open Go.RowKit Go.Proofs.YteloamnakikbbaaDoorW.PrintWords Go.Proofs.YteloamnakikbbaaDoorW.PrintLast Go.Proofs.YteloamnakikbbaaDoor.Base Go.Proofs.YteloamnakikbbaaDoor.Cells Go.Proofs.YteloamnakikbbaaDoor.JobPure

theorem results_ct {P : Program} {fn : Func} {p t2 : Tmp} {ty : TypeId} (h : fn.results = #[.cell p ty, .tmp t2]) (tmps : Array Value) (w : World) (g : Nat) (t : TypeId) (cs : Array Value) (fr : Nat × Nat) (d : TypeDesc)
    (hp : tmps.getD p undef = .pointer (some ⟨g, 0, none⟩)) (hg : w.heap[g]? = some (.cells cs t fr))
    (hu : P.underlying ty = some d) (hd : (match d with | .struct _ | .array _ _ => true | _ => false) = true) (hi : (P.info? ty).map (·.size) = some cs.size) :
    (results fn tmps).run P w = .ok (.tuple #[.agg cs, tmps.getD t2 undef]) w := by
  have hp' : tmps[p]?.getD undef = .pointer (some ⟨g, 0, none⟩) := by simpa using hp
  simp [results, h, hp', asAddr, run_loadVar_row w g t ty cs fr d hg hu hd hi]

def dueE (b c now : Int) (k : Nat) : Int := if now + delayP b c k < 32503680000 then 0 else 4
def dueV (b c now : Int) (k : Nat) : Int := if now + delayP b c k < 32503680000 then now + delayP b c k else 0
set_option maxRecDepth 100000 in
theorem due_any (b c t now : Int) (k : Nat) (w : World) (hl : limOk b c t = true) (hk : k ≤ 64) (n0 : 0 ≤ now) (n1 : now < 32503680000) :
    Calls Tryd.prog 33 #[.agg #[.int .i64 b, .int .i64 c, .int .i64 t], .int .i64 now, .int .i64 k] w fun e w' => e = .returned (.tuple #[.int .i64 (dueV b c now k), .int .i64 (dueE b c now k)]) ∧ Below w.heap.size w w' := by
  obtain ⟨b1, b2, bc, c2, t1, t2⟩ := limOk_iff.1 hl
  have hL := Aside0.mk hl
  clear hl
  obtain ⟨d, hd⟩ := named (delayP b c k)
  have hdb : 1 ≤ d ∧ d ≤ c := by rw [hd.out]; exact delay_bd k b1 (by omega)
  obtain ⟨d1, d2⟩ := hdb
  rw [dueV, dueE, ← hd.out]
  by_cases hx : now + d < 32503680000
  · rw [if_pos hx, if_pos hx]
    go_enter Tryd.func33, Tryd.ntmps33
    go_wp2_with (go_at_call 47; refine (delay_any _ _ _ _ _ hL.out hk).mono ?_; rw [← hd.out]; rintro e w1 ⟨rfl, hb1⟩; (have HB1 := Aside0.mk hb1); clear hb1)
    go_ret2
    exact ⟨rfl, bthen (below_alloc (Below.refl _ _) _) HB1.out⟩
  · rw [if_neg hx, if_neg hx]
    go_enter Tryd.func33, Tryd.ntmps33
    go_wp2_with (go_at_call 47; refine (delay_any _ _ _ _ _ hL.out hk).mono ?_; rw [← hd.out]; rintro e w1 ⟨rfl, hb1⟩; (have HB1 := Aside0.mk hb1); clear hb1)
    go_ret2
    exact ⟨rfl, bthen (below_alloc (Below.refl _ _) _) HB1.out⟩

/-- what a rule's text means: pe what reading it tells, nx when it comes next -/
def CronSays (r : ByteArray) (pe : Int) (nx : Int → Int × Bool) : Prop := r ≠ ⟨#[]⟩ → ∃ (a b c d f : Int) (x y : Bool),
  (∀ w, Calls Tryd.prog 25 #[.string r] w fun e w' => e = .returned (.tuple #[.agg #[.int .u64 a, .int .u64 b, .int .u64 c, .int .u64 d, .int .u64 f, .bool x, .bool y], .int .i64 pe]) ∧ Below w.heap.size w w') ∧
  (pe = 0 → ∀ (now : Int) w, 0 ≤ now → now < 32503680000 → Calls Tryd.prog 46 #[.agg #[.int .u64 a, .int .u64 b, .int .u64 c, .int .u64 d, .int .u64 f, .bool x, .bool y], .int .i64 now] w fun e w' => ∃ ne, e = .returned (.tuple #[.int .i64 (nx now).1, .bool (nx now).2, .int .i64 ne]) ∧ Below w.heap.size w w')
theorem CronSays.parse {r : ByteArray} {pe : Int} {nx : Int → Int × Bool} (h : CronSays r pe nx) : ParseSays r pe := fun hr w => by
  obtain ⟨a, b, c, d, f, x, y, h1, _⟩ := h hr
  exact (h1 w).mono fun e w' ⟨he, hb⟩ => ⟨a, b, c, d, f, x, y, he, hb⟩
theorem CronSays.none (pe : Int) (nx : Int → Int × Bool) : CronSays ⟨#[]⟩ pe nx := fun h => absurd rfl h

set_option maxRecDepth 100000 in
set_option maxHeartbeats 1000000 in
theorem lease_any (pe : Int) (j : Jb) (a b c : Int) (w : World) (hp : ParseSays j.rule pe) :
    Calls Tryd.prog 16 #[.agg #[.int .i64 j.id, .string j.name, .string j.rule, .string j.payload, .int .i64 j.status, .int .i64 j.due, .int .i64 j.tries, .int .i64 j.worker, .int .i64 j.token, .int .i64 j.til], .int .i64 a, .int .i64 b, .int .i64 c] w fun e w' => e = .returned (.tuple #[.agg (jc (leaseJ pe j a b c)), .int .i64 (leaseE pe j a b c)]) ∧ Below w.heap.size w w' := by
  have HP := Aside0.mk hp
  obtain ⟨LJ, hLJ⟩ := named (jc (leaseJ pe j a b c))
  obtain ⟨LE, hLE⟩ := named (leaseE pe j a b c)
  rw [← hLJ.out, ← hLE.out]
  obtain ⟨q, hq⟩ := named (hmay a b c)
  cases hk : chk pe j with
  | false =>
    have HE : Aside0 (chkE pe j = 9 ∧ LE = 9 ∧ LJ = jc JobPure.j0) := ⟨by
      have h1 : leaseE pe j a b c = 9 := by rw [leaseE, hk]; rfl
      exact ⟨by rw [chkE, hk]; rfl, by rw [hLE.out, h1], by rw [hLJ.out, leaseJ, h1]; rfl⟩⟩
    clear hp hk
    obtain ⟨hce, rfl, rfl⟩ := HE.out
    have HCE := Aside0.mk hce
    clear hce
    go_enter Tryd.func16, Tryd.ntmps16
    go_wp2_with (go_at_call 11; refine (check_any pe j _ HP.out).mono ?_; rw [HCE.out]; rintro e w1 ⟨rfl, hb1⟩; (have HB1 := Aside0.mk (bthen (below_alloc (below_alloc (Below.refl _ w) _) _) hb1)); (have HBK := Aside0.mk (blk_keep (blk_new1 _ _ _ _) hb1)); (have HBJ := Aside0.mk (blk_keep (blk_alloc (blk_new _ _) _) hb1)); (have hlt := blk_lt HBK.out); (have hlt0 := blk_lt HBJ.out); obtain ⟨k0, k1, k2, k3, k4, k5, k6, k7, k8, k9⟩ := all10 HBK.out; obtain ⟨f0, f1, f2, f3, f4, f5, f6, f7, f8, f9⟩ := frz10 HBK.out; obtain ⟨j0, j1, j2, j3, j4, j5, j6, j7, j8, j9⟩ := all10 HBJ.out; clear hb1)
    refine bodyPost_ret (results_ct rfl _ _ (w.heap.size + 1) 35 #[.int .i64 0, .string ⟨#[]⟩, .string ⟨#[]⟩, .string ⟨#[]⟩, .int .i64 0, .int .i64 0, .int .i64 0, .int .i64 0, .int .i64 0, .int .i64 0] (0, 0) _ rfl (blk10 HBK.out) Tryd.underlying35 rfl (by kernel_rfl)) rfl ?_
    exact ⟨rfl, below_set10 HB1.out (Nat.le_succ _) _ _ _ _ _ _ _ _ _ _⟩
  | true =>
    have HCE : Aside0 (chkE pe j = 0) := ⟨by rw [chkE, hk]; rfl⟩
    by_cases hs : j.status = 1
    · have e1 : (j.status != 1) = false := by simpa using hs
      cases q with
      | true =>
        have HQ : Aside0 (hmay a b c = true) := ⟨hq.out.symm⟩
        have HE : Aside0 (LE = 0 ∧ LJ = jc (holdJ j 2 0 a b c)) := ⟨by
          have h1 : leaseE pe j a b c = 0 := by rw [leaseE, hk, hs, HQ.out]; rfl
          exact ⟨by rw [hLE.out, h1], by rw [hLJ.out, leaseJ, h1]; rfl⟩⟩
        clear hp hk hs
        obtain ⟨rfl, rfl⟩ := HE.out
        go_enter Tryd.func16, Tryd.ntmps16
        go_wp2_with (first
          | (go_at_call 11; refine (check_any pe j _ HP.out).mono ?_; rw [HCE.out]; rintro e w1 ⟨rfl, hb1⟩; (have HB1 := Aside0.mk (bthen (below_alloc (below_alloc (Below.refl _ w) _) _) hb1)); (have HBK := Aside0.mk (blk_keep (blk_new1 _ _ _ _) hb1)); (have HBJ := Aside0.mk (blk_keep (blk_alloc (blk_new _ _) _) hb1)); (have hlt := blk_lt HBK.out); (have hlt0 := blk_lt HBJ.out); obtain ⟨k0, k1, k2, k3, k4, k5, k6, k7, k8, k9⟩ := all10 HBK.out; obtain ⟨f0, f1, f2, f3, f4, f5, f6, f7, f8, f9⟩ := frz10 HBK.out; obtain ⟨j0, j1, j2, j3, j4, j5, j6, j7, j8, j9⟩ := all10 HBJ.out; clear hb1)
          | (go_at_call 24; refine (may_any _ _ _ _).mono ?_; rw [HQ.out]; rintro e w2 ⟨rfl, hb2⟩; (have HB2 := Aside0.mk (bthen (below_alloc HB1.out _) hb2)); (have HBK2 := Aside0.mk (blk_keep (blk_alloc HBK.out _) hb2)); (have HBJ2 := Aside0.mk (blk_keep (blk_alloc HBJ.out _) hb2)); (have HBH2 := Aside0.mk (blk_keep (blk_new _ _) hb2)); (have hlt2 := blk_lt HBK2.out); (have hlt3 := blk_lt HBJ2.out); (have hlt4 := blk_lt HBH2.out); clear k0 k1 k2 k3 k4 k5 k6 k7 k8 k9 f0 f1 f2 f3 f4 f5 f6 f7 f8 f9 j0 j1 j2 j3 j4 j5 j6 j7 j8 j9; obtain ⟨k0, k1, k2, k3, k4, k5, k6, k7, k8, k9⟩ := all10 HBK2.out; obtain ⟨f0, f1, f2, f3, f4, f5, f6, f7, f8, f9⟩ := frz10 HBK2.out; obtain ⟨j0, j1, j2, j3, j4, j5, j6, j7, j8, j9⟩ := all10 HBJ2.out; obtain ⟨h0, h1, h2, _, _, _⟩ := all3 HBH2.out; clear hb2)
          | (go_at_call 34; refine (hold_any j 2 0 a b c _).mono ?_; rintro e w3 ⟨rfl, hb3⟩; (have HB3 := Aside0.mk (bthen HB2.out hb3)); (have HBK3 := Aside0.mk (blk_keep HBK2.out hb3)); clear k0 k1 k2 k3 k4 k5 k6 k7 k8 k9 f0 f1 f2 f3 f4 f5 f6 f7 f8 f9 j0 j1 j2 j3 j4 j5 j6 j7 j8 j9 h0 h1 h2; obtain ⟨k0, k1, k2, k3, k4, k5, k6, k7, k8, k9⟩ := all10 HBK3.out; obtain ⟨f0, f1, f2, f3, f4, f5, f6, f7, f8, f9⟩ := frz10 HBK3.out; clear hb3))
        refine bodyPost_ret (results_ct rfl _ _ (w.heap.size + 1) 35 #[.int .i64 j.id, .string j.name, .string j.rule, .string j.payload, .int .i64 2, .int .i64 0, .int .i64 j.tries, .int .i64 a, .int .i64 b, .int .i64 c] (0, 0) _ rfl (blk10 HBK3.out) Tryd.underlying35 rfl (by kernel_rfl)) rfl ?_
        exact ⟨rfl, below_set10 HB3.out (Nat.le_succ _) _ _ _ _ _ _ _ _ _ _⟩
      | false =>
        have HQ : Aside0 (hmay a b c = false) := ⟨hq.out.symm⟩
        have HE : Aside0 (LE = 4 ∧ LJ = jc JobPure.j0) := ⟨by
          have h1 : leaseE pe j a b c = 4 := by rw [leaseE, hk, hs, HQ.out]; rfl
          exact ⟨by rw [hLE.out, h1], by rw [hLJ.out, leaseJ, h1]; rfl⟩⟩
        clear hp hk hs
        obtain ⟨rfl, rfl⟩ := HE.out
        go_enter Tryd.func16, Tryd.ntmps16
        go_wp2_with (first
          | (go_at_call 11; refine (check_any pe j _ HP.out).mono ?_; rw [HCE.out]; rintro e w1 ⟨rfl, hb1⟩; (have HB1 := Aside0.mk (bthen (below_alloc (below_alloc (Below.refl _ w) _) _) hb1)); (have HBK := Aside0.mk (blk_keep (blk_new1 _ _ _ _) hb1)); (have HBJ := Aside0.mk (blk_keep (blk_alloc (blk_new _ _) _) hb1)); (have hlt := blk_lt HBK.out); (have hlt0 := blk_lt HBJ.out); obtain ⟨k0, k1, k2, k3, k4, k5, k6, k7, k8, k9⟩ := all10 HBK.out; obtain ⟨f0, f1, f2, f3, f4, f5, f6, f7, f8, f9⟩ := frz10 HBK.out; obtain ⟨j0, j1, j2, j3, j4, j5, j6, j7, j8, j9⟩ := all10 HBJ.out; clear hb1)
          | (go_at_call 24; refine (may_any _ _ _ _).mono ?_; rw [HQ.out]; rintro e w2 ⟨rfl, hb2⟩; (have HB2 := Aside0.mk (bthen (below_alloc HB1.out _) hb2)); (have HBK2 := Aside0.mk (blk_keep (blk_alloc HBK.out _) hb2)); (have HBJ2 := Aside0.mk (blk_keep (blk_alloc HBJ.out _) hb2)); (have HBH2 := Aside0.mk (blk_keep (blk_new _ _) hb2)); (have hlt2 := blk_lt HBK2.out); (have hlt3 := blk_lt HBJ2.out); (have hlt4 := blk_lt HBH2.out); clear k0 k1 k2 k3 k4 k5 k6 k7 k8 k9 f0 f1 f2 f3 f4 f5 f6 f7 f8 f9 j0 j1 j2 j3 j4 j5 j6 j7 j8 j9; obtain ⟨k0, k1, k2, k3, k4, k5, k6, k7, k8, k9⟩ := all10 HBK2.out; obtain ⟨f0, f1, f2, f3, f4, f5, f6, f7, f8, f9⟩ := frz10 HBK2.out; obtain ⟨j0, j1, j2, j3, j4, j5, j6, j7, j8, j9⟩ := all10 HBJ2.out; obtain ⟨h0, h1, h2, _, _, _⟩ := all3 HBH2.out; clear hb2))
        refine bodyPost_ret (results_ct rfl _ _ (w.heap.size + 1) 35 #[.int .i64 0, .string ⟨#[]⟩, .string ⟨#[]⟩, .string ⟨#[]⟩, .int .i64 0, .int .i64 0, .int .i64 0, .int .i64 0, .int .i64 0, .int .i64 0] (0, 0) _ rfl (blk10 HBK2.out) Tryd.underlying35 rfl (by kernel_rfl)) rfl ?_
        exact ⟨rfl, below_set10 HB2.out (Nat.le_succ _) _ _ _ _ _ _ _ _ _ _⟩
    · have e1 : (j.status != 1) = true := by simpa using hs
      have HE : Aside0 (LE = 81 ∧ LJ = jc JobPure.j0) := ⟨by
        have h1 : leaseE pe j a b c = 81 := by rw [leaseE, hk, if_pos rfl, if_neg hs]
        exact ⟨by rw [hLE.out, h1], by rw [hLJ.out, leaseJ, h1]; rfl⟩⟩
      clear hp hk hs
      obtain ⟨rfl, rfl⟩ := HE.out
      go_enter Tryd.func16, Tryd.ntmps16
      go_wp2_with (go_at_call 11; refine (check_any pe j _ HP.out).mono ?_; rw [HCE.out]; rintro e w1 ⟨rfl, hb1⟩; (have HB1 := Aside0.mk (bthen (below_alloc (below_alloc (Below.refl _ w) _) _) hb1)); (have HBK := Aside0.mk (blk_keep (blk_new1 _ _ _ _) hb1)); (have HBJ := Aside0.mk (blk_keep (blk_alloc (blk_new _ _) _) hb1)); (have hlt := blk_lt HBK.out); (have hlt0 := blk_lt HBJ.out); obtain ⟨k0, k1, k2, k3, k4, k5, k6, k7, k8, k9⟩ := all10 HBK.out; obtain ⟨f0, f1, f2, f3, f4, f5, f6, f7, f8, f9⟩ := frz10 HBK.out; obtain ⟨j0, j1, j2, j3, j4, j5, j6, j7, j8, j9⟩ := all10 HBJ.out; clear hb1)
      refine bodyPost_ret (results_ct rfl _ _ (w.heap.size + 1) 35 #[.int .i64 0, .string ⟨#[]⟩, .string ⟨#[]⟩, .string ⟨#[]⟩, .int .i64 0, .int .i64 0, .int .i64 0, .int .i64 0, .int .i64 0, .int .i64 0] (0, 0) _ rfl (blk_alloc (blk10 HBK.out) _) Tryd.underlying35 rfl (by kernel_rfl)) rfl ?_
      exact ⟨rfl, below_alloc (below_set10 HB1.out (Nat.le_succ _) _ _ _ _ _ _ _ _ _ _) _⟩
end Go.Proofs.YteloamnakikbbaaDoor.Job

/- job: again, walked. -/
namespace Go.Proofs.YteloamnakikbbaaDoor.Job
set_option linter.unusedVariables false
set_option linter.unusedSimpArgs false
open Go.RowKit Go.Proofs.YteloamnakikbbaaDoorW.PrintWords Go.Proofs.YteloamnakikbbaaDoorW.PrintLast Go.Proofs.YteloamnakikbbaaDoor.Base Go.Proofs.YteloamnakikbbaaDoor.Cells Go.Proofs.YteloamnakikbbaaDoor.JobPure

set_option maxRecDepth 100000 in
set_option maxHeartbeats 1000000 in
theorem again_any (pe : Int) (nx : Int → Int × Bool) (j : Jb) (now : Int) (w : World) (hp : CronSays j.rule pe nx) (hpe : j.rule ≠ ⟨#[]⟩ → pe = 0) (n0 : 0 ≤ now) (n1 : now < 32503680000) :
    Calls Tryd.prog 32 #[.agg #[.int .i64 j.id, .string j.name, .string j.rule, .string j.payload, .int .i64 j.status, .int .i64 j.due, .int .i64 j.tries, .int .i64 j.worker, .int .i64 j.token, .int .i64 j.til], .int .i64 now] w fun e w' => e = .returned (.tuple #[.agg (jc (againJ (nx now) j).1), .bool (againJ (nx now) j).2]) ∧ Below w.heap.size w w' := by
  obtain ⟨id, name, rule, payload, status, due, tries, worker, token, til⟩ := j
  dsimp only at hp hpe ⊢
  by_cases r0 : rule = ⟨#[]⟩
  · subst r0
    have HE : Aside0 (againJ (nx now) ⟨id, name, ⟨#[]⟩, payload, status, due, tries, worker, token, til⟩ = (JobPure.j0, false)) := ⟨rfl⟩
    rw [HE.out]
    clear hp hpe
    go_enter Tryd.func32, Tryd.ntmps32
    go_wp2
    refine bodyPost_ret (results_ct rfl _ _ (w.heap.size + 1) 35 #[.int .i64 0, .string ⟨#[]⟩, .string ⟨#[]⟩, .string ⟨#[]⟩, .int .i64 0, .int .i64 0, .int .i64 0, .int .i64 0, .int .i64 0, .int .i64 0] (0, 0) _ rfl (blk_new1 _ _ _ _) Tryd.underlying35 rfl (by kernel_rfl)) rfl ?_
    exact ⟨rfl, below_alloc (below_alloc (Below.refl _ _) _) _⟩
  · obtain ⟨r1, r2⟩ := tl0 r0
    obtain rfl := hpe r0
    obtain ⟨a, b, c, d, f, x, y, h1, h2⟩ := hp r0
    have HPA := Aside0.mk h1
    have HNX := Aside0.mk (h2 rfl now)
    obtain ⟨t, ht⟩ := named (nx now).1
    obtain ⟨ok, hok⟩ := named (nx now).2
    have HE : Aside0 (againJ (nx now) ⟨id, name, rule, payload, status, due, tries, worker, token, til⟩ = (⟨id, name, rule, payload, 1, t, 0, 0, 0, 0⟩, ok)) := ⟨by
      rw [againJ, if_neg (fun h => r0 (size0.1 h)), ht.out, hok.out]; rfl⟩
    rw [HE.out]
    clear hp hpe h1 h2
    go_enter Tryd.func32, Tryd.ntmps32
    go_wp2_with (first
      | (go_at_call 25; refine (HPA.out _).mono ?_; rintro e w1 ⟨rfl, hb1⟩; (have HB1 := Aside0.mk (bthen (below_alloc (below_alloc (Below.refl _ w) _) _) hb1)); (have HBK1 := Aside0.mk (blk_keep (blk_new1 _ _ _ _) hb1)); (have HBJ1 := Aside0.mk (blk_keep (blk_alloc (blk_new _ _) _) hb1)); clear hb1)
      | (go_at_call 46; refine (HNX.out _ n0 n1).mono ?_; rw [← ht.out, ← hok.out]; rintro e w2 ⟨ne, rfl, hb2⟩; (have HB2 := Aside0.mk (bthen (below_alloc HB1.out _) hb2)); (have HBK2 := Aside0.mk (blk_keep (blk_alloc HBK1.out _) hb2)); (have HBJ2 := Aside0.mk (blk_keep (blk_alloc HBJ1.out _) hb2)); (have lk := blk_lt HBK2.out); (have lj := blk_lt HBJ2.out); obtain ⟨j0, j1, j2, j3, j4, j5, j6, j7, j8, j9⟩ := all10 HBJ2.out; (have g6 := blk_frozen HBJ2.out 6); clear hb2)
      | (go_at_call 34; refine (hold_any ⟨id, name, rule, payload, status, due, 0, worker, token, til⟩ 1 t 0 0 0 _).mono ?_; rintro e w3 ⟨rfl, hb3⟩; (have HB3 := Aside0.mk (bthen (HB2.out.setCell (p := ⟨w.heap.size, 6, none⟩) (Nat.le_refl _) _) hb3)); (have HBK3 := Aside0.mk (blk_keep ((Below.heap_setCell _ ⟨w.heap.size, 6, none⟩ _ _ (by simp)).trans HBK2.out) hb3)); clear j0 j1 j2 j3 j4 j5 j6 j7 j8 j9; obtain ⟨k0, k1, k2, k3, k4, k5, k6, k7, k8, k9⟩ := all10 HBK3.out; obtain ⟨f0, f1, f2, f3, f4, f5, f6, f7, f8, f9⟩ := frz10 HBK3.out; clear hb3))
    refine bodyPost_ret (results_ct rfl _ _ (w.heap.size + 1) 35 #[.int .i64 id, .string name, .string rule, .string payload, .int .i64 1, .int .i64 t, .int .i64 0, .int .i64 0, .int .i64 0, .int .i64 0] (0, 0) _ rfl (blk10 HBK3.out) Tryd.underlying35 rfl (by kernel_rfl)) rfl ?_
    exact ⟨rfl, below_set10 HB3.out (Nat.le_succ _) _ _ _ _ _ _ _ _ _ _⟩
end Go.Proofs.YteloamnakikbbaaDoor.Job

/- job: Fail, walked. -/
namespace Go.Proofs.YteloamnakikbbaaDoor.Job
set_option linter.unusedVariables false
set_option linter.unusedSimpArgs false
open Go.RowKit Go.Proofs.YteloamnakikbbaaDoorW.PrintWords Go.Proofs.YteloamnakikbbaaDoorW.PrintLast Go.Proofs.YteloamnakikbbaaDoor.Base Go.Proofs.YteloamnakikbbaaDoor.Cells Go.Proofs.YteloamnakikbbaaDoor.JobPure


theorem due_int (b c t now k : Int) (w : World) (hl : limOk b c t = true) (k0 : 0 ≤ k) (hk : k ≤ 64) (n0 : 0 ≤ now) (n1 : now < 32503680000) :
    Calls Tryd.prog 33 #[.agg #[.int .i64 b, .int .i64 c, .int .i64 t], .int .i64 now, .int .i64 k] w fun e w' => e = .returned (.tuple #[.int .i64 (dueV b c now k.toNat), .int .i64 (dueE b c now k.toNat)]) ∧ Below w.heap.size w w' := by
  obtain ⟨n, rfl⟩ := Int.eq_ofNat_of_zero_le k0
  exact due_any b c t now n w hl (by omega) n0 n1

theorem idx3_0 (a b c : Int) (w : World) : (Instr.index 78 (.agg #[.int .i64 a, .int .i64 b, .int .i64 c]) (.int .i64 0)).run Tryd.prog w = .ok (.int .i64 a) w := by
  simp [Instr.index, run_underlying Tryd.underlying78, asIntOf, go_sem, Tryd.sizeOf32]
theorem idx3_1 (a b c : Int) (w : World) : (Instr.index 78 (.agg #[.int .i64 a, .int .i64 b, .int .i64 c]) (.int .i64 1)).run Tryd.prog w = .ok (.int .i64 b) w := by
  simp [Instr.index, run_underlying Tryd.underlying78, asIntOf, go_sem, Tryd.sizeOf32]
theorem idx3_2 (a b c : Int) (w : World) : (Instr.index 78 (.agg #[.int .i64 a, .int .i64 b, .int .i64 c]) (.int .i64 2)).run Tryd.prog w = .ok (.int .i64 c) w := by
  simp [Instr.index, run_underlying Tryd.underlying78, asIntOf, go_sem, Tryd.sizeOf32]
/-- what stands behind the three tests -/
def Head (w : World) (id status due tries worker token til b c t : Int) (name rule payload : ByteArray) (wc : World) : Prop :=
  wc.heap[w.heap.size]? = some (.cells #[.int .i64 id, .string name, .string rule, .string payload, .int .i64 status, .int .i64 due, .int .i64 tries, .int .i64 worker, .int .i64 token, .int .i64 til] 35 (0, 0)) ∧ wc.heap[w.heap.size + 1]? = some (.cells #[.int .i64 b, .int .i64 c, .int .i64 t] 42 (0, 0)) ∧ wc.heap[w.heap.size + 1 + 1]? = some (.cells #[.int .i64 0, .string ⟨#[]⟩, .string ⟨#[]⟩, .string ⟨#[]⟩, .int .i64 0, .int .i64 0, .int .i64 0, .int .i64 0, .int .i64 0, .int .i64 0] 35 (0, 0)) ∧ Below w.heap.size w wc
theorem Head.below {w wc w1 : World} {id status due tries worker token til b c t : Int} {name rule payload : ByteArray} (h : Head w id status due tries worker token til b c t name rule payload wc) (hb : Below wc.heap.size wc w1) : Head w id status due tries worker token til b c t name rule payload w1 :=
  ⟨blk_keep h.1 hb, blk_keep h.2.1 hb, blk_keep h.2.2.1 hb, bthen h.2.2.2 hb⟩

set_option maxRecDepth 100000 in
set_option maxHeartbeats 4000000 in
theorem fail_any (pe : Int) (nx : Int → Int × Bool) (j : Jb) (b c t now : Int) (w : World) (hp : CronSays j.rule pe nx) :
    Calls Tryd.prog 14 #[.agg #[.int .i64 j.id, .string j.name, .string j.rule, .string j.payload, .int .i64 j.status, .int .i64 j.due, .int .i64 j.tries, .int .i64 j.worker, .int .i64 j.token, .int .i64 j.til], .agg #[.int .i64 b, .int .i64 c, .int .i64 t], .int .i64 now] w fun e w' => e = .returned (.tuple #[.agg (jc (failJ pe (nx now) j b c t now)), .int .i64 (failE pe j b c t now)]) ∧ Below w.heap.size w w' := by
  obtain ⟨id, name, rule, payload, status, due, tries, worker, token, til⟩ := j
  dsimp only at hp ⊢
  have HP := Aside0.mk hp
  clear hp
  obtain ⟨ce, hce⟩ := named (chkE pe ⟨id, name, rule, payload, status, due, tries, worker, token, til⟩)
  obtain ⟨le, hle⟩ := named (limE b c t)
  obtain ⟨se, hse⟩ := named (leasedE ⟨id, name, rule, payload, status, due, tries, worker, token, til⟩ now)
  obtain ⟨FJ, hFJ⟩ := named (jc (failJ pe (nx now) ⟨id, name, rule, payload, status, due, tries, worker, token, til⟩ b c t now))
  obtain ⟨FE, hFE⟩ := named (failE pe ⟨id, name, rule, payload, status, due, tries, worker, token, til⟩ b c t now)
  have HFE : Aside0 (FE = if ce ≠ 0 then ce else if le ≠ 0 then le else se) := ⟨by
    rw [hFE.out, hce.out, hle.out, hse.out, failE, chkE, limE]
    cases chk pe ⟨id, name, rule, payload, status, due, tries, worker, token, til⟩ <;> cases limOk b c t <;> simp⟩
  rw [← hFJ.out, ← hFE.out]
  go_enter Tryd.func14, Tryd.ntmps14
  go_upto_region 1 with (fail)
  obtain ⟨W, hW⟩ : ∃ W, W = ((w.alloc (.cells #[.int .i64 id, .string name, .string rule, .string payload, .int .i64 status, .int .i64 due, .int .i64 tries, .int .i64 worker, .int .i64 token, .int .i64 til] 35)).alloc (.cells #[.int .i64 b, .int .i64 c, .int .i64 t] 42)).alloc (.cells #[.int .i64 0, .string ⟨#[]⟩, .string ⟨#[]⟩, .string ⟨#[]⟩, .int .i64 0, .int .i64 0, .int .i64 0, .int .i64 0, .int .i64 0, .int .i64 0] 35) := ⟨_, rfl⟩
  have HH : Aside0 (Head w id status due tries worker token til b c t name rule payload W) := ⟨by
    rw [hW]
    exact ⟨blk_alloc (blk_alloc (blk_new _ _) _) _, blk_alloc (blk_new1 _ _ _ _) _, blk_new2 _ _ _ _ _, below_alloc (below_alloc (below_alloc (Below.refl _ _) _) _) _⟩⟩
  rw [← hW]
  clear hW
  go_cut [21, 22] (fun v21 v22 wc => v21 = .agg #[.int .i64 ce, .int .i64 le, .int .i64 se] ∧ v22 = .int .i64 0 ∧ Aside0 (Head w id status due tries worker token til b c t name rule payload wc))
  case first =>
    have FK : Aside0 (∀ w', Below W.heap.size W w' → w'.cell? ⟨w.heap.size, 0, none⟩ = some (.int .i64 id) ∧ w'.cell? ⟨w.heap.size, 1, none⟩ = some (.string name) ∧ w'.cell? ⟨w.heap.size, 2, none⟩ = some (.string rule) ∧ w'.cell? ⟨w.heap.size, 3, none⟩ = some (.string payload) ∧ w'.cell? ⟨w.heap.size, 4, none⟩ = some (.int .i64 status) ∧ w'.cell? ⟨w.heap.size, 5, none⟩ = some (.int .i64 due) ∧ w'.cell? ⟨w.heap.size, 6, none⟩ = some (.int .i64 tries) ∧ w'.cell? ⟨w.heap.size, 7, none⟩ = some (.int .i64 worker) ∧ w'.cell? ⟨w.heap.size, 8, none⟩ = some (.int .i64 token) ∧ w'.cell? ⟨w.heap.size, 9, none⟩ = some (.int .i64 til) ∧ w'.cell? ⟨w.heap.size + 1, 0, none⟩ = some (.int .i64 b) ∧ w'.cell? ⟨w.heap.size + 1, 1, none⟩ = some (.int .i64 c) ∧ w'.cell? ⟨w.heap.size + 1, 2, none⟩ = some (.int .i64 t)) := ⟨fun w' h => by
      obtain ⟨j0, j1, j2, j3, j4, j5, j6, j7, j8, j9⟩ := all10 (blk_keep HH.out.1 h)
      obtain ⟨l0, l1, l2, _, _, _⟩ := all3 (blk_keep HH.out.2.1 h)
      exact ⟨j0, j1, j2, j3, j4, j5, j6, j7, j8, j9, l0, l1, l2⟩⟩
    have CC : Aside0 (∀ W', Calls Tryd.prog 11 #[.agg #[.int .i64 id, .string name, .string rule, .string payload, .int .i64 status, .int .i64 due, .int .i64 tries, .int .i64 worker, .int .i64 token, .int .i64 til]] W' fun e w' => e = .returned (.int .i64 ce) ∧ Below W'.heap.size W' w') := ⟨fun W' => by
      rw [hce.out]; exact check_any pe ⟨id, name, rule, payload, status, due, tries, worker, token, til⟩ W' HP.out.parse⟩
    have CL : Aside0 (∀ W', Calls Tryd.prog 15 #[.agg #[.int .i64 b, .int .i64 c, .int .i64 t]] W' fun e w' => e = .returned (.int .i64 le) ∧ Below W'.heap.size W' w') := ⟨fun W' => by
      rw [hle.out]; exact lim_any b c t W'⟩
    have CS : Aside0 (∀ W', Calls Tryd.prog 31 #[.agg #[.int .i64 id, .string name, .string rule, .string payload, .int .i64 status, .int .i64 due, .int .i64 tries, .int .i64 worker, .int .i64 token, .int .i64 til], .int .i64 now] W' fun e w' => e = .returned (.int .i64 se) ∧ Below W'.heap.size W' w') := ⟨fun W' => by
      rw [hse.out]; exact leased_any ⟨id, name, rule, payload, status, due, tries, worker, token, til⟩ now W'⟩
    obtain ⟨j0, j1, j2, j3, j4, j5, j6, j7, j8, j9, l0, l1, l2⟩ := FK.out _ (below_drew (Below.refl _ W))
    go_region_held3 (fun w' => w'.cell? ⟨w.heap.size, 0, none⟩ = some (.int .i64 id) ∧ w'.cell? ⟨w.heap.size, 1, none⟩ = some (.string name) ∧ w'.cell? ⟨w.heap.size, 2, none⟩ = some (.string rule) ∧ w'.cell? ⟨w.heap.size, 3, none⟩ = some (.string payload) ∧ w'.cell? ⟨w.heap.size, 4, none⟩ = some (.int .i64 status) ∧ w'.cell? ⟨w.heap.size, 5, none⟩ = some (.int .i64 due) ∧ w'.cell? ⟨w.heap.size, 6, none⟩ = some (.int .i64 tries) ∧ w'.cell? ⟨w.heap.size, 7, none⟩ = some (.int .i64 worker) ∧ w'.cell? ⟨w.heap.size, 8, none⟩ = some (.int .i64 token) ∧ w'.cell? ⟨w.heap.size, 9, none⟩ = some (.int .i64 til) ∧ w'.cell? ⟨w.heap.size + 1, 0, none⟩ = some (.int .i64 b) ∧ w'.cell? ⟨w.heap.size + 1, 1, none⟩ = some (.int .i64 c) ∧ w'.cell? ⟨w.heap.size + 1, 2, none⟩ = some (.int .i64 t)) (first | with_reducible exact ⟨j0, j1, j2, j3, j4, j5, j6, j7, j8, j9, l0, l1, l2⟩ | (refine FK.out _ ?_; (repeat (first | with_reducible exact Below.refl _ _ | with_reducible exact BX1.out | with_reducible exact BX2.out | with_reducible exact BX3.out | with_reducible apply below_drew | with_reducible apply below_alloc)); done) | go_keep) (first
      | (go_at_call 11; refine (CC.out _).mono ?_; rintro e w1 ⟨rfl, hb1⟩; (have BX1 : Aside0 (Below W.heap.size W w1) := ⟨bthen (by (repeat (first | with_reducible exact Below.refl _ _ | with_reducible exact BX1.out | with_reducible exact BX2.out | with_reducible exact BX3.out | with_reducible apply below_drew | with_reducible apply below_alloc))) hb1⟩); clear hb1)
      | (go_at_call 15; refine (CL.out _).mono ?_; rintro e w2 ⟨rfl, hb2⟩; (have BX2 : Aside0 (Below W.heap.size W w2) := ⟨bthen (by (repeat (first | with_reducible exact Below.refl _ _ | with_reducible exact BX1.out | with_reducible exact BX2.out | with_reducible exact BX3.out | with_reducible apply below_drew | with_reducible apply below_alloc))) hb2⟩); clear hb2)
      | (go_at_call 31; refine (CS.out _).mono ?_; rintro e w3 ⟨rfl, hb3⟩; (have BX3 : Aside0 (Below W.heap.size W w3) := ⟨bthen (by (repeat (first | with_reducible exact Below.refl _ _ | with_reducible exact BX1.out | with_reducible exact BX2.out | with_reducible exact BX3.out | with_reducible apply below_drew | with_reducible apply below_alloc))) hb3⟩); clear hb3))
    all_goals go_wp2_with fail
    all_goals go_meet
    all_goals refine ⟨rfl, rfl, ⟨HH.out.below ?_⟩⟩
    all_goals (repeat (first | with_reducible exact Below.refl _ _ | with_reducible exact BX1.out | with_reducible exact BX2.out | with_reducible exact BX3.out | with_reducible apply below_drew | with_reducible apply below_alloc))
  case rest =>
    obtain ⟨rfl, rfl, HC⟩ := hcut
    clear HH W
    have HFN : Aside0 (FE ≠ 0 → FJ = jc JobPure.j0) := ⟨fun h => by rw [hFJ.out, failJ, ← hFE.out, if_neg h]⟩
    have HCJ := Aside0.mk HC.out.1
    have HCL := Aside0.mk HC.out.2.1
    have HCK := Aside0.mk HC.out.2.2.1
    have HCB := Aside0.mk HC.out.2.2.2
    go_wp2_with fail
    go_loopg [9, 22] 3 (fun g v9 v22 wr => ∃ i : Nat, v22 = .int .i64 i ∧ g + i = 3 ∧ (0 < i → ce = 0) ∧ (1 < i → le = 0) ∧ (2 < i → se = 0) ∧ wr = wc)
    case atStart => exact ⟨0, rfl, by omega, fun h => by omega, fun h => by omega, fun h => by omega, rfl⟩
    case round =>
      obtain ⟨i, rfl, hg, g0, g1, g2, rfl⟩ := hrel
      obtain ⟨k0, k1, k2, k3, k4, k5, k6, k7, k8, k9⟩ := all10 HCK.out; obtain ⟨f0, f1, f2, f3, f4, f5, f6, f7, f8, f9⟩ := frz10 HCK.out
      have ix0 := idx3_0 ce le se wr
      have ix1 := idx3_1 ce le se wr
      have ix2 := idx3_2 ce le se wr
      rcases (show i = 0 ∨ i = 1 ∨ i = 2 ∨ i = 3 by omega) with rfl | rfl | rfl | rfl
      · by_cases h0 : ce = 0
        · have hn : (ce != 0) = false := by simpa using h0
          have H0 := Aside0.mk h0
          have G0 := Aside0.mk (And.intro g0 (And.intro g1 g2))
          clear g0 g1 g2 h0
          go_wp2
          go_roundg 2
          case measure => omega
          case rel => exact ⟨1, rfl, by omega, fun _ => H0.out, fun h => by omega, fun h => by omega, rfl⟩
        · have hn : (ce != 0) = true := by simpa using h0
          have HX : Aside0 (FE = ce ∧ FJ = jc JobPure.j0) := ⟨by
            have h1 : FE = ce := by
              rw [HFE.out]
              rw [if_pos h0]
            exact ⟨h1, HFN.out (by rw [h1]; exact h0)⟩⟩
          obtain ⟨rfl, rfl⟩ := HX.out
          clear g0 g1 g2 h0
          go_wp2
          refine bodyPost_ret (results_ct rfl _ _ (w.heap.size + 1 + 1) 35 #[.int .i64 0, .string ⟨#[]⟩, .string ⟨#[]⟩, .string ⟨#[]⟩, .int .i64 0, .int .i64 0, .int .i64 0, .int .i64 0, .int .i64 0, .int .i64 0] (0, 0) _ rfl (blk10 HCK.out) Tryd.underlying35 rfl (by kernel_rfl)) rfl ?_
          exact ⟨rfl, below_set10 HCB.out (by omega) _ _ _ _ _ _ _ _ _ _⟩
      · by_cases h0 : le = 0
        · have hn : (le != 0) = false := by simpa using h0
          have H0 := Aside0.mk h0
          have G0 := Aside0.mk (And.intro g0 (And.intro g1 g2))
          clear g0 g1 g2 h0
          go_wp2
          go_roundg 1
          case measure => omega
          case rel => exact ⟨2, rfl, by omega, fun _ => G0.out.1 (by omega), fun _ => H0.out, fun h => by omega, rfl⟩
        · have hn : (le != 0) = true := by simpa using h0
          have HX : Aside0 (FE = le ∧ FJ = jc JobPure.j0) := ⟨by
            have h1 : FE = le := by
              rw [HFE.out]
              rw [if_neg (by rw [g0 (by omega)]; decide), if_pos h0]
            exact ⟨h1, HFN.out (by rw [h1]; exact h0)⟩⟩
          obtain ⟨rfl, rfl⟩ := HX.out
          clear g0 g1 g2 h0
          go_wp2
          refine bodyPost_ret (results_ct rfl _ _ (w.heap.size + 1 + 1) 35 #[.int .i64 0, .string ⟨#[]⟩, .string ⟨#[]⟩, .string ⟨#[]⟩, .int .i64 0, .int .i64 0, .int .i64 0, .int .i64 0, .int .i64 0, .int .i64 0] (0, 0) _ rfl (blk10 HCK.out) Tryd.underlying35 rfl (by kernel_rfl)) rfl ?_
          exact ⟨rfl, below_set10 HCB.out (by omega) _ _ _ _ _ _ _ _ _ _⟩
      · by_cases h0 : se = 0
        · have hn : (se != 0) = false := by simpa using h0
          have H0 := Aside0.mk h0
          have G0 := Aside0.mk (And.intro g0 (And.intro g1 g2))
          clear g0 g1 g2 h0
          go_wp2
          go_roundg 0
          case measure => omega
          case rel => exact ⟨3, rfl, by omega, fun _ => G0.out.1 (by omega), fun _ => G0.out.2.1 (by omega), fun _ => H0.out, rfl⟩
        · have hn : (se != 0) = true := by simpa using h0
          have HX : Aside0 (FE = se ∧ FJ = jc JobPure.j0) := ⟨by
            have h1 : FE = se := by
              rw [HFE.out]
              rw [if_neg (by rw [g0 (by omega)]; decide), if_neg (by rw [g1 (by omega)]; decide)]
            exact ⟨h1, HFN.out (by rw [h1]; exact h0)⟩⟩
          obtain ⟨rfl, rfl⟩ := HX.out
          clear g0 g1 g2 h0
          go_wp2
          refine bodyPost_ret (results_ct rfl _ _ (w.heap.size + 1 + 1) 35 #[.int .i64 0, .string ⟨#[]⟩, .string ⟨#[]⟩, .string ⟨#[]⟩, .int .i64 0, .int .i64 0, .int .i64 0, .int .i64 0, .int .i64 0, .int .i64 0] (0, 0) _ rfl (blk10 HCK.out) Tryd.underlying35 rfl (by kernel_rfl)) rfl ?_
          exact ⟨rfl, below_set10 HCB.out (by omega) _ _ _ _ _ _ _ _ _ _⟩
      · have HZ : Aside0 (ce = 0 ∧ le = 0 ∧ se = 0) := ⟨g0 (by omega), g1 (by omega), g2 (by omega)⟩
        clear g0 g1 g2 k0 k1 k2 k3 k4 k5 k6 k7 k8 k9 f0 f1 f2 f3 f4 f5 f6 f7 f8 f9
        have HE0 : Aside0 (FE = 0) := ⟨by rw [HFE.out, HZ.out.1, HZ.out.2.1, HZ.out.2.2]; rfl⟩
        have HG : Aside0 (FJ = jc (failG (nx now) ⟨id, name, rule, payload, status, due, tries, worker, token, til⟩ b c t now)) := ⟨by rw [hFJ.out, failJ, ← hFE.out, HE0.out]; rfl⟩
        have HK : Aside0 (chk pe ⟨id, name, rule, payload, status, due, tries, worker, token, til⟩ = true ∧ limOk b c t = true ∧ 0 ≤ now ∧ now ≤ 32503679999) := ⟨by
          obtain ⟨z0, z1, z2⟩ := HZ.out
          refine ⟨?_, ?_, ?_⟩
          · rw [hce.out, chkE] at z0
            split at z0
            · assumption
            · cases z0
          · rw [hle.out, limE] at z1
            split at z1
            · assumption
            · cases z1
          · rw [hse.out, leasedE] at z2
            split at z2
            · split at z2
              · assumption
              · cases z2
            · cases z2⟩
        obtain ⟨n0, n1⟩ := HK.out.2.2
        have HTR : 0 ≤ tries ∧ tries ≤ 16 := by
          have h := HK.out.1
          rw [chk, Bool.and_eq_true, Bool.and_eq_true] at h
          have h1 := h.1.1
          simp only [chkA, decide_eq_true_eq] at h1
          omega
        obtain ⟨t0, t16⟩ := HTR
        have HPE : Aside0 (rule ≠ ⟨#[]⟩ → pe = 0) := ⟨fun hr => by
          have h := HK.out.1
          rw [chk, Bool.and_eq_true, chkC] at h
          have h2 := h.2
          have : decide (rule.size = 0) = false := decide_eq_false (fun h => hr (size0.1 h))
          simp only [this, Bool.false_or, Bool.and_eq_true, beq_iff_eq] at h2
          exact h2.1⟩
        have HLM := Aside0.mk HK.out.2.1
        obtain rfl := HE0.out
        obtain ⟨j0, j1, j2, j3, j4, j5, j6, j7, j8, j9⟩ := all10 HCJ.out
        have g6 := blk_frozen HCJ.out 6
        go_upto_region 8 with (fail)
        obtain ⟨T, hT⟩ : ∃ T, min (tries + 1) 16 = T := ⟨_, rfl⟩
        have HT := Aside0.mk hT
        have T1 : 1 ≤ T ∧ T ≤ 16 := by omega
        obtain ⟨T1, T2⟩ := T1
        rw [hT]
        clear hT t0 t16 j0 j1 j2 j3 j4 j5 j6 j7 j8 j9 g6 ix0 ix1 ix2
        obtain ⟨W2, hW2⟩ : ∃ W2, W2 = wr.setCell ⟨w.heap.size, 6, none⟩ (.int .i64 T) := ⟨_, rfl⟩
        have HJ2 : Aside0 (W2.heap[w.heap.size]? = some (.cells #[.int .i64 id, .string name, .string rule, .string payload, .int .i64 status, .int .i64 due, .int .i64 T, .int .i64 worker, .int .i64 token, .int .i64 til] 35 (0, 0))) := ⟨by rw [hW2]; exact blk_put HCJ.out 6 _ rfl⟩
        have HL2 : Aside0 (W2.heap[w.heap.size + 1]? = some (.cells #[.int .i64 b, .int .i64 c, .int .i64 t] 42 (0, 0))) := ⟨by rw [hW2]; exact (Below.heap_setCell _ ⟨w.heap.size, 6, none⟩ _ _ (by show _ ≠ w.heap.size; omega)).trans HCL.out⟩
        have HK2 : Aside0 (W2.heap[w.heap.size + 1 + 1]? = some (.cells #[.int .i64 0, .string ⟨#[]⟩, .string ⟨#[]⟩, .string ⟨#[]⟩, .int .i64 0, .int .i64 0, .int .i64 0, .int .i64 0, .int .i64 0, .int .i64 0] 35 (0, 0))) := ⟨by rw [hW2]; exact (Below.heap_setCell _ ⟨w.heap.size, 6, none⟩ _ _ (by show _ ≠ w.heap.size; omega)).trans HCK.out⟩
        have HB2 : Aside0 (Below w.heap.size w W2) := ⟨by rw [hW2]; exact HCB.out.setCell (p := ⟨w.heap.size, 6, none⟩) (Nat.le_refl _) _⟩
        rw [← hW2]
        clear hW2 HC HCJ HCL HCK HCB
        obtain ⟨V, hV⟩ := named (dueV b c now (T - 1).toNat)
        obtain ⟨D, hD⟩ := named (dueE b c now (T - 1).toNat)
        have HFT : Aside0 (failT ⟨id, name, rule, payload, status, due, tries, worker, token, til⟩ = T) := ⟨HT.out⟩
        obtain ⟨j0, j1, j2, j3, j4, j5, j6, j7, j8, j9⟩ := all10 HJ2.out
        obtain ⟨l0, l1, l2, _, _, _⟩ := all3 HL2.out
        by_cases hP : now + delayP b c (T - 1).toNat < 32503680000 ∧ T < t
        · have HX : Aside0 (D = 0 ∧ FJ = jc (holdJ ⟨id, name, rule, payload, status, due, T, worker, token, til⟩ 1 V 0 0 0)) := ⟨by
            refine ⟨by rw [hD.out, dueE, if_pos hP.1], ?_⟩
            rw [HG.out, failG, HFT.out, if_pos hP, hV.out, dueV, if_pos hP.1]⟩
          obtain ⟨_, hTt⟩ := hP
          obtain ⟨rfl, rfl⟩ := HX.out
          have hlt : decide (T < t) = true := decide_eq_true hTt
          clear hTt
          go_wp2_with (first
            | (go_at_call 33; refine (due_int b c t now (T - 1) _ HLM.out (by omega) (by omega) n0 (by omega)).mono ?_; rw [← hV.out, ← hD.out]; rintro e w3 ⟨rfl, hb3⟩; (have HB3 := Aside0.mk (bthen HB2.out hb3)); (have HJ3 := Aside0.mk (blk_keep HJ2.out hb3)); (have HL3 := Aside0.mk (blk_keep HL2.out hb3)); (have HK3 := Aside0.mk (blk_keep HK2.out hb3)); clear j0 j1 j2 j3 j4 j5 j6 j7 j8 j9 l0 l1 l2; obtain ⟨q0, q1, q2, q3, q4, q5, q6, q7, q8, q9⟩ := all10 HJ3.out; obtain ⟨p0, p1, p2, _, _, _⟩ := all3 HL3.out; clear hb3)
            | (go_at_call 34; refine (hold_any ⟨id, name, rule, payload, status, due, T, worker, token, til⟩ 1 V 0 0 0 _).mono ?_; rintro e w4 ⟨rfl, hb4⟩; (have HB4 := Aside0.mk (bthen HB3.out hb4)); (have HK4 := Aside0.mk (blk_keep HK3.out hb4)); clear q0 q1 q2 q3 q4 q5 q6 q7 q8 q9 p0 p1 p2; obtain ⟨k0, k1, k2, k3, k4, k5, k6, k7, k8, k9⟩ := all10 HK4.out; obtain ⟨f0, f1, f2, f3, f4, f5, f6, f7, f8, f9⟩ := frz10 HK4.out; clear hb4))
          refine bodyPost_ret (results_ct rfl _ _ (w.heap.size + 1 + 1) 35 #[.int .i64 id, .string name, .string rule, .string payload, .int .i64 1, .int .i64 V, .int .i64 T, .int .i64 0, .int .i64 0, .int .i64 0] (0, 0) _ rfl (blk10 HK4.out) Tryd.underlying35 rfl (by kernel_rfl)) rfl ?_
          exact ⟨rfl, below_set10 HB4.out (by omega) _ _ _ _ _ _ _ _ _ _⟩
        · obtain ⟨X, hX⟩ := named (againJ (nx now) ⟨id, name, rule, payload, status, due, T, worker, token, til⟩).1
          obtain ⟨ok, hok⟩ := named (againJ (nx now) ⟨id, name, rule, payload, status, due, T, worker, token, til⟩).2
          have HX : Aside0 (FJ = if ok then jc X else jc (holdJ ⟨id, name, ⟨#[]⟩, payload, status, due, T, worker, token, til⟩ 3 now 0 0 0)) := ⟨by
            rw [HG.out, failG, HFT.out, if_neg hP, hX.out, hok.out]
            split <;> rfl⟩
          have HDT : Aside0 ((D == 0 && decide (T < t)) = false) := ⟨by
            rw [hD.out, dueE]
            by_cases h1 : now + delayP b c (T - 1).toNat < 32503680000
            · rw [if_pos h1]
              have : ¬ T < t := fun h => hP ⟨h1, h⟩
              simp [this]
            · rw [if_neg h1]; rfl⟩
          clear hP
          obtain ⟨x1, x2, x3, x4, x5, x6, x7, x8, x9, x10⟩ := X
          have CA : Aside0 (∀ W', Calls Tryd.prog 32 #[.agg #[.int .i64 id, .string name, .string rule, .string payload, .int .i64 status, .int .i64 due, .int .i64 T, .int .i64 worker, .int .i64 token, .int .i64 til], .int .i64 now] W' fun e w' => e = .returned (.tuple #[.agg #[.int .i64 x1, .string x2, .string x3, .string x4, .int .i64 x5, .int .i64 x6, .int .i64 x7, .int .i64 x8, .int .i64 x9, .int .i64 x10], .bool ok]) ∧ Below W'.heap.size W' w') := ⟨fun W' => by
            have h := again_any pe nx ⟨id, name, rule, payload, status, due, T, worker, token, til⟩ now W' HP.out HPE.out n0 (by omega)
            rw [← hX.out, ← hok.out] at h
            exact h⟩
          cases ok with
          | true =>
            have HY : Aside0 (FJ = #[.int .i64 x1, .string x2, .string x3, .string x4, .int .i64 x5, .int .i64 x6, .int .i64 x7, .int .i64 x8, .int .i64 x9, .int .i64 x10]) := ⟨by rw [HX.out]; rfl⟩
            obtain rfl := HY.out
            by_cases h1 : D = 0
            · have hlt : decide (T < t) = false := by have := HDT.out; rw [h1] at this; simpa using this
              obtain rfl := h1
              go_wp2_with (first
                | (go_at_call 33; refine (due_int b c t now (T - 1) _ HLM.out (by omega) (by omega) n0 (by omega)).mono ?_; rw [← hV.out, ← hD.out]; rintro e w3 ⟨rfl, hb3⟩; (have HB3 := Aside0.mk (bthen HB2.out hb3)); (have HJ3 := Aside0.mk (blk_keep HJ2.out hb3)); (have HL3 := Aside0.mk (blk_keep HL2.out hb3)); (have HK3 := Aside0.mk (blk_keep HK2.out hb3)); clear j0 j1 j2 j3 j4 j5 j6 j7 j8 j9 l0 l1 l2; obtain ⟨q0, q1, q2, q3, q4, q5, q6, q7, q8, q9⟩ := all10 HJ3.out; obtain ⟨p0, p1, p2, _, _, _⟩ := all3 HL3.out; clear hb3)
                | (go_at_call 32; refine (CA.out _).mono ?_; rintro e w4 ⟨rfl, hb4⟩; (have HB4 := Aside0.mk (bthen HB3.out hb4)); (have HJ4 := Aside0.mk (blk_keep HJ3.out hb4)); (have HK4 := Aside0.mk (blk_keep HK3.out hb4)); (have hlj := blk_lt HJ4.out); (have hlk := blk_lt HK4.out); clear q0 q1 q2 q3 q4 q5 q6 q7 q8 q9 p0 p1 p2; obtain ⟨q0, q1, q2, q3, q4, q5, q6, q7, q8, q9⟩ := all10 HJ4.out; (have g2 := blk_frozen HJ4.out 2); obtain ⟨k0, k1, k2, k3, k4, k5, k6, k7, k8, k9⟩ := all10 HK4.out; obtain ⟨f0, f1, f2, f3, f4, f5, f6, f7, f8, f9⟩ := frz10 HK4.out; clear hb4))
              refine bodyPost_ret (results_ct rfl _ _ (w.heap.size + 1 + 1) 35 #[.int .i64 x1, .string x2, .string x3, .string x4, .int .i64 x5, .int .i64 x6, .int .i64 x7, .int .i64 x8, .int .i64 x9, .int .i64 x10] (0, 0) _ rfl (blk_alloc (blk10 HK4.out) _) Tryd.underlying35 rfl (by kernel_rfl)) rfl ?_
              exact ⟨rfl, below_alloc (below_set10 HB4.out (by omega) _ _ _ _ _ _ _ _ _ _) _⟩
            · have hd : (D == 0) = false := by simpa using h1
              clear h1
              go_wp2_with (first
                | (go_at_call 33; refine (due_int b c t now (T - 1) _ HLM.out (by omega) (by omega) n0 (by omega)).mono ?_; rw [← hV.out, ← hD.out]; rintro e w3 ⟨rfl, hb3⟩; (have HB3 := Aside0.mk (bthen HB2.out hb3)); (have HJ3 := Aside0.mk (blk_keep HJ2.out hb3)); (have HL3 := Aside0.mk (blk_keep HL2.out hb3)); (have HK3 := Aside0.mk (blk_keep HK2.out hb3)); clear j0 j1 j2 j3 j4 j5 j6 j7 j8 j9 l0 l1 l2; obtain ⟨q0, q1, q2, q3, q4, q5, q6, q7, q8, q9⟩ := all10 HJ3.out; obtain ⟨p0, p1, p2, _, _, _⟩ := all3 HL3.out; clear hb3)
                | (go_at_call 32; refine (CA.out _).mono ?_; rintro e w4 ⟨rfl, hb4⟩; (have HB4 := Aside0.mk (bthen HB3.out hb4)); (have HJ4 := Aside0.mk (blk_keep HJ3.out hb4)); (have HK4 := Aside0.mk (blk_keep HK3.out hb4)); (have hlj := blk_lt HJ4.out); (have hlk := blk_lt HK4.out); clear q0 q1 q2 q3 q4 q5 q6 q7 q8 q9 p0 p1 p2; obtain ⟨q0, q1, q2, q3, q4, q5, q6, q7, q8, q9⟩ := all10 HJ4.out; (have g2 := blk_frozen HJ4.out 2); obtain ⟨k0, k1, k2, k3, k4, k5, k6, k7, k8, k9⟩ := all10 HK4.out; obtain ⟨f0, f1, f2, f3, f4, f5, f6, f7, f8, f9⟩ := frz10 HK4.out; clear hb4))
              refine bodyPost_ret (results_ct rfl _ _ (w.heap.size + 1 + 1) 35 #[.int .i64 x1, .string x2, .string x3, .string x4, .int .i64 x5, .int .i64 x6, .int .i64 x7, .int .i64 x8, .int .i64 x9, .int .i64 x10] (0, 0) _ rfl (blk_alloc (blk10 HK4.out) _) Tryd.underlying35 rfl (by kernel_rfl)) rfl ?_
              exact ⟨rfl, below_alloc (below_set10 HB4.out (by omega) _ _ _ _ _ _ _ _ _ _) _⟩
          | false =>
            have HY : Aside0 (FJ = #[.int .i64 id, .string name, .string ⟨#[]⟩, .string payload, .int .i64 3, .int .i64 now, .int .i64 T, .int .i64 0, .int .i64 0, .int .i64 0]) := ⟨by rw [HX.out]; rfl⟩
            obtain rfl := HY.out
            by_cases h1 : D = 0
            · have hlt : decide (T < t) = false := by have := HDT.out; rw [h1] at this; simpa using this
              obtain rfl := h1
              go_wp2_with (first
                | (go_at_call 33; refine (due_int b c t now (T - 1) _ HLM.out (by omega) (by omega) n0 (by omega)).mono ?_; rw [← hV.out, ← hD.out]; rintro e w3 ⟨rfl, hb3⟩; (have HB3 := Aside0.mk (bthen HB2.out hb3)); (have HJ3 := Aside0.mk (blk_keep HJ2.out hb3)); (have HL3 := Aside0.mk (blk_keep HL2.out hb3)); (have HK3 := Aside0.mk (blk_keep HK2.out hb3)); clear j0 j1 j2 j3 j4 j5 j6 j7 j8 j9 l0 l1 l2; obtain ⟨q0, q1, q2, q3, q4, q5, q6, q7, q8, q9⟩ := all10 HJ3.out; obtain ⟨p0, p1, p2, _, _, _⟩ := all3 HL3.out; clear hb3)
                | (go_at_call 32; refine (CA.out _).mono ?_; rintro e w4 ⟨rfl, hb4⟩; (have HB4 := Aside0.mk (bthen HB3.out hb4)); (have HJ4 := Aside0.mk (blk_keep HJ3.out hb4)); (have HK4 := Aside0.mk (blk_keep HK3.out hb4)); (have hlj := blk_lt HJ4.out); (have hlk := blk_lt HK4.out); clear q0 q1 q2 q3 q4 q5 q6 q7 q8 q9 p0 p1 p2; obtain ⟨q0, q1, q2, q3, q4, q5, q6, q7, q8, q9⟩ := all10 HJ4.out; (have g2 := blk_frozen HJ4.out 2); obtain ⟨k0, k1, k2, k3, k4, k5, k6, k7, k8, k9⟩ := all10 HK4.out; obtain ⟨f0, f1, f2, f3, f4, f5, f6, f7, f8, f9⟩ := frz10 HK4.out; clear hb4)
                | (go_at_call 34; refine (hold_any ⟨id, name, ⟨#[]⟩, payload, status, due, T, worker, token, til⟩ 3 now 0 0 0 _).mono ?_; rintro e w5 ⟨rfl, hb5⟩; (have HB5 := Aside0.mk (bthen (below_alloc (HB4.out.setCell (p := ⟨w.heap.size, 2, none⟩) (Nat.le_refl _) _) _) hb5)); (have HK5 := Aside0.mk (blk_keep (blk_alloc ((Below.heap_setCell _ ⟨w.heap.size, 2, none⟩ _ _ (by show _ ≠ w.heap.size; omega)).trans HK4.out) _) hb5)); clear q0 q1 q2 q3 q4 q5 q6 q7 q8 q9 k0 k1 k2 k3 k4 k5 k6 k7 k8 k9 f0 f1 f2 f3 f4 f5 f6 f7 f8 f9; obtain ⟨k0, k1, k2, k3, k4, k5, k6, k7, k8, k9⟩ := all10 HK5.out; obtain ⟨f0, f1, f2, f3, f4, f5, f6, f7, f8, f9⟩ := frz10 HK5.out; clear hb5))
              refine bodyPost_ret (results_ct rfl _ _ (w.heap.size + 1 + 1) 35 #[.int .i64 id, .string name, .string ⟨#[]⟩, .string payload, .int .i64 3, .int .i64 now, .int .i64 T, .int .i64 0, .int .i64 0, .int .i64 0] (0, 0) _ rfl (blk10 HK5.out) Tryd.underlying35 rfl (by kernel_rfl)) rfl ?_
              exact ⟨rfl, below_set10 HB5.out (by omega) _ _ _ _ _ _ _ _ _ _⟩
            · have hd : (D == 0) = false := by simpa using h1
              clear h1
              go_wp2_with (first
                | (go_at_call 33; refine (due_int b c t now (T - 1) _ HLM.out (by omega) (by omega) n0 (by omega)).mono ?_; rw [← hV.out, ← hD.out]; rintro e w3 ⟨rfl, hb3⟩; (have HB3 := Aside0.mk (bthen HB2.out hb3)); (have HJ3 := Aside0.mk (blk_keep HJ2.out hb3)); (have HL3 := Aside0.mk (blk_keep HL2.out hb3)); (have HK3 := Aside0.mk (blk_keep HK2.out hb3)); clear j0 j1 j2 j3 j4 j5 j6 j7 j8 j9 l0 l1 l2; obtain ⟨q0, q1, q2, q3, q4, q5, q6, q7, q8, q9⟩ := all10 HJ3.out; obtain ⟨p0, p1, p2, _, _, _⟩ := all3 HL3.out; clear hb3)
                | (go_at_call 32; refine (CA.out _).mono ?_; rintro e w4 ⟨rfl, hb4⟩; (have HB4 := Aside0.mk (bthen HB3.out hb4)); (have HJ4 := Aside0.mk (blk_keep HJ3.out hb4)); (have HK4 := Aside0.mk (blk_keep HK3.out hb4)); (have hlj := blk_lt HJ4.out); (have hlk := blk_lt HK4.out); clear q0 q1 q2 q3 q4 q5 q6 q7 q8 q9 p0 p1 p2; obtain ⟨q0, q1, q2, q3, q4, q5, q6, q7, q8, q9⟩ := all10 HJ4.out; (have g2 := blk_frozen HJ4.out 2); obtain ⟨k0, k1, k2, k3, k4, k5, k6, k7, k8, k9⟩ := all10 HK4.out; obtain ⟨f0, f1, f2, f3, f4, f5, f6, f7, f8, f9⟩ := frz10 HK4.out; clear hb4)
                | (go_at_call 34; refine (hold_any ⟨id, name, ⟨#[]⟩, payload, status, due, T, worker, token, til⟩ 3 now 0 0 0 _).mono ?_; rintro e w5 ⟨rfl, hb5⟩; (have HB5 := Aside0.mk (bthen (below_alloc (HB4.out.setCell (p := ⟨w.heap.size, 2, none⟩) (Nat.le_refl _) _) _) hb5)); (have HK5 := Aside0.mk (blk_keep (blk_alloc ((Below.heap_setCell _ ⟨w.heap.size, 2, none⟩ _ _ (by show _ ≠ w.heap.size; omega)).trans HK4.out) _) hb5)); clear q0 q1 q2 q3 q4 q5 q6 q7 q8 q9 k0 k1 k2 k3 k4 k5 k6 k7 k8 k9 f0 f1 f2 f3 f4 f5 f6 f7 f8 f9; obtain ⟨k0, k1, k2, k3, k4, k5, k6, k7, k8, k9⟩ := all10 HK5.out; obtain ⟨f0, f1, f2, f3, f4, f5, f6, f7, f8, f9⟩ := frz10 HK5.out; clear hb5))
              refine bodyPost_ret (results_ct rfl _ _ (w.heap.size + 1 + 1) 35 #[.int .i64 id, .string name, .string ⟨#[]⟩, .string payload, .int .i64 3, .int .i64 now, .int .i64 T, .int .i64 0, .int .i64 0, .int .i64 0] (0, 0) _ rfl (blk10 HK5.out) Tryd.underlying35 rfl (by kernel_rfl)) rfl ?_
              exact ⟨rfl, below_set10 HB5.out (by omega) _ _ _ _ _ _ _ _ _ _⟩
end Go.Proofs.YteloamnakikbbaaDoor.Job

/- The document's Delay; the law's alive: walked. -/
namespace Go.Proofs.YteloamnakikbbaaDoor.Job
set_option linter.unusedVariables false
set_option linter.unusedSimpArgs false
open Go.RowKit Go.Proofs.YteloamnakikbbaaDoorW.PrintWords Go.Proofs.YteloamnakikbbaaDoorW.PrintLast Go.Proofs.YteloamnakikbbaaDoor.Base Go.Proofs.YteloamnakikbbaaDoor.Cells Go.Proofs.YteloamnakikbbaaDoor.JobPure

theorem pow_succ_int (b : Int) (i : Nat) : b * ((2 ^ (i + 1) : Nat) : Int) = 2 * (b * ((2 ^ i : Nat) : Int)) := by
  rw [Nat.pow_succ]
  push_cast
  rw [← Int.mul_assoc, Int.mul_comm (b * 2 ^ i) 2]
theorem delay_past {b c : Int} {i k : Nat} (h : i ≤ k) (hb : 1 ≤ b) (hc : c ≤ b * ((2 ^ i : Nat) : Int)) : delayP b c k = c := by
  unfold delayP
  have h1 := Nat.pow_le_pow_right (n := 2) (by omega) h
  generalize 2 ^ i = p at h1 hc
  generalize 2 ^ k = q at h1 ⊢
  have h2 : b * (p : Int) ≤ b * (q : Int) := Int.mul_le_mul_of_nonneg_left (by omega) (by omega)
  omega
set_option maxRecDepth 100000 in
theorem rdelay_any (b c t : Int) (k : Nat) (w : World) (hl : limOk b c t = true) (hk : k ≤ 64) :
    Calls Tryd.prog 17 #[.agg #[.int .i64 b, .int .i64 c, .int .i64 t], .int .i64 k] w fun e w' => e = .returned (.tuple #[.int .i64 (delayP b c k), .int .i64 0]) ∧ Below w.heap.size w w' := by
  obtain ⟨b1, b2, bc, c2, t1, t2⟩ := limOk_iff.1 hl
  have hlE : Aside0 (limE b c t = 0) := ⟨by rw [limE, hl]; rfl⟩
  clear hl
  obtain ⟨D, hD⟩ := named (delayP b c k)
  rw [← hD.out]
  have k0 : (0 : Int) ≤ (k : Int) := by omega
  go_enter Tryd.func17, Tryd.ntmps17
  go_wp2_with (go_at_call 9; refine (rlim_any _ _ _ _).mono ?_; rw [hlE.out]; rintro e w1 ⟨rfl, hb1⟩; (have HB1 := Aside0.mk (bthen (below_alloc (Below.refl _ w) _) hb1)); (have HL1 := Aside0.mk (blk_keep (blk_new _ _) hb1)); obtain ⟨l0, l1, l2, _, _, _⟩ := all3 HL1.out; clear hb1)
  go_loopg [6, 7] k (fun g v6 v7 wr => ∃ (i : Nat) (d : Int), v7 = .int .i64 i ∧ g + i = k ∧ v6 = .int .i64 d ∧ Aside0 (d = b * ((2 ^ i : Nat) : Int)) ∧ 1 ≤ d ∧ d ≤ 4294967296 ∧ wr = w1)
  case atStart => exact ⟨0, b, rfl, by omega, rfl, ⟨by simp⟩, b1, by omega, rfl⟩
  case round =>
    obtain ⟨i, d, rfl, hg, rfl, HD, d1, d2, rfl⟩ := hrel
    by_cases hi : i < k
    · by_cases hd : d < c
      · go_wp2
        go_roundg (k - i - 1)
        case measure => omega
        case rel => exact ⟨i + 1, 2 * d, by go_num, by omega, rfl, ⟨by rw [HD.out, pow_succ_int]⟩, by omega, by omega, rfl⟩
      · have HX : Aside0 (min d c = D) := ⟨by rw [hD.out, delay_past (Nat.le_of_lt hi) b1 (by rw [← HD.out]; omega)]; omega⟩
        go_wp2
        go_ret2
        exact ⟨by rw [← HX.out]; rfl, HB1.out⟩
    · obtain rfl : i = k := by omega
      have HX : Aside0 (min d c = D) := ⟨by rw [hD.out, delayP, HD.out]; omega⟩
      go_wp2
      go_ret2
      exact ⟨by rw [← HX.out]; rfl, HB1.out⟩

theorem num_any (n : Int) (w : World) : Calls Tryd.prog 10 #[.int .i64 n] w fun e w' => e = .returned (.int .i64 n) ∧ w = w' := by
  go_enter Tryd.func10, Tryd.ntmps10
  go_wp2
  go_ret
  exact ⟨rfl, rfl⟩
set_option maxRecDepth 100000 in
theorem alive_any (w : World) : Calls Tryd.prog 7 #[] w fun e w' => e = .returned (.bool true) ∧ Below w.heap.size w w' := by
  have CF : Aside0 (∀ W', Calls Tryd.prog 14 #[.agg #[.int .i64 1, .string ⟨#[]⟩, .string ⟨#[]⟩, .string ⟨#[]⟩, .int .i64 2, .int .i64 0, .int .i64 0, .int .i64 1, .int .i64 1, .int .i64 20], .agg #[.int .i64 3, .int .i64 9, .int .i64 4], .int .i64 10] W' fun e w' => e = .returned (.tuple #[.agg #[.int .i64 1, .string ⟨#[]⟩, .string ⟨#[]⟩, .string ⟨#[]⟩, .int .i64 1, .int .i64 13, .int .i64 1, .int .i64 0, .int .i64 0, .int .i64 0], .int .i64 0]) ∧ Below W'.heap.size W' w') := ⟨fun W' => by
    have h := fail_any 0 (fun _ => (0, false)) ⟨1, ⟨#[]⟩, ⟨#[]⟩, ⟨#[]⟩, 2, 0, 0, 1, 1, 20⟩ 3 9 4 10 W' (CronSays.none _ _)
    have e1 : failE 0 ⟨1, ⟨#[]⟩, ⟨#[]⟩, ⟨#[]⟩, 2, 0, 0, 1, 1, 20⟩ 3 9 4 10 = 0 := by decide
    have e2 : failJ 0 (0, false) ⟨1, ⟨#[]⟩, ⟨#[]⟩, ⟨#[]⟩, 2, 0, 0, 1, 1, 20⟩ 3 9 4 10 = ⟨1, ⟨#[]⟩, ⟨#[]⟩, ⟨#[]⟩, 1, 13, 1, 0, 0, 0⟩ := by
      rw [failJ, e1, if_pos rfl, failG, if_pos (by decide)]
      rfl
    rw [e1, e2] at h
    exact h⟩
  go_enter Tryd.func7, Tryd.ntmps7
  go_wp2_with (first
    | (go_at_call 14; refine (CF.out _).mono ?_; rintro e w1 ⟨rfl, hb1⟩; (have HB1 := Aside0.mk (bthen (below_alloc (Below.refl _ w) _) hb1)); clear hb1)
    | (go_at_call 10; refine (num_any _ _).mono ?_; rintro e w2 ⟨rfl, rfl⟩))
  go_ret
  exact ⟨rfl, below_alloc HB1.out _⟩
end Go.Proofs.YteloamnakikbbaaDoor.Job
