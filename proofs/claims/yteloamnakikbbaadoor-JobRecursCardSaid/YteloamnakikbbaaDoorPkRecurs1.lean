/- A part of the proof: Worlds in which the library's tables hold what their initialisers lay: the witness of a row that lists them. -/
import Derived.Test.YteloamnakikbbaaDoorCards
import Derived.Test.YteloamnakikbbaaDoorTie
import Derived.WalkKit
import Derived.ProofKit
import Derived.OpenShut
import Derived.ShutString
import Derived.ChangeOld
import Derived.Below
import Derived.SizedLaws
import Derived.JoinedCond
import Derived.Deep.DeepHandedRow
import Derived.Lib.LaidTab
import Derived.Test.YteloamnakikbbaaDoorWWords
import Derived.Test.YteloamnakikbbaaDoorWLast
import Derived.Test.YteloamnakikbbaaDoorRows
import Derived.Test.YteloamnakikbbaaDoorProg
import Derived.KernelRfl
import Derived.Lib.IndexMore
import Derived.Lib.CutLaws
import Derived.Lib.FieldsP
import Derived.WalkLawsBesides
import Derived.Deep.LoopGhost
import Derived.Deep.DeepCutAuto
import Derived.Deep.CutBlock
import Derived.Shelf.Strings.Cut
import Derived.Shelf.Strings.Search3
import Derived.Shelf.Strings.FieldsFuncGrows
import Derived.Laws.Bits64b
import Derived.Shelf.Vars
import Derived.RangeFuncNested
import Derived.RangeFuncBound
import Derived.RangeFuncCalls
import Derived.RangeFuncLeaves

/- Worlds in which the library's tables hold what their initialisers lay: the witness of a row that lists them. -/
namespace Go.Proofs.YteloamnakikbbaaDoor.Laid
open Go.ChangeShapes Go.WideShapes Go.ChangeAt Go.RowKit
set_option linter.unusedVariables false
theorem own : ownKnob Tryd.prog.godebug = none := by kernel_rfl
theorem laidOut : laidOutB Tryd.prog = true := by kernel_rfl
def u8s (l : List Nat) : Array Value := (l.map fun (n : Nat) => Value.int .u8 (n : Int)).toArray
def bruijn : List Nat := [0, 1, 56, 2, 57, 49, 28, 3, 61, 58, 42, 50, 38, 29, 17, 4, 62, 47, 59, 36, 45, 43, 51, 22, 53, 39, 33, 30, 24, 18, 12, 5, 63, 55, 48, 27, 60, 41, 37, 16, 46, 35, 44, 21, 52, 32, 23, 11, 54, 26, 40, 15, 34, 20, 31, 10, 25, 14, 19, 9, 13, 8, 7, 6]
def accept : List Nat := [128, 191, 160, 191, 128, 159, 144, 191, 128, 143, 0, 0, 0, 0, 0, 0, 0, 0, 0, 0, 0, 0, 0, 0, 0, 0, 0, 0, 0, 0, 0, 0]
def putCells (cs : Array Value) : Obj → Obj
  | .cells _ t f => .cells cs t f
  | o => o
/-- the settled world, the tables (blocks 0, 1, 2) holding what their initialisers lay -/
noncomputable def laidWorld (os : Os) : World :=
  { World.holding Tryd.prog os ⟨#[], #[], []⟩ with heap := (((World.holding Tryd.prog os ⟨#[], #[], []⟩).heap.modify 0 (putCells (u8s bruijn))).modify 1 (putCells (u8s Pinned.utf8FirstZ))).modify 2 (putCells (u8s accept)) }
end Go.Proofs.YteloamnakikbbaaDoor.Laid

/- Small words that all my walks use: what grows and stays of memory. No program. -/
namespace Go.Proofs.YteloamnakikbbaaDoor.Base
open Go.RowKit Go.Proofs.YteloamnakikbbaaDoorW.PrintWords Go.Proofs.YteloamnakikbbaaDoorW.PrintLast

theorem grown_refl (w : World) (r : Option Nat) : w.grownBy w r := ⟨rfl, rfl, rfl, Nat.le_refl _, fun _ _ _ => rfl⟩
theorem grown_trans {a b c : World} {r : Option Nat} (h : a.grownBy b r) (k : b.grownBy c r) : a.grownBy c r :=
  ⟨k.os.trans h.os, k.tape.trans h.tape, k.output.trans h.output, Nat.le_trans h.size k.size, fun i hi hr => (k.block i (Nat.lt_of_lt_of_le hi h.size) hr).trans (h.block i hi hr)⟩
theorem grown_drew {a b : World} {r : Option Nat} (h : a.grownBy b r) : a.grownBy b.drew r := ⟨h.os, h.tape, h.output, h.size, h.block⟩
theorem grown_drewN {a b : World} {r : Option Nat} (h : a.grownBy b r) (n : Nat) : a.grownBy (b.drewN n) r := ⟨h.os, h.tape, h.output, h.size, h.block⟩
theorem grown_alloc {a b : World} {r : Option Nat} (h : a.grownBy b r) (o : Obj) : a.grownBy (b.alloc o) r := grown_trans h (World.grownBy_alloc _ o r)
/-- what was made since w, of a row that lies behind w: nothing of w has turned -/
theorem below_of_grown {w a b : World} {r : Option Nat} (hb : Below w.heap.size w a) (hg : a.grownBy b r) (hr : ∀ k, r = some k → w.heap.size ≤ k) : Below w.heap.size w b := hb.grown hg hb.size hr
theorem below_set {w a : World} (hb : Below w.heap.size w a) {p : Addr} (hp : w.heap.size ≤ p.block) (u : Value) : Below w.heap.size w (a.setCell p u) := hb.setCell hp u
theorem bcell {W w1 : World} (hb : Below W.heap.size W w1) : (∀ b o, b < W.heap.size → w1.cell? ⟨b, o, none⟩ = W.cell? ⟨b, o, none⟩) ∧ (∀ b o, b < W.heap.size → w1.frozen? ⟨b, o, none⟩ = W.frozen? ⟨b, o, none⟩) :=
  ⟨fun b o h => hb.cell (p := ⟨b, o, none⟩) h, fun b o h => hb.frozen (p := ⟨b, o, none⟩) h⟩
theorem bthen {w a b : World} (h : Below w.heap.size w a) (k : Below a.heap.size a b) : Below w.heap.size w b := below_then h h.size k
theorem new_cell (w : World) (cs : Array Value) (e : TypeId) (j : Nat) (v : Value) (h : cs[j]? = some v) : (w.alloc (.cells cs e)).cell? ⟨w.heap.size, j, none⟩ = some v := by
  rw [blk_cell (heap_alloc_new w _)]; exact h
/-- a cell of the block that was made last, behind what left all blocks as they were -/
theorem new_later {w w1 : World} {cs : Array Value} {e : TypeId} (hb : Below (w.alloc (.cells cs e)).heap.size (w.alloc (.cells cs e)) w1) (j : Nat) (v : Value) (h : cs[j]? = some v) : w1.cell? ⟨w.heap.size, j, none⟩ = some v :=
  (hb.cell (p := ⟨w.heap.size, j, none⟩) (by simp)).trans (new_cell w cs e j v h)
/-- an elder cell, behind a new block and what left all blocks as they were -/
theorem old_later {w w1 : World} {o : Obj} (hb : Below (w.alloc o).heap.size (w.alloc o) w1) {a : Addr} {v : Value} (h : w.cell? a = some v) : w1.cell? a = some v := by
  have hl := World.block_lt_of_cell? w a h
  refine (hb.cell (p := a) (by simp; omega)).trans ?_
  rw [World.cell?_of_block (Below.heap_alloc w o a.block hl)]; exact h
/-- a value with a name, its equation put aside -/
theorem named {α : Type} (x : α) : ∃ y, Aside0 (y = x) := ⟨x, ⟨rfl⟩⟩

theorem snocInd {α : Type} {p : List α → Prop} (h0 : p []) (h1 : ∀ l c, p l → p (l ++ [c])) (l : List α) : p l := by
  have h : ∀ l : List α, p l.reverse := by
    intro l
    induction l with
    | nil => exact h0
    | cons c l ih => rw [List.reverse_cons]; exact h1 _ _ ih
  have := h l.reverse
  rwa [List.reverse_reverse] at this
end Go.Proofs.YteloamnakikbbaaDoor.Base

/- Jobs and limits in plain Lean: what the program and the document compute. No program. -/
namespace Go.Proofs.YteloamnakikbbaaDoor.JobPure
set_option linter.unusedVariables false
set_option linter.unusedSimpArgs false
open Go.RowKit

structure Jb where
  id : Int
  name : ByteArray
  rule : ByteArray
  payload : ByteArray
  status : Int
  due : Int
  tries : Int
  worker : Int
  token : Int
  til : Int
abbrev jc (j : Jb) : Array Value := #[.int .i64 j.id, .string j.name, .string j.rule, .string j.payload, .int .i64 j.status, .int .i64 j.due, .int .i64 j.tries, .int .i64 j.worker, .int .i64 j.token, .int .i64 j.til]
abbrev jv (j : Jb) : Value := .agg #[.int .i64 j.id, .string j.name, .string j.rule, .string j.payload, .int .i64 j.status, .int .i64 j.due, .int .i64 j.tries, .int .i64 j.worker, .int .i64 j.token, .int .i64 j.til]
def j0 : Jb := ⟨0, ⟨#[]⟩, ⟨#[]⟩, ⟨#[]⟩, 0, 0, 0, 0, 0, 0⟩

def limOk (b c t : Int) : Bool := decide (1 ≤ b ∧ b ≤ 1048576 ∧ b ≤ c ∧ c ≤ 1073741824 ∧ 1 ≤ t ∧ t ≤ 16)
def limE (b c t : Int) : Int := if limOk b c t then 0 else 4
def delayP (b c : Int) (k : Nat) : Int := min c (b * (2 ^ k : Nat))

theorem limOk_iff {b c t : Int} : limOk b c t = true ↔ (1 ≤ b ∧ b ≤ 1048576 ∧ b ≤ c ∧ c ≤ 1073741824 ∧ 1 ≤ t ∧ t ≤ 16) := by simp [limOk]
theorem delay_bd {b c : Int} (k : Nat) (hb : 1 ≤ b) (hc : 1 ≤ c) : 1 ≤ delayP b c k ∧ delayP b c k ≤ c := by
  unfold delayP
  have h1 := Nat.one_le_two_pow (n := k)
  generalize 2 ^ k = p at h1 ⊢
  have h2 : 1 * 1 ≤ b * (p : Int) := Int.mul_le_mul hb (by omega) (by omega) (by omega)
  omega
/-- beyond as many doublings as the cap has bits it is the cap -/
theorem delay_cap {b c : Int} {k : Nat} (hb : 1 ≤ b) (hc : c < (2 ^ k : Nat)) : delayP b c k = c := by
  unfold delayP
  generalize 2 ^ k = p at hc ⊢
  have h2 : (p : Int) ≤ b * (p : Int) := by
    have := Int.mul_le_mul_of_nonneg_right hb (show (0 : Int) ≤ (p : Int) by omega)
    rwa [Int.one_mul] at this
  omega

def hmay (w t u : Int) : Bool := decide (1 ≤ w ∧ w ≤ 2147483648 ∧ 1 ≤ t ∧ t ≤ 1099511627776 ∧ 0 ≤ u ∧ u ≤ 32503680000)
def hnone (w t u : Int) : Bool := decide (w = 0 ∧ t = 0 ∧ u = 0)
/-- the numbers and the sizes of a job -/
def chkA (j : Jb) : Bool := decide (1 ≤ j.id ∧ j.id ≤ 1099511627776 ∧ j.name.size ≤ 32 ∧ j.payload.size ≤ 200 ∧ 0 ≤ j.due ∧ j.due ≤ 32503680000 ∧ 0 ≤ j.tries ∧ j.tries ≤ 16)
/-- who holds it, by its status -/
def chkB (j : Jb) : Bool := if j.status = 2 then hmay j.worker j.token j.til && decide (j.due = 0) else if j.status = 3 then decide (j.rule.size = 0) && hnone j.worker j.token j.til else if j.status = 1 then hnone j.worker j.token j.til else false
/-- its rule; pe is what reading it tells -/
def chkC (pe : Int) (j : Jb) : Bool := decide (j.rule.size = 0) || (pe == 0 && decide (j.rule.size ≤ 200))
def chk (pe : Int) (j : Jb) : Bool := chkA j && chkB j && chkC pe j
def chkE (pe : Int) (j : Jb) : Int := if chk pe j then 0 else 9
/-- hold -/
def holdJ (j : Jb) (s d w t u : Int) : Jb := { j with status := s, due := d, worker := w, token := t, til := u }
/-- Lease -/
def leaseE (pe : Int) (j : Jb) (w t u : Int) : Int := if chk pe j then (if j.status = 1 then (if hmay w t u then 0 else 4) else 81) else 9
def leaseJ (pe : Int) (j : Jb) (w t u : Int) : Jb := if leaseE pe j w t u = 0 then holdJ j 2 0 w t u else j0
/-- leased -/
def leasedE (j : Jb) (now : Int) : Int := if j.status = 2 then (if 0 ≤ now ∧ now ≤ 32503679999 then 0 else 4) else 81
/-- again: nx is when its rule comes next -/
def againJ (nx : Int × Bool) (j : Jb) : Jb × Bool := if j.rule.size = 0 then (j0, false) else (holdJ { j with tries := 0 } 1 nx.1 0 0 0, nx.2)
def failE (pe : Int) (j : Jb) (b c t now : Int) : Int := if chk pe j then (if limOk b c t then leasedE j now else 4) else 9
def failT (j : Jb) : Int := min (j.tries + 1) 16
/-- Fail of a job that is leased -/
def failG (nx : Int × Bool) (j : Jb) (b c t now : Int) : Jb :=
  if now + delayP b c (failT j - 1).toNat < 32503680000 ∧ failT j < t then holdJ { j with tries := failT j } 1 (now + delayP b c (failT j - 1).toNat) 0 0 0
  else if (againJ nx { j with tries := failT j }).2 then (againJ nx { j with tries := failT j }).1
  else holdJ { j with tries := failT j, rule := ⟨#[]⟩ } 3 now 0 0 0
def failJ (pe : Int) (nx : Int × Bool) (j : Jb) (b c t now : Int) : Jb := if failE pe j b c t now = 0 then failG nx j b c t now else j0
def finE (pe : Int) (j : Jb) (now : Int) : Int := if chk pe j then leasedE j now else 9
end Go.Proofs.YteloamnakikbbaaDoor.JobPure

/- Limits and jobs that are handed in, read out of 'DataW.trod'. -/
namespace Go.Proofs.YteloamnakikbbaaDoor.LiftJ
set_option linter.unusedVariables false
open Go.ChangeShapes Go.WideShapes Go.ChangeAt Go.RowKit Go.Proofs.YteloamnakikbbaaDoorW.PrintWords Go.Proofs.YteloamnakikbbaaDoorW.PrintLast Go.Proofs.YteloamnakikbbaaDoor.Base

section
variable {H : Type} {enc : TypeId × Value → H} {P : Program} {W : World} {base : Nat} {spare : Nat → Bool} {held : Bool}
theorem trod_int {t : TypeId} {k : IntKind} (hu : P.underlying t = some (.int k)) {fuel : Nat} {v : Value} {d : DataW H} {p : List MemPlace} (h : DataW.trod enc P W base spare held fuel t [v] = some (d, p)) : ∃ n, v = .int k n ∧ d = .lit (.int k n) ∧ (Lit.int k n).wf = true := by
  cases fuel with
  | zero => simp [DataW.trod] at h
  | succ fuel =>
    unfold DataW.trod at h
    rw [hu] at h
    cases v <;> simp at h
    rename_i k' n
    exact ⟨n, by rw [h.1.1], h.2.1.symm, h.1.2⟩
theorem trod_str {t : TypeId} (hu : P.underlying t = some .string) {fuel : Nat} {v : Value} {d : DataW H} {p : List MemPlace} (h : DataW.trod enc P W base spare held fuel t [v] = some (d, p)) : ∃ s, v = .string s ∧ d = .lit (.string s.data.toList) := by
  cases fuel with
  | zero => simp [DataW.trod] at h
  | succ fuel =>
    unfold DataW.trod at h
    rw [hu] at h
    cases v <;> simp at h
    rename_i s
    exact ⟨s, rfl, h.2.1.symm⟩
theorem mapM_each {α β : Type} (f : α → Option β) : ∀ (l : List α) (ys : List β), l.mapM f = some ys → ys.length = l.length ∧ ∀ (i : Nat) (x : α), l[i]? = some x → ∃ y, f x = some y ∧ ys[i]? = some y
  | [], ys, h => by
    simp at h
    subst h
    exact ⟨rfl, fun i x hx => by simp at hx⟩
  | a :: l, ys, h => by
    rw [List.mapM_cons] at h
    obtain ⟨y, h1, h2⟩ := Option.bind_eq_some_iff.1 h
    obtain ⟨zs, h3, h4⟩ := Option.bind_eq_some_iff.1 h2
    have h5 : ys = y :: zs := by simpa using h4.symm
    subst h5
    obtain ⟨e1, e2⟩ := mapM_each f l zs h3
    refine ⟨by simp [e1], fun i x hx => ?_⟩
    cases i with
    | zero => simp at hx; subst hx; exact ⟨y, h1, rfl⟩
    | succ i => exact e2 i x (by simpa using hx)
end
set_option maxRecDepth 100000 in
set_option maxHeartbeats 1000000 in
theorem trod_lim {H : Type} {enc : TypeId × Value → H} {W : World} {base : Nat} {spare : Nat → Bool} {held : Bool} {fuel : Nat} {v : Value} {d : DataW H} {p : List MemPlace} (hv : ∃ cs, v = .agg cs)
    (h : DataW.trod enc Tryd.prog W base spare held fuel 23 v.cells.toList = some (d, p)) : ∃ b c t, v = .agg #[.int .i64 b, .int .i64 c, .int .i64 t] := by
  obtain ⟨cs, rfl⟩ := hv
  have hcs : (Value.agg cs).cells.toList = cs.toList := rfl
  rw [hcs] at h
  cases fuel with
  | zero => simp [DataW.trod] at h
  | succ fuel =>
    unfold DataW.trod at h
    rw [Tryd.underlying23] at h
    have hc : Tryd.prog.cellsOf 23 = 3 := by kernel_rfl
    have hi : Tryd.prog.cellsOf 3 = 1 := by kernel_rfl
    simp only [hc] at h
    by_cases hl : cs.toList.length = 3
    · rw [if_pos hl] at h
      obtain ⟨v0, v1, v2, hcl⟩ : ∃ v0 v1 v2, cs.toList = [v0, v1, v2] := by
        generalize cs.toList = L at hl
        rcases L with _ | ⟨v0, _ | ⟨v1, _ | ⟨v2, _ | ⟨v3, r⟩⟩⟩⟩ <;> simp at hl
        exact ⟨v0, v1, v2, rfl⟩
      rw [hcl] at h
      obtain ⟨xs, h1, h2⟩ := Option.map_eq_some_iff.1 h
      obtain ⟨e1, e2⟩ := mapM_each _ _ _ h1
      obtain ⟨y0, f0, g0⟩ := e2 0 _ rfl
      obtain ⟨y1, f1, g1⟩ := e2 1 _ rfl
      obtain ⟨y2, f2, g2⟩ := e2 2 _ rfl
      simp only [hi, List.drop_zero, List.drop_succ_cons, List.take_succ_cons, List.take_zero] at f0 f1 f2
      obtain ⟨d0, p0⟩ := y0
      obtain ⟨d1, p1⟩ := y1
      obtain ⟨d2, p2⟩ := y2
      obtain ⟨b, rfl, _⟩ := trod_int Tryd.underlying3 f0
      obtain ⟨c, rfl, _⟩ := trod_int Tryd.underlying3 f1
      obtain ⟨t, rfl, _⟩ := trod_int Tryd.underlying3 f2
      exact ⟨b, c, t, congrArg Value.agg (Array.toList_inj.1 hcl)⟩
    · rw [if_neg hl] at h; cases h
end Go.Proofs.YteloamnakikbbaaDoor.LiftJ

/- Numbers as decimal digits and the names of chapter 14, in plain Lean: no program. -/
namespace Go.Proofs.YteloamnakikbbaaDoor.NamesPure
open Go.RowKit Go.Proofs.YteloamnakikbbaaDoorW.PrintWords Go.Proofs.YteloamnakikbbaaDoor.Base

/-- decimal digits as octets, the least first -/
def digs (n : Nat) : List Int := if _h : n = 0 then [] else (48 + (n % 10 : Nat) : Int) :: digs (n / 10)
decreasing_by omega

theorem digs_zero : digs 0 = [] := by rw [digs]; simp
theorem digs_pos {n : Nat} (h : 0 < n) : digs n = (48 + (n % 10 : Nat) : Int) :: digs (n / 10) := by rw [digs]; rw [dif_neg (by omega)]

theorem digs_range : ∀ (n : Nat), ∀ c ∈ digs n, 48 ≤ c ∧ c ≤ 57 := by
  intro n
  induction n using Nat.strongRecOn with
  | _ n ih =>
    intro c hc
    by_cases h : n = 0
    · subst h; simp [digs_zero] at hc
    · rw [digs_pos (by omega)] at hc
      rcases List.mem_cons.1 hc with rfl | hc
      · omega
      · exact ih (n / 10) (by omega) c hc

/-- the value of digits, the least first -/
def valR : List Int → Int
  | [] => 0
  | c :: l => 10 * valR l + (c - 48)

theorem valR_digs (n : Nat) : valR (digs n) = n := by
  induction n using Nat.strongRecOn with
  | _ n ih =>
    by_cases h : n = 0
    · subst h; simp [digs_zero, valR]
    · rw [digs_pos (by omega), valR, ih (n / 10) (by omega)]; omega

theorem valR_nonneg : ∀ (l : List Int), (∀ c ∈ l, 48 ≤ c ∧ c ≤ 57) → 0 ≤ valR l
  | [], _ => by simp [valR]
  | c :: l, h => by
    have := valR_nonneg l (fun x hx => h x (List.mem_cons_of_mem _ hx))
    have := h c (List.mem_cons_self)
    rw [valR]; omega

/-- digits whose last (greatest) one is no nought are those of their value -/
theorem digs_valR : ∀ (l : List Int), (∀ c ∈ l, 48 ≤ c ∧ c ≤ 57) → (∀ c, l.getLast? = some c → c ≠ 48) → digs (valR l).toNat = l
  | [], _, _ => by simp [valR, digs_zero]
  | [c], h, h2 => by
    have h3 := h c (List.mem_cons_self)
    have h4 := h2 c rfl
    simp only [valR]
    rw [digs_pos (by omega)]
    have e : ((10 * 0 + (c - 48)).toNat / 10) = 0 := by omega
    rw [e, digs_zero]
    congr 1
    omega
  | c :: d :: l, h, h2 => by
    have hl := valR_nonneg (d :: l) (fun x hx => h x (List.mem_cons_of_mem _ hx))
    have hc := h c (List.mem_cons_self)
    have ih := digs_valR (d :: l) (fun x hx => h x (List.mem_cons_of_mem _ hx)) (fun x hx => h2 x (by rw [List.getLast?_cons_cons]; exact hx))
    have hpos : 0 < valR (d :: l) := by
      rcases Int.lt_or_eq_of_le hl with h | h
      · exact h
      · rw [← h] at ih; simp [digs_zero] at ih
    rw [valR, digs_pos (by omega)]
    have e : ((10 * valR (d :: l) + (c - 48)).toNat / 10) = (valR (d :: l)).toNat := by omega
    rw [e, ih]
    congr 1
    omega

/-- the value of digits, the greatest first, as a loop goes -/
def valF (l : List Int) : Int := l.foldl (fun a c => 10 * a + (c - 48)) 0

theorem valF_snoc (l : List Int) (c : Int) : valF (l ++ [c]) = 10 * valF l + (c - 48) := by simp [valF]
theorem valF_eq (l : List Int) : valF l = valR l.reverse := by
  induction l using snocInd with
  | h0 => rfl
  | h1 l c ih => rw [valF_snoc, List.reverse_append]; simp [valR, ih]
theorem valF_bound (l : List Int) (h : ∀ c ∈ l, 48 ≤ c ∧ c ≤ 57) : 0 ≤ valF l ∧ valF l < 10 ^ l.length := by
  induction l using snocInd with
  | h0 => simp [valF]
  | h1 l c ih =>
    have ih := ih (fun x hx => h x (by simp [hx]))
    have hc := h c (by simp)
    rw [valF_snoc, List.length_append, List.length_singleton, Int.pow_succ]
    omega

/-- is it an octet that begins a name -/
def isKind (k : Int) : Bool := k == 109 || k == 108 || k == 116

/-- a name's octets -/
def nameL (k : Int) (n : Nat) : List Int := k :: (digs n).reverse

def nameOk (k id : Int) : Bool := isKind k && decide (1 ≤ id) && decide (id ≤ 2147483647)
def nameS (k id : Int) : ByteArray := if nameOk k id then strOfNums (nameL k id.toNat) else ⟨#[]⟩
def nameE (k id : Int) : Int := if !isKind k then 22 else if id < 1 ∨ 2147483647 < id then 4 else 0

/-- do octets make a name -/
def parseOk (l : List Int) : Bool :=
  decide (2 ≤ l.length) && decide (l.length ≤ 11) && isKind (l.getD 0 0) && (l.getD 1 0 != 48) && (l.drop 1).all (fun c => decide (48 ≤ c) && decide (c ≤ 57)) && decide (valF (l.drop 1) ≤ 2147483647)
def parseK (l : List Int) : Int := if parseOk l then l.getD 0 0 else 0
def parseN (l : List Int) : Int := if parseOk l then valF (l.drop 1) else 0

theorem digs_len_le : ∀ (k n : Nat), n < 10 ^ k → (digs n).length ≤ k := by
  intro k
  induction k with
  | zero => intro n h; obtain rfl : n = 0 := by omega
            simp [digs_zero]
  | succ k ih =>
    intro n h
    by_cases h0 : n = 0
    · subst h0; simp [digs_zero]
    · rw [digs_pos (by omega), List.length_cons]
      have := ih (n / 10) (by rw [Nat.pow_succ] at h; omega)
      omega

theorem digs_last : ∀ (n : Nat) (c : Int), (digs n).getLast? = some c → c ≠ 48 := by
  intro n
  induction n using Nat.strongRecOn with
  | _ n ih =>
    intro c hc
    by_cases h : n = 0
    · subst h; simp [digs_zero] at hc
    · rw [digs_pos (by omega)] at hc
      by_cases h1 : n / 10 = 0
      · rw [h1, digs_zero] at hc
        simp at hc
        omega
      · have ih := ih (n / 10) (by omega) c
        have hd := digs_pos (n := n / 10) (by omega)
        rw [hd, List.getLast?_cons_cons, ← hd] at hc
        exact ih hc

theorem digs_ne_nil {n : Nat} (h : 0 < n) : digs n ≠ [] := by rw [digs_pos h]; simp

/-- a name says what it was made of -/
theorem parse_name (k : Int) (n : Nat) (hk : isKind k = true) (h1 : 1 ≤ n) (h2 : n ≤ 2147483647) :
    parseOk (nameL k n) = true ∧ parseK (nameL k n) = k ∧ parseN (nameL k n) = n := by
  have hl : (digs n).length ≤ 10 := digs_len_le 10 n (by omega)
  have hne := digs_ne_nil (n := n) (by omega)
  have hpos : 0 < (digs n).length := List.length_pos_iff.2 hne
  have hv : valF (digs n).reverse = n := by rw [valF_eq, List.reverse_reverse, valR_digs]
  have hd : (nameL k n).drop 1 = (digs n).reverse := rfl
  have h0 : (nameL k n).getD 0 0 = k := rfl
  have hg : (nameL k n).getD 1 0 ≠ 48 := by
    have : (nameL k n).getD 1 0 = (digs n).reverse.getD 0 0 := rfl
    rw [this]
    have hh : (digs n).reverse.head? = (digs n).getLast? := List.head?_reverse
    cases hrev : (digs n).reverse with
    | nil => simp at hrev; exact absurd hrev hne
    | cons c l =>
      rw [hrev] at hh
      simp only [List.getD_cons_zero]
      exact digs_last n c hh.symm
  have hok : parseOk (nameL k n) = true := by
    unfold parseOk
    rw [hd, h0, hv, hk]
    have ha : (digs n).reverse.all (fun c => decide (48 ≤ c) && decide (c ≤ 57)) = true := by
      rw [List.all_eq_true]
      intro c hc
      have := digs_range n c (by simpa using hc)
      simp [this]
    rw [ha]
    have hlen : (nameL k n).length = (digs n).length + 1 := by simp [nameL]
    simp only [hlen, bne_iff_ne, ne_eq, hg, not_false_eq_true, Bool.and_true, Bool.and_eq_true, decide_eq_true_eq]
    refine ⟨⟨⟨by omega, by omega⟩, by simp⟩, by omega⟩
  exact ⟨hok, by rw [parseK, if_pos hok, h0], by rw [parseN, if_pos hok, hd, hv]⟩

/-- octets that make a name are the name of what they say -/
theorem name_parse (l : List Int) (h : parseOk l = true) : nameL (parseK l) (parseN l).toNat = l ∧ isKind (parseK l) = true ∧ 1 ≤ parseN l ∧ parseN l ≤ 2147483647 := by
  have h' := h
  unfold parseOk at h
  simp only [Bool.and_eq_true, decide_eq_true_eq, bne_iff_ne, ne_eq, List.all_eq_true] at h
  obtain ⟨⟨⟨⟨⟨h2, h11⟩, hk⟩, hz⟩, hd⟩, hv⟩ := h
  have eK : parseK l = l.getD 0 0 := by rw [parseK, if_pos h']
  have eN : parseN l = valF (l.drop 1) := by rw [parseN, if_pos h']
  match l, h2 with
  | a :: b :: l, _ =>
    simp only [List.drop_succ_cons, List.drop_zero, List.getD_cons_zero] at hd hv eK eN hk
    have hb : b ≠ 48 := by simpa using hz
    have hdg : digs (valR (b :: l).reverse).toNat = (b :: l).reverse := digs_valR _ (fun c hc => hd c (List.mem_reverse.1 hc)) (fun c hc => by
      rw [List.getLast?_reverse] at hc; simp at hc; rw [← hc]; exact hb)
    have hpos : 1 ≤ valF (b :: l) := by
      rw [valF_eq]
      have h0 := valR_nonneg (b :: l).reverse (fun c hc => hd c (List.mem_reverse.1 hc))
      rcases Int.lt_or_eq_of_le h0 with h | h
      · omega
      · rw [← h] at hdg; simp [digs_zero] at hdg
    refine ⟨?_, by rw [eK]; exact hk, by rw [eN]; exact hpos, by rw [eN]; exact hv⟩
    rw [eK, eN, nameL, valF_eq, hdg, List.reverse_reverse]

/-- a list turned round by i exchanges from both ends -/
def revTo (l : List Int) (i : Nat) : List Int := (List.range l.length).map fun j => if j < i ∨ l.length - i ≤ j then l.getD (l.length - 1 - j) 0 else l.getD j 0
theorem revTo_length (l : List Int) (i : Nat) : (revTo l i).length = l.length := by simp [revTo]
theorem revTo_get (l : List Int) (i j : Nat) (h : j < l.length) : (revTo l i)[j]? = some (if j < i ∨ l.length - i ≤ j then l.getD (l.length - 1 - j) 0 else l.getD j 0) := by
  simp [revTo, List.getElem?_map, List.getElem?_range h]
theorem revTo_zero (l : List Int) : revTo l 0 = l := by
  refine List.ext_getElem? fun j => ?_
  by_cases h : j < l.length
  · rw [revTo_get l 0 j h, if_neg (by omega)]
    simp [List.getD_eq_getElem?_getD, List.getElem?_eq_getElem h]
  · rw [List.getElem?_eq_none (by rw [revTo_length]; omega), List.getElem?_eq_none (by omega)]
theorem revTo_end (l : List Int) (i : Nat) (h : l.length ≤ 2 * i + 1) : revTo l i = l.reverse := by
  refine List.ext_getElem? fun j => ?_
  by_cases hj : j < l.length
  · rw [revTo_get l i j hj, List.getElem?_reverse hj]
    have e : (if j < i ∨ l.length - i ≤ j then l.getD (l.length - 1 - j) 0 else l.getD j 0) = l.getD (l.length - 1 - j) 0 := by
      split
      · rfl
      · congr 1; omega
    rw [e, List.getD_eq_getElem?_getD, List.getElem?_eq_getElem (show l.length - 1 - j < l.length by omega)]
    rfl
  · rw [List.getElem?_eq_none (by rw [revTo_length]; omega), List.getElem?_eq_none (by simp; omega)]
theorem revTo_step (l : List Int) (i : Nat) (h : 2 * i + 1 < l.length) :
    ((revTo l i).set i (rd (revTo l i) ((l.length - 1 - i : Nat) : Int))).set (l.length - 1 - i) (rd (revTo l i) (i : Int)) = revTo l (i + 1) := by
  have r1 : rd (revTo l i) ((l.length - 1 - i : Nat) : Int) = l.getD (l.length - 1 - i) 0 := by
    rw [rd, Int.toNat_natCast, List.getD_eq_getElem?_getD, revTo_get l i _ (by omega), if_neg (by omega)]; rfl
  have r2 : rd (revTo l i) (i : Int) = l.getD i 0 := by
    rw [rd, Int.toNat_natCast, List.getD_eq_getElem?_getD, revTo_get l i _ (by omega), if_neg (by omega)]; rfl
  rw [r1, r2]
  refine List.ext_getElem? fun j => ?_
  by_cases hj : j < l.length
  · rw [revTo_get l (i + 1) j hj, List.getElem?_set, List.getElem?_set, List.length_set, revTo_length, revTo_get l i j hj]
    by_cases h1 : l.length - 1 - i = j
    · rw [if_pos h1, if_pos (by omega), if_pos (by omega)]
      congr 2; omega
    · rw [if_neg h1]
      by_cases h2 : i = j
      · rw [if_pos h2, if_pos (by omega), if_pos (by omega)]
        congr 2; omega
      · rw [if_neg h2]
        by_cases h3 : j < i ∨ l.length - i ≤ j
        · rw [if_pos h3, if_pos (by omega)]
        · rw [if_neg h3, if_neg (by omega)]
  · rw [List.getElem?_eq_none (by rw [List.length_set, List.length_set, revTo_length]; omega), List.getElem?_eq_none (by rw [revTo_length]; omega)]

end Go.Proofs.YteloamnakikbbaaDoor.NamesPure

/- Rules (chapter 17) in plain Lean: what the program's cron.Parse computes. No program. -/
namespace Go.Proofs.YteloamnakikbbaaDoor.CronPure
set_option linter.unusedVariables false
set_option linter.unusedSimpArgs false
open Go.Proofs.YteloamnakikbbaaDoor.NamesPure

def digB (c : UInt8) : Bool := 48 ≤ c && c ≤ 57
def numOk (l : List UInt8) : Bool := decide (1 ≤ l.length) && decide (l.length ≤ 2) && l.all digB
def valB (l : List UInt8) : Int := valF (l.map fun c => (c.toNat : Int))
def numV (l : List UInt8) : Int := if numOk l then valB l else 0
theorem digB_iff {c : UInt8} : digB c = true ↔ 48 ≤ (c.toNat : Int) ∧ (c.toNat : Int) ≤ 57 := by
  simp only [digB, Bool.and_eq_true, decide_eq_true_eq, UInt8.le_iff_toNat_le]
  have : (48 : UInt8).toNat = 48 := rfl
  have : (57 : UInt8).toNat = 57 := rfl
  omega
theorem valB_snoc (l : List UInt8) (c : UInt8) : valB (l ++ [c]) = 10 * valB l + ((c.toNat : Int) - 48) := by
  rw [valB, List.map_append, List.map_singleton, valF_snoc]; rfl
theorem valB_bd (l : List UInt8) (h : l.all digB = true) : 0 ≤ valB l ∧ valB l < 10 ^ l.length := by
  have h2 := valF_bound (l.map fun c => (c.toNat : Int)) (fun x hx => by
    obtain ⟨c, hc, rfl⟩ := List.mem_map.1 hx
    exact digB_iff.1 (List.all_eq_true.1 h c hc))
  rw [List.length_map] at h2
  exact h2
theorem numV_bd (l : List UInt8) : 0 ≤ numV l ∧ numV l ≤ 99 := by
  unfold numV
  split
  · rename_i h
    simp only [numOk, Bool.and_eq_true, decide_eq_true_eq] at h
    have h1 := valB_bd l h.2
    have h2 : (10 : Int) ^ l.length ≤ 10 ^ 2 := by exact_mod_cast Nat.pow_le_pow_right (by decide : 0 < 10) h.1.2
    omega
  · omega

/-- a set of numbers from one to another one, by steps -/
def setTo (low step : Nat) (k : Nat) : Nat := (List.range k).foldl (fun s j => s ||| 2 ^ (low + j * step)) 0
theorem setTo_succ (low step k : Nat) : setTo low step (k + 1) = setTo low step k ||| 2 ^ (low + k * step) := by
  rw [setTo, List.range_succ, List.foldl_append]; rfl
/-- how many numbers there are -/
def many (low high step : Nat) : Nat := if low ≤ high then (high - low) / step + 1 else 0
def setOf (low high step : Nat) : Nat := setTo low step (many low high step)
theorem setTo_bit (low step k : Nat) (i : Nat) : (setTo low step k).testBit i = true ↔ ∃ j, j < k ∧ i = low + j * step := by
  induction k with
  | zero => simp [setTo]
  | succ k ih =>
    rw [setTo_succ, Nat.testBit_or, Bool.or_eq_true, ih, Nat.testBit_two_pow]
    simp only [decide_eq_true_eq]
    constructor
    · rintro (⟨j, hj, rfl⟩ | h)
      · exact ⟨j, by omega, rfl⟩
      · exact ⟨k, by omega, h.symm⟩
    · rintro ⟨j, hj, rfl⟩
      by_cases h : j = k
      · exact .inr (by rw [h])
      · exact .inl ⟨j, by omega, rfl⟩
theorem setTo_lt (low step k n : Nat) (h : ∀ j, j < k → low + j * step < n) : setTo low step k < 2 ^ n := by
  induction k with
  | zero => exact Nat.two_pow_pos n
  | succ k ih =>
    rw [setTo_succ]
    exact Nat.or_lt_two_pow (ih fun j hj => h j (by omega)) (Nat.pow_lt_pow_right (by omega) (h k (by omega)))

/-- what an item means, but its step: from, to, whether it is wide, whether it may be -/
def spreadP (lo hi : Int) (l : List UInt8) : Int × Int × Bool × Bool :=
  if l = [42] then (lo, hi, true, true)
  else
    let x := Lib.cut l [45]
    let b := if x.2.2 then x.2.1 else x.1
    (numV x.1, numV b, x.2.2, numOk x.1 && (numOk b && (decide (lo ≤ numV x.1) && (decide (numV b ≤ hi) && decide (numV x.1 ≤ numV b)))))
/-- an item's set; none: it is none -/
def itemP (lo hi : Int) (l : List UInt8) : Option Nat :=
  let x := Lib.cut l [47]
  if x.2.2 && (!numOk x.2.1 || decide (numV x.2.1 = 0)) then none
  else
    let r := spreadP lo hi x.1
    if !r.2.2.2 || (x.2.2 && !r.2.2.1) then none
    else some (setOf r.1.toNat r.2.1.toNat (if x.2.2 then (numV x.2.1).toNat else 1))
/-- a field's set, behind a set that is there -/
def fieldF (lo hi : Int) : Nat → Nat → List UInt8 → Option Nat
  | 0, _, _ => none
  | f + 1, set, l =>
    match itemP lo hi (Lib.cut l [44]).1 with
    | none => none
    | some x => if (Lib.cut l [44]).2.2 then fieldF lo hi f (set ||| x) (Lib.cut l [44]).2.1 else some (set ||| x)
def fieldP (lo hi : Int) (l : List UInt8) : Option Nat := fieldF lo hi (l.length + 1) 0 l
end Go.Proofs.YteloamnakikbbaaDoor.CronPure

/- cron.number, walked. -/
namespace Go.Proofs.YteloamnakikbbaaDoor.Cron
set_option linter.unusedVariables false
set_option linter.unusedSimpArgs false
open Go.RowKit Go.Proofs.YteloamnakikbbaaDoorW.PrintWords Go.Proofs.YteloamnakikbbaaDoorW.PrintLast Go.Proofs.YteloamnakikbbaaDoor.Base Go.Proofs.YteloamnakikbbaaDoor.CronPure Go.Proofs.YteloamnakikbbaaDoor.NamesPure

theorem rd_bytes (s : ByteArray) (j : Nat) (h : j < s.size) : ∃ b : UInt8, s.data.toList[j]? = some b ∧ rd (bytesOf s) (j : Int) = (b.toNat : Int) := by
  have h' : j < s.data.toList.length := by simpa using h
  refine ⟨s.data.toList[j], List.getElem?_eq_getElem h', ?_⟩
  rw [rd, Int.toNat_natCast, List.getD_eq_getElem?_getD, bytesOf, List.getElem?_map, List.getElem?_eq_getElem h']
  rfl
theorem numOk_no {l : List UInt8} (h : l.length < 1 ∨ 2 < l.length) : numOk l = false ∧ numV l = 0 := by
  have : numOk l = false := by
    rw [numOk]
    rcases h with h | h
    · have : decide (1 ≤ l.length) = false := decide_eq_false (by omega)
      rw [this]; rfl
    · have : decide (l.length ≤ 2) = false := decide_eq_false (by omega)
      rw [this, Bool.and_false]; rfl
  exact ⟨this, by rw [numV, this]; rfl⟩
set_option maxRecDepth 100000 in
set_option maxHeartbeats 1000000 in
theorem number_any (s : ByteArray) (w : World) (hs : s.size ≤ 9223372036854775807) :
    Calls Tryd.prog 67 #[.string s] w fun e w' => e = .returned (.tuple #[.int .i64 (numV s.data.toList), .bool (numOk s.data.toList)]) ∧ Below w.heap.size w w' := by
  have hsz : s.data.toList.length = s.size := by simp
  by_cases h1 : s.size < 1
  · have h := numOk_no (l := s.data.toList) (.inl (by omega))
    rw [h.1, h.2]
    clear h
    go_enter Tryd.func67, Tryd.ntmps67
    go_wp2
    go_ret2
    exact ⟨rfl, Below.refl _ _⟩
  · by_cases h2 : 2 < s.size
    · have h := numOk_no (l := s.data.toList) (.inr (by omega))
      rw [h.1, h.2]
      clear h
      go_enter Tryd.func67, Tryd.ntmps67
      go_wp2
      go_ret2
      exact ⟨rfl, Below.refl _ _⟩
    · have kb := fun (x : ByteArray) (W : World) => print_bytes (P := Tryd.prog) 9 82 5 Tryd.underlying9 Tryd.underlying82 Tryd.underlying5 x W
      obtain ⟨l, hl⟩ := named s.data.toList
      have HL : Aside0 (l.length = s.size) := ⟨by rw [hl.out]; exact hsz⟩
      rw [← hl.out]
      have HC := Aside0.mk (bytes_reads w 5 s (by omega))
      clear hsz
      go_enter Tryd.func67, Tryd.ntmps67
      go_wp2_with fail
      go_loop [4, 18] (fun v i => ∃ j : Nat, i = .int .i64 j ∧ j ≤ s.size ∧ v = .int .i64 (valB (l.take j)) ∧ Aside0 ((l.take j).all digB = true)) (fun _ i => s.size - (intOf i).toNat)
      case atStart => exact ⟨0, rfl, Nat.zero_le _, rfl, ⟨rfl⟩⟩
      case round =>
        obtain ⟨j, rfl, hj, rfl, hD⟩ := hrel
        by_cases hlt : j < s.size
        · obtain ⟨ad, ead, hcell⟩ := HC.out.at_ (j : Int) (by omega) (by omega)
          obtain rfl : (⟨w.heap.size, 0, none⟩ : Addr) = ad := by injection ead
          rw [Int.toNat_natCast, add_plain] at hcell
          obtain ⟨b, hb, hrb⟩ := rd_bytes s j hlt
          obtain ⟨c, hc⟩ := named ((b.toNat : Nat) : Int)
          rw [hrb, ← hc.out] at hcell
          have hc0 : 0 ≤ c := by rw [hc.out]; omega
          have hc255 : c ≤ 255 := by rw [hc.out]; have := b.toNat_lt; omega
          have HB : Aside0 (l[j]? = some b) := ⟨by rw [hl.out]; exact hb⟩
          have hv0 : 0 ≤ valB (l.take j) ∧ valB (l.take j) < 100 := by
            have h3 := valB_bd _ hD.out
            have h4 : (10 : Int) ^ (l.take j).length ≤ 10 ^ 2 := by
              have : (l.take j).length ≤ 2 := by rw [List.length_take]; omega
              exact_mod_cast Nat.pow_le_pow_right (by decide : 0 < 10) this
            omega
          obtain ⟨hv1, hv2⟩ := hv0
          have hsn : Aside0 (l.take (j + 1) = l.take j ++ [b]) := ⟨by rw [List.take_add_one, HB.out]; rfl⟩
          clear ead hb hrb
          by_cases hd : digB b = true
          · have hd1 : 48 ≤ c := by rw [hc.out]; exact (digB_iff.1 hd).1
            have hd2 : c ≤ 57 := by rw [hc.out]; exact (digB_iff.1 hd).2
            have HDc := Aside0.mk hd
            clear hd
            go_wp2
            go_round
            case rel => exact ⟨j + 1, by go_num, by omega, by rw [hsn.out, valB_snoc, ← hc.out], ⟨by rw [hsn.out, List.all_append, hD.out]; simp [HDc.out]⟩⟩
            case measure => simp [intOf]; omega
          · have hbad : Aside0 (numOk l = false) := ⟨by
              have : l.all digB = false := by
                rw [List.all_eq_false]
                exact ⟨b, List.mem_of_getElem? HB.out, hd⟩
              rw [numOk, this, Bool.and_false]⟩
            have hd' : c < 48 ∨ 57 < c := by
              have : ¬ (48 ≤ c ∧ c ≤ 57) := fun h => hd (digB_iff.2 (by rw [← hc.out]; exact h))
              omega
            have hval : Aside0 (numV l = 0) := ⟨by rw [numV, hbad.out]; rfl⟩
            clear hd
            rcases hd' with hd1 | hd1
            · go_wp2
              go_ret2
              exact ⟨by rw [hbad.out, hval.out]; rfl, bytes_below (Below.refl _ _) (Nat.le_refl _) _ _⟩
            · have hd2 : 48 ≤ c := by omega
              go_wp2
              go_ret2
              exact ⟨by rw [hbad.out, hval.out]; rfl, bytes_below (Below.refl _ _) (Nat.le_refl _) _ _⟩
        · obtain rfl : j = s.size := by omega
          have hok : Aside0 (numOk l = true ∧ valB (l.take s.size) = numV l) := ⟨by
            have ht : l.take s.size = l := List.take_of_length_le (by rw [HL.out]; exact Nat.le_refl _)
            have h3 := hD.out
            rw [ht] at h3
            have : numOk l = true := by
              rw [numOk, h3, HL.out]
              simp; omega
            exact ⟨this, by rw [ht, numV, this]; rfl⟩⟩
          go_wp2
          go_ret2
          exact ⟨by rw [hok.out.1, ← hok.out.2]; rfl, bytes_below (Below.refl _ _) (Nat.le_refl _) _ _⟩
end Go.Proofs.YteloamnakikbbaaDoor.Cron

/- The shelf's contracts of strings.Cut, stringslite.Index, strings.FieldsFunc at this translation (the numbers by name). -/
namespace Go.Proofs
open Go.Shelf Go.RowKit
def Tryd.cronRen : Go.Shelf.Ren := ⟨fun | 145 => 66 | 217 => 85 | 219 => 84 | 220 => 80 | 224 => 87 | 225 => 86 | 266 => 89 | 267 => 88 | 314 => 90 | 229 => 52 | 143 => 79 | n => n, fun | 0 => 0 | 3 => 3 | 4 => 4 | 5 => 5 | 9 => 9 | 21 => 21 | 31 => 55 | 40 => 118 | 46 => 58 | 51 => 147 | 59 => 137 | 146 => 158 | 152 => 133 | 154 => 135 | n => n, fun | 1 => 3 | n => n⟩
theorem Tryd.lays145 : Go.Proofs.Lays.n145 Tryd.prog Tryd.cronRen := {
  mixed := by kernel_rfl
  f145 := Tryd.func66.trans (congrArg some (by kernel_rfl))
  f217 := Tryd.func85.trans (congrArg some (by kernel_rfl))
  f219 := Tryd.func84.trans (congrArg some (by kernel_rfl))
  f220 := Tryd.func80.trans (congrArg some (by kernel_rfl))
  f224 := Tryd.func87.trans (congrArg some (by kernel_rfl))
  f225 := Tryd.func86.trans (congrArg some (by kernel_rfl))
  f266 := Tryd.func89.trans (congrArg some (by kernel_rfl))
  f267 := Tryd.func88.trans (congrArg some (by kernel_rfl))
  f314 := Tryd.func90.trans (congrArg some (by kernel_rfl))
  t3 := Tryd.underlying3
  a3 := Tryd.isAgg3
  z3 := Tryd.sizeOf3
  v3 := Tryd.zeroValue3
  t4 := Tryd.underlying4
  a4 := Tryd.isAgg4
  z4 := Tryd.sizeOf4
  v4 := Tryd.zeroValue4
  t5 := Tryd.underlying5
  a5 := Tryd.isAgg5
  z5 := Tryd.sizeOf5
  v5 := Tryd.zeroValue5
  t9 := Tryd.underlying9
  a9 := Tryd.isAgg9
  z9 := Tryd.sizeOf9
  v9 := Tryd.zeroValue9
  t46 := Tryd.underlying58
  a46 := Tryd.isAgg58
  z46 := Tryd.sizeOf58
  v46 := Tryd.zeroValue58
  t51 := Tryd.underlying147
  a51 := Tryd.isAgg147
  z51 := Tryd.sizeOf147
  v51 := Tryd.zeroValue147
  t59 := Tryd.underlying137
  a59 := Tryd.isAgg137
  z59 := Tryd.sizeOf137
  v59 := Tryd.zeroValue137
  t146 := Tryd.underlying158
  a146 := Tryd.isAgg158
  z146 := Tryd.sizeOf158
  v146 := Tryd.zeroValue158
  g1 := by kernel_rfl }
theorem Tryd.lays219 : Go.Proofs.Lays.n219 Tryd.prog Tryd.cronRen := {
  mixed := by kernel_rfl
  f217 := Tryd.func85.trans (congrArg some (by kernel_rfl))
  f219 := Tryd.func84.trans (congrArg some (by kernel_rfl))
  f224 := Tryd.func87.trans (congrArg some (by kernel_rfl))
  f225 := Tryd.func86.trans (congrArg some (by kernel_rfl))
  f266 := Tryd.func89.trans (congrArg some (by kernel_rfl))
  f267 := Tryd.func88.trans (congrArg some (by kernel_rfl))
  f314 := Tryd.func90.trans (congrArg some (by kernel_rfl))
  t3 := Tryd.underlying3
  a3 := Tryd.isAgg3
  z3 := Tryd.sizeOf3
  v3 := Tryd.zeroValue3
  t4 := Tryd.underlying4
  a4 := Tryd.isAgg4
  z4 := Tryd.sizeOf4
  v4 := Tryd.zeroValue4
  t5 := Tryd.underlying5
  a5 := Tryd.isAgg5
  z5 := Tryd.sizeOf5
  v5 := Tryd.zeroValue5
  t9 := Tryd.underlying9
  a9 := Tryd.isAgg9
  z9 := Tryd.sizeOf9
  v9 := Tryd.zeroValue9
  t46 := Tryd.underlying58
  a46 := Tryd.isAgg58
  z46 := Tryd.sizeOf58
  v46 := Tryd.zeroValue58
  t51 := Tryd.underlying147
  a51 := Tryd.isAgg147
  z51 := Tryd.sizeOf147
  v51 := Tryd.zeroValue147
  t146 := Tryd.underlying158
  a146 := Tryd.isAgg158
  z146 := Tryd.sizeOf158
  v146 := Tryd.zeroValue158
  g1 := by kernel_rfl }
theorem Tryd.lays143 : Go.Proofs.Lays.n143 Tryd.prog Tryd.cronRen := {
  mixed := by kernel_rfl
  f143 := Tryd.func79.trans (congrArg some (by kernel_rfl))
  f217 := Tryd.func85.trans (congrArg some (by kernel_rfl))
  f219 := Tryd.func84.trans (congrArg some (by kernel_rfl))
  f224 := Tryd.func87.trans (congrArg some (by kernel_rfl))
  f225 := Tryd.func86.trans (congrArg some (by kernel_rfl))
  f266 := Tryd.func89.trans (congrArg some (by kernel_rfl))
  f267 := Tryd.func88.trans (congrArg some (by kernel_rfl))
  f314 := Tryd.func90.trans (congrArg some (by kernel_rfl))
  t3 := Tryd.underlying3
  a3 := Tryd.isAgg3
  z3 := Tryd.sizeOf3
  v3 := Tryd.zeroValue3
  t4 := Tryd.underlying4
  a4 := Tryd.isAgg4
  z4 := Tryd.sizeOf4
  v4 := Tryd.zeroValue4
  t5 := Tryd.underlying5
  a5 := Tryd.isAgg5
  z5 := Tryd.sizeOf5
  v5 := Tryd.zeroValue5
  t9 := Tryd.underlying9
  a9 := Tryd.isAgg9
  z9 := Tryd.sizeOf9
  v9 := Tryd.zeroValue9
  t46 := Tryd.underlying58
  a46 := Tryd.isAgg58
  z46 := Tryd.sizeOf58
  v46 := Tryd.zeroValue58
  t51 := Tryd.underlying147
  a51 := Tryd.isAgg147
  z51 := Tryd.sizeOf147
  v51 := Tryd.zeroValue147
  t146 := Tryd.underlying158
  a146 := Tryd.isAgg158
  z146 := Tryd.sizeOf158
  v146 := Tryd.zeroValue158
  g1 := by kernel_rfl }
theorem Tryd.lays229 : Go.Proofs.Lays.n229 Tryd.prog Tryd.cronRen := {
  mixed := by kernel_rfl
  f229 := Tryd.func52.trans (congrArg some (by kernel_rfl))
  t0 := Tryd.underlying0
  a0 := Tryd.isAgg0
  z0 := Tryd.sizeOf0
  v0 := Tryd.zeroValue0
  t3 := Tryd.underlying3
  a3 := Tryd.isAgg3
  z3 := Tryd.sizeOf3
  v3 := Tryd.zeroValue3
  t4 := Tryd.underlying4
  a4 := Tryd.isAgg4
  z4 := Tryd.sizeOf4
  v4 := Tryd.zeroValue4
  t9 := Tryd.underlying9
  a9 := Tryd.isAgg9
  z9 := Tryd.sizeOf9
  v9 := Tryd.zeroValue9
  t21 := Tryd.underlying21
  a21 := Tryd.isAgg21
  z21 := Tryd.sizeOf21
  v21 := Tryd.zeroValue21
  t31 := Tryd.underlying55
  a31 := Tryd.isAgg55
  z31 := Tryd.sizeOf55
  v31 := Tryd.zeroValue55
  t40 := Tryd.underlying118
  a40 := Tryd.isAgg118
  z40 := Tryd.sizeOf118
  v40 := Tryd.zeroValue118
  t152 := Tryd.underlying133
  a152 := Tryd.isAgg133
  z152 := Tryd.sizeOf133
  v152 := Tryd.zeroValue133
  t154 := Tryd.underlying135
  a154 := Tryd.isAgg135
  z154 := Tryd.sizeOf135
  v154 := Tryd.zeroValue135 }
theorem Tryd.strings_Cut (s sep : ByteArray) (m : Int) (w : World) (hs : s.size < 4294967281) (hm : w.cell? ⟨3, 0, none⟩ = some (.int .i64 m)) :
    Calls Tryd.prog 66 #[.string s, .string sep] w fun e w' => e = .returned (.tuple #[.string ⟨(Lib.cut s.data.toList sep.data.toList).1.toArray⟩, .string ⟨(Lib.cut s.data.toList sep.data.toList).2.1.toArray⟩, .bool (Lib.cut s.data.toList sep.data.toList).2.2]) ∧ ∃ n, w' = w.drewN n := Any.strings_Cut Tryd.lays145 s sep m w hs hm
theorem Tryd.stringslite_Index (s sub : ByteArray) (m : Int) (w : World) (hs : s.size < 4294967281) (hm : w.cell? ⟨3, 0, none⟩ = some (.int .i64 m)) :
    Calls Tryd.prog 84 #[.string s, .string sub] w fun e w' => e = .returned (.int .i64 (Lib.index s.data.toList sub.data.toList)) ∧ w' = w := Any.stringslite_Index Tryd.lays219 s sub m w hs hm
theorem Tryd.strings_Index (s sub : ByteArray) (m : Int) (w : World) (hs : s.size < 4294967281) (hm : w.cell? ⟨3, 0, none⟩ = some (.int .i64 m)) :
    Calls Tryd.prog 79 #[.string s, .string sub] w fun e w' => e = .returned (.int .i64 (Lib.index s.data.toList sub.data.toList)) ∧ w' = w := Any.strings_Index Tryd.lays143 s sub m w hs hm
theorem Tryd.strings_FieldsFunc (g : Nat) (lb : Array Value) (eg : ∀ args w, (callFunc g args).run Tryd.prog w = .ok (.enter g args) w) (p : Nat → Bool) (s : ByteArray) (w : World) (hs : s.size ≤ 4294967296) (hp : PredGrows Tryd.prog g lb p w) :
    Calls Tryd.prog 52 #[.string s, .func (.func g) #[] lb] w fun e w' => ∃ A, e = .returned (.slice (some ⟨A, 0, none⟩) (Lib.goFieldsP p s).length (Lib.goFieldsP p s).length) ∧ w.heap.size ≤ A ∧
      w'.ownsRow w.heap.size 9 1 (.slice (some ⟨A, 0, none⟩) (Lib.goFieldsP p s).length (Lib.goFieldsP p s).length) (Lib.goFieldsP p s).length ((Lib.goFieldsP p s).map Value.string) ∧ Below w.heap.size w w' :=
  Any.strings_FieldsFunc_grows Tryd.lays229 g lb eg p s w hs hp (by kernel_rfl) (by kernel_rfl)
end Go.Proofs

/- Blocks of a variable of a struct's type, as a whole: what is stored, what is read at the end. No program. -/
namespace Go.Proofs.YteloamnakikbbaaDoor.Cells
open Go.RowKit Go.Proofs.YteloamnakikbbaaDoorW.PrintWords Go.Proofs.YteloamnakikbbaaDoorW.PrintLast Go.Proofs.YteloamnakikbbaaDoor.Base

theorem blk_new1 (w : World) (o : Obj) (cs : Array Value) (t : TypeId) : ((w.alloc o).alloc (.cells cs t)).heap[w.heap.size + 1]? = some (.cells cs t (0, 0)) := by
  have := heap_alloc_new (w.alloc o) (.cells cs t)
  simpa using this
theorem blk_keep {w w1 : World} {g : Nat} {t : TypeId} {cs : Array Value} (h : w.heap[g]? = some (.cells cs t (0, 0))) (hb : Below w.heap.size w w1) : w1.heap[g]? = some (.cells cs t (0, 0)) := (hb.block g (blk_lt h)).trans h

section
variable {w : World} {g : Nat} {t : TypeId}
/-- the cells of a block that is written -/
theorem all3 {a b c : Value} (h : w.heap[g]? = some (.cells #[a, b, c] t (0, 0))) :
    w.cell? ⟨g, 0, none⟩ = some a ∧ w.cell? ⟨g, 1, none⟩ = some b ∧ w.cell? ⟨g, 2, none⟩ = some c ∧ w.frozen? ⟨g, 0, none⟩ = false ∧ w.frozen? ⟨g, 1, none⟩ = false ∧ w.frozen? ⟨g, 2, none⟩ = false :=
  ⟨blk_cell h 0, blk_cell h 1, blk_cell h 2, blk_frozen h 0, blk_frozen h 1, blk_frozen h 2⟩
theorem all4 {a b c d : Value} (h : w.heap[g]? = some (.cells #[a, b, c, d] t (0, 0))) :
    w.cell? ⟨g, 0, none⟩ = some a ∧ w.cell? ⟨g, 1, none⟩ = some b ∧ w.cell? ⟨g, 2, none⟩ = some c ∧ w.cell? ⟨g, 3, none⟩ = some d ∧ w.frozen? ⟨g, 0, none⟩ = false ∧ w.frozen? ⟨g, 1, none⟩ = false ∧ w.frozen? ⟨g, 2, none⟩ = false ∧ w.frozen? ⟨g, 3, none⟩ = false :=
  ⟨blk_cell h 0, blk_cell h 1, blk_cell h 2, blk_cell h 3, blk_frozen h 0, blk_frozen h 1, blk_frozen h 2, blk_frozen h 3⟩
theorem all5 {a b c d e : Value} (h : w.heap[g]? = some (.cells #[a, b, c, d, e] t (0, 0))) :
    w.cell? ⟨g, 0, none⟩ = some a ∧ w.cell? ⟨g, 1, none⟩ = some b ∧ w.cell? ⟨g, 2, none⟩ = some c ∧ w.cell? ⟨g, 3, none⟩ = some d ∧ w.cell? ⟨g, 4, none⟩ = some e ∧ w.frozen? ⟨g, 0, none⟩ = false ∧ w.frozen? ⟨g, 1, none⟩ = false ∧ w.frozen? ⟨g, 2, none⟩ = false ∧ w.frozen? ⟨g, 3, none⟩ = false ∧ w.frozen? ⟨g, 4, none⟩ = false :=
  ⟨blk_cell h 0, blk_cell h 1, blk_cell h 2, blk_cell h 3, blk_cell h 4, blk_frozen h 0, blk_frozen h 1, blk_frozen h 2, blk_frozen h 3, blk_frozen h 4⟩
theorem blk3 {a b c x y z : Value} (h : w.heap[g]? = some (.cells #[a, b, c] t (0, 0))) :
    (((w.setCell ⟨g, 0, none⟩ x).setCell ⟨g, 1, none⟩ y).setCell ⟨g, 2, none⟩ z).heap[g]? = some (.cells #[x, y, z] t (0, 0)) :=
  blk_put (cs := #[x, y, c]) (blk_put (cs := #[x, b, c]) (blk_put (cs := #[a, b, c]) h 0 x rfl) 1 y rfl) 2 z rfl
theorem blk4 {a b c d x y z u : Value} (h : w.heap[g]? = some (.cells #[a, b, c, d] t (0, 0))) :
    ((((w.setCell ⟨g, 0, none⟩ x).setCell ⟨g, 1, none⟩ y).setCell ⟨g, 2, none⟩ z).setCell ⟨g, 3, none⟩ u).heap[g]? = some (.cells #[x, y, z, u] t (0, 0)) :=
  blk_put (cs := #[x, y, z, d]) (blk3' h) 3 u rfl
where blk3' {a b c d x y z : Value} (h : w.heap[g]? = some (.cells #[a, b, c, d] t (0, 0))) :
    (((w.setCell ⟨g, 0, none⟩ x).setCell ⟨g, 1, none⟩ y).setCell ⟨g, 2, none⟩ z).heap[g]? = some (.cells #[x, y, z, d] t (0, 0)) :=
  blk_put (cs := #[x, y, c, d]) (blk_put (cs := #[x, b, c, d]) (blk_put (cs := #[a, b, c, d]) h 0 x rfl) 1 y rfl) 2 z rfl
theorem blk5 {a b c d e x y z u v : Value} (h : w.heap[g]? = some (.cells #[a, b, c, d, e] t (0, 0))) :
    (((((w.setCell ⟨g, 0, none⟩ x).setCell ⟨g, 1, none⟩ y).setCell ⟨g, 2, none⟩ z).setCell ⟨g, 3, none⟩ u).setCell ⟨g, 4, none⟩ v).heap[g]? = some (.cells #[x, y, z, u, v] t (0, 0)) :=
  blk_put (cs := #[x, y, z, u, e]) (blk_put (cs := #[x, y, z, d, e]) (blk_put (cs := #[x, y, c, d, e]) (blk_put (cs := #[x, b, c, d, e]) (blk_put (cs := #[a, b, c, d, e]) h 0 x rfl) 1 y rfl) 2 z rfl) 3 u rfl) 4 v rfl
/-- nothing below B has turned by stores into block g -/
theorem below_set3 {B : Nat} {w0 : World} (hb : Below B w0 w) (hg : B ≤ g) (x y z : Value) : Below B w0 (((w.setCell ⟨g, 0, none⟩ x).setCell ⟨g, 1, none⟩ y).setCell ⟨g, 2, none⟩ z) :=
  ((hb.setCell (p := ⟨g, 0, none⟩) hg x).setCell (p := ⟨g, 1, none⟩) hg y).setCell (p := ⟨g, 2, none⟩) hg z
theorem below_set4 {B : Nat} {w0 : World} (hb : Below B w0 w) (hg : B ≤ g) (x y z u : Value) : Below B w0 ((((w.setCell ⟨g, 0, none⟩ x).setCell ⟨g, 1, none⟩ y).setCell ⟨g, 2, none⟩ z).setCell ⟨g, 3, none⟩ u) :=
  (below_set3 hb hg x y z).setCell (p := ⟨g, 3, none⟩) hg u
theorem below_set5 {B : Nat} {w0 : World} (hb : Below B w0 w) (hg : B ≤ g) (x y z u v : Value) : Below B w0 (((((w.setCell ⟨g, 0, none⟩ x).setCell ⟨g, 1, none⟩ y).setCell ⟨g, 2, none⟩ z).setCell ⟨g, 3, none⟩ u).setCell ⟨g, 4, none⟩ v) :=
  (below_set4 hb hg x y z u).setCell (p := ⟨g, 4, none⟩) hg v
/-- a row of one's own that lies behind block g stays by stores into g -/
theorem Rset {α : Type} {k : Kd α} {e : TypeId} {base : Nat} {v : Value} {l : List α} (h : k.R e w base (fun _ => True) v l) {p : Addr} (hp : p.block < base) (u : Value) : k.R e (w.setCell p u) base (fun _ => True) v l :=
  Kd.R_mono (Kd.R_far (Kd.R_bound h) (p := p) (fun k hk => by have := hk.2.1; omega) u) (fun _ _ => trivial)
theorem Rset3 {α : Type} {k : Kd α} {e : TypeId} {base : Nat} {v : Value} {l : List α} (h : k.R e w base (fun _ => True) v l) (hp : g < base) (x y z : Value) : k.R e (((w.setCell ⟨g, 0, none⟩ x).setCell ⟨g, 1, none⟩ y).setCell ⟨g, 2, none⟩ z) base (fun _ => True) v l :=
  Rset (Rset (Rset h (p := ⟨g, 0, none⟩) hp x) (p := ⟨g, 1, none⟩) hp y) (p := ⟨g, 2, none⟩) hp z
theorem Rset4 {α : Type} {k : Kd α} {e : TypeId} {base : Nat} {v : Value} {l : List α} (h : k.R e w base (fun _ => True) v l) (hp : g < base) (x y z u : Value) : k.R e ((((w.setCell ⟨g, 0, none⟩ x).setCell ⟨g, 1, none⟩ y).setCell ⟨g, 2, none⟩ z).setCell ⟨g, 3, none⟩ u) base (fun _ => True) v l :=
  Rset (Rset3 h hp x y z) (p := ⟨g, 3, none⟩) hp u
end
end Go.Proofs.YteloamnakikbbaaDoor.Cells

/- cron: spread, item, walked. -/
namespace Go.Proofs.YteloamnakikbbaaDoor.Cron
set_option linter.unusedVariables false
set_option linter.unusedSimpArgs false
open Go.RowKit Go.Proofs.YteloamnakikbbaaDoorW.PrintWords Go.Proofs.YteloamnakikbbaaDoorW.PrintLast Go.Proofs.YteloamnakikbbaaDoor.Base Go.Proofs.YteloamnakikbbaaDoor.Cells Go.Proofs.YteloamnakikbbaaDoor.CronPure Go.Proofs.YteloamnakikbbaaDoor.NamesPure

theorem results_ctt' {P : Program} {fn : Func} {p t2 t3 : Tmp} {ty : TypeId} (h : fn.results = #[.cell p ty, .tmp t2, .tmp t3]) (tmps : Array Value) (w : World) (g : Nat) (t : TypeId) (cs : Array Value) (fr : Nat × Nat) (d : TypeDesc)
    (hp : tmps.getD p undef = .pointer (some ⟨g, 0, none⟩)) (hg : w.heap[g]? = some (.cells cs t fr))
    (hu : P.underlying ty = some d) (hd : (match d with | .struct _ | .array _ _ => true | _ => false) = true) (hi : (P.info? ty).map (·.size) = some cs.size) :
    (results fn tmps).run P w = .ok (.tuple #[.agg cs, tmps.getD t2 undef, tmps.getD t3 undef]) w := by
  have hp' : tmps[p]?.getD undef = .pointer (some ⟨g, 0, none⟩) := by simpa using hp
  simp [results, h, hp', asAddr, run_loadVar_row w g t ty cs fr d hg hu hd hi]

section
variable {w : World} {g : Nat} {t : TypeId}
theorem all2 {a b : Value} (h : w.heap[g]? = some (.cells #[a, b] t (0, 0))) : w.cell? ⟨g, 0, none⟩ = some a ∧ w.cell? ⟨g, 1, none⟩ = some b ∧ w.frozen? ⟨g, 0, none⟩ = false ∧ w.frozen? ⟨g, 1, none⟩ = false :=
  ⟨blk_cell h 0, blk_cell h 1, blk_frozen h 0, blk_frozen h 1⟩
theorem blk2 {a b x y : Value} (h : w.heap[g]? = some (.cells #[a, b] t (0, 0))) : ((w.setCell ⟨g, 0, none⟩ x).setCell ⟨g, 1, none⟩ y).heap[g]? = some (.cells #[x, y] t (0, 0)) :=
  blk_put (cs := #[x, b]) (blk_put (cs := #[a, b]) h 0 x rfl) 1 y rfl
end
theorem cut_len (l sep : List UInt8) : (Lib.cut l sep).1.length ≤ l.length ∧ (Lib.cut l sep).2.1.length ≤ l.length := by
  unfold Lib.cut
  split
  · exact ⟨by simp only [List.length_take]; omega, by simp only [List.length_drop]; omega⟩
  · exact ⟨Nat.le_refl _, Nat.zero_le _⟩
/-- the package variables that reading a rule looks at -/
def MaxL (w : World) : Prop := ∃ m, w.cell? ⟨3, 0, none⟩ = some (.int .i64 m)
theorem MaxL.below {w w' : World} (h : MaxL w) (hb : Below w.heap.size w w') : MaxL w' := by
  obtain ⟨m, hm⟩ := h
  exact ⟨m, (hb.cell (World.block_lt_of_cell? w _ hm)).trans hm⟩

/-- strings.Cut at one octet -/
theorem cut_any (s : ByteArray) (c : UInt8) (w : World) (hs : s.size ≤ 1000) (hm : MaxL w) :
    Calls Tryd.prog 66 #[.string s, .string ⟨#[c]⟩] w fun e w' => e = .returned (.tuple #[.string ⟨(Lib.cut s.data.toList [c]).1.toArray⟩, .string ⟨(Lib.cut s.data.toList [c]).2.1.toArray⟩, .bool (Lib.cut s.data.toList [c]).2.2]) ∧ Below w.heap.size w w' := by
  obtain ⟨m, hm⟩ := hm
  exact (Tryd.strings_Cut s ⟨#[c]⟩ m w (by omega) hm).mono fun e w' ⟨he, n, hn⟩ => ⟨he, hn ▸ below_drewN' w n⟩
where below_drewN' (w : World) : ∀ n, Below w.heap.size w (w.drewN n)
  | 0 => Below.refl _ _
  | n + 1 => below_drew (below_drewN' w n)

set_option maxRecDepth 100000 in
set_option maxHeartbeats 1000000 in
theorem spread_any (lo hi : Int) (s : ByteArray) (w : World) (hs : s.size ≤ 1000) (hm : MaxL w) :
    Calls Tryd.prog 68 #[.agg #[.int .i64 lo, .int .i64 hi], .string s] w fun e w' => e = .returned (.tuple #[.agg #[.int .i64 (spreadP lo hi s.data.toList).1, .int .i64 (spreadP lo hi s.data.toList).2.1], .bool (spreadP lo hi s.data.toList).2.2.1, .bool (spreadP lo hi s.data.toList).2.2.2]) ∧ Below w.heap.size w w' := by
  by_cases h42 : s.data.toList = [42]
  · have hsp : spreadP lo hi s.data.toList = (lo, hi, true, true) := by rw [spreadP, if_pos h42]
    rw [hsp]
    have hst : s = ⟨#[42]⟩ := by
      cases s with | mk d => exact congrArg ByteArray.mk (Array.toList_inj.1 h42)
    subst hst
    clear hs hsp h42
    go_enter Tryd.func68, Tryd.ntmps68
    go_wp2
    refine bodyPost_ret (results_ctt' rfl _ _ (w.heap.size + 1) 98 #[.int .i64 lo, .int .i64 hi] (0, 0) _ rfl (blk_new1 _ _ _ _) Tryd.underlying98 rfl (by kernel_rfl)) rfl ?_
    exact ⟨rfl, below_alloc (below_alloc (Below.refl _ _) _) _⟩
  · have hz : (s.toList == [42]) = false := by rw [ByteArray.toList_eq]; simpa using h42
    obtain ⟨X, hX⟩ := named (Lib.cut s.data.toList [45])
    have HSP : Aside0 (spreadP lo hi s.data.toList = (numV X.1, numV (if X.2.2 then X.2.1 else X.1), X.2.2, numOk X.1 && (numOk (if X.2.2 then X.2.1 else X.1) && (decide (lo ≤ numV X.1) && (decide (numV (if X.2.2 then X.2.1 else X.1) ≤ hi) && decide (numV X.1 ≤ numV (if X.2.2 then X.2.1 else X.1))))))) := ⟨by rw [spreadP, if_neg h42, hX.out]⟩
    rw [HSP.out]
    obtain ⟨A, Bc, wide⟩ := X
    dsimp only at HSP ⊢
    have HLA : Aside0 (A.length ≤ 1000 ∧ Bc.length ≤ 1000) := ⟨by
      have := cut_len s.data.toList [45]
      rw [← hX.out] at this
      have hs' : s.data.toList.length = s.size := by simp
      dsimp only at this
      omega⟩
    obtain ⟨Y, hY⟩ := named (if wide then Bc else A)
    rw [← hY.out]
    have HLY : Aside0 (Y.length ≤ 1000) := ⟨by rw [hY.out]; split; exact HLA.out.2; exact HLA.out.1⟩
    obtain ⟨n1, hn1⟩ := named (numV A)
    obtain ⟨n2, hn2⟩ := named (numV Y)
    obtain ⟨o1, ho1⟩ := named (numOk A)
    obtain ⟨o2, ho2⟩ := named (numOk Y)
    obtain ⟨R, hR⟩ := named (o1 && (o2 && (decide (lo ≤ n1) && (decide (n2 ≤ hi) && decide (n1 ≤ n2)))))
    rw [← hn1.out, ← hn2.out, ← ho1.out, ← ho2.out, ← hR.out]
    have CA : Aside0 (∀ W', Calls Tryd.prog 67 #[.string ⟨A.toArray⟩] W' fun e w' => e = .returned (.tuple #[.int .i64 n1, .bool o1]) ∧ Below W'.heap.size W' w') := ⟨fun W' => by
      have h := number_any ⟨A.toArray⟩ W' (by have := HLA.out.1; show A.toArray.size ≤ _; simp; omega)
      rw [show (ByteArray.mk A.toArray).data.toList = A by simp, ← hn1.out, ← ho1.out] at h
      exact h⟩
    have CY : Aside0 (∀ W', Calls Tryd.prog 67 #[.string ⟨Y.toArray⟩] W' fun e w' => e = .returned (.tuple #[.int .i64 n2, .bool o2]) ∧ Below W'.heap.size W' w') := ⟨fun W' => by
      have h := number_any ⟨Y.toArray⟩ W' (by have := HLY.out; show Y.toArray.size ≤ _; simp; omega)
      rw [show (ByteArray.mk Y.toArray).data.toList = Y by simp, ← hn2.out, ← ho2.out] at h
      exact h⟩
    have HM := Aside0.mk hm
    clear h42 hm
    cases wide with
    | true =>
      obtain rfl : Y = Bc := hY.out
      go_enter Tryd.func68, Tryd.ntmps68
      go_wp2_with (first
        | (go_at_call 66; refine (cut_any s 45 _ hs (HM.out.below (below_alloc (below_alloc (Below.refl _ w) _) _))).mono ?_; rw [← hX.out]; rintro e w1 ⟨rfl, hb1⟩; (have HB1 := Aside0.mk (bthen (below_alloc (below_alloc (Below.refl _ w) _) _) hb1)); (have HS1 := Aside0.mk (blk_keep (blk_alloc (blk_new _ _) _) hb1)); (have HK1 := Aside0.mk (blk_keep (blk_new1 _ _ _ _) hb1)); clear hb1)
        | (go_at_call 67; refine (CA.out _).mono ?_; rintro e w2 ⟨rfl, hb2⟩; (have HB2 := Aside0.mk (bthen HB1.out hb2)); (have HS2 := Aside0.mk (blk_keep HS1.out hb2)); (have HK2 := Aside0.mk (blk_keep HK1.out hb2)); clear CA hb2)
        | (go_at_call 67; refine (CY.out _).mono ?_; rintro e w3 ⟨rfl, hb3⟩; (have HB3 := Aside0.mk (bthen HB2.out hb3)); (have HS3 := Aside0.mk (blk_keep HS2.out hb3)); (have HK3 := Aside0.mk (blk_keep HK2.out hb3)); obtain ⟨c0, c1, _, _⟩ := all2 HS3.out; obtain ⟨k0, k1, f0, f1⟩ := all2 HK3.out; clear CY hb3))
      all_goals refine bodyPost_ret (results_ctt' rfl _ _ (w.heap.size + 1) 98 #[.int .i64 n1, .int .i64 n2] (0, 0) _ rfl (blk2 HK3.out) Tryd.underlying98 rfl (by kernel_rfl)) rfl ?_
      all_goals refine ⟨?_, (HB3.out.setCell (p := ⟨w.heap.size + 1, 0, none⟩) (Nat.le_succ _) _).setCell (p := ⟨w.heap.size + 1, 1, none⟩) (Nat.le_succ _) _⟩
      all_goals rw [hR.out]
      all_goals first | (simp [*]; done) | (simp [*]; omega) | (simp [*]; intros; omega)
    | false =>
      obtain rfl : Y = A := hY.out
      go_enter Tryd.func68, Tryd.ntmps68
      go_wp2_with (first
        | (go_at_call 66; refine (cut_any s 45 _ hs (HM.out.below (below_alloc (below_alloc (Below.refl _ w) _) _))).mono ?_; rw [← hX.out]; rintro e w1 ⟨rfl, hb1⟩; (have HB1 := Aside0.mk (bthen (below_alloc (below_alloc (Below.refl _ w) _) _) hb1)); (have HS1 := Aside0.mk (blk_keep (blk_alloc (blk_new _ _) _) hb1)); (have HK1 := Aside0.mk (blk_keep (blk_new1 _ _ _ _) hb1)); clear hb1)
        | (go_at_call 67; refine (CA.out _).mono ?_; rintro e w2 ⟨rfl, hb2⟩; (have HB2 := Aside0.mk (bthen HB1.out hb2)); (have HS2 := Aside0.mk (blk_keep HS1.out hb2)); (have HK2 := Aside0.mk (blk_keep HK1.out hb2)); clear CA hb2)
        | (go_at_call 67; refine (CY.out _).mono ?_; rintro e w3 ⟨rfl, hb3⟩; (have HB3 := Aside0.mk (bthen HB2.out hb3)); (have HS3 := Aside0.mk (blk_keep HS2.out hb3)); (have HK3 := Aside0.mk (blk_keep HK2.out hb3)); obtain ⟨c0, c1, _, _⟩ := all2 HS3.out; obtain ⟨k0, k1, f0, f1⟩ := all2 HK3.out; clear CY hb3))
      all_goals refine bodyPost_ret (results_ctt' rfl _ _ (w.heap.size + 1) 98 #[.int .i64 n1, .int .i64 n2] (0, 0) _ rfl (blk2 HK3.out) Tryd.underlying98 rfl (by kernel_rfl)) rfl ?_
      all_goals refine ⟨?_, (HB3.out.setCell (p := ⟨w.heap.size + 1, 0, none⟩) (Nat.le_succ _) _).setCell (p := ⟨w.heap.size + 1, 1, none⟩) (Nat.le_succ _) _⟩
      all_goals rw [hR.out]
      all_goals first | (simp [*]; done) | (simp [*]; omega) | (simp [*]; intros; omega)
end Go.Proofs.YteloamnakikbbaaDoor.Cron

/- A job that is handed in, read out of 'DataW.trod'; the library's number of lengths, out of the world's shape; what the bound gives. -/
namespace Go.Proofs.YteloamnakikbbaaDoor.LiftJ
set_option linter.unusedVariables false
set_option linter.unusedSimpArgs false
open Go.ChangeShapes Go.WideShapes Go.ChangeAt Go.RowKit Go.Proofs.YteloamnakikbbaaDoorW.PrintWords Go.Proofs.YteloamnakikbbaaDoorW.PrintLast Go.Proofs.YteloamnakikbbaaDoor.Base
theorem one_le {H : Type} (d : DataW H) : 1 ≤ Rows.uptoBulk d := by
  cases d with
  | lit l => cases l <;> simp [Rows.uptoBulk]
  | nil => simp [Rows.uptoBulk]
  | ptr d => simp [Rows.uptoBulk]
  | slice elems spare => simp [Rows.uptoBulk]
  | agg parts => simp [Rows.uptoBulk]
  | iface t d => simp [Rows.uptoBulk]
  | map entries => simp [Rows.uptoBulk]
  | held h => simp [Rows.uptoBulk]
theorem part_le {H : Type} {d : DataW H} {l : List (DataW H)} (h : d ∈ l) : Rows.uptoBulk d ≤ Rows.uptoBulkAll l := by
  induction l with
  | nil => cases h
  | cons x r ih =>
    simp only [Rows.uptoBulkAll]
    cases List.mem_cons.1 h with
    | inl e => subst e; omega
    | inr e => have := ih e; omega
theorem bound {H : Type} {l : List (DataW H)} (hk : Rows.uptoSmall H l = true) : Rows.uptoBulkAll l ≤ 1048576 := by
  simpa [Rows.uptoSmall] using hk
theorem str_le {H : Type} {s : ByteArray} {l : List (DataW H)} (h : DataW.lit (.string s.data.toList) ∈ l) : s.size ≤ Rows.uptoBulkAll l := by
  have := part_le h
  simp only [Rows.uptoBulk, Array.length_toList] at this
  have : s.data.size = s.size := rfl
  omega
set_option maxRecDepth 100000 in
theorem maxL {W : World} (h : W.ShapedOpen Tryd.prog) : Cron.MaxL W :=
  cell_of_shapedOpen_int (P := Tryd.prog) (g := 3) (t := 3) (zero := #[.int .i64 0]) h (of_decide_eq_true (by kernel_rfl)) (by kernel_rfl) rfl (by kernel_rfl) (by kernel_rfl) Tryd.underlying3
set_option maxRecDepth 100000 in
set_option maxHeartbeats 4000000 in
theorem trod_job {H : Type} {enc : TypeId × Value → H} {W : World} {base : Nat} {spare : Nat → Bool} {held : Bool} {fuel : Nat} {v : Value} {d : DataW H} {p : List MemPlace} (hv : ∃ cs, v = .agg cs)
    (h : DataW.trod enc Tryd.prog W base spare held fuel 49 v.cells.toList = some (d, p)) : ∃ id name rule payload status due tries worker token til parts, v = .agg #[.int .i64 id, .string name, .string rule, .string payload, .int .i64 status, .int .i64 due, .int .i64 tries, .int .i64 worker, .int .i64 token, .int .i64 til] ∧ d = .agg parts ∧ DataW.lit (.string rule.data.toList) ∈ parts := by
  obtain ⟨cs, rfl⟩ := hv
  have hcs : (Value.agg cs).cells.toList = cs.toList := rfl
  rw [hcs] at h
  cases fuel with
  | zero => simp [DataW.trod] at h
  | succ fuel =>
    unfold DataW.trod at h
    rw [Tryd.underlying49] at h
    have hc : Tryd.prog.cellsOf 49 = 10 := by kernel_rfl
    have hi : Tryd.prog.cellsOf 3 = 1 := by kernel_rfl
    have hs : Tryd.prog.cellsOf 9 = 1 := by kernel_rfl
    simp only [hc] at h
    by_cases hl : cs.toList.length = 10
    · rw [if_pos hl] at h
      obtain ⟨v0, v1, v2, v3, v4, v5, v6, v7, v8, v9, hcl⟩ : ∃ v0 v1 v2 v3 v4 v5 v6 v7 v8 v9, cs.toList = [v0, v1, v2, v3, v4, v5, v6, v7, v8, v9] := by
        generalize cs.toList = L at hl
        rcases L with _ | ⟨v0, _ | ⟨v1, _ | ⟨v2, _ | ⟨v3, _ | ⟨v4, _ | ⟨v5, _ | ⟨v6, _ | ⟨v7, _ | ⟨v8, _ | ⟨v9, _ | ⟨v10, r⟩⟩⟩⟩⟩⟩⟩⟩⟩⟩⟩ <;> simp at hl
        exact ⟨v0, v1, v2, v3, v4, v5, v6, v7, v8, v9, rfl⟩
      rw [hcl] at h
      obtain ⟨xs, h1, h2⟩ := Option.map_eq_some_iff.1 h
      obtain ⟨e1, e2⟩ := mapM_each _ _ _ h1
      obtain ⟨⟨d0, p0⟩, f0, g0⟩ := e2 0 _ rfl
      obtain ⟨⟨d1, p1⟩, f1, g1⟩ := e2 1 _ rfl
      obtain ⟨⟨d2, p2⟩, f2, g2⟩ := e2 2 _ rfl
      obtain ⟨⟨d3, p3⟩, f3, g3⟩ := e2 3 _ rfl
      obtain ⟨⟨d4, p4⟩, f4, g4⟩ := e2 4 _ rfl
      obtain ⟨⟨d5, p5⟩, f5, g5⟩ := e2 5 _ rfl
      obtain ⟨⟨d6, p6⟩, f6, g6⟩ := e2 6 _ rfl
      obtain ⟨⟨d7, p7⟩, f7, g7⟩ := e2 7 _ rfl
      obtain ⟨⟨d8, p8⟩, f8, g8⟩ := e2 8 _ rfl
      obtain ⟨⟨d9, p9⟩, f9, g9⟩ := e2 9 _ rfl
      simp only [hi, hs, List.drop_zero, List.drop_succ_cons, List.take_succ_cons, List.take_zero] at f0 f1 f2 f3 f4 f5 f6 f7 f8 f9
      obtain ⟨id, rfl, e10', _⟩ := trod_int Tryd.underlying3 f0
      obtain ⟨name, rfl, e11'⟩ := trod_str Tryd.underlying9 f1
      obtain ⟨rule, rfl, e12'⟩ := trod_str Tryd.underlying9 f2
      obtain ⟨payload, rfl, e13'⟩ := trod_str Tryd.underlying9 f3
      obtain ⟨status, rfl, e14', _⟩ := trod_int Tryd.underlying3 f4
      obtain ⟨due, rfl, e15', _⟩ := trod_int Tryd.underlying3 f5
      obtain ⟨tries, rfl, e16', _⟩ := trod_int Tryd.underlying3 f6
      obtain ⟨worker, rfl, e17', _⟩ := trod_int Tryd.underlying3 f7
      obtain ⟨token, rfl, e18', _⟩ := trod_int Tryd.underlying3 f8
      obtain ⟨til, rfl, e19', _⟩ := trod_int Tryd.underlying3 f9
      subst e12'
      obtain ⟨h3, h4⟩ := Prod.mk.inj h2
      refine ⟨id, name, rule, payload, status, due, tries, worker, token, til, _, congrArg Value.agg (Array.toList_inj.1 hcl), h3.symm, ?_⟩
      exact List.mem_map.2 ⟨_, List.mem_of_getElem? g2, rfl⟩
    · rw [if_neg hl] at h; cases h
end Go.Proofs.YteloamnakikbbaaDoor.LiftJ

/- cron: item, walked. -/
namespace Go.Proofs.YteloamnakikbbaaDoor.Cron
set_option linter.unusedVariables false
set_option linter.unusedSimpArgs false
open Go.RowKit Go.Proofs.YteloamnakikbbaaDoorW.PrintWords Go.Proofs.YteloamnakikbbaaDoorW.PrintLast Go.Proofs.YteloamnakikbbaaDoor.Base Go.Proofs.YteloamnakikbbaaDoor.Cells Go.Proofs.YteloamnakikbbaaDoor.CronPure Go.Proofs.YteloamnakikbbaaDoor.NamesPure

def itemV (lo hi : Int) (l : List UInt8) : Int := ((itemP lo hi l).getD 0 : Nat)
def itemOk (lo hi : Int) (l : List UInt8) : Bool := (itemP lo hi l).isSome

theorem spread_bd {lo hi : Int} {l : List UInt8} (h0 : 0 ≤ lo) (h1 : lo ≤ hi) (h2 : hi ≤ 63) (h : (spreadP lo hi l).2.2.2 = true) : 0 ≤ (spreadP lo hi l).1 ∧ (spreadP lo hi l).1 ≤ (spreadP lo hi l).2.1 ∧ (spreadP lo hi l).2.1 ≤ 63 := by
  unfold spreadP at h ⊢
  split
  · exact ⟨h0, h1, h2⟩
  · rename_i hne
    rw [if_neg hne] at h
    simp only [Bool.and_eq_true, decide_eq_true_eq] at h
    have := numV_bd (Lib.cut l [45]).1
    have h3 := h.2.2.2.1
    refine ⟨this.1, h.2.2.2.2, ?_⟩
    dsimp only
    omega
theorem many_iff {low high step k : Nat} (hs : 0 < step) : k < many low high step ↔ low + k * step ≤ high := by
  unfold many
  split
  · rename_i h
    rw [Nat.lt_succ_iff, Nat.le_div_iff_mul_le hs]
    omega
  · rename_i h
    have : 0 ≤ k * step := Nat.zero_le _
    omega

theorem or_bit {S x : Nat} (hS : S < 2 ^ 64) (hx : x ≤ 63) : bits .or .u64 (S : Int) (IntKind.u64.wrap (2 ^ x)) = ((S ||| 2 ^ x : Nat) : Int) := by
  have h1 : (2 : Nat) ^ x < 18446744073709551616 := Nat.lt_of_le_of_lt (Nat.pow_le_pow_right (by omega) hx) (by decide)
  have h2 : IntKind.u64.wrap (2 ^ x) = ((2 ^ x : Nat) : Int) := by
    rw [show ((2 : Int) ^ x) = ((2 ^ x : Nat) : Int) by push_cast; rfl, IntKind.wrap_u64]
    generalize 2 ^ x = p at h1
    omega
  rw [h2]
  exact bits_or_u64_nat S (2 ^ x) (by have : (2 : Nat) ^ 64 = 18446744073709551616 := rfl; omega) h1
set_option maxRecDepth 100000 in
set_option maxHeartbeats 2000000 in
theorem item_any (lo hi : Int) (s : ByteArray) (w : World) (hs : s.size ≤ 1000) (hm : MaxL w) (h0 : 0 ≤ lo) (h1 : lo ≤ hi) (h2 : hi ≤ 63) :
    Calls Tryd.prog 55 #[.agg #[.int .i64 lo, .int .i64 hi], .string s] w fun e w' => e = .returned (.tuple #[.int .u64 (itemV lo hi s.data.toList), .bool (itemOk lo hi s.data.toList)]) ∧ Below w.heap.size w w' := by
  obtain ⟨V, hV⟩ := named (itemV lo hi s.data.toList)
  obtain ⟨O, hO⟩ := named (itemOk lo hi s.data.toList)
  obtain ⟨X, hX⟩ := named (Lib.cut s.data.toList [47])
  have HLA : Aside0 (X.1.length ≤ 1000 ∧ X.2.1.length ≤ 1000) := ⟨by
    have := cut_len s.data.toList [47]
    rw [← hX.out] at this
    have hs' : s.data.toList.length = s.size := by simp
    omega⟩
  obtain ⟨S, hS⟩ := named (spreadP lo hi X.1)
  have HSB : Aside0 (S.2.2.2 = true → 0 ≤ S.1 ∧ S.1 ≤ S.2.1 ∧ S.2.1 ≤ 63) := ⟨fun h => by rw [hS.out] at h ⊢; exact spread_bd h0 h1 h2 h⟩
  have HI : Aside0 (itemP lo hi s.data.toList = if X.2.2 && (!numOk X.2.1 || decide (numV X.2.1 = 0)) then none else if !S.2.2.2 || (X.2.2 && !S.2.2.1) then none else some (setOf S.1.toNat S.2.1.toNat (if X.2.2 then (numV X.2.1).toNat else 1))) := ⟨by
    rw [itemP, hX.out, hS.out, hX.out]⟩
  have HNO : Aside0 (itemP lo hi s.data.toList = none → V = 0 ∧ O = false) := ⟨fun h => ⟨by rw [hV.out, itemV, h]; rfl, by rw [hO.out, itemOk, h]; rfl⟩⟩
  have HYES : Aside0 (∀ x, itemP lo hi s.data.toList = some x → V = (x : Nat) ∧ O = true) := ⟨fun x h => ⟨by rw [hV.out, itemV, h]; rfl, by rw [hO.out, itemOk, h]; rfl⟩⟩
  rw [← hV.out, ← hO.out]
  obtain ⟨A, Bc, stepped⟩ := X
  obtain ⟨r1, r2, wide, ok⟩ := S
  dsimp only at HLA HSB HI hS
  obtain ⟨n, hn⟩ := named (numV Bc)
  obtain ⟨no, hno⟩ := named (numOk Bc)
  have nb := numV_bd Bc
  rw [← hn.out] at nb
  obtain ⟨nb0, nb1⟩ := nb
  rw [← hn.out, ← hno.out] at HI
  have HM := Aside0.mk hm
  clear hm h0 h1 h2
  have CN : Aside0 (∀ W', Calls Tryd.prog 67 #[.string ⟨Bc.toArray⟩] W' fun e w' => e = .returned (.tuple #[.int .i64 n, .bool no]) ∧ Below W'.heap.size W' w') := ⟨fun W' => by
    have h := number_any ⟨Bc.toArray⟩ W' (by have := HLA.out.2; show Bc.toArray.size ≤ _; simp; omega)
    rw [show (ByteArray.mk Bc.toArray).data.toList = Bc by simp, ← hn.out, ← hno.out] at h
    exact h⟩
  have CS : Aside0 (∀ W', Below w.heap.size w W' → Calls Tryd.prog 68 #[.agg #[.int .i64 lo, .int .i64 hi], .string ⟨A.toArray⟩] W' fun e w' => e = .returned (.tuple #[.agg #[.int .i64 r1, .int .i64 r2], .bool wide, .bool ok]) ∧ Below W'.heap.size W' w') := ⟨fun W' hW => by
    have h := spread_any lo hi ⟨A.toArray⟩ W' (by have := HLA.out.1; show A.toArray.size ≤ _; simp; omega) (HM.out.below hW)
    rw [show (ByteArray.mk A.toArray).data.toList = A by simp, ← hS.out] at h
    exact h⟩
  cases stepped with
  | true =>
    by_cases hbad : no = false ∨ n = 0
    · have HN : Aside0 (V = 0 ∧ O = false) := ⟨HNO.out (by rw [HI.out]; rcases hbad with h | h <;> simp [h])⟩
      obtain ⟨rfl, rfl⟩ := HN.out
      have hx : (n == 0) = decide (n = 0) := rfl
      by_cases hno' : no = false
      · subst hno'
        clear hbad
        go_enter Tryd.func55, Tryd.ntmps55
        go_wp2_with (first
          | (go_at_call 66; refine (cut_any s 47 _ hs (HM.out.below (below_alloc (Below.refl _ w) _))).mono ?_; rw [← hX.out]; rintro e w1 ⟨rfl, hb1⟩; (have HB1 := Aside0.mk (bthen (below_alloc (Below.refl _ w) _) hb1)); (have HS1 := Aside0.mk (blk_keep (blk_new _ _) hb1)); obtain ⟨c0, c1, _, _⟩ := all2 HS1.out; (have lt1 := blk_lt HS1.out); clear hb1)
          | (go_at_call 67; refine (CN.out _).mono ?_; rintro e w2 ⟨rfl, hb2⟩; (have HB2 := Aside0.mk (bthen HB1.out hb2)); (have HS2 := Aside0.mk (blk_keep HS1.out hb2)); clear c0 c1 lt1; obtain ⟨c0, c1, _, _⟩ := all2 HS2.out; (have lt1 := blk_lt HS2.out); clear hb2))
        go_ret2
        exact ⟨rfl, HB2.out⟩
      · have hno1 : no = true := by simpa using hno'
        have hn0 : n = 0 := hbad.resolve_left hno'
        subst hno1 hn0
        clear hbad hno'
        go_enter Tryd.func55, Tryd.ntmps55
        go_wp2_with (first
          | (go_at_call 66; refine (cut_any s 47 _ hs (HM.out.below (below_alloc (Below.refl _ w) _))).mono ?_; rw [← hX.out]; rintro e w1 ⟨rfl, hb1⟩; (have HB1 := Aside0.mk (bthen (below_alloc (Below.refl _ w) _) hb1)); (have HS1 := Aside0.mk (blk_keep (blk_new _ _) hb1)); obtain ⟨c0, c1, _, _⟩ := all2 HS1.out; (have lt1 := blk_lt HS1.out); clear hb1)
          | (go_at_call 67; refine (CN.out _).mono ?_; rintro e w2 ⟨rfl, hb2⟩; (have HB2 := Aside0.mk (bthen HB1.out hb2)); (have HS2 := Aside0.mk (blk_keep HS1.out hb2)); clear c0 c1 lt1; obtain ⟨c0, c1, _, _⟩ := all2 HS2.out; (have lt1 := blk_lt HS2.out); clear hb2))
        go_ret2
        exact ⟨rfl, HB2.out⟩
    · have hno1 : no = true := by cases no <;> simp_all
      have hn0 : (n == 0) = false := by simp; exact fun h => hbad (.inr h)
      have hn1 : 1 ≤ n := by have : n ≠ 0 := fun h => hbad (.inr h); omega
      subst hno1
      clear hbad
      cases ok with
      | false =>
        have HN : Aside0 (V = 0 ∧ O = false) := ⟨HNO.out (by rw [HI.out]; have : ¬ n = 0 := (by omega); simp [this])⟩
        obtain ⟨rfl, rfl⟩ := HN.out
        go_enter Tryd.func55, Tryd.ntmps55
        go_wp2_with (first
          | (go_at_call 66; refine (cut_any s 47 _ hs (HM.out.below (below_alloc (Below.refl _ w) _))).mono ?_; rw [← hX.out]; rintro e w1 ⟨rfl, hb1⟩; (have HB1 := Aside0.mk (bthen (below_alloc (Below.refl _ w) _) hb1)); (have HS1 := Aside0.mk (blk_keep (blk_new _ _) hb1)); obtain ⟨c0, c1, _, _⟩ := all2 HS1.out; (have lt1 := blk_lt HS1.out); clear hb1)
          | (go_at_call 67; refine (CN.out _).mono ?_; rintro e w2 ⟨rfl, hb2⟩; (have HB2 := Aside0.mk (bthen HB1.out hb2)); (have HS2 := Aside0.mk (blk_keep HS1.out hb2)); clear c0 c1 lt1; obtain ⟨c0, c1, _, _⟩ := all2 HS2.out; (have lt1 := blk_lt HS2.out); clear hb2)
          | (go_at_call 68; refine (CS.out _ HB2.out).mono ?_; rintro e w3 ⟨rfl, hb3⟩; (have HB3 := Aside0.mk (below_alloc (bthen HB2.out hb3) (.cells #[.int .i64 r1, .int .i64 r2] 98))); clear hb3))
        go_ret2
        exact ⟨rfl, HB3.out⟩
      | true =>
        cases wide with
        | false =>
          have HN : Aside0 (V = 0 ∧ O = false) := ⟨HNO.out (by rw [HI.out]; have : ¬ n = 0 := (by omega); simp [this])⟩
          obtain ⟨rfl, rfl⟩ := HN.out
          go_enter Tryd.func55, Tryd.ntmps55
          go_wp2_with (first
            | (go_at_call 66; refine (cut_any s 47 _ hs (HM.out.below (below_alloc (Below.refl _ w) _))).mono ?_; rw [← hX.out]; rintro e w1 ⟨rfl, hb1⟩; (have HB1 := Aside0.mk (bthen (below_alloc (Below.refl _ w) _) hb1)); (have HS1 := Aside0.mk (blk_keep (blk_new _ _) hb1)); obtain ⟨c0, c1, _, _⟩ := all2 HS1.out; (have lt1 := blk_lt HS1.out); clear hb1)
            | (go_at_call 67; refine (CN.out _).mono ?_; rintro e w2 ⟨rfl, hb2⟩; (have HB2 := Aside0.mk (bthen HB1.out hb2)); (have HS2 := Aside0.mk (blk_keep HS1.out hb2)); clear c0 c1 lt1; obtain ⟨c0, c1, _, _⟩ := all2 HS2.out; (have lt1 := blk_lt HS2.out); clear hb2)
            | (go_at_call 68; refine (CS.out _ HB2.out).mono ?_; rintro e w3 ⟨rfl, hb3⟩; (have HB3 := Aside0.mk (below_alloc (bthen HB2.out hb3) (.cells #[.int .i64 r1, .int .i64 r2] 98))); clear hb3))
          go_ret2
          exact ⟨rfl, HB3.out⟩
        | true =>
          obtain ⟨a, rfl⟩ := Int.eq_ofNat_of_zero_le (HSB.out rfl).1
          obtain ⟨b, rfl⟩ := Int.eq_ofNat_of_zero_le (show 0 ≤ r2 by have := HSB.out rfl; omega)
          obtain ⟨st, rfl⟩ := Int.eq_ofNat_of_zero_le nb0
          have HAB : a ≤ b ∧ b ≤ 63 := by have := HSB.out rfl; omega
          obtain ⟨ab, b63⟩ := HAB
          have HN : Aside0 (V = (setOf a b st : Nat) ∧ O = true) := ⟨HYES.out _ (by rw [HI.out]; have : ¬ st = 0 := (by omega); simp [this])⟩
          obtain ⟨rfl, rfl⟩ := HN.out
          go_enter Tryd.func55, Tryd.ntmps55
          go_wp2_with (first
            | (go_at_call 66; refine (cut_any s 47 _ hs (HM.out.below (below_alloc (Below.refl _ w) _))).mono ?_; rw [← hX.out]; rintro e w1 ⟨rfl, hb1⟩; (have HB1 := Aside0.mk (bthen (below_alloc (Below.refl _ w) _) hb1)); (have HS1 := Aside0.mk (blk_keep (blk_new _ _) hb1)); obtain ⟨c0, c1, _, _⟩ := all2 HS1.out; (have lt1 := blk_lt HS1.out); clear hb1)
            | (go_at_call 67; refine (CN.out _).mono ?_; rintro e w2 ⟨rfl, hb2⟩; (have HB2 := Aside0.mk (bthen HB1.out hb2)); (have HS2 := Aside0.mk (blk_keep HS1.out hb2)); clear c0 c1 lt1; obtain ⟨c0, c1, _, _⟩ := all2 HS2.out; (have lt1 := blk_lt HS2.out); clear hb2)
            | (go_at_call 68; refine (CS.out _ HB2.out).mono ?_; rintro e w3 ⟨rfl, hb3⟩; (have HB3 := Aside0.mk (bthen HB2.out hb3)); clear hb3))
          obtain ⟨W4, hW4⟩ : ∃ W4, W4 = w3.alloc (.cells #[.int .i64 (a : Int), .int .i64 (b : Int)] 98) := ⟨_, rfl⟩
          have HK4 : Aside0 (W4.heap[w3.heap.size]? = some (.cells #[.int .i64 (a : Int), .int .i64 (b : Int)] 98 (0, 0))) := ⟨by rw [hW4]; exact blk_new _ _⟩
          have HB4 : Aside0 (Below w.heap.size w W4) := ⟨by rw [hW4]; exact below_alloc HB3.out _⟩
          rw [← hW4]
          clear hW4 c0 c1 lt1
          have st1 : 1 ≤ st := by omega
          go_loopg [4, 11] (many a b st) (fun g v4 v11 wr => ∃ k x S : Nat, Aside0 (x = a + k * st ∧ S = setTo a st k) ∧ v11 = .int .i64 x ∧ g + k = many a b st ∧ v4 = .int .u64 S ∧ wr = W4)
          case atStart => exact ⟨0, a, 0, ⟨by simp, rfl⟩, rfl, by omega, rfl, rfl⟩
          case round =>
            obtain ⟨k, x, S, HX, rfl, hg, rfl, rfl⟩ := hrel
            obtain ⟨c0, c1, _, _⟩ := all2 HK4.out
            by_cases hx : x ≤ b
            · have HK : Aside0 (k < many a b st) := ⟨(many_iff st1).2 (by rw [← HX.out.1]; exact hx)⟩
              have hkm := HK.out
              have xi : (x : Int) ≤ (b : Int) := by omega
              have x63 : (x : Int) ≤ 63 := by omega
              go_wp2
              go_roundg (many a b st - k - 1)
              case measure => omega
              case rel =>
                have hS : S < 2 ^ 64 := by
                  rw [HX.out.2]
                  exact setTo_lt _ _ _ _ fun j hj => by
                    have := (many_iff (low := a) (high := b) (k := j) st1).1 (by omega)
                    omega
                exact ⟨k + 1, x + st, S ||| 2 ^ x, ⟨by rw [HX.out.1, Nat.add_mul]; omega, by rw [setTo_succ, ← HX.out.1, HX.out.2]⟩, by push_cast; rfl, by omega, by rw [or_bit hS (by omega)], rfl⟩
            · have xi : ¬ (x : Int) ≤ (b : Int) := by omega
              have HK : Aside0 (k = many a b st) := ⟨by
                have : ¬ k < many a b st := fun h => hx (by rw [HX.out.1]; exact (many_iff st1).1 h)
                omega⟩
              have HSS : Aside0 (S = setOf a b st) := ⟨by rw [HX.out.2, HK.out]; rfl⟩
              obtain rfl := HSS.out
              go_wp2
              go_ret2
              exact ⟨rfl, HB4.out⟩
  | false =>
    cases ok with
    | false =>
      have HN : Aside0 (V = 0 ∧ O = false) := ⟨HNO.out (by rw [HI.out]; simp)⟩
      obtain ⟨rfl, rfl⟩ := HN.out
      go_enter Tryd.func55, Tryd.ntmps55
      go_wp2_with (first
          | (go_at_call 66; refine (cut_any s 47 _ hs (HM.out.below (below_alloc (Below.refl _ w) _))).mono ?_; rw [← hX.out]; rintro e w1 ⟨rfl, hb1⟩; (have HB1 := Aside0.mk (bthen (below_alloc (Below.refl _ w) _) hb1)); (have HS1 := Aside0.mk (blk_keep (blk_new _ _) hb1)); obtain ⟨c0, c1, _, _⟩ := all2 HS1.out; (have lt1 := blk_lt HS1.out); clear hb1)
          | (go_at_call 68; refine (CS.out _ HB1.out).mono ?_; rintro e w3 ⟨rfl, hb3⟩; (have HB3 := Aside0.mk (below_alloc (bthen HB1.out hb3) (.cells #[.int .i64 r1, .int .i64 r2] 98))); clear hb3))
      go_ret2
      exact ⟨rfl, HB3.out⟩
    | true =>
      obtain ⟨a, rfl⟩ := Int.eq_ofNat_of_zero_le (HSB.out rfl).1
      obtain ⟨b, rfl⟩ := Int.eq_ofNat_of_zero_le (show 0 ≤ r2 by have := HSB.out rfl; omega)
      have HAB : a ≤ b ∧ b ≤ 63 := by have := HSB.out rfl; omega
      obtain ⟨ab, b63⟩ := HAB
      have HN : Aside0 (V = (setOf a b 1 : Nat) ∧ O = true) := ⟨HYES.out _ (by rw [HI.out]; simp)⟩
      obtain ⟨rfl, rfl⟩ := HN.out
      go_enter Tryd.func55, Tryd.ntmps55
      go_wp2_with (first
          | (go_at_call 66; refine (cut_any s 47 _ hs (HM.out.below (below_alloc (Below.refl _ w) _))).mono ?_; rw [← hX.out]; rintro e w1 ⟨rfl, hb1⟩; (have HB1 := Aside0.mk (bthen (below_alloc (Below.refl _ w) _) hb1)); (have HS1 := Aside0.mk (blk_keep (blk_new _ _) hb1)); obtain ⟨c0, c1, _, _⟩ := all2 HS1.out; (have lt1 := blk_lt HS1.out); clear hb1)
          | (go_at_call 68; refine (CS.out _ HB1.out).mono ?_; rintro e w3 ⟨rfl, hb3⟩; (have HB3 := Aside0.mk (bthen HB1.out hb3)); clear hb3))
      obtain ⟨W4, hW4⟩ : ∃ W4, W4 = w3.alloc (.cells #[.int .i64 (a : Int), .int .i64 (b : Int)] 98) := ⟨_, rfl⟩
      have HK4 : Aside0 (W4.heap[w3.heap.size]? = some (.cells #[.int .i64 (a : Int), .int .i64 (b : Int)] 98 (0, 0))) := ⟨by rw [hW4]; exact blk_new _ _⟩
      have HB4 : Aside0 (Below w.heap.size w W4) := ⟨by rw [hW4]; exact below_alloc HB3.out _⟩
      rw [← hW4]
      clear hW4 c0 c1 lt1
      have st1 : 0 < 1 := by omega
      go_loopg [4, 11] (many a b 1) (fun g v4 v11 wr => ∃ k x S : Nat, Aside0 (x = a + k * 1 ∧ S = setTo a 1 k) ∧ v11 = .int .i64 x ∧ g + k = many a b 1 ∧ v4 = .int .u64 S ∧ wr = W4)
      case atStart => exact ⟨0, a, 0, ⟨by simp, rfl⟩, rfl, by omega, rfl, rfl⟩
      case round =>
        obtain ⟨k, x, S, HX, rfl, hg, rfl, rfl⟩ := hrel
        obtain ⟨c0, c1, _, _⟩ := all2 HK4.out
        by_cases hx : x ≤ b
        · have HK : Aside0 (k < many a b 1) := ⟨(many_iff st1).2 (by rw [← HX.out.1]; exact hx)⟩
          have hkm := HK.out
          have xi : (x : Int) ≤ (b : Int) := by omega
          have x63 : (x : Int) ≤ 63 := by omega
          go_wp2
          go_roundg (many a b 1 - k - 1)
          case measure => omega
          case rel =>
            have hS : S < 2 ^ 64 := by
              rw [HX.out.2]
              exact setTo_lt _ _ _ _ fun j hj => by
                have := (many_iff (low := a) (high := b) (k := j) st1).1 (by omega)
                omega
            exact ⟨k + 1, x + 1, S ||| 2 ^ x, ⟨by rw [HX.out.1, Nat.add_mul]; omega, by rw [setTo_succ, ← HX.out.1, HX.out.2]⟩, by push_cast; rfl, by omega, by rw [or_bit hS (by omega)], rfl⟩
        · have xi : ¬ (x : Int) ≤ (b : Int) := by omega
          have HK : Aside0 (k = many a b 1) := ⟨by
            have : ¬ k < many a b 1 := fun h => hx (by rw [HX.out.1]; exact (many_iff st1).1 h)
            omega⟩
          have HSS : Aside0 (S = setOf a b 1) := ⟨by rw [HX.out.2, HK.out]; rfl⟩
          obtain rfl := HSS.out
          go_wp2
          go_ret2
          exact ⟨rfl, HB4.out⟩
end Go.Proofs.YteloamnakikbbaaDoor.Cron

/- A range over a function whose body never leaves: one caller and its iterator walked together. -/
namespace Go.Proofs.YteloamnakikbbaaDoor.RangeOne
open Go.RowKit
set_option linter.unusedVariables false
variable {F : Fence} {n : Nat} {P : Program}

/-- the loop's record and the block of its deferred calls, between two rounds -/
def Rec (r : Loop) (D : Nat) (W : World) : Prop := W.heap[D + 1]? = some (.loop r) ∧ W.heap[D]? = some (.deferred (some []))

theorem Rec.lt {r : Loop} {D : Nat} {W : World} (h : Rec r D W) : D + 1 < W.heap.size := (Array.getElem?_eq_some_iff.1 h.1).1

/-- one round: its body ends off its end. -/
theorem yield_at {m : Nat} {r : Loop} {D : Nat} {W : World} {args : Array Value} {R : World → Prop} (hF : F.fn r.fn) (hrec : Rec r D W) (hr : r.state = .ready) (hp : r.pending = none) (hs : args.size = r.params.size)
    (h : r.assign.wpIn (F.inRound (D + 1)) m P (Exit.then (fun a1 W1 => Rec r D W1 ∧
        r.body.wpIn (F.inRound (D + 1)) m P (fun e _ W3 => e = .normal ∧ W3.heap[D + 1]? = some (.loop { r with state := .busy }) ∧ W3.heap[D]? = some (.deferred (some [])) ∧ R (W3.putObj (D + 1) (.loop r))) a1 (W1.putObj (D + 1) (.loop { r with state := .busy }))) (fun _ _ _ => False))
      { tmps := (r.params.zip args).foldl (fun t (p, v) => t.setIfInBounds p v) r.tmps, defers := [] } W) :
    YieldAt F m P (D + 1) args W fun e W' => e = .returned (.bool true) ∧ Rec r D W' ∧ R W' := by
  refine ⟨r.fn, _, r.assign, r.body, run_yield (P := P) (args := args) hrec.1 hs, roundIn_of_wpIn hF (wpIn_mono h ?_)⟩
  rintro e a1 W1 hq
  cases e with
  | normal =>
    obtain ⟨hr1, hb⟩ := hq
    refine ⟨_, run_beginRound hr1.1 hr, wpIn_mono hb ?_⟩
    rintro e a3 W3 ⟨rfl, hl3, hd3, hR⟩
    have hend := run_endRound (P := P) none hl3
    have he : ({ r with state := .ready, pending := none } : Loop) = r := by
      cases r; simp_all
    have he2 : ({ { r with state := .busy } with state := if (none : Option Code).isNone then .ready else .done, pending := none } : Loop) = r := by
      cases r; simp_all
    rw [he2] at hend
    have hlt : D + 1 < W3.heap.size := (Array.getElem?_eq_some_iff.1 hl3).1
    exact ⟨_, _, hend, rfl, ⟨World.putObj_heap_same hlt, (World.putObj_heap_other (by omega)).trans hd3⟩, hR⟩
  | ret => exact hq.elim
  | exit id => exact hq.elim
  | goto t => exact hq.elim
  | panic c => exact hq.elim
  | outgrown => exact hq.elim

/-- the statement: the iterator's own contract, at this loop's record. -/
theorem wp_range {g : Operand} {ps : Array Tmp} {assign body : Code} {Q : Exit → Act → World → Prop} {a : Act} {w : World} {K : World → Prop}
    (hro : F.round = none) (h1 : 1 ≤ n) {gf : Nat} {lb : Array Value} (hg : a.eval g = .func (.func gf) #[] lb) (hFg : F.fn gf) (eg : ∀ args w, (callFunc gf args).run P w = .ok (.enter gf args) w)
    (h : ∀ fn, F.fn fn → ∀ r : Loop, r = { state := .ready, pending := none, fn, tmps := a.tmps, params := ps, assign, body, defers := w.heap.size } →
      CallsIn F (n - 1) P gf (#[.func (.yield (w.heap.size + 1)) #[] #[]] ++ lb) ((w.alloc (.deferred (some []))).alloc (.loop r)) (fun e W' => (∃ v, e = .returned v) ∧ Rec r w.heap.size W' ∧ K (W'.putObj (w.heap.size + 1) (.loop { r with state := .exhausted }))))
    (hK : ∀ W, K W → W.heap[w.heap.size]? = some (.deferred (some [])) → Q .normal { a with defers := { target := .collected w.heap.size, args := #[] } :: a.defers } W) :
    (Code.rangeFunc g ps assign body).wpIn F n P Q a w := by
  refine wpIn_rangeFunc ?_
  intro fn hfn
  rw [hro]
  obtain ⟨r, hr⟩ : ∃ r : Loop, r = { state := .ready, pending := none, fn, tmps := a.tmps, params := ps, assign, body, defers := w.heap.size } := ⟨_, rfl⟩
  obtain ⟨W1, hW1⟩ : ∃ W1, W1 = (w.alloc (.deferred (some []))).alloc (.loop r) := ⟨_, rfl⟩
  refine ⟨w.heap.size + 1, [{ target := .collected w.heap.size, args := #[] }], W1, { target := .fn (.func gf) lb, args := #[.func (.yield (w.heap.size + 1)) #[] #[]] }, W1, gf,
    #[.func (.yield (w.heap.size + 1)) #[] #[]] ++ lb, W1, ?_, ?_, ?_, ?_, fun _ => h1, ?_⟩
  · rw [hW1, hr]; exact run_enterLoop_outer _ _ _ _ _
  · simp only [resolve, hg]
    simp [go_sem]
  · intro f' hf'; simp [Target.leads] at hf'; subst hf'; exact hFg
  · simp [invoke, go_sem, eg]
  · rw [hW1]
    refine (h fn hfn r hr).mono ?_
    rintro e W' ⟨⟨v, rfl⟩, hrec, hk⟩
    refine ⟨none, _, by have := run_endLoop (P := P) hrec.1 (by rw [hr]; simp); rw [show r.pending = none by rw [hr]] at this; exact this, ?_⟩
    have hk' : K (W'.putObj (w.heap.size + 1) (.loop { r with state := .exhausted, pending := none })) := by
      have he : ({ r with state := .exhausted, pending := none } : Loop) = { r with state := .exhausted } := by rw [hr]
      rw [he]; exact hk
    exact hK _ hk' ((World.putObj_heap_other (by omega)).trans hrec.2)
end Go.Proofs.YteloamnakikbbaaDoor.RangeOne

/- A range over a function whose body goes on or returns: one caller and its iterator walked together. -/
namespace Go.Proofs.YteloamnakikbbaaDoor.RangeOne
open Go.RowKit
set_option linter.unusedVariables false
set_option linter.unusedSimpArgs false
variable {F : Fence} {n : Nat} {P : Program}

/-- the record behind a round that returned -/
abbrev Loop.left (r : Loop) : Loop := { r with state := .done, pending := some .ret }
/-- one round: its body ends off its end, or returns. -/
theorem yield_two {m : Nat} {r : Loop} {D : Nat} {W : World} {args : Array Value} {R : Bool → World → Prop} (hF : F.fn r.fn) (hrec : Rec r D W) (hr : r.state = .ready) (hp : r.pending = none) (hs : args.size = r.params.size)
    (h : r.assign.wpIn (F.inRound (D + 1)) m P (Exit.then (fun a1 W1 => Rec r D W1 ∧
        r.body.wpIn (F.inRound (D + 1)) m P (fun e _ W3 => W3.heap[D + 1]? = some (.loop { r with state := .busy }) ∧ W3.heap[D]? = some (.deferred (some [])) ∧
          ((e = .normal ∧ R true (W3.putObj (D + 1) (.loop r))) ∨ (e = .ret ∧ R false (W3.putObj (D + 1) (.loop (Loop.left r)))))) a1 (W1.putObj (D + 1) (.loop { r with state := .busy }))) (fun _ _ _ => False))
      { tmps := (r.params.zip args).foldl (fun t (p, v) => t.setIfInBounds p v) r.tmps, defers := [] } W) :
    YieldAt F m P (D + 1) args W fun e W' => (e = .returned (.bool true) ∧ Rec r D W' ∧ R true W') ∨ (e = .returned (.bool false) ∧ Rec (Loop.left r) D W' ∧ R false W') := by
  refine ⟨r.fn, _, r.assign, r.body, run_yield (P := P) (args := args) hrec.1 hs, roundIn_of_wpIn hF (wpIn_mono h ?_)⟩
  rintro e a1 W1 hq
  cases e with
  | normal =>
    obtain ⟨hr1, hb⟩ := hq
    refine ⟨_, run_beginRound hr1.1 hr, wpIn_mono hb ?_⟩
    rintro e a3 W3 ⟨hl3, hd3, hR⟩
    have hlt : D + 1 < W3.heap.size := (Array.getElem?_eq_some_iff.1 hl3).1
    rcases hR with ⟨rfl, hR⟩ | ⟨rfl, hR⟩
    · have hend := run_endRound (P := P) none hl3
      have he2 : ({ { r with state := .busy } with state := if (none : Option Code).isNone then .ready else .done, pending := none } : Loop) = r := by
        cases r; simp_all
      rw [he2] at hend
      exact ⟨_, _, hend, .inl ⟨rfl, ⟨World.putObj_heap_same hlt, (World.putObj_heap_other (by omega)).trans hd3⟩, hR⟩⟩
    · have hend := run_endRound (P := P) (some .ret) hl3
      have he2 : ({ { r with state := .busy } with state := if (some Code.ret : Option Code).isNone then .ready else .done, pending := some .ret } : Loop) = Loop.left r := by
        cases r; simp_all [Loop.left]
      rw [he2] at hend
      exact ⟨_, _, hend, .inr ⟨rfl, ⟨World.putObj_heap_same hlt, (World.putObj_heap_other (by omega)).trans hd3⟩, hR⟩⟩
  | ret => exact hq.elim
  | exit id => exact hq.elim
  | goto t => exact hq.elim
  | panic c => exact hq.elim
  | outgrown => exact hq.elim

/-- the statement: the iterator's own contract, at this loop's record; where a round returned the function returns. -/
theorem wp_range2 {g : Operand} {ps : Array Tmp} {assign body : Code} {Q : Exit → Act → World → Prop} {a : Act} {w : World} {K Kx : World → Prop}
    (hro : F.round = none) (h1 : 1 ≤ n) {gf : Nat} {lb : Array Value} (hg : a.eval g = .func (.func gf) #[] lb) (hFg : F.fn gf) (eg : ∀ args w, (callFunc gf args).run P w = .ok (.enter gf args) w)
    (h : ∀ fn, F.fn fn → ∀ r : Loop, r = { state := .ready, pending := none, fn, tmps := a.tmps, params := ps, assign, body, defers := w.heap.size } →
      CallsIn F (n - 1) P gf (#[.func (.yield (w.heap.size + 1)) #[] #[]] ++ lb) ((w.alloc (.deferred (some []))).alloc (.loop r)) (fun e W' => (∃ v, e = .returned v) ∧
        ((Rec r w.heap.size W' ∧ K (W'.putObj (w.heap.size + 1) (.loop { r with state := .exhausted }))) ∨ (Rec (Loop.left r) w.heap.size W' ∧ Kx (W'.putObj (w.heap.size + 1) (.loop { Loop.left r with state := .exhausted }))))))
    (hK : ∀ W, K W → W.heap[w.heap.size]? = some (.deferred (some [])) → Q .normal { a with defers := { target := .collected w.heap.size, args := #[] } :: a.defers } W)
    (hKx : ∀ W, Kx W → W.heap[w.heap.size]? = some (.deferred (some [])) → Code.ret.wpIn F n P Q { a with defers := { target := .collected w.heap.size, args := #[] } :: a.defers } W) :
    (Code.rangeFunc g ps assign body).wpIn F n P Q a w := by
  refine wpIn_rangeFunc ?_
  intro fn hfn
  rw [hro]
  obtain ⟨r, hr⟩ : ∃ r : Loop, r = { state := .ready, pending := none, fn, tmps := a.tmps, params := ps, assign, body, defers := w.heap.size } := ⟨_, rfl⟩
  obtain ⟨W1, hW1⟩ : ∃ W1, W1 = (w.alloc (.deferred (some []))).alloc (.loop r) := ⟨_, rfl⟩
  refine ⟨w.heap.size + 1, [{ target := .collected w.heap.size, args := #[] }], W1, { target := .fn (.func gf) lb, args := #[.func (.yield (w.heap.size + 1)) #[] #[]] }, W1, gf,
    #[.func (.yield (w.heap.size + 1)) #[] #[]] ++ lb, W1, ?_, ?_, ?_, ?_, fun _ => h1, ?_⟩
  · rw [hW1, hr]; exact run_enterLoop_outer _ _ _ _ _
  · simp only [resolve, hg]
    simp [go_sem]
  · intro f' hf'; simp [Target.leads] at hf'; subst hf'; exact hFg
  · simp [invoke, go_sem, eg]
  · rw [hW1]
    refine (h fn hfn r hr).mono ?_
    rintro e W' ⟨⟨v, rfl⟩, ⟨hrec, hk⟩ | ⟨hrec, hk⟩⟩
    · refine ⟨none, _, by have := run_endLoop (P := P) hrec.1 (by rw [hr]; simp); rw [show r.pending = none by rw [hr]] at this; exact this, ?_⟩
      have hk' : K (W'.putObj (w.heap.size + 1) (.loop { r with state := .exhausted, pending := none })) := by
        have he : ({ r with state := .exhausted, pending := none } : Loop) = { r with state := .exhausted } := by rw [hr]
        rw [he]; exact hk
      exact hK _ hk' ((World.putObj_heap_other (by omega)).trans hrec.2)
    · exact ⟨some .ret, _, run_endLoop (P := P) hrec.1 (by simp [Loop.left]), hKx _ hk ((World.putObj_heap_other (by omega)).trans hrec.2)⟩
end Go.Proofs.YteloamnakikbbaaDoor.RangeOne
