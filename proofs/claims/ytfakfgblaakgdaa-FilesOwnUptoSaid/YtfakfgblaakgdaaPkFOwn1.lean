/- FilesOwn: for all files and acts of bulk at most 1048576 the law returns true, and what it is given stays. (Printed by wip/gen_rows.py.) -/
import Derived.Test.YtfakfgblaakgdaaPkRuns10
import Derived.Test.YtfakfgblaakgdaaPkRuns9
import Derived.Test.YtfakfgblaakgdaaPkRuns8
import Derived.Test.YtfakfgblaakgdaaPkRuns7
import Derived.Test.YtfakfgblaakgdaaPkRuns6
import Derived.Test.YtfakfgblaakgdaaPkRuns5
import Derived.Test.YtfakfgblaakgdaaPkRuns4
import Derived.Test.YtfakfgblaakgdaaPkRuns3
import Derived.Test.YtfakfgblaakgdaaPkRuns2
import Derived.Test.YtfakfgblaakgdaaPkRuns1
import Derived.JoinedCond

/- Whole numbers written over whole numbers, in blocks from one place to another: what stays of memory. No program. -/
namespace Go.Proofs.Ytfakfgblaakgdaa.Spoil
set_option linter.unusedVariables false
set_option linter.unusedSimpArgs false
open Go.RowKit Go.Proofs.YtfakfgblaakgdaaW.PrintWords Go.Proofs.YtfakfgblaakgdaaW.PrintLast Go.Proofs.Ytfakfgblaakgdaa.Base

structure Sp (lo hi : Nat) (w w' : World) : Prop where
  os : w'.os = w.os
  tape : w'.tape = w.tape
  output : w'.output = w.output
  size : w'.heap.size = w.heap.size
  far : ∀ k, ¬ (lo ≤ k ∧ k < hi) → w'.heap[k]? = w.heap[k]?
  cell : ∀ a v, w.cell? a = some v → (∀ k x, v ≠ .int k x) → w'.cell? a = some v
  oct : ∀ a x, w.cell? a = some (.int .u8 x) → ∃ y, w'.cell? a = some (.int .u8 y)
  num : ∀ a x, w.cell? a = some (.int .i64 x) → ∃ y, w'.cell? a = some (.int .i64 y)
  froz : ∀ a, w'.frozen? a = w.frozen? a
variable {lo hi : Nat} {w w' w'' : World}
theorem Sp.refl (lo hi : Nat) (w : World) : Sp lo hi w w := ⟨rfl, rfl, rfl, rfl, fun _ _ => rfl, fun _ _ h _ => h, fun a x h => ⟨x, h⟩, fun a x h => ⟨x, h⟩, fun _ => rfl⟩
theorem Sp.trans (h : Sp lo hi w w') (k : Sp lo hi w' w'') : Sp lo hi w w'' :=
  ⟨k.os.trans h.os, k.tape.trans h.tape, k.output.trans h.output, k.size.trans h.size, fun i hi => (k.far i hi).trans (h.far i hi), fun a v e n => k.cell a v (h.cell a v e n) n,
    fun a x e => by obtain ⟨y, e2⟩ := h.oct a x e; exact k.oct a y e2, fun a x e => by obtain ⟨y, e2⟩ := h.num a x e; exact k.num a y e2, fun a => (k.froz a).trans (h.froz a)⟩
theorem Sp.drew (h : Sp lo hi w w') : Sp lo hi w w'.drew := ⟨h.os, h.tape, h.output, h.size, h.far, h.cell, h.oct, h.num, h.froz⟩
theorem Sp.drewN (h : Sp lo hi w w') (n : Nat) : Sp lo hi w (w'.drewN n) := ⟨h.os, h.tape, h.output, h.size, h.far, h.cell, h.oct, h.num, h.froz⟩
theorem Sp.below {B : Nat} {w0 : World} (h : Sp lo hi w w') (hb : Below B w0 w) (hl : B ≤ lo) : Below B w0 w' :=
  hb.trans ⟨h.os, h.tape, h.output, by rw [h.size]; exact Nat.le_refl _, fun k hk => h.far k (by omega)⟩
theorem Sp.mono {lo' hi' : Nat} (h : Sp lo hi w w') (hl : lo' ≤ lo) (hh : hi ≤ hi') : Sp lo' hi' w w' :=
  ⟨h.os, h.tape, h.output, h.size, fun k hk => h.far k (by omega), h.cell, h.oct, h.num, h.froz⟩
theorem Sp.setOct {a : Addr} {x y : Int} (hc : w.cell? a = some (.int .u8 x)) (hb : lo ≤ a.block ∧ a.block < hi) : Sp lo hi w (w.setCell a (.int .u8 y)) where
  os := rfl
  tape := rfl
  output := rfl
  size := by simp [World.setCell]
  far := fun k hk => Below.heap_setCell w a _ k (by rintro rfl; exact hk hb)
  cell := fun b v e n => by
    have hab : a ≠ b := by rintro rfl; rw [hc] at e; injection e with e; exact n _ _ e.symm
    rw [World.cell?_setCell_other w a b _ hab]; exact e
  oct := fun b z e => by
    by_cases hab : a = b
    · subst hab; exact ⟨y, World.cell?_setCell_same w a _ hc⟩
    · exact ⟨z, by rw [World.cell?_setCell_other w a b _ hab]; exact e⟩
  num := fun b z e => by
    have hab : a ≠ b := by rintro rfl; rw [hc] at e; injection e with e; injection e with e1; cases e1
    exact ⟨z, by rw [World.cell?_setCell_other w a b _ hab]; exact e⟩
  froz := fun b => World.frozen?_setCell _ _ _ _
theorem Sp.setNum {a : Addr} {x y : Int} (hc : w.cell? a = some (.int .i64 x)) (hb : lo ≤ a.block ∧ a.block < hi) : Sp lo hi w (w.setCell a (.int .i64 y)) where
  os := rfl
  tape := rfl
  output := rfl
  size := by simp [World.setCell]
  far := fun k hk => Below.heap_setCell w a _ k (by rintro rfl; exact hk hb)
  cell := fun b v e n => by
    have hab : a ≠ b := by rintro rfl; rw [hc] at e; injection e with e; exact n _ _ e.symm
    rw [World.cell?_setCell_other w a b _ hab]; exact e
  oct := fun b z e => by
    have hab : a ≠ b := by rintro rfl; rw [hc] at e; injection e with e; injection e with e1; cases e1
    exact ⟨z, by rw [World.cell?_setCell_other w a b _ hab]; exact e⟩
  num := fun b z e => by
    by_cases hab : a = b
    · subst hab; exact ⟨y, World.cell?_setCell_same w a _ hc⟩
    · exact ⟨z, by rw [World.cell?_setCell_other w a b _ hab]; exact e⟩
  froz := fun b => World.frozen?_setCell _ _ _ _

/-- octets that may be written: n of them, from A on, in blocks from lo up to hi -/
def Oct (lo hi : Nat) (w : World) (A : Option Addr) (n : Nat) : Prop :=
  ∀ i, i < n → ∃ ad x, A = some ad ∧ w.cell? (ad.add i) = some (.int .u8 x) ∧ w.frozen? (ad.add i) = false ∧ lo ≤ ad.block ∧ ad.block < hi
theorem Oct.sp {A : Option Addr} {n : Nat} (h : Oct lo hi w A n) (k : Sp lo hi w w') : Oct lo hi w' A n := by
  intro i hi
  obtain ⟨ad, x, e, c, f, b0, b1⟩ := h i hi
  obtain ⟨y, c2⟩ := k.oct _ _ c
  exact ⟨ad, y, e, c2, (k.froz _).trans f, b0, b1⟩
theorem Oct.below {A : Option Addr} {n : Nat} (h : Oct lo hi w A n) (hb : Below w.heap.size w w') : Oct lo hi w' A n := by
  intro i hi
  obtain ⟨ad, x, e, c, f, b0, b1⟩ := h i hi
  have hl := World.block_lt_of_cell? w _ c
  exact ⟨ad, x, e, (hb.cell hl).trans c, (hb.frozen hl).trans f, b0, b1⟩
end Go.Proofs.Ytfakfgblaakgdaa.Spoil

/- Octets written over (Spoil), walked; the rows of a state of one's own, as what may be written over. -/
namespace Go.Proofs.Ytfakfgblaakgdaa.Spoil
set_option linter.unusedVariables false
set_option linter.unusedSimpArgs false
open Go.RowKit Go.Proofs.YtfakfgblaakgdaaW.PrintWords Go.Proofs.YtfakfgblaakgdaaW.PrintLast Go.Proofs.Ytfakfgblaakgdaa.Base Go.Proofs.Ytfakfgblaakgdaa.Cells Go.Proofs.Ytfakfgblaakgdaa.Ints Go.Proofs.Ytfakfgblaakgdaa.Var Go.Proofs.Ytfakfgblaakgdaa.Files Go.Proofs.Ytfakfgblaakgdaa.RowsC

theorem add_blk (a : Addr) (n : Nat) : (a.add n).block = a.block := by unfold Addr.add; split <;> rfl
set_option maxRecDepth 100000 in
set_option maxHeartbeats 1000000 in
theorem spoil_any (lo hi : Nat) (A : Option Addr) (n c : Nat) (w : World) (h : Oct lo hi w A n) (hn : n ≤ 1048576) :
    Calls Try.prog 31 #[.slice A n c] w fun e w' => e = .returned (.tuple #[]) ∧ Sp lo hi w w' := by
  have H := Aside0.mk h
  clear h
  go_enter Try.func31, Try.ntmps31
  go_wp2
  go_loopg [2] n (fun g v2 wr => ∃ i : Nat, v2 = .int .i64 i ∧ g + i = n ∧ Aside0 (Sp lo hi w wr))
  case atStart => exact ⟨0, rfl, by omega, ⟨Sp.refl _ _ _⟩⟩
  case round =>
    obtain ⟨i, rfl, hg, HS⟩ := hrel
    by_cases hlt : i < n
    · obtain ⟨ad, x, rfl, c0, f0, b0, b1⟩ := H.out.sp HS.out i hlt
      have hlt' : (i : Int) < (n : Int) := by omega
      have HC := Aside0.mk c0
      go_wp2
      go_roundg (n - (i + 1))
      case measure => omega
      case rel => exact ⟨i + 1, by go_num, by omega, ⟨HS.out.trans (Sp.setOct HC.out (by rw [add_blk]; exact ⟨b0, b1⟩))⟩⟩
    · have hnf : ¬ ((i : Int) < (n : Int)) := by omega
      go_wp2
      exact ⟨rfl, .tuple #[], by simp [results, Try.results31, go_sem], rfl, HS.out⟩

section
variable {lo hi : Nat} {w w' : World}
theorem Oct.of_own {v : Value} {l : List Int} {A : Option Addr} {n c : Nat} (h : RB w lo v l) (hv : v = .slice A n c) (hh : w.heap.size ≤ hi) : Oct lo hi w A n := by
  subst hv
  intro i hi'
  rcases h.2 with ⟨h1, _⟩ | ⟨g, cap, cur, h1, hb, hg, _⟩
  · injection h1 with _ e2 _; omega
  · injection h1 with e1 e2 _
    subst e1 e2
    have h2 := own_at (n := l.length) h (i : Int) (by omega) (by omega)
    rw [Int.toNat_natCast] at h2
    have hl := blk_lt hg
    exact ⟨⟨g, 0, none⟩, rd l i, rfl, by rw [add_plain]; exact h2.1, by rw [add_plain]; exact h2.2, hb, by show g < hi; omega⟩
/-- files' numbers that may be written over, and their octets -/
def FSh (lo hi : Nat) (w : World) (A : Option Addr) (n : Nat) : Prop :=
  ∀ i, i < n → ∃ ad y D m c, A = some ad ∧ w.cell? (ad.add (i * 3)) = some (.int .i64 y) ∧ w.frozen? (ad.add (i * 3)) = false ∧ w.cell? ⟨(ad.add (i * 3)).block, (ad.add (i * 3)).off + 1, none⟩ = some (.slice D m c) ∧ Oct lo hi w D m ∧ m ≤ 1048576 ∧ lo ≤ ad.block ∧ ad.block < hi
/-- names' numbers that may be written over -/
def NSh (lo hi : Nat) (w : World) (A : Option Addr) (n : Nat) : Prop :=
  ∀ i, i < n → ∃ ad y, A = some ad ∧ w.cell? ⟨(ad.add (i * 2)).block, (ad.add (i * 2)).off + 1, none⟩ = some (.int .i64 y) ∧ w.frozen? ⟨(ad.add (i * 2)).block, (ad.add (i * 2)).off + 1, none⟩ = false ∧ lo ≤ ad.block ∧ ad.block < hi
theorem FSh.sp {A : Option Addr} {n : Nat} (h : FSh lo hi w A n) (k : Sp lo hi w w') : FSh lo hi w' A n := by
  intro i hi
  obtain ⟨ad, y, D, m, c, e, c0, f0, c1, o, hm, b0, b1⟩ := h i hi
  obtain ⟨z, c2⟩ := k.num _ _ c0
  exact ⟨ad, z, D, m, c, e, c2, (k.froz _).trans f0, k.cell _ _ c1 (by simp), o.sp k, hm, b0, b1⟩
theorem FSh.below {A : Option Addr} {n : Nat} (h : FSh lo hi w A n) (hb : Below w.heap.size w w') : FSh lo hi w' A n := by
  intro i hi
  obtain ⟨ad, y, D, m, c, e, c0, f0, c1, o, hm, b0, b1⟩ := h i hi
  exact ⟨ad, y, D, m, c, e, pw_cell_below hb c0, (hb.frozen (World.block_lt_of_cell? w _ c0)).trans f0, pw_cell_below hb c1, o.below hb, hm, b0, b1⟩
theorem NSh.sp {A : Option Addr} {n : Nat} (h : NSh lo hi w A n) (k : Sp lo hi w w') : NSh lo hi w' A n := by
  intro i hi
  obtain ⟨ad, y, e, c0, f0, b0, b1⟩ := h i hi
  obtain ⟨z, c2⟩ := k.num _ _ c0
  exact ⟨ad, z, e, c2, (k.froz _).trans f0, b0, b1⟩
theorem NSh.below {A : Option Addr} {n : Nat} (h : NSh lo hi w A n) (hb : Below w.heap.size w w') : NSh lo hi w' A n := by
  intro i hi
  obtain ⟨ad, y, e, c0, f0, b0, b1⟩ := h i hi
  exact ⟨ad, y, e, pw_cell_below hb c0, (hb.frozen (World.block_lt_of_cell? w _ c0)).trans f0, b0, b1⟩
theorem FSh.of_own {l : List Fl} {A : Option Addr} {n c : Nat} (h : RF w lo (.slice A n c) l) (hd : ∀ f ∈ l, f.data.length ≤ 1048576) (hh : w.heap.size ≤ hi) : FSh lo hi w A n := by
  obtain ⟨hn, _, _⟩ := Kd.R_reads' h
  intro i hi'
  obtain ⟨g, cap, e1, hb, hl, _⟩ := Kd.R_form h (by omega)
  injection e1 with e1 _ _
  subst e1
  obtain ⟨cs, hcl, hM, hc, hf⟩ := Kd.R_elem h zFl (i : Int) (by omega) (by omega)
  obtain ⟨_, _, rfl, rfl, ⟨_, _, rfl, ⟨v, rfl, hR⟩, rfl⟩⟩ := hM
  rw [Int.toNat_natCast] at hc hf hR
  have hm : l.getD i zFl ∈ l := by
    rw [List.getD_eq_getElem?_getD, List.getElem?_eq_getElem (by omega)]
    exact List.getElem_mem _
  obtain ⟨D, dc, rfl, _⟩ := Kd.R_reads hR
  refine ⟨⟨g, 0, none⟩, _, D, _, dc, rfl, by rw [add_plain]; exact hc 0 _ rfl, by rw [add_plain]; exact hf 0, ?_, Oct.of_own (Kd.own_of_R hR) rfl hh, hd _ hm, hb, by show g < hi; omega⟩
  have := hc 1 _ rfl
  rw [add_plain]
  exact this
theorem NSh.of_own {l : List Nm} {A : Option Addr} {n c : Nat} (h : RN w lo (.slice A n c) l) (hh : w.heap.size ≤ hi) : NSh lo hi w A n := by
  obtain ⟨hn, _, _⟩ := Kd.R_reads' h
  intro i hi'
  obtain ⟨g, cap, e1, hb, hl, _⟩ := Kd.R_form h (by omega)
  injection e1 with e1 _ _
  subst e1
  obtain ⟨cs, hcl, hM, hc, hf⟩ := Kd.R_elem h zNm (i : Int) (by omega) (by omega)
  obtain rfl := kNm_openM hM
  rw [Int.toNat_natCast] at hc hf
  have h1 := hc 1 _ rfl
  have h2 := hf 1
  exact ⟨⟨g, 0, none⟩, _, rfl, by rw [add_plain]; exact h1, by rw [add_plain]; exact h2, hb, by show g < hi; omega⟩
theorem sp_rows {e : TypeId} {base : Nat} {v : Value} {l : List Nm} (h : kNm.R e w base (fun _ => True) v l) (k : Sp lo hi w w') (hb : hi ≤ base) : kNm.R e w' base (fun _ => True) v l :=
  Kd.R_mono (Kd.R_move (Kd.R_bound h) (fun b hk => k.far b (by have := hk.2.1; omega))) (fun _ _ => trivial)
theorem sp_files {e : TypeId} {base : Nat} {v : Value} {L : List (Fl × Value)} (h : OF e w base v L) (k : Sp lo hi w w') (hb : hi ≤ base) : OF e w' base v L :=
  h.step (fun b hk => k.far b (by have := (h.row.block b hk).1; omega)) (fun x hx b hk => k.far b (by have := own_base (h.own x hx) b hk; omega))
theorem sp_rs {base : Nat} {v : Value} {s : St} (h : Rs w base v s) (k : Sp lo hi w w') (hb : hi ≤ base) : Rs w' base v s := by
  obtain ⟨vF, vN, vS, L, h1, h2, h3, h4, h5⟩ := h
  exact ⟨vF, vN, vS, L, h1, sp_files h2 k hb, h3, sp_rows h4 k hb, sp_rows h5 k hb⟩
theorem sp_rrs {base : Nat} {v : Value} {s : St} (h : Ref.Rs w base v s) (k : Sp lo hi w w') (hb : hi ≤ base) : Ref.Rs w' base v s := by
  obtain ⟨vF, vN, vS, L, h1, h2, h3, h4, h5⟩ := h
  exact ⟨vF, vN, vS, L, h1, sp_files h2 k hb, h3, sp_rows h4 k hb, sp_rows h5 k hb⟩
end
end Go.Proofs.Ytfakfgblaakgdaa.Spoil

/- FilesOwn: the law's function walked: it returns true. -/
namespace Go.Proofs.Ytfakfgblaakgdaa.Files
set_option linter.unusedVariables false
set_option linter.unusedSimpArgs false
open Go.RowKit Go.Proofs.YtfakfgblaakgdaaW.PrintWords Go.Proofs.YtfakfgblaakgdaaW.PrintLast Go.Proofs.Ytfakfgblaakgdaa.Base Go.Proofs.Ytfakfgblaakgdaa.Cells Go.Proofs.Ytfakfgblaakgdaa.Ints Go.Proofs.Ytfakfgblaakgdaa.Var Go.Proofs.Ytfakfgblaakgdaa.EditPure Go.Proofs.Ytfakfgblaakgdaa.Edit Go.Proofs.Ytfakfgblaakgdaa.Sets Go.Proofs.Ytfakfgblaakgdaa.Wide Go.Proofs.Ytfakfgblaakgdaa.RowsC Go.Proofs.Ytfakfgblaakgdaa.StrRows Go.Proofs.Ytfakfgblaakgdaa.Spoil

/-- a state in a variable -/
def BxO (t : TypeId) (w : World) (g : Nat) (a b c d e : Value) (s : St) : Prop := w.heap[g]? = some (.cells #[a, b, c, d, e] t (0, 0)) ∧ At w (.agg #[a, b, c, d, e]) s
theorem BxO.below {t : TypeId} {w w1 : World} {g : Nat} {a b c d e : Value} {s : St} (h : BxO t w g a b c d e s) (hb : Below w.heap.size w w1) : BxO t w1 g a b c d e s := ⟨blk_keep h.1 hb, h.2.below hb⟩
theorem BxO.new {t : TypeId} {w : World} {a b c d e : Value} {s : St} (h : At w (.agg #[a, b, c, d, e]) s) : BxO t (w.alloc (.cells #[a, b, c, d, e] t)) w.heap.size a b c d e s := ⟨blk_new _ _, h.below (below_alloc (Below.refl _ _) _)⟩
/-- an act in a variable -/
def AxO (w : World) (g : Nat) (wh : Int) (nm de : ByteArray) (D : Option Addr) (n c : Nat) (l : List Int) : Prop := w.heap[g]? = some (.cells #[.int .i64 wh, .string nm, .string de, .slice D n c] 64 (0, 0)) ∧ ReadsInt w .u8 D n l
theorem AxO.below {w w1 : World} {g : Nat} {wh : Int} {nm de : ByteArray} {D : Option Addr} {n c : Nat} {l : List Int} (h : AxO w g wh nm de D n c l) (hb : Below w.heap.size w w1) : AxO w1 g wh nm de D n c l := ⟨blk_keep h.1 hb, h.2.below hb⟩
theorem smallzO : Small zSt := ⟨by decide, by decide, by decide, fun f hf => by simp [zSt] at hf⟩
theorem DoP_smallO (s : St) (a : Ac) (hu : usedF s.files + a.data.length ≤ 1048576) : Small (DoP s a).2 := by
  cases hst : stB s with
  | false => rw [DoP, if_pos hst]; exact smallzO
  | true =>
    have hg := stB_iff.1 hst
    rw [DoP, if_neg (by rw [hst]; decide)]
    by_cases h0 : (doP s a).1 = 0
    · rw [if_pos h0]
      obtain ⟨g1, g2⟩ := doP_good hg a h0
      exact g1.small (by omega)
    · rw [if_neg h0]; exact smallzO

/-- what may be written over of a state of one's own -/
structure XSh (lo hi : Nat) (w : World) (F : Option Addr) (lf : Nat) (N : Option Addr) (ln : Nat) (S : Option Addr) (ls : Nat) : Prop where
  f : FSh lo hi w F lf
  n : NSh lo hi w N ln
  s : NSh lo hi w S ls
theorem XSh.below {lo hi : Nat} {w w' : World} {F N S : Option Addr} {lf ln ls : Nat} (h : XSh lo hi w F lf N ln S ls) (hb : Below w.heap.size w w') : XSh lo hi w' F lf N ln S ls := ⟨h.f.below hb, h.n.below hb, h.s.below hb⟩
theorem XSh.mono {lo hi hi' : Nat} {w : World} {F N S : Option Addr} {lf ln ls : Nat} (h : XSh lo hi w F lf N ln S ls) (hh : hi ≤ hi') : XSh lo hi' w F lf N ln S ls :=
  ⟨fun i hi => by obtain ⟨ad, y, D, m, c, e, c0, f0, c1, o, hm, b0, b1⟩ := h.f i hi; exact ⟨ad, y, D, m, c, e, c0, f0, c1, fun k hk => by obtain ⟨a2, x, e2, q1, q2, q3, q4⟩ := o k hk; exact ⟨a2, x, e2, q1, q2, q3, by omega⟩, hm, b0, by omega⟩,
   fun i hi => by obtain ⟨ad, y, e, c0, f0, b0, b1⟩ := h.n i hi; exact ⟨ad, y, e, c0, f0, b0, by omega⟩,
   fun i hi => by obtain ⟨ad, y, e, c0, f0, b0, b1⟩ := h.s i hi; exact ⟨ad, y, e, c0, f0, b0, by omega⟩⟩
theorem of_own {s : St} {v : Value} {w : World} (h : At w v s) (hs : Small s) :
    Calls Try.prog 11 #[v] w fun e w' => ∃ n F lf fc N ln nc S ls sc m, e = .returned (.agg #[.int .i64 n, .slice F lf fc, .slice N ln nc, .slice S ls sc, .int .i64 m]) ∧ At w' (.agg #[.int .i64 n, .slice F lf fc, .slice N ln nc, .slice S ls sc, .int .i64 m]) s ∧ XSh w.heap.size w'.heap.size w' F lf N ln S ls ∧ lf ≤ 1048576 ∧ ln ≤ 1048576 ∧ ls ≤ 1048576 ∧ Below w.heap.size w w' := by
  obtain ⟨F, fc, N, nc, S, sc, rfl, h2⟩ := h
  refine (of_any s F N S fc nc sc w h2 hs).mono ?_
  rintro e w' ⟨vF, vN, vS, rfl, h1, h3, h4, hb⟩
  obtain ⟨F', fc', rfl, a1, a2⟩ := Kd.R_reads h1
  obtain ⟨N', nc', rfl, b1, b2⟩ := Kd.R_reads h3
  obtain ⟨S', sc', rfl, c1, c2⟩ := Kd.R_reads h4
  exact ⟨_, _, _, _, _, _, _, _, _, _, _, rfl, ⟨F', fc', N', nc', S', sc', rfl, ⟨a2, b2, c2, a1, b1, c1⟩⟩, ⟨FSh.of_own h1 hs.ld (Nat.le_refl _), NSh.of_own h3 (Nat.le_refl _), NSh.of_own h4 (Nat.le_refl _)⟩, hs.lf, hs.ln, hs.ls, hb⟩

set_option maxRecDepth 100000 in
set_option maxHeartbeats 16000000 in
theorem own_walk (s : St) (a : Ac) (F N S D : Option Addr) (fc nc sc dc : Nat) (w : World) (h : Hd w s F fc N nc S sc) (hs : Small s) (hw : Wf s) (hr : ReadsInt w .u8 D a.data.length a.data) (hu : usedF s.files + a.data.length ≤ 1048576) :
    Calls Try.prog 7 #[.agg #[.int .i64 s.cap, .slice F s.files.length fc, .slice N s.names.length nc, .slice S s.safe.length sc, .int .i64 s.next], acV a D dc] w fun e w' => e = .returned (.bool true) ∧ Below w.heap.size w w' := by
  have HA := Aside0.mk h.at_
  have HS := Aside0.mk hs
  have HW := Aside0.mk hw
  have HR := Aside0.mk hr
  have HU := Aside0.mk hu
  obtain ⟨ld, hld⟩ : ∃ n, a.data.length = n := ⟨_, rfl⟩
  obtain ⟨wh, hwh⟩ : ∃ n, a.what = n := ⟨_, rfl⟩
  have LD := Aside0.mk hld
  have WH := Aside0.mk hwh
  have CA : Aside0 (acV a D dc = .agg #[.int .i64 wh, .string a.name, .string a.dest, .slice D ld dc]) := ⟨by rw [acV, hwh, hld]⟩
  rw [hld] at HR
  rw [CA.out]
  have hda : ld ≤ 1048576 := by have := usedF_nonneg s.files; omega
  obtain ⟨n0, F0, lf0, fc0, N0, ln0, nc0, S0, ls0, sc0, m0, hv0⟩ := HA.out.show_
  rw [hv0] at HA ⊢
  clear h hs hw hr hu hld hwh hv0
  go_enter Try.func7, Try.ntmps7
  go_upto_region 1 with (fail)
  obtain ⟨c0, hc0⟩ : ∃ W, W = (w.alloc (.cells #[.int .i64 n0, .slice F0 lf0 fc0, .slice N0 ln0 nc0, .slice S0 ls0 sc0, .int .i64 m0] 25)).alloc (.cells #[.int .i64 wh, .string a.name, .string a.dest, .slice D ld dc] 64) := ⟨_, rfl⟩
  have HB0 : Aside0 (Below w.heap.size w c0) := ⟨by rw [hc0]; exact below_alloc (below_alloc (Below.refl _ _) _) _⟩
  have HJ0 : Aside0 (BxO 25 c0 w.heap.size (.int .i64 n0) (.slice F0 lf0 fc0) (.slice N0 ln0 nc0) (.slice S0 ls0 sc0) (.int .i64 m0) s) := ⟨by rw [hc0]; exact ⟨blk_alloc (blk_new _ _) _, HA.out.below (below_alloc (below_alloc (Below.refl _ _) _) _)⟩⟩
  have HT0 : Aside0 (AxO c0 (w.heap.size + 1) wh a.name a.dest D ld dc a.data) := ⟨by rw [hc0]; exact ⟨blk_new1 _ _ _ _, HR.out.below (below_alloc (below_alloc (Below.refl _ _) _) _)⟩⟩
  rw [← hc0]
  clear hc0
  go_wp2_with fail
  refine (alive_any c0).mono ?_
  rintro e c1 ⟨rfl, hb1⟩
  have HB1 := Aside0.mk (bthen HB0.out hb1)
  have HJ1 := Aside0.mk (HJ0.out.below hb1)
  have HT1 := Aside0.mk (HT0.out.below hb1)
  clear hb1
  obtain ⟨x0, x1, x2, x3, x4, _, _, _, _, _⟩ := all5 HJ1.out.1
  go_wp2_with fail
  refine (of_own HJ1.out.2 HS.out).mono ?_
  rintro e v2 ⟨n1, F1, lf1, fc1, N1, ln1, nc1, S1, ls1, sc1, m1, rfl, hA2, hX2, hlf, hln, hls, hb2⟩
  have HA2 := Aside0.mk hA2
  have HX2' := Aside0.mk hX2
  have HC2 := Aside0.mk hb2
  clear hA2 hX2 hb2 x0 x1 x2 x3 x4
  obtain ⟨lo, hlo⟩ := named c1.heap.size
  go_upto_region 4 with (fail)
  obtain ⟨c2, hc2⟩ : ∃ W, W = v2.alloc (.cells #[.int .i64 n1, .slice F1 lf1 fc1, .slice N1 ln1 nc1, .slice S1 ls1 sc1, .int .i64 m1] 33) := ⟨_, rfl⟩
  obtain ⟨g5, hg5⟩ : ∃ g, g = v2.heap.size := ⟨_, rfl⟩
  have hD2 : Below c1.heap.size c1 c2 := by rw [hc2]; exact below_alloc HC2.out _
  have HX2 : Aside0 (BxO 33 c2 g5 (.int .i64 n1) (.slice F1 lf1 fc1) (.slice N1 ln1 nc1) (.slice S1 ls1 sc1) (.int .i64 m1) s) := ⟨by rw [hc2, hg5]; exact BxO.new HA2.out⟩
  have HS2 : Aside0 (XSh lo c2.heap.size c2 F1 lf1 N1 ln1 S1 ls1) := ⟨by rw [hlo.out, hc2]; exact (HX2'.out.below (below_alloc (Below.refl _ _) _)).mono (by simp)⟩
  have HB2 := Aside0.mk (bthen HB1.out hD2)
  have HJ2 := Aside0.mk (HJ1.out.below hD2)
  have HT2 := Aside0.mk (HT1.out.below hD2)
  have hlw : w.heap.size ≤ lo := by rw [hlo.out]; exact HB1.out.size
  have hl2 : lo ≤ c2.heap.size := by rw [hlo.out]; exact hD2.size
  rw [← hc2, ← hg5]
  clear hc2 hg5 HX2' HA2 hD2 HC2
  obtain ⟨t0, t1, t2, t3, _, _, _, _⟩ := all4 HT2.out.1
  go_upto_region 5 with (fail)
  obtain ⟨v3, hv3⟩ : ∃ W, W = c2.alloc (.cells #[.int .i64 wh, .string a.name, .string a.dest, .slice D ld dc] 64) := ⟨_, rfl⟩
  obtain ⟨g6, hg6⟩ : ∃ g, g = c2.heap.size := ⟨_, rfl⟩
  have hk3 : v3.heap[g6]? = some (.cells #[.int .i64 wh, .string a.name, .string a.dest, .slice D ld dc] 64 (0, 0)) := by rw [hv3, hg6]; exact blk_new _ _
  have HV3 : Aside0 (Below c2.heap.size c2 v3) := ⟨by rw [hv3]; exact below_alloc (Below.refl _ _) _⟩
  have hgl : c2.heap.size ≤ g6 := by omega
  rw [← hv3, ← hg6]
  clear hv3 hg6 t0 t1 t2 t3
  have HKg := Aside0.mk hk3
  obtain ⟨_, _, _, t3, _, _, _, _⟩ := all4 (HT2.out.below HV3.out).1
  clear hk3
  go_wp2_with fail
  have hcb := copyBytes_any D dc a.data v3 (by rw [LD.out]; exact (HT2.out.below HV3.out).2) (by rw [LD.out]; exact hda)
  rw [LD.out] at hcb
  refine hcb.mono ?_
  rintro e v4 ⟨y4, rfl, hy4, hb4⟩
  obtain ⟨D4, d4, rfl, hr4⟩ := RB_reads hy4
  rw [LD.out] at hr4 hy4 ⊢
  have hk4 := blk_keep HKg.out hb4
  obtain ⟨_, _, _, p4, _, _, _, q4⟩ := all4 hk4
  have HY4 := Aside0.mk (And.intro hk4 (And.intro hr4 (bthen HV3.out hb4)))
  have HO4 := Aside0.mk (own_weaken hy4 (Nat.le_trans hl2 HV3.out.size))
  clear hcb hy4 hb4 hr4 hk4 t3
  go_upto_region 6 with (fail)
  obtain ⟨c3, hc3⟩ : ∃ W, W = v4.setCell ⟨g6, 3, none⟩ (.slice D4 ld d4) := ⟨_, rfl⟩
  have hD3 : Below c2.heap.size c2 c3 := by rw [hc3]; exact HY4.out.2.2.setCell hgl _
  have HO3 : Aside0 (AxO c3 g6 wh a.name a.dest D4 ld d4 a.data ∧ Oct lo c3.heap.size c3 D4 ld) := ⟨by
    have h9 := RB_set HO4.out HY4.out.1 (by decide : 5 ≠ 64) (o := 3) (u := .slice D4 ld d4)
    rw [← hc3] at h9
    refine ⟨⟨by rw [hc3]; exact blk_put HY4.out.1 3 _ rfl, ?_⟩, Oct.of_own h9 rfl (Nat.le_refl _)⟩
    obtain ⟨A9, c9, e9, hr9⟩ := RB_reads h9
    injection e9 with e1 e2 e3
    subst e1
    rw [LD.out] at hr9
    exact hr9⟩
  have HB3 := Aside0.mk (bthen HB2.out hD3)
  have HJ3 := Aside0.mk (HJ2.out.below hD3)
  have HT3 := Aside0.mk (HT2.out.below hD3)
  have HX3 := Aside0.mk (HX2.out.below hD3)
  have HS3 := Aside0.mk ((HS2.out.below hD3).mono hD3.size)
  have hl3 : lo ≤ c3.heap.size := Nat.le_trans hl2 hD3.size
  rw [← hc3]
  clear hc3 p4 q4 HY4 HKg HV3 HO4 hD3
  obtain ⟨hi, hhi⟩ := named c3.heap.size
  rw [← hhi.out] at HS3 HO3
  obtain ⟨dp, hdp⟩ := named (DoP s a)
  obtain ⟨de, hde⟩ := named dp.1
  obtain ⟨x0, x1, x2, x3, x4, _, _, _, _, _⟩ := all5 HX3.out.1
  obtain ⟨t0, t1, t2, t3, _, _, _, _⟩ := all4 HO3.out.1.1
  go_wp2_with fail
  refine (do_at (a := a) HX3.out.2 HS.out HW.out HO3.out.1.2 hda WH.out.symm rfl rfl).mono ?_
  rw [← hdp.out, ← hde.out]
  rintro e v5 ⟨y5, rfl, hy5, hb5⟩
  obtain ⟨n4, F4, lf4, fc4, N4, ln4, nc4, S4, ls4, sc4, m4, rfl⟩ := Rs.show_ hy5
  have HY5 := Aside0.mk hy5
  have HC5 := Aside0.mk hb5
  clear hy5 hb5 x0 x1 x2 x3 x4 t0 t1 t2 t3
  go_upto_region 7 with (fail)
  obtain ⟨c4, hc4⟩ : ∃ W, W = v5.alloc (.cells #[.int .i64 n4, .slice F4 lf4 fc4, .slice N4 ln4 nc4, .slice S4 ls4 sc4, .int .i64 m4] 33) := ⟨_, rfl⟩
  obtain ⟨g7, hg7⟩ : ∃ g, g = v5.heap.size := ⟨_, rfl⟩
  have hD4 : Below c3.heap.size c3 c4 := by rw [hc4]; exact below_alloc HC5.out _
  have HP4 : Aside0 (c4.heap[g7]? = some (.cells #[.int .i64 n4, .slice F4 lf4 fc4, .slice N4 ln4 nc4, .slice S4 ls4 sc4, .int .i64 m4] 33 (0, 0)) ∧ Rs c4 hi (.agg #[.int .i64 n4, .slice F4 lf4 fc4, .slice N4 ln4 nc4, .slice S4 ls4 sc4, .int .i64 m4]) dp.2 ∧ hi ≤ g7) := ⟨by
    rw [hc4, hg7, hhi.out]; exact ⟨blk_new _ _, HY5.out.below (below_alloc (Below.refl _ _) _), HC5.out.size⟩⟩
  have HB4 := Aside0.mk (bthen HB3.out hD4)
  have HJ4 := Aside0.mk (HJ3.out.below hD4)
  have HT4 := Aside0.mk (HT3.out.below hD4)
  have HX4 := Aside0.mk (HX3.out.below hD4)
  have HS4 := Aside0.mk (HS3.out.below hD4)
  have HO4 := Aside0.mk (And.intro (HO3.out.1.below hD4) (HO3.out.2.below hD4))
  have hi4 : hi ≤ c4.heap.size := by rw [hhi.out]; exact hD4.size
  rw [← hc4, ← hg7]
  clear hc4 hg7 HY5 HC5 hD4
  obtain ⟨x0, x1, x2, x3, x4, _, _, _, _, _⟩ := all5 HJ4.out.1
  obtain ⟨t0, t1, t2, t3, _, _, _, _⟩ := all4 HT4.out.1
  go_wp2_with fail
  refine (Ref.do_at (a := a) HJ4.out.2 HS.out HT4.out.2 hda WH.out.symm rfl rfl).mono ?_
  rw [← hdp.out, ← hde.out]
  rintro e v6 ⟨y6, rfl, hy6, hb6⟩
  obtain ⟨n5, F5, lf5, fc5, N5, ln5, nc5, S5, ls5, sc5, m5, rfl⟩ := Ref.show_ hy6
  have HY6 := Aside0.mk hy6
  have HC6 := Aside0.mk hb6
  clear hy6 hb6 x0 x1 x2 x3 x4 t0 t1 t2 t3
  go_upto_region 8 with (fail)
  obtain ⟨c5, hc5⟩ : ∃ W, W = v6.alloc (.cells #[.int .i64 n5, .slice F5 lf5 fc5, .slice N5 ln5 nc5, .slice S5 ls5 sc5, .int .i64 m5] 25) := ⟨_, rfl⟩
  obtain ⟨g9, hg9⟩ : ∃ g, g = v6.heap.size := ⟨_, rfl⟩
  have hD5 : Below c4.heap.size c4 c5 := by rw [hc5]; exact below_alloc HC6.out _
  have HQ5 : Aside0 (c5.heap[g9]? = some (.cells #[.int .i64 n5, .slice F5 lf5 fc5, .slice N5 ln5 nc5, .slice S5 ls5 sc5, .int .i64 m5] 25 (0, 0)) ∧ Ref.Rs c5 hi (.agg #[.int .i64 n5, .slice F5 lf5 fc5, .slice N5 ln5 nc5, .slice S5 ls5 sc5, .int .i64 m5]) dp.2 ∧ hi ≤ g9) := ⟨by
    rw [hc5, hg9]; exact ⟨blk_new _ _, (HY6.out.below (below_alloc (Below.refl _ _) _)).lower hi4, Nat.le_trans hi4 HC6.out.size⟩⟩
  have HP5 := Aside0.mk (And.intro (blk_keep HP4.out.1 hD5) (And.intro (HP4.out.2.1.below hD5) HP4.out.2.2))
  have HB5 := Aside0.mk (bthen HB4.out hD5)
  have HX5 := Aside0.mk (HX4.out.below hD5)
  have HS5 := Aside0.mk (HS4.out.below hD5)
  have HO5 := Aside0.mk (And.intro (HO4.out.1.below hD5) (HO4.out.2.below hD5))
  rw [← hc5, ← hg9]
  clear hc5 hg9 HY6 HC6 hD5 HP4 HB4 HJ4 HT4 HX4 HS4 HO4 HJ3 HT3 HX3 HS3 HO3
  obtain ⟨_, _, _, t3, _, _, _, _⟩ := all4 HO5.out.1.1
  go_wp2_with fail
  refine (spoil_any lo hi D4 ld d4 c5 HO5.out.2 hda).mono ?_
  rintro e c6 ⟨rfl, hs6⟩
  have HS6 := Aside0.mk hs6
  clear hs6 t3
  have FX : Aside0 (∀ wr, Sp lo hi c5 wr → wr.cell? ⟨g5, 1, none⟩ = some (.slice F1 lf1 fc1) ∧ wr.cell? ⟨g5, 2, none⟩ = some (.slice N1 ln1 nc1) ∧ wr.cell? ⟨g5, 3, none⟩ = some (.slice S1 ls1 sc1)) := ⟨by
    intro wr h
    obtain ⟨x0, x1, x2, x3, x4, _, _, _, _, _⟩ := all5 HX5.out.1
    exact ⟨h.cell _ _ x1 (by simp), h.cell _ _ x2 (by simp), h.cell _ _ x3 (by simp)⟩⟩
  obtain ⟨x1, x2, x3⟩ := FX.out _ HS6.out
  go_upto_region 10 with (fail)
  clear x1 x2 x3
  go_loopg [11] lf1 (fun g v11 wr => ∃ i : Nat, v11 = .int .i64 i ∧ g + i = lf1 ∧ Aside0 (Sp lo hi c5 wr))
  case atStart => exact ⟨0, rfl, by omega, HS6⟩
  case round =>
    obtain ⟨i, rfl, hg, HSr⟩ := hrel
    obtain ⟨x1, x2, x3⟩ := FX.out _ HSr.out
    by_cases hlt : i < lf1
    · have hlt' : (i : Int) < (lf1 : Int) := by omega
      obtain ⟨ad, y, D, m, c, rfl, c0, f0, c1, o, hm, b0, b1⟩ := HS5.out.f.sp HSr.out i hlt
      have O := Aside0.mk o
      clear o
      go_wp2_with fail
      refine (spoil_any lo hi _ _ _ _ O.out hm).mono ?_
      rintro e w2 ⟨rfl, hs2⟩
      have HS2 := Aside0.mk (HSr.out.trans hs2)
      obtain ⟨z, d0⟩ := hs2.num _ _ c0
      have g0 := (hs2.froz _).trans f0
      have D0 := Aside0.mk d0
      clear hs2 x1 x2 x3 c0 f0 c1
      obtain ⟨x1, x2, x3⟩ := FX.out _ HS2.out
      go_wp2
      go_roundg (lf1 - (i + 1))
      case measure => omega
      case rel => exact ⟨i + 1, by go_num, by omega, ⟨HS2.out.trans (Sp.setNum D0.out (by simp only [add_blk]; exact ⟨b0, b1⟩))⟩⟩
    · have hnf : ¬ ((i : Int) < (lf1 : Int)) := by omega
      go_upto_region 15 with (fail)
      clear x1 x2 x3
      go_loopg [12] ln1 (fun g v12 wr => ∃ i : Nat, v12 = .int .i64 i ∧ g + i = ln1 ∧ Aside0 (Sp lo hi c5 wr))
      case atStart => exact ⟨0, rfl, by omega, HSr⟩
      case round =>
        obtain ⟨k, rfl, hgk, HSk⟩ := hrel
        obtain ⟨x1, x2, x3⟩ := FX.out _ HSk.out
        by_cases hlk : k < ln1
        · have hlk' : (k : Int) < (ln1 : Int) := by omega
          obtain ⟨ad, y, rfl, c0, f0, b0, b1⟩ := HS5.out.n.sp HSk.out k hlk
          have D0 := Aside0.mk c0
          go_wp2
          go_roundg (ln1 - (k + 1))
          case measure => omega
          case rel => exact ⟨k + 1, by go_num, by omega, ⟨HSk.out.trans (Sp.setNum D0.out (by simp only [add_blk]; exact ⟨b0, b1⟩))⟩⟩
        · have hnk : ¬ ((k : Int) < (ln1 : Int)) := by omega
          go_upto_region 19 with (fail)
          clear x1 x2 x3
          go_loopg [13] ls1 (fun g v13 wr => ∃ i : Nat, v13 = .int .i64 i ∧ g + i = ls1 ∧ Aside0 (Sp lo hi c5 wr))
          case atStart => exact ⟨0, rfl, by omega, HSk⟩
          case round =>
            obtain ⟨j, rfl, hgj, HSj⟩ := hrel
            obtain ⟨x1, x2, x3⟩ := FX.out _ HSj.out
            by_cases hlj : j < ls1
            · have hlj' : (j : Int) < (ls1 : Int) := by omega
              obtain ⟨ad, y, rfl, c0, f0, b0, b1⟩ := HS5.out.s.sp HSj.out j hlj
              have D0 := Aside0.mk c0
              go_wp2
              go_roundg (ls1 - (j + 1))
              case measure => omega
              case rel => exact ⟨j + 1, by go_num, by omega, ⟨HSj.out.trans (Sp.setNum D0.out (by simp only [add_blk]; exact ⟨b0, b1⟩))⟩⟩
            · have hnj : ¬ ((j : Int) < (ls1 : Int)) := by omega
              have HSD : Aside0 (Small dp.2) := ⟨by rw [hdp.out]; exact DoP_smallO s a HU.out⟩
              have KP : Aside0 (wr.heap[g7]? = some (.cells #[.int .i64 n4, .slice F4 lf4 fc4, .slice N4 ln4 nc4, .slice S4 ls4 sc4, .int .i64 m4] 33 (0, 0))) := ⟨(HSj.out.far g7 (by have := HP5.out.2.2; omega)).trans HP5.out.1⟩
              have KQ : Aside0 (wr.heap[g9]? = some (.cells #[.int .i64 n5, .slice F5 lf5 fc5, .slice N5 ln5 nc5, .slice S5 ls5 sc5, .int .i64 m5] 25 (0, 0))) := ⟨(HSj.out.far g9 (by have := HQ5.out.2.2; omega)).trans HQ5.out.1⟩
              have RP := Aside0.mk (sp_rs HP5.out.2.1 HSj.out (Nat.le_refl _)).at_
              have RQ := Aside0.mk (sp_rrs HQ5.out.2.1 HSj.out (Nat.le_refl _)).forms
              have HBj := Aside0.mk (HSj.out.below HB5.out hlw)
              clear x2
              obtain ⟨x0, x1', x2, x3', x4, _, _, _, _, _⟩ := all5 KP.out
              obtain ⟨y0, y1, y2, y3, y4, _, _, _, _, _⟩ := all5 KQ.out
              go_wp2_with (go_at_call 20; refine (num_any _ _).mono ?_; rintro e wz ⟨rfl, rfl⟩)
              refine (alike_at RP.out RQ.out HSD.out).mono ?_
              rintro e w9 ⟨rfl, hb9⟩
              have HB9 := Aside0.mk (bthen HBj.out hb9)
              clear hb9 x0 x1' x2 x3' x4 y0 y1 y2 y3 y4 x1 x3
              go_wp2
              go_ret
              exact ⟨rfl, HB9.out⟩
end Go.Proofs.Ytfakfgblaakgdaa.Files

/- FilesOwn: for all files and acts of bulk at most 1048576 the law returns true, and what it is given stays. (Printed by wip/gen_rows.py.) -/
namespace Go.Proofs.Ytfakfgblaakgdaa.rowFOwn
open Go.ChangeShapes Go.WideShapes Go.ChangeAt Go.RowKit Go.Proofs.Ytfakfgblaakgdaa.Lift
set_option linter.unusedVariables false
set_option linter.unusedSimpArgs false
theorem own : ownKnob Try.prog.godebug = none := by kernel_rfl
theorem laidOut : laidOutB Try.prog = true := by kernel_rfl

set_option maxRecDepth 100000 in
set_option maxHeartbeats 4000000 in
theorem lifted (os : Os) (started : os.Started) (H : Type) (enc : TypeId × Value → H) (F : Stop.Interp) :
    ReturnsInHanded {} Try.checked os 7 .any ((Rows.OpenSpec.upto Rows.filesOwnSpec).pre6 enc Try.prog Try.f7 Rows.filesOwnUptoRow.domain false) (((Rows.OpenSpec.upto Rows.filesOwnSpec).at F).post enc Try.prog Try.f7 false true false false) := by
  refine returnsInHanded_of_cond (C := Try.checked) (s := Rows.OpenSpec.upto Rows.filesOwnSpec) (k := Rows.uptoSmall) rfl own started (by kernel_rfl) Try.func7
    (OpenSpec.witness (enc := enc) (C := Try.checked) (s := Rows.OpenSpec.upto Rows.filesOwnSpec) (k := Rows.uptoSmall) rfl false ⟨#[], #[.agg #[.int .i64 0, .slice none 0 0, .slice none 0 0, .slice none 0 0, .int .i64 0], .agg #[.int .i64 0, .string ⟨#[]⟩, .string ⟨#[]⟩, .slice none 0 0]], []⟩ 8 (by kernel_rfl) (by kernel_rfl) (by kernel_rfl)
      (x := ([.agg [.lit (.int .i64 0), .nil, .nil, .nil, .lit (.int .i64 0)], .agg [.lit (.int .i64 0), .lit (.string []), .lit (.string []), .nil]], [], [])) (by kernel_rfl) rfl (by kernel_rfl)) ?_
  intro W base args ds gs before hval hW _ hk _
  have hW' := hW
  obtain ⟨p, q, hA0, hV, rfl, hfz, hnd⟩ := hW
  have hA : DataW.TrodAll enc Try.prog W 0 (fun _ => true) true Try.f7.params.toList args.toList ds p := hA0
  rw [Try.params7] at hA hval
  obtain ⟨v0, vs0, d0, ds0, p0, q0, hargs, rfl, rfl, h0, r0⟩ := trodAll_cons hA
  obtain ⟨v1, vs1, d1, ds1, p1, q1, rfl, rfl, rfl, h1, r1⟩ := trodAll_cons r0
  obtain ⟨rfl, rfl, rfl⟩ := trodAll_nil r1
  obtain rfl : args = #[v0, v1] := by cases args; simp_all
  obtain ⟨rfl, rfl⟩ := trodVars_none hV
  have k0 := h0
  have lt0 : ∀ x ∈ p0, x.block < W.heap.size := by obtain ⟨m, hm⟩ := k0; exact DataW.trod_lt m _ _ _ hm
  have k1 := h1
  have lt1 : ∀ x ∈ p1, x.block < W.heap.size := by obtain ⟨m, hm⟩ := k1; exact DataW.trod_lt m _ _ _ hm
  obtain ⟨cs0, hcs0, _⟩ := okWide_struct Try.underlying25 (hval 0 25 v0 rfl rfl)
  obtain ⟨fu0, hf0⟩ := h0
  obtain ⟨s0, F0, N0, S0, fc0, nc0, sc0, rfl, hd0, wf0, in0, us0, sm0⟩ := trod_state2 ⟨cs0, hcs0⟩ hf0
  obtain ⟨cs1, hcs1, _⟩ := okWide_struct Try.underlying64 (hval 1 64 v1 rfl rfl)
  obtain ⟨fu1, hf1⟩ := h1
  obtain ⟨a1, D1, dc1, rfl, hr1, iw1, hb1⟩ := trod_actv ⟨cs1, hcs1⟩ hf1
  have hb : Rows.uptoBulk d0 + Rows.uptoBulk d1 ≤ 1048576 := by
    have h := of_decide_eq_true hk
    simp only [List.append_nil, Rows.uptoBulkAll] at h
    omega
  clear hA0 hk
  refine (Files.own_walk s0 a1 F0 N0 S0 D1 fc0 nc0 sc0 dc1 W hd0 (sm0 (by omega)).1 wf0 hr1 (by omega)).mono fun e W' ⟨he, bel⟩ => ?_
  subst he
  exact ⟨_, rfl, _, _, _, [], _, [], hW', trodAll_mk1 (shut_bool Try.underlying4 _), (trodAll_cons_mk (Below.trod laidOut (by kernel_rfl) (of_decide_eq_true (by kernel_rfl)) k0 bel lt0) (trodAll_cons_mk (Below.trod laidOut (by kernel_rfl) (of_decide_eq_true (by kernel_rfl)) k1 bel lt1) trodAll_mk0)), rfl, bel.frame _, fun h => by cases h⟩

theorem proved : Rows.FilesOwnUptoSaid :=
  OpenClaim.holds_of_cond 7 Try.f7 rfl rfl rfl rfl rfl rfl rfl ⟨rfl, rfl, rfl, rfl, rfl⟩ rfl rfl rfl rfl rfl (by kernel_rfl) Try.func7 (by kernel_rfl)
    (of_decide_eq_true (by kernel_rfl)) (by unfold Func.isWrapper; first | (rw [if_pos (by decide +kernel)]; kernel_rfl) | (rw [if_neg (by decide +kernel)]; exact ⟨rfl, rfl⟩))
    (fun os started H enc _ F => lifted os started H enc F)
end Go.Proofs.Ytfakfgblaakgdaa.rowFOwn
namespace Go.Proofs.Ytfakfgblaakgdaa
theorem filesOwn_holds : Rows.FilesOwnUptoSaid := rowFOwn.proved
#print axioms filesOwn_holds
end Go.Proofs.Ytfakfgblaakgdaa
