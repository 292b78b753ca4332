/- ManifestActs: for all files, versions, numbers and edits of bulk at most 1048576 the law returns true, and what it is given stays. (Printed by wip/gen_rows.py.) -/
import Derived.Test.YtfakfgblaakgdaaGreatPkActs13
import Derived.Test.YtfakfgblaakgdaaGreatPkActs10
import Derived.Test.YtfakfgblaakgdaaGreatPkActs6
import Derived.JoinedCond

/- ManifestActs: the law's function walked: it returns true. -/
namespace Go.Proofs.YtfakfgblaakgdaaGreat.Files
set_option linter.unusedVariables false
set_option linter.unusedSimpArgs false
open Go.RowKit Go.Proofs.YtfakfgblaakgdaaGreatW.PrintWords Go.Proofs.YtfakfgblaakgdaaGreatW.PrintLast Go.Proofs.YtfakfgblaakgdaaGreat.Base Go.Proofs.YtfakfgblaakgdaaGreat.Cells Go.Proofs.YtfakfgblaakgdaaGreat.Ints Go.Proofs.YtfakfgblaakgdaaGreat.Var Go.Proofs.YtfakfgblaakgdaaGreat.EditPure Go.Proofs.YtfakfgblaakgdaaGreat.Edit Go.Proofs.YtfakfgblaakgdaaGreat.Sets Go.Proofs.YtfakfgblaakgdaaGreat.Wide Go.Proofs.YtfakfgblaakgdaaGreat.RowsC Go.Proofs.YtfakfgblaakgdaaGreat.Crc Go.Proofs.YtfakfgblaakgdaaGreat.Codec Go.Proofs.YtfakfgblaakgdaaGreat.VarPure Go.Proofs.YtfakfgblaakgdaaGreat.NamesPure Go.Proofs.YtfakfgblaakgdaaGreat.Typed

theorem rel_trans (a b c : World) (h : Below a.heap.size a b) (k : Below b.heap.size b c) : Below a.heap.size a c := bthen h k

set_option maxRecDepth 100000
theorem wp_call1 {P : Program} {Q : Exit → Act → World → Prop} {o : Oper} {f : FuncId} {t : Tmp} {ty : TypeId} (ho : o.op = .call { callee := .value (.func f), args := #[.tmp t], argTypes := #[ty] }) {fn : Func} (hf : P.funcs[f]? = some fn) (hn : (fn.name == "runtime.NumGoroutine") = false) (hb : fn.body.isNone = false) {a : Act} {w : World} {K : Act → World → Prop}
    (h : Calls P f #[a.eval (.tmp t)] w fun e w' => ∃ v, e = .returned v ∧ K (a.put o.dst v) w') : o.wp P a w K Q := by
  obtain ⟨dst, op, type, pos, after, guard⟩ := o
  simp only at ho
  subst ho
  have hr : (execOp a.eval { dst := dst, op := .call { callee := .value (.func f), args := #[.tmp t], argTypes := #[ty] }, type := type, pos := pos, after := after, guard := guard }).run P w = .ok (.enter f #[a.eval (.tmp t)]) w := by
    go_simp
    have h1 : ¬ fn.name = "runtime.NumGoroutine" := by simpa using hn
    have h2 : ¬ fn.body = none := by intro e; rw [e] at hb; cases hb
    simp [callFunc, hf, h1, h2, go_sem, Act.eval]
  exact wp_call hr h
theorem wp_load5 {Q : Exit → Act → World → Prop} {o : Oper} {t : Tmp} (ho : o.op = .load 25 (.tmp t)) {a : Act} {w : World} {K : Act → World → Prop} {g : Nat} {x0 x1 x2 x3 x4 : Value} (he : a.eval (.tmp t) = .pointer (some ⟨g, 0, none⟩))
    (hk : w.heap[g]? = some (.cells #[x0, x1, x2, x3, x4] 25 (0, 0))) (hK : K (a.put o.dst (.agg #[x0, x1, x2, x3, x4])) w) : o.wp Tryz.prog a w K Q := by
  obtain ⟨dst, op, type, pos, after, guard⟩ := o
  simp only at ho
  subst ho
  obtain ⟨c0, c1, c2, c3, c4, _, _, _, _, _⟩ := all5 hk
  have he2 : a.tmps[t]?.getD undef = .pointer (some ⟨g, 0, none⟩) := by simpa [Act.eval, Array.getD_eq_getD_getElem?] using he
  refine wp_value ?_ hK
  go_simp
theorem wp_load3 {Q : Exit → Act → World → Prop} {o : Oper} {t : Tmp} (ho : o.op = .load 28 (.tmp t)) {a : Act} {w : World} {K : Act → World → Prop} {g : Nat} {x0 x1 x2 : Value} (he : a.eval (.tmp t) = .pointer (some ⟨g, 0, none⟩))
    (hk : w.heap[g]? = some (.cells #[x0, x1, x2] 28 (0, 0))) (hK : K (a.put o.dst (.agg #[x0, x1, x2])) w) : o.wp Tryz.prog a w K Q := by
  obtain ⟨dst, op, type, pos, after, guard⟩ := o
  simp only at ho
  subst ho
  obtain ⟨c0, c1, c2, _, _, _⟩ := all3 hk
  have he2 : a.tmps[t]?.getD undef = .pointer (some ⟨g, 0, none⟩) := by simpa [Act.eval, Array.getD_eq_getD_getElem?] using he
  refine wp_value ?_ hK
  go_simp
theorem wp_load4 {Q : Exit → Act → World → Prop} {o : Oper} {t : Tmp} (ho : o.op = .load 31 (.tmp t)) {a : Act} {w : World} {K : Act → World → Prop} {g : Nat} {x0 x1 x2 x3 : Value} (he : a.eval (.tmp t) = .pointer (some ⟨g, 0, none⟩))
    (hk : w.heap[g]? = some (.cells #[x0, x1, x2, x3] 31 (0, 0))) (hK : K (a.put o.dst (.agg #[x0, x1, x2, x3])) w) : o.wp Tryz.prog a w K Q := by
  obtain ⟨dst, op, type, pos, after, guard⟩ := o
  simp only at ho
  subst ho
  obtain ⟨c0, c1, c2, c3, _, _, _, _⟩ := all4 hk
  have he2 : a.tmps[t]?.getD undef = .pointer (some ⟨g, 0, none⟩) := by simpa [Act.eval, Array.getD_eq_getD_getElem?] using he
  refine wp_value ?_ hK
  go_simp
theorem wp_alloc5 {Q : Exit → Act → World → Prop} {o : Oper} (ho : o.op = .alloc 35) {a : Act} {w : World} {K : Act → World → Prop} (hK : K (a.put o.dst (.pointer (some ⟨w.heap.size, 0, none⟩))) (w.alloc (.cells #[.int .i64 0, .slice none 0 0, .slice none 0 0, .slice none 0 0, .int .i64 0] 35))) : o.wp Tryz.prog a w K Q := by
  obtain ⟨dst, op, type, pos, after, guard⟩ := o
  simp only at ho
  subst ho
  refine wp_value ?_ hK
  go_simp
theorem wp_alloc3 {Q : Exit → Act → World → Prop} {o : Oper} (ho : o.op = .alloc 39) {a : Act} {w : World} {K : Act → World → Prop} (hK : K (a.put o.dst (.pointer (some ⟨w.heap.size, 0, none⟩))) (w.alloc (.cells #[.slice none 0 0, .int .i64 0, .int .i64 0] 39))) : o.wp Tryz.prog a w K Q := by
  obtain ⟨dst, op, type, pos, after, guard⟩ := o
  simp only at ho
  subst ho
  refine wp_value ?_ hK
  go_simp
theorem wp_alloc4 {Q : Exit → Act → World → Prop} {o : Oper} (ho : o.op = .alloc 42) {a : Act} {w : World} {K : Act → World → Prop} (hK : K (a.put o.dst (.pointer (some ⟨w.heap.size, 0, none⟩))) (w.alloc (.cells #[.slice none 0 0, .slice none 0 0, .int .i64 0, .int .i64 0] 42))) : o.wp Tryz.prog a w K Q := by
  obtain ⟨dst, op, type, pos, after, guard⟩ := o
  simp only at ho
  subst ho
  refine wp_value ?_ hK
  go_simp
theorem Rset3b {α : Type} {k : Kd α} {e : TypeId} {base g : Nat} {t : TypeId} {cells : Array Value} {w : World} {v : Value} {l : List α} (h : k.R e w base (fun _ => True) v l) (hg : w.heap[g]? = some (.cells cells t (0, 0))) (ht : ∀ q ∈ (e :: k.E : List Nat), q ≠ t) (x y z : Value) : k.R e (((w.setCell ⟨g, 0, none⟩ x).setCell ⟨g, 1, none⟩ y).setCell ⟨g, 2, none⟩ z) base (fun _ => True) v l := by
  have h0 : k.R e w base (fun b => b ≠ g) v l := Kd.R_mono (Kd.R_bound h) (fun b hb => apart_of hg ht b hb.2.2.2)
  exact Kd.R_mono (Kd.R_far (p := ⟨g, 2, none⟩) (Kd.R_far (p := ⟨g, 1, none⟩) (Kd.R_far (p := ⟨g, 0, none⟩) h0 (fun _ h => h) _) (fun _ h => h) _) (fun _ h => h) _) (fun _ _ => trivial)
theorem Rset4b {α : Type} {k : Kd α} {e : TypeId} {base g : Nat} {t : TypeId} {cells : Array Value} {w : World} {v : Value} {l : List α} (h : k.R e w base (fun _ => True) v l) (hg : w.heap[g]? = some (.cells cells t (0, 0))) (ht : ∀ q ∈ (e :: k.E : List Nat), q ≠ t) (x y z u : Value) : k.R e ((((w.setCell ⟨g, 0, none⟩ x).setCell ⟨g, 1, none⟩ y).setCell ⟨g, 2, none⟩ z).setCell ⟨g, 3, none⟩ u) base (fun _ => True) v l := by
  have h0 : k.R e w base (fun b => b ≠ g) v l := Kd.R_mono (Kd.R_bound h) (fun b hb => apart_of hg ht b hb.2.2.2)
  exact Kd.R_mono (Kd.R_far (p := ⟨g, 3, none⟩) (Kd.R_far (p := ⟨g, 2, none⟩) (Kd.R_far (p := ⟨g, 1, none⟩) (Kd.R_far (p := ⟨g, 0, none⟩) h0 (fun _ h => h) _) (fun _ h => h) _) (fun _ h => h) _) (fun _ h => h) _) (fun _ _ => trivial)
theorem RI_set3 {base g : Nat} {t : TypeId} {cells : Array Value} {w : World} {v : Value} {l : List Int} (h : RI w base v l) (hg : w.heap[g]? = some (.cells cells t (0, 0))) (ht : 3 ≠ t) (x y z : Value) : RI (((w.setCell ⟨g, 0, none⟩ x).setCell ⟨g, 1, none⟩ y).setCell ⟨g, 2, none⟩ z) base v l :=
  own_setCell (own_setCell (own_setCell h (p := ⟨g, 0, none⟩) (own_ne h hg ht) _) (p := ⟨g, 1, none⟩) (own_ne h hg ht) _) (p := ⟨g, 2, none⟩) (own_ne h hg ht) _
theorem RI_set4 {base g : Nat} {t : TypeId} {cells : Array Value} {w : World} {v : Value} {l : List Int} (h : RI w base v l) (hg : w.heap[g]? = some (.cells cells t (0, 0))) (ht : 3 ≠ t) (x y z u : Value) : RI ((((w.setCell ⟨g, 0, none⟩ x).setCell ⟨g, 1, none⟩ y).setCell ⟨g, 2, none⟩ z).setCell ⟨g, 3, none⟩ u) base v l :=
  own_setCell (RI_set3 h hg ht x y z) (p := ⟨g, 3, none⟩) (own_ne h hg ht) _
theorem RI_set5 {base g : Nat} {t : TypeId} {cells : Array Value} {w : World} {v : Value} {l : List Int} (h : RI w base v l) (hg : w.heap[g]? = some (.cells cells t (0, 0))) (ht : 3 ≠ t) (x y z u s : Value) : RI (((((w.setCell ⟨g, 0, none⟩ x).setCell ⟨g, 1, none⟩ y).setCell ⟨g, 2, none⟩ z).setCell ⟨g, 3, none⟩ u).setCell ⟨g, 4, none⟩ s) base v l :=
  own_setCell (RI_set4 h hg ht x y z u) (p := ⟨g, 4, none⟩) (own_ne h hg ht) _
theorem of_rows {s : St} {v : Value} {w : World} (h : At w v s) (hs : Small s) :
    Calls Tryz.prog 7 #[v] w fun e w' => ∃ vF vN vS, e = .returned (.agg #[.int .i64 s.cap, vF, vN, vS, .int .i64 s.next]) ∧ RF w' w.heap.size vF s.files ∧ RN w' w.heap.size vN s.names ∧ RN w' w.heap.size vS s.safe ∧ Below w.heap.size w w' := by
  obtain ⟨F, fc, N, nc, S, sc, rfl, h2⟩ := h
  exact of_any s F N S fc nc sc w h2 hs
theorem ofV_at (A : Option Addr) (c n : Nat) (l : List Meta) (seq next : Int) (w : World) (hr : Kd.C kMeta w A n l) (hb : n ≤ 1048576) :
    Calls Tryz.prog 8 #[.agg #[.slice A n c, .int .i64 seq, .int .i64 next]] w fun e w' => ∃ u, e = .returned (.agg #[u, .int .i64 seq, .int .i64 next]) ∧ RM 132 w' w.heap.size u l ∧ Below w.heap.size w w' := by
  have hn : l.length = n := Kd.C_len hr
  subst hn
  exact Edit.of_any A c l seq next w hr hb
theorem ofE_at (D B : Option Addr) (dc bc ld la : Nat) (drop : List Int) (add : List Meta) (seq next : Int) (w : World) (hd : ReadsInt w .i64 D ld drop) (hr : Kd.C kMeta w B la add) (hdl : ld ≤ 1048576) (hb : la ≤ 1048576) :
    Calls Tryz.prog 9 #[.agg #[.slice D ld dc, .slice B la bc, .int .i64 seq, .int .i64 next]] w fun e w' => ∃ u u', e = .returned (.agg #[u, u', .int .i64 seq, .int .i64 next]) ∧ RI w' w.heap.size u drop ∧ RM 132 w' w.heap.size u' add ∧ Below w.heap.size w w' := by
  have h1 : drop.length = ld := hd.1
  have h2 : add.length = la := Kd.C_len hr
  subst h1 h2
  exact ofEdit_any D B dc bc drop add seq next w hd hr hdl hb
theorem far5b {w : World} {k g : Nat} {t : TypeId} {cs : Array Value} (h : w.heap[k]? = some (.cells cs t (0, 0))) (hne : k ≠ g) (x y z u v : Value) : (((((w.setCell ⟨g, 0, none⟩ x).setCell ⟨g, 1, none⟩ y).setCell ⟨g, 2, none⟩ z).setCell ⟨g, 3, none⟩ u).setCell ⟨g, 4, none⟩ v).heap[k]? = some (.cells cs t (0, 0)) :=
  blk_far (blk_far (blk_far (blk_far (blk_far h (p := ⟨g, 0, none⟩) hne _) (p := ⟨g, 1, none⟩) hne _) (p := ⟨g, 2, none⟩) hne _) (p := ⟨g, 3, none⟩) hne _) (p := ⟨g, 4, none⟩) hne _
theorem far3b {w : World} {k g : Nat} {t : TypeId} {cs : Array Value} (h : w.heap[k]? = some (.cells cs t (0, 0))) (hne : k ≠ g) (x y z : Value) : (((w.setCell ⟨g, 0, none⟩ x).setCell ⟨g, 1, none⟩ y).setCell ⟨g, 2, none⟩ z).heap[k]? = some (.cells cs t (0, 0)) :=
  blk_far (blk_far (blk_far h (p := ⟨g, 0, none⟩) hne _) (p := ⟨g, 1, none⟩) hne _) (p := ⟨g, 2, none⟩) hne _
theorem far4b {w : World} {k g : Nat} {t : TypeId} {cs : Array Value} (h : w.heap[k]? = some (.cells cs t (0, 0))) (hne : k ≠ g) (x y z u : Value) : ((((w.setCell ⟨g, 0, none⟩ x).setCell ⟨g, 1, none⟩ y).setCell ⟨g, 2, none⟩ z).setCell ⟨g, 3, none⟩ u).heap[k]? = some (.cells cs t (0, 0)) :=
  blk_far (far3b h hne x y z) (p := ⟨g, 3, none⟩) hne _
theorem below_undrew {a b : World} (h : Below a.drew.heap.size a.drew b) : Below a.heap.size a b := ⟨h.os, h.tape, h.output, h.size, h.block⟩

theorem wp_store5 {Q : Exit → Act → World → Prop} {o : Oper} {p x : Tmp} (ho : o.op = .store 35 (.tmp p) (.tmp x)) (hd : o.dst = none) {a : Act} {w : World} {K : Act → World → Prop} {g : Nat} {n m : Int} {A B C : Option Addr} {la ca lb cb lc cc : Nat} {y0 y1 y2 y3 y4 : Value} (hp : a.eval (.tmp p) = .pointer (some ⟨g, 0, none⟩)) (hx : a.eval (.tmp x) = .agg #[.int .i64 n, .slice A la ca, .slice B lb cb, .slice C lc cc, .int .i64 m])
    (hk : w.heap[g]? = some (.cells #[y0, y1, y2, y3, y4] 35 (0, 0))) (hK : K a (((((w.setCell ⟨g, 0, none⟩ (.int .i64 n)).setCell ⟨g, 1, none⟩ (.slice A la ca)).setCell ⟨g, 2, none⟩ (.slice B lb cb)).setCell ⟨g, 3, none⟩ (.slice C lc cc)).setCell ⟨g, 4, none⟩ (.int .i64 m))) : o.wp Tryz.prog a w K Q := by
  obtain ⟨dst, op, type, pos, after, guard⟩ := o
  simp only at ho hd
  subst ho hd
  obtain ⟨c0, c1, c2, c3, c4, f0, f1, f2, f3, f4⟩ := all5 hk
  have hp2 : a.tmps[p]?.getD undef = .pointer (some ⟨g, 0, none⟩) := by simpa [Act.eval, Array.getD_eq_getD_getElem?] using hp
  have hx2 : a.tmps[x]?.getD undef = .agg #[.int .i64 n, .slice A la ca, .slice B lb cb, .slice C lc cc, .int .i64 m] := by simpa [Act.eval, Array.getD_eq_getD_getElem?] using hx
  go_simp
  exact hK
theorem wp_store3 {Q : Exit → Act → World → Prop} {o : Oper} {p x : Tmp} (ho : o.op = .store 39 (.tmp p) (.tmp x)) (hd : o.dst = none) {a : Act} {w : World} {K : Act → World → Prop} {g : Nat} {n m : Int} {A : Option Addr} {la ca : Nat} {y0 y1 y2 : Value} (hp : a.eval (.tmp p) = .pointer (some ⟨g, 0, none⟩)) (hx : a.eval (.tmp x) = .agg #[.slice A la ca, .int .i64 n, .int .i64 m])
    (hk : w.heap[g]? = some (.cells #[y0, y1, y2] 39 (0, 0))) (hK : K a (((w.setCell ⟨g, 0, none⟩ (.slice A la ca)).setCell ⟨g, 1, none⟩ (.int .i64 n)).setCell ⟨g, 2, none⟩ (.int .i64 m))) : o.wp Tryz.prog a w K Q := by
  obtain ⟨dst, op, type, pos, after, guard⟩ := o
  simp only at ho hd
  subst ho hd
  obtain ⟨c0, c1, c2, f0, f1, f2⟩ := all3 hk
  have hp2 : a.tmps[p]?.getD undef = .pointer (some ⟨g, 0, none⟩) := by simpa [Act.eval, Array.getD_eq_getD_getElem?] using hp
  have hx2 : a.tmps[x]?.getD undef = .agg #[.slice A la ca, .int .i64 n, .int .i64 m] := by simpa [Act.eval, Array.getD_eq_getD_getElem?] using hx
  go_simp
  exact hK
theorem wp_store4 {Q : Exit → Act → World → Prop} {o : Oper} {p x : Tmp} (ho : o.op = .store 42 (.tmp p) (.tmp x)) (hd : o.dst = none) {a : Act} {w : World} {K : Act → World → Prop} {g : Nat} {n m : Int} {A B : Option Addr} {la ca lb cb : Nat} {y0 y1 y2 y3 : Value} (hp : a.eval (.tmp p) = .pointer (some ⟨g, 0, none⟩)) (hx : a.eval (.tmp x) = .agg #[.slice A la ca, .slice B lb cb, .int .i64 n, .int .i64 m])
    (hk : w.heap[g]? = some (.cells #[y0, y1, y2, y3] 42 (0, 0))) (hK : K a ((((w.setCell ⟨g, 0, none⟩ (.slice A la ca)).setCell ⟨g, 1, none⟩ (.slice B lb cb)).setCell ⟨g, 2, none⟩ (.int .i64 n)).setCell ⟨g, 3, none⟩ (.int .i64 m))) : o.wp Tryz.prog a w K Q := by
  obtain ⟨dst, op, type, pos, after, guard⟩ := o
  simp only at ho hd
  subst ho hd
  obtain ⟨c0, c1, c2, c3, f0, f1, f2, f3⟩ := all4 hk
  have hp2 : a.tmps[p]?.getD undef = .pointer (some ⟨g, 0, none⟩) := by simpa [Act.eval, Array.getD_eq_getD_getElem?] using hp
  have hx2 : a.tmps[x]?.getD undef = .agg #[.slice A la ca, .slice B lb cb, .int .i64 n, .int .i64 m] := by simpa [Act.eval, Array.getD_eq_getD_getElem?] using hx
  go_simp
  exact hK

set_option maxRecDepth 100000 in
set_option maxHeartbeats 4000000 in
theorem acts_region {Q : Exit → Act → World → Prop} {rid : Nat} {a0 : Act} {c0 w : World} {l : List Oper} {o0 o1 o2 o3 o4 o5 o6 o7 o8 o9 o10 o11 : Oper} (hl : l = [o0, o1, o2, o3, o4, o5, o6, o7, o8, o9, o10, o11])
    (q0 : o0.op = .load 25 (.tmp 4)) (q1 : o1.op = .call { callee := .value (.func 7), args := #[.tmp 20], argTypes := #[25] }) (q2 : o2.op = .load 28 (.tmp 5)) (q3 : o3.op = .call { callee := .value (.func 8), args := #[.tmp 22], argTypes := #[28] })
    (q4 : o4.op = .load 31 (.tmp 7)) (q5 : o5.op = .call { callee := .value (.func 9), args := #[.tmp 24], argTypes := #[31] }) (q6 : o6.op = .alloc 35) (q7 : o7.op = .alloc 39) (q8 : o8.op = .alloc 42)
    (q9 : o9.op = .store 35 (.tmp 9) (.tmp 21)) (q10 : o10.op = .store 39 (.tmp 10) (.tmp 23)) (q11 : o11.op = .store 42 (.tmp 11) (.tmp 25)) (d9 : o9.dst = none) (d10 : o10.dst = none) (d11 : o11.dst = none)
    (hs : shapeOk l [20, 21, 22, 23, 24, 25, 9, 10, 11] [[], [0], [], [0, 1, 2], [], [0, 1, 2, 3, 4], [], [], [], [0, 1, 2, 3, 4, 5, 6, 7, 8], [0, 1, 2, 3, 4, 5, 6, 7, 8, 9], [0, 1, 2, 3, 4, 5, 6, 7, 8, 9, 10]] = true)
    (s : St) (B D E : Option Addr) (bc dc ec lb ld la : Nat) (l' : List Meta) (seq next : Int) (drop : List Int) (add : List Meta) (seq' next' : Int) (n0 m0 : Int) (F0 N0 S0 : Option Addr) (lf0 fc0 ln0 nc0 ls0 sc0 : Nat)
    (e4 : a0.eval (.tmp 4) = .pointer (some ⟨w.heap.size, 0, none⟩)) (e5 : a0.eval (.tmp 5) = .pointer (some ⟨w.heap.size + 1, 0, none⟩)) (e7 : a0.eval (.tmp 7) = .pointer (some ⟨w.heap.size + 2, 0, none⟩)) (hz : 26 < a0.tmps.size)
    (HA : Aside0 (At w (.agg #[.int .i64 n0, .slice F0 lf0 fc0, .slice N0 ln0 nc0, .slice S0 ls0 sc0, .int .i64 m0]) s)) (HS : Aside0 (Small s)) (HR : Aside0 (Kd.C kMeta w B lb l')) (HD : Aside0 (ReadsInt w .i64 D ld drop)) (HE : Aside0 (Kd.C kMeta w E la add)) (hlb : lb ≤ 1048576) (hdl : ld ≤ 1048576) (hal : la ≤ 1048576)
    (HB0 : Aside0 (Below w.heap.size w c0)) (HJ0 : Aside0 (c0.heap[w.heap.size]? = some (.cells #[.int .i64 n0, .slice F0 lf0 fc0, .slice N0 ln0 nc0, .slice S0 ls0 sc0, .int .i64 m0] 25 (0, 0))))
    (HV0 : Aside0 (c0.heap[w.heap.size + 1]? = some (.cells #[.slice B lb bc, .int .i64 seq, .int .i64 next] 28 (0, 0)))) (HE0 : Aside0 (c0.heap[w.heap.size + 2]? = some (.cells #[.slice D ld dc, .slice E la ec, .int .i64 seq', .int .i64 next'] 31 (0, 0))))
    (post : ∀ (f : Tmp → Value) (wx : World) (g9 g10 g11 : Nat) (n1 m1 : Int) (F1 N1 S1 A2 A3 A4 : Option Addr) (lf1 fc1 ln1 nc1 ls1 sc1 c2 c3 c4 : Nat), f 9 = .pointer (some ⟨g9, 0, none⟩) → f 10 = .pointer (some ⟨g10, 0, none⟩) → f 11 = .pointer (some ⟨g11, 0, none⟩) →
      wx.heap[g9]? = some (.cells #[.int .i64 n1, .slice F1 lf1 fc1, .slice N1 ln1 nc1, .slice S1 ls1 sc1, .int .i64 m1] 35 (0, 0)) → At wx (.agg #[.int .i64 n1, .slice F1 lf1 fc1, .slice N1 ln1 nc1, .slice S1 ls1 sc1, .int .i64 m1]) s →
      wx.heap[g10]? = some (.cells #[.slice A2 lb c2, .int .i64 seq, .int .i64 next] 39 (0, 0)) → Kd.C kMeta wx A2 lb l' → lb ≤ c2 →
      wx.heap[g11]? = some (.cells #[.slice A3 ld c3, .slice A4 la c4, .int .i64 seq', .int .i64 next'] 42 (0, 0)) → ReadsInt wx .i64 A3 ld drop → Kd.C kMeta wx A4 la add → Below w.heap.size w wx → Below c0.heap.size c0 wx → Q .normal (fillA a0 [20, 21, 22, 23, 24, 25, 9, 10, 11] f) wx) :
    (Code.region rid l.toArray true).wp Tryz.prog Q a0 c0 := by
  subst hl
  refine wp_region_parted (pre := [o0, o1, o2, o3, o4, o5, o6, o7, o8]) (post := [o9, o10, o11]) (by kernel_rfl) _ _ rfl rfl hs (fun a b => Below a.heap.size a b) (fun a => Below.refl _ _) rel_trans
    (fun i v w' => match i with
      | 0 => v = .agg #[.int .i64 n0, .slice F0 lf0 fc0, .slice N0 ln0 nc0, .slice S0 ls0 sc0, .int .i64 m0]
      | 1 => ∃ vF vN vS, v = .agg #[.int .i64 s.cap, vF, vN, vS, .int .i64 s.next] ∧ RF w' c0.heap.size vF s.files ∧ RN w' c0.heap.size vN s.names ∧ RN w' c0.heap.size vS s.safe
      | 2 => v = .agg #[.slice B lb bc, .int .i64 seq, .int .i64 next]
      | 3 => ∃ u, v = .agg #[u, .int .i64 seq, .int .i64 next] ∧ RM 132 w' c0.heap.size u l'
      | 4 => v = .agg #[.slice D ld dc, .slice E la ec, .int .i64 seq', .int .i64 next']
      | 5 => ∃ u u', v = .agg #[u, u', .int .i64 seq', .int .i64 next'] ∧ RI w' c0.heap.size u drop ∧ RM 132 w' c0.heap.size u' add
      | 6 => ∃ g, v = .pointer (some ⟨g, 0, none⟩) ∧ c0.heap.size ≤ g ∧ w'.heap[g]? = some (.cells #[.int .i64 0, .slice none 0 0, .slice none 0 0, .slice none 0 0, .int .i64 0] 35 (0, 0))
      | 7 => ∃ g, v = .pointer (some ⟨g, 0, none⟩) ∧ c0.heap.size ≤ g ∧ w'.heap[g]? = some (.cells #[.slice none 0 0, .int .i64 0, .int .i64 0] 39 (0, 0))
      | 8 => ∃ g, v = .pointer (some ⟨g, 0, none⟩) ∧ c0.heap.size ≤ g ∧ w'.heap[g]? = some (.cells #[.slice none 0 0, .slice none 0 0, .int .i64 0, .int .i64 0] 42 (0, 0))
      | _ => True) ?hF ?hst ?htail
  case hF =>
    intro i v w1 w2 hi h hb
    simp only [List.length_cons, List.length_nil] at hi
    rcases (show i = 0 ∨ i = 1 ∨ i = 2 ∨ i = 3 ∨ i = 4 ∨ i = 5 ∨ i = 6 ∨ i = 7 ∨ i = 8 by omega) with rfl | rfl | rfl | rfl | rfl | rfl | rfl | rfl | rfl
    · exact h
    · obtain ⟨vF, vN, vS, h1, h2, h3, h4⟩ := h
      exact ⟨vF, vN, vS, h1, Kd.R_below h2 hb, Kd.R_below h3 hb, Kd.R_below h4 hb⟩
    · exact h
    · obtain ⟨u, h1, h2⟩ := h
      exact ⟨u, h1, Kd.R_below h2 hb⟩
    · exact h
    · obtain ⟨u, u', h1, h2, h3⟩ := h
      exact ⟨u, u', h1, pw_own_below h2 hb, Kd.R_below h3 hb⟩
    · obtain ⟨g, h1, h2, h3⟩ := h
      exact ⟨g, h1, h2, blk_keep h3 hb⟩
    · obtain ⟨g, h1, h2, h3⟩ := h
      exact ⟨g, h1, h2, blk_keep h3 hb⟩
    · obtain ⟨g, h1, h2, h3⟩ := h
      exact ⟨g, h1, h2, blk_keep h3 hb⟩
  case hst =>
    refine .cons ?_ (.cons ?_ (.cons ?_ (.cons ?_ (.cons ?_ (.cons ?_ (.cons ?_ (.cons ?_ (.cons ?_ .nil))))))))
    · intro f w1 hb _
      exact wp_load5 q0 ((fill_else _ f 4 (by decide) _).trans e4) (blk_keep HJ0.out (below_undrew hb)) ⟨_, rfl, Below.refl _ _, rfl⟩
    · intro f w1 hb hF
      refine wp_call1 q1 Tryz.func7 (by kernel_rfl) (by kernel_rfl) ?_
      have h0 : f 20 = .agg #[.int .i64 n0, .slice F0 lf0 fc0, .slice N0 ln0 nc0, .slice S0 ls0 sc0, .int .i64 m0] := hF 0 (by decide)
      have hc := of_rows (HA.out.below (bthen HB0.out (below_undrew hb))) HS.out
      rw [fill_get _ (by decide) f _ 20 (by decide) (Nat.lt_trans (by decide) hz), h0]
      exact hc.mono fun e w' ⟨vF, vN, vS, he, r1, r2, r3, hb2⟩ => ⟨_, he, _, rfl, hb2, ⟨vF, vN, vS, rfl, Kd.R_lower r1 (below_undrew hb).size, Kd.R_lower r2 (below_undrew hb).size, Kd.R_lower r3 (below_undrew hb).size⟩⟩
    · intro f w1 hb _
      exact wp_load3 q2 ((fill_else _ f 5 (by decide) _).trans e5) (blk_keep HV0.out (below_undrew hb)) ⟨_, rfl, Below.refl _ _, rfl⟩
    · intro f w1 hb hF
      refine wp_call1 q3 Tryz.func8 (by kernel_rfl) (by kernel_rfl) ?_
      have h0 : f 22 = .agg #[.slice B lb bc, .int .i64 seq, .int .i64 next] := hF 2 (by decide)
      have hc := ofV_at B bc lb l' seq next w1 (Kd.C_below HR.out (bthen HB0.out (below_undrew hb))) hlb
      rw [fill_get _ (by decide) f _ 22 (by decide) (Nat.lt_trans (by decide) hz), h0]
      exact hc.mono fun e w' ⟨u, he, hC, hb2⟩ => ⟨_, he, _, rfl, hb2, ⟨u, rfl, Kd.R_lower hC (below_undrew hb).size⟩⟩
    · intro f w1 hb _
      exact wp_load4 q4 ((fill_else _ f 7 (by decide) _).trans e7) (blk_keep HE0.out (below_undrew hb)) ⟨_, rfl, Below.refl _ _, rfl⟩
    · intro f w1 hb hF
      refine wp_call1 q5 Tryz.func9 (by kernel_rfl) (by kernel_rfl) ?_
      have h0 : f 24 = .agg #[.slice D ld dc, .slice E la ec, .int .i64 seq', .int .i64 next'] := hF 4 (by decide)
      have hc := ofE_at D E dc ec ld la drop add seq' next' w1 (HD.out.below (bthen HB0.out (below_undrew hb))) (Kd.C_below HE.out (bthen HB0.out (below_undrew hb))) hdl hal
      rw [fill_get _ (by decide) f _ 24 (by decide) (Nat.lt_trans (by decide) hz), h0]
      exact hc.mono fun e w' ⟨u, u', he, hr1, hC1, hb2⟩ => ⟨_, he, _, rfl, hb2, ⟨u, u', rfl, own_weaken hr1 (below_undrew hb).size, Kd.R_lower hC1 (below_undrew hb).size⟩⟩
    · intro f w1 hb _
      exact wp_alloc5 q6 ⟨_, rfl, below_alloc (Below.refl _ _) _, ⟨_, rfl, (below_undrew hb).size, blk_new _ _⟩⟩
    · intro f w1 hb _
      exact wp_alloc3 q7 ⟨_, rfl, below_alloc (Below.refl _ _) _, ⟨_, rfl, (below_undrew hb).size, blk_new _ _⟩⟩
    · intro f w1 hb _
      exact wp_alloc4 q8 ⟨_, rfl, below_alloc (Below.refl _ _) _, ⟨_, rfl, (below_undrew hb).size, blk_new _ _⟩⟩
  case htail =>
    intro f w1 hb hF
    have h1 := hF 1 (by decide)
    have h3 := hF 3 (by decide)
    have h5 := hF 5 (by decide)
    have h6 := hF 6 (by decide)
    have h7 := hF 7 (by decide)
    have h8 := hF 8 (by decide)
    have hev : ∀ t, t ∈ ([20, 21, 22, 23, 24, 25, 9, 10, 11] : List Tmp) → (fillA a0 [20, 21, 22, 23, 24, 25, 9, 10, 11] f).eval (.tmp t) = f t := fun t ht => fill_get _ (by decide) f _ t ht (by
      simp only [List.mem_cons, List.not_mem_nil, or_false] at ht
      rcases ht with rfl | rfl | rfl | rfl | rfl | rfl | rfl | rfl | rfl <;> exact Nat.lt_trans (by decide) hz)
    have v21 := hev 21 (by decide)
    have v23 := hev 23 (by decide)
    have v25 := hev 25 (by decide)
    have v9 := hev 9 (by decide)
    have v10 := hev 10 (by decide)
    have v11 := hev 11 (by decide)
    have hq := fun wx => post f wx
    generalize fillA a0 [20, 21, 22, 23, 24, 25, 9, 10, 11] f = a1 at v21 v23 v25 v9 v10 v11 hq ⊢
    clear hev hF post hs
    obtain ⟨vF, vN, vS, hv1, r1, r2, r3⟩ := h1
    obtain ⟨u3, hv3, r4⟩ := h3
    obtain ⟨u5, u6, hv5, r5, r6⟩ := h5
    obtain ⟨g9, hg9, hl9, hk9⟩ := h6
    obtain ⟨g10, hg10, hl10, hk10⟩ := h7
    obtain ⟨g11, hg11, hl11, hk11⟩ := h8
    obtain ⟨F1, fc1, rfl, _⟩ := Kd.R_reads r1
    obtain ⟨N1, nc1, rfl, _⟩ := Kd.R_reads r2
    obtain ⟨S1, sc1, rfl, _⟩ := Kd.R_reads r3
    obtain ⟨A2, c2, rfl, _⟩ := Kd.R_reads r4
    obtain ⟨A3, c3, rfl, _⟩ := RI_reads r5
    obtain ⟨A4, c4, rfl, _⟩ := Kd.R_reads r6
    have hbb : Below c0.heap.size c0 w1 := below_undrew hb
    have hg9' : f 9 = .pointer (some ⟨g9, 0, none⟩) := hg9
    have hg10' : f 10 = .pointer (some ⟨g10, 0, none⟩) := hg10
    have hg11' : f 11 = .pointer (some ⟨g11, 0, none⟩) := hg11
    have hv1' : f 21 = _ := hv1
    have hv3' : f 23 = _ := hv3
    have hv5' : f 25 = _ := hv5
    rw [hg9'] at v9
    rw [hg10'] at v10
    rw [hg11'] at v11
    rw [hv1'] at v21
    rw [hv3'] at v23
    rw [hv5'] at v25
    have p10 : g10 ≠ g9 := type_ne hk10 hk9 (by decide)
    have p11 : g11 ≠ g9 := type_ne hk11 hk9 (by decide)
    have p12 : g11 ≠ g10 := type_ne hk11 hk10 (by decide)
    refine wp_store5 q9 d9 v9 v21 hk9 ?_
    have k9 := blk5 (x := .int .i64 s.cap) (y := .slice F1 s.files.length fc1) (z := .slice N1 s.names.length nc1) (u := .slice S1 s.safe.length sc1) (v := .int .i64 s.next) hk9
    have k10 := far5b hk10 p10 (.int .i64 s.cap) (.slice F1 s.files.length fc1) (.slice N1 s.names.length nc1) (.slice S1 s.safe.length sc1) (.int .i64 s.next)
    have k11 := far5b hk11 p11 (.int .i64 s.cap) (.slice F1 s.files.length fc1) (.slice N1 s.names.length nc1) (.slice S1 s.safe.length sc1) (.int .i64 s.next)
    have b9 := below_set5 hbb hl9 (.int .i64 s.cap) (.slice F1 s.files.length fc1) (.slice N1 s.names.length nc1) (.slice S1 s.safe.length sc1) (.int .i64 s.next)
    have a1' := Rset5 r1 (apart_of hk9 RF_types) (.int .i64 s.cap) (.slice F1 s.files.length fc1) (.slice N1 s.names.length nc1) (.slice S1 s.safe.length sc1) (.int .i64 s.next)
    have a2' := Rset5 r2 (apart_of hk9 RN_types) (.int .i64 s.cap) (.slice F1 s.files.length fc1) (.slice N1 s.names.length nc1) (.slice S1 s.safe.length sc1) (.int .i64 s.next)
    have a3' := Rset5 r3 (apart_of hk9 RN_types) (.int .i64 s.cap) (.slice F1 s.files.length fc1) (.slice N1 s.names.length nc1) (.slice S1 s.safe.length sc1) (.int .i64 s.next)
    have a4' := Rset5 r4 (apart_of hk9 (by decide)) (.int .i64 s.cap) (.slice F1 s.files.length fc1) (.slice N1 s.names.length nc1) (.slice S1 s.safe.length sc1) (.int .i64 s.next)
    have a6' := Rset5 r6 (apart_of hk9 (by decide)) (.int .i64 s.cap) (.slice F1 s.files.length fc1) (.slice N1 s.names.length nc1) (.slice S1 s.safe.length sc1) (.int .i64 s.next)
    have a5' := RI_set5 r5 hk9 (by decide) (.int .i64 s.cap) (.slice F1 s.files.length fc1) (.slice N1 s.names.length nc1) (.slice S1 s.safe.length sc1) (.int .i64 s.next)
    generalize (((((w1.setCell ⟨g9, 0, none⟩ (.int .i64 s.cap)).setCell ⟨g9, 1, none⟩ (.slice F1 s.files.length fc1)).setCell ⟨g9, 2, none⟩ (.slice N1 s.names.length nc1)).setCell ⟨g9, 3, none⟩ (.slice S1 s.safe.length sc1)).setCell ⟨g9, 4, none⟩ (.int .i64 s.next)) = w2 at k9 k10 k11 b9 a1' a2' a3' a4' a5' a6' ⊢
    clear r1 r2 r3 r4 r5 r6 hk9 hk10 hk11
    refine wp_store3 q10 d10 v10 v23 k10 ?_
    have j10 := blk3 (x := .slice A2 l'.length c2) (y := .int .i64 seq) (z := .int .i64 next) k10
    have j9 := far3b k9 (Ne.symm p10) (.slice A2 l'.length c2) (.int .i64 seq) (.int .i64 next)
    have j11 := far3b k11 p12 (.slice A2 l'.length c2) (.int .i64 seq) (.int .i64 next)
    have b10 := below_set3 b9 hl10 (.slice A2 l'.length c2) (.int .i64 seq) (.int .i64 next)
    have z1 := Rset3b a1' k10 (by decide) (.slice A2 l'.length c2) (.int .i64 seq) (.int .i64 next)
    have z2 := Rset3b a2' k10 (by decide) (.slice A2 l'.length c2) (.int .i64 seq) (.int .i64 next)
    have z3 := Rset3b a3' k10 (by decide) (.slice A2 l'.length c2) (.int .i64 seq) (.int .i64 next)
    have z4 := Rset3b a4' k10 (by decide) (.slice A2 l'.length c2) (.int .i64 seq) (.int .i64 next)
    have z6 := Rset3b a6' k10 (by decide) (.slice A2 l'.length c2) (.int .i64 seq) (.int .i64 next)
    have z5 := RI_set3 a5' k10 (by decide) (.slice A2 l'.length c2) (.int .i64 seq) (.int .i64 next)
    generalize (((w2.setCell ⟨g10, 0, none⟩ (.slice A2 l'.length c2)).setCell ⟨g10, 1, none⟩ (.int .i64 seq)).setCell ⟨g10, 2, none⟩ (.int .i64 next)) = w3 at j9 j10 j11 b10 z1 z2 z3 z4 z5 z6 ⊢
    refine wp_store4 q11 d11 v11 v25 j11 ?_
    have i11 := blk4 (x := .slice A3 drop.length c3) (y := .slice A4 add.length c4) (z := .int .i64 seq') (u := .int .i64 next') j11
    have i9 := far4b j9 (Ne.symm p11) (.slice A3 drop.length c3) (.slice A4 add.length c4) (.int .i64 seq') (.int .i64 next')
    have i10 := far4b j10 (Ne.symm p12) (.slice A3 drop.length c3) (.slice A4 add.length c4) (.int .i64 seq') (.int .i64 next')
    have b11 := below_set4 b10 hl11 (.slice A3 drop.length c3) (.slice A4 add.length c4) (.int .i64 seq') (.int .i64 next')
    have y1 := Rset4b z1 j11 (by decide) (.slice A3 drop.length c3) (.slice A4 add.length c4) (.int .i64 seq') (.int .i64 next')
    have y2 := Rset4b z2 j11 (by decide) (.slice A3 drop.length c3) (.slice A4 add.length c4) (.int .i64 seq') (.int .i64 next')
    have y3 := Rset4b z3 j11 (by decide) (.slice A3 drop.length c3) (.slice A4 add.length c4) (.int .i64 seq') (.int .i64 next')
    have y4 := Rset4b z4 j11 (by decide) (.slice A3 drop.length c3) (.slice A4 add.length c4) (.int .i64 seq') (.int .i64 next')
    have y6 := Rset4b z6 j11 (by decide) (.slice A3 drop.length c3) (.slice A4 add.length c4) (.int .i64 seq') (.int .i64 next')
    have y5 := RI_set4 z5 j11 (by decide) (.slice A3 drop.length c3) (.slice A4 add.length c4) (.int .i64 seq') (.int .i64 next')
    generalize ((((w3.setCell ⟨g11, 0, none⟩ (.slice A3 drop.length c3)).setCell ⟨g11, 1, none⟩ (.slice A4 add.length c4)).setCell ⟨g11, 2, none⟩ (.int .i64 seq')).setCell ⟨g11, 3, none⟩ (.int .i64 next')) = w4 at i9 i10 i11 b11 y1 y2 y3 y4 y5 y6 ⊢
    obtain ⟨_, l1, C1⟩ := Kd.R_reads' y1
    obtain ⟨_, l2, C2⟩ := Kd.R_reads' y2
    obtain ⟨_, l3, C3⟩ := Kd.R_reads' y3
    obtain ⟨_, l4, C4⟩ := Kd.R_reads' y4
    obtain ⟨_, l6, C6⟩ := Kd.R_reads' y6
    have C5 : ReadsInt w4 .i64 A3 drop.length drop := own_reads' y5
    have hdl' : drop.length = ld := HD.out.1
    have hll' : l'.length = lb := Kd.C_len HR.out
    have hal' : add.length = la := Kd.C_len HE.out
    rw [hdl'] at i11 C5
    rw [hal'] at i11 C6
    rw [hll'] at i10 C4 l4
    exact hq w4 g9 g10 g11 _ _ F1 N1 S1 A2 A3 A4 _ fc1 _ nc1 _ sc1 c2 c3 c4 hg9' hg10' hg11' i9 ⟨F1, fc1, N1, nc1, S1, sc1, rfl, ⟨C1, C2, C3, l1, l2, l3⟩⟩ i10 C4 l4 i11 C5 C6 (bthen HB0.out b11) b11

set_option maxRecDepth 100000 in
set_option maxHeartbeats 16000000 in
theorem acts_walk (s : St) (F N S B D E : Option Addr) (fc nc sc bc dc ec : Nat) (l : List Meta) (seq next id : Int) (drop : List Int) (add : List Meta) (seq' next' : Int) (w : World) (h : Hd w s F fc N nc S sc) (hs : Small s) (hw : Wf s)
    (hr : Kd.C kMeta w B l.length l) (hbc : l.length ≤ bc) (hlb : l.length ≤ 1048576) (hsq : inI64 seq) (hnx : inI64 next) (hmw : ∀ m ∈ l, inI64 m.id ∧ inI64 m.level ∧ inI64 m.count) (hms : ∀ m ∈ l, m.low.size ≤ 1048576 ∧ m.high.size ≤ 1048576)
    (hd : ReadsInt w .i64 D drop.length drop) (ha : Kd.C kMeta w E add.length add) (hdl : drop.length ≤ 1048576) (hal : add.length ≤ 1048576) (hsq' : inI64 seq') (hnx' : inI64 next') (hdw : ∀ x ∈ drop, inI64 x) (haw : ∀ m ∈ add, inI64 m.id ∧ inI64 m.level ∧ inI64 m.count) (has : ∀ m ∈ add, m.low.size ≤ 1048576 ∧ m.high.size ≤ 1048576) :
    Calls Tryz.prog 3 #[.agg #[.int .i64 s.cap, .slice F s.files.length fc, .slice N s.names.length nc, .slice S s.safe.length sc, .int .i64 s.next], .agg #[.slice B l.length bc, .int .i64 seq, .int .i64 next], .int .i64 id, .agg #[.slice D drop.length dc, .slice E add.length ec, .int .i64 seq', .int .i64 next']] w fun e w' => e = .returned (.bool true) ∧ Below w.heap.size w w' := by
  have HA := Aside0.mk h.at_
  have HS := Aside0.mk hs
  have HW := Aside0.mk hw
  have HR := Aside0.mk hr
  have HD := Aside0.mk hd
  have HE := Aside0.mk ha
  have HI := Aside0.mk (And.intro hsq (And.intro hnx (And.intro hmw hms)))
  have HI' := Aside0.mk (And.intro hsq' (And.intro hnx' (And.intro hdw (And.intro haw has))))
  obtain ⟨lb, hlb'⟩ : ∃ n, l.length = n := ⟨_, rfl⟩
  obtain ⟨ld, hld'⟩ : ∃ n, drop.length = n := ⟨_, rfl⟩
  obtain ⟨la, hla'⟩ : ∃ n, add.length = n := ⟨_, rfl⟩
  have LB := Aside0.mk hlb'
  have LD := Aside0.mk hld'
  have LA := Aside0.mk hla'
  rw [hlb'] at HR hbc hlb ⊢
  rw [hld'] at HD hdl ⊢
  rw [hla'] at HE hal ⊢
  obtain ⟨n0, F0, lf0, fc0, N0, ln0, nc0, S0, ls0, sc0, m0, hv0⟩ := HA.out.show_
  rw [hv0] at HA ⊢
  clear h hs hw hr hd ha hsq hnx hmw hms hsq' hnx' hdw haw has hlb' hld' hla' hv0
  go_enter Tryz.func3, Tryz.ntmps3
  go_upto_region 1 with (fail)
  obtain ⟨c0, hc0⟩ : ∃ W, W = ((w.alloc (.cells #[.int .i64 n0, .slice F0 lf0 fc0, .slice N0 ln0 nc0, .slice S0 ls0 sc0, .int .i64 m0] 25)).alloc (.cells #[.slice B lb bc, .int .i64 seq, .int .i64 next] 28)).alloc (.cells #[.slice D ld dc, .slice E la ec, .int .i64 seq', .int .i64 next'] 31) := ⟨_, rfl⟩
  have HB0 : Aside0 (Below w.heap.size w c0) := ⟨by rw [hc0]; exact below_alloc (below_alloc (below_alloc (Below.refl _ _) _) _) _⟩
  have HJ0 : Aside0 (c0.heap[w.heap.size]? = some (.cells #[.int .i64 n0, .slice F0 lf0 fc0, .slice N0 ln0 nc0, .slice S0 ls0 sc0, .int .i64 m0] 25 (0, 0))) := ⟨by rw [hc0]; exact blk_alloc (blk_alloc (blk_new _ _) _) _⟩
  have HV0 : Aside0 (c0.heap[w.heap.size + 1]? = some (.cells #[.slice B lb bc, .int .i64 seq, .int .i64 next] 28 (0, 0))) := ⟨by rw [hc0]; exact blk_alloc (blk_new1 _ _ _ _) _⟩
  have HE0 : Aside0 (c0.heap[w.heap.size + 2]? = some (.cells #[.slice D ld dc, .slice E la ec, .int .i64 seq', .int .i64 next'] 31 (0, 0))) := ⟨by
    rw [hc0]
    have h := blk_new1 (w.alloc (.cells #[.int .i64 n0, .slice F0 lf0 fc0, .slice N0 ln0 nc0, .slice S0 ls0 sc0, .int .i64 m0] 25)) (.cells #[.slice B lb bc, .int .i64 seq, .int .i64 next] 28) #[.slice D ld dc, .slice E la ec, .int .i64 seq', .int .i64 next'] 31
    rw [show (w.alloc (.cells #[.int .i64 n0, .slice F0 lf0 fc0, .slice N0 ln0 nc0, .slice S0 ls0 sc0, .int .i64 m0] 25)).heap.size = w.heap.size + 1 by simp] at h
    exact h⟩
  rw [← hc0]
  clear hc0
  refine acts_region (w := w) rfl rfl rfl rfl rfl rfl rfl rfl rfl rfl rfl rfl rfl rfl rfl rfl (by kernel_rfl) s B D E bc dc ec lb ld la l seq next drop add seq' next' n0 m0 F0 N0 S0 lf0 fc0 ln0 nc0 ls0 sc0 rfl rfl rfl (by simp) HA HS HR HD HE hlb hdl hal HB0 HJ0 HV0 HE0 ?_
  intro f wx g9 g10 g11 n1 m1 F1 N1 S1 A2 A3 A4 lf1 fc1 ln1 nc1 ls1 sc1 c2 c3 c4 f9 f10 f11 k9 hA1 k10 hC2 hlc2 k11 hr3 hC4 hbw hbc
  have HX := Aside0.mk hA1
  have HV := Aside0.mk hC2
  have HDx := Aside0.mk hr3
  have HEx := Aside0.mk hC4
  have K9 := Aside0.mk k9
  have K10 := Aside0.mk k10
  have K11 := Aside0.mk k11
  have HB1 := Aside0.mk hbw
  have KJ := Aside0.mk (blk_keep HJ0.out hbc)
  have KV := Aside0.mk (blk_keep HV0.out hbc)
  have KE := Aside0.mk (blk_keep HE0.out hbc)
  clear hA1 hC2 hr3 hC4 k9 k10 k11 hbc hbw
  simp only [fillA, f9, f10, f11]
  generalize f 20 = v20
  generalize f 21 = v21
  generalize f 22 = v22
  generalize f 23 = v23
  generalize f 24 = v24
  generalize f 25 = v25
  clear f9 f10 f11 f
  obtain ⟨x0, x1, x2, x3, x4, _, _, _, _, _⟩ := all5 K9.out
  obtain ⟨y0, y1, y2, _, _, _⟩ := all3 K10.out
  have LR : Aside0 (l.length = lb) := LB
  have hmid := HI.out
  go_wp2_with fail
  refine (begin_any s _ A2 lb c2 l seq next id wx HX.out HS.out HW.out HV.out hlc2 hlb HI.out.1 HI.out.2.1 HI.out.2.2.1 HI.out.2.2.2).mono ?_
  obtain ⟨BL, hBL⟩ := named (beginL s l seq next id)
  obtain ⟨BE, hBE⟩ := named (beginE s l seq next id)
  rw [← hBL.out, ← hBE.out]
  rintro e w2 ⟨P2, p2, pc2, rfl, q2, pn2, hb2⟩
  have HP2 := Aside0.mk q2
  have HD2 := Aside0.mk hb2
  clear q2 hb2 x0 x1 x2 x3 x4 y0 y1 y2 hmid
  have KJ2 := Aside0.mk (blk_keep KJ.out HD2.out)
  have KV2 := Aside0.mk (blk_keep KV.out HD2.out)
  have KE2 := Aside0.mk (blk_keep KE.out HD2.out)
  have K92 := Aside0.mk (blk_keep K9.out HD2.out)
  have K102 := Aside0.mk (blk_keep K10.out HD2.out)
  have K112 := Aside0.mk (blk_keep K11.out HD2.out)
  have HB2 := Aside0.mk (bthen HB1.out HD2.out)
  have HDx2 := Aside0.mk (HDx.out.below HD2.out)
  have HEx2 := Aside0.mk (Kd.C_below HEx.out HD2.out)
  have HX2 := Aside0.mk (HX.out.below HD2.out)
  have HV2 := Aside0.mk (Kd.C_below HV.out HD2.out)
  obtain ⟨x0, x1, x2, x3, x4, _, _, _, _, _⟩ := all5 KJ2.out
  obtain ⟨y0, y1, y2, _, _, _⟩ := all3 KV2.out
  go_wp2_with fail
  refine (rbegin_any s _ B lb bc l seq next id w2 (HA.out.below HB2.out) HS.out HW.out (Kd.C_below HR.out HB2.out) hbc hlb HI.out.1 HI.out.2.1 HI.out.2.2.1 HI.out.2.2.2).mono ?_
  rw [← hBL.out, ← hBE.out]
  rintro e w3 ⟨P3, p3, pc3, rfl, q3, pn3, hb3⟩
  have HP3 := Aside0.mk q3
  have HD3 := Aside0.mk hb3
  clear q3 hb3 x0 x1 x2 x3 x4 y0 y1 y2
  have KJ3 := Aside0.mk (blk_keep KJ2.out HD3.out)
  have KV3 := Aside0.mk (blk_keep KV2.out HD3.out)
  have KE3 := Aside0.mk (blk_keep KE2.out HD3.out)
  have K93 := Aside0.mk (blk_keep K92.out HD3.out)
  have K103 := Aside0.mk (blk_keep K102.out HD3.out)
  have K113 := Aside0.mk (blk_keep K112.out HD3.out)
  have HB3 := Aside0.mk (bthen HB2.out HD3.out)
  have HDx3 := Aside0.mk (HDx2.out.below HD3.out)
  have HEx3 := Aside0.mk (Kd.C_below HEx2.out HD3.out)
  have HX3 := Aside0.mk (HX2.out.below HD3.out)
  have HV3 := Aside0.mk (Kd.C_below HV2.out HD3.out)
  have HP23 := Aside0.mk (Kd.C_below HP2.out HD3.out)
  obtain ⟨y0, y1, y2, y3, _, _, _, _⟩ := all4 K113.out
  go_wp2_with fail
  refine (note_any id A3 A4 c3 c4 ld la drop add seq' next' w3 HDx3.out HEx3.out HI'.out.1 HI'.out.2.1 HI'.out.2.2.1 HI'.out.2.2.2.1 HI'.out.2.2.2.2 hdl hal).mono ?_
  obtain ⟨NL, hNL⟩ := named (noteL id drop add seq' next')
  obtain ⟨NE, hNE⟩ := named (noteE id drop add seq' next')
  rw [← hNL.out, ← hNE.out]
  rintro e w4 ⟨P4, p4, pc4, rfl, q4, pn4, hb4⟩
  have HP4 := Aside0.mk q4
  have HD4 := Aside0.mk hb4
  clear q4 hb4 y0 y1 y2 y3
  have KJ4 := Aside0.mk (blk_keep KJ3.out HD4.out)
  have KV4 := Aside0.mk (blk_keep KV3.out HD4.out)
  have KE4 := Aside0.mk (blk_keep KE3.out HD4.out)
  have K94 := Aside0.mk (blk_keep K93.out HD4.out)
  have K104 := Aside0.mk (blk_keep K103.out HD4.out)
  have HB4 := Aside0.mk (bthen HB3.out HD4.out)
  have HX4 := Aside0.mk (HX3.out.below HD4.out)
  have HV4 := Aside0.mk (Kd.C_below HV3.out HD4.out)
  have HP24 := Aside0.mk (Kd.C_below HP23.out HD4.out)
  have HP34 := Aside0.mk (Kd.C_below HP3.out HD4.out)
  obtain ⟨y0, y1, y2, y3, _, _, _, _⟩ := all4 KE4.out
  rw [show w.heap.size + 2 = w.heap.size + 1 + 1 from rfl] at y0 y1 y2 y3
  go_wp2_with fail
  refine (rnote_any id D E dc ec ld la drop add seq' next' w4 (HD.out.below HB4.out) (Kd.C_below HE.out HB4.out) HI'.out.1 HI'.out.2.1 HI'.out.2.2.1 HI'.out.2.2.2.1 HI'.out.2.2.2.2 hdl hal).mono ?_
  rw [← hNL.out, ← hNE.out]
  rintro e w5 ⟨P5, p5, pc5, rfl, q5, pn5, hb5⟩
  have HP5 := Aside0.mk q5
  have HD5 := Aside0.mk hb5
  clear q5 hb5 y0 y1 y2 y3
  have KJ5 := Aside0.mk (blk_keep KJ4.out HD5.out)
  have KV5 := Aside0.mk (blk_keep KV4.out HD5.out)
  have K95 := Aside0.mk (blk_keep K94.out HD5.out)
  have K105 := Aside0.mk (blk_keep K104.out HD5.out)
  have HB5 := Aside0.mk (bthen HB4.out HD5.out)
  have HX5 := Aside0.mk (HX4.out.below HD5.out)
  have HV5 := Aside0.mk (Kd.C_below HV4.out HD5.out)
  have HP25 := Aside0.mk (Kd.C_below HP24.out HD5.out)
  have HP35 := Aside0.mk (Kd.C_below HP34.out HD5.out)
  have HP45 := Aside0.mk (Kd.C_below HP4.out HD5.out)
  have HA5 := Aside0.mk (HA.out.below HB5.out)
  have HR5 := Aside0.mk (Kd.C_below HR.out HB5.out)
  have e23 : p3 = p2 := (Kd.C_len HP3.out).symm.trans (Kd.C_len HP2.out)
  have e45 : p5 = p4 := (Kd.C_len HP5.out).symm.trans (Kd.C_len HP4.out)
  subst e23 e45
  have hE1 : (BE == BE) = true := by simp
  have hE2 : (NE == NE) = true := by simp
  go_wp2_with fail
  refine (sameActs_any P2 P3 p3 pc2 pc3 BL _ HP25.out HP35.out (by omega)).mono ?_
  rintro e w6 ⟨rfl, hb6⟩
  have HD6 := Aside0.mk hb6
  clear hb6
  go_wp2_with fail
  refine (Names.num_any BE _).mono ?_
  rintro e wz ⟨rfl, rfl⟩
  go_wp2_with fail
  refine (sameActs_any P4 P5 p5 pc4 pc5 NL _ (Kd.C_below HP45.out HD6.out) (Kd.C_below HP5.out HD6.out) (by omega)).mono ?_
  rintro e w7 ⟨rfl, hb7⟩
  have HD7 := Aside0.mk (bthen HD6.out hb7)
  clear hb7
  go_wp2_with fail
  refine (Names.num_any NE _).mono ?_
  rintro e wz ⟨rfl, rfl⟩
  obtain ⟨x0, x1, x2, x3, x4, _, _, _, _, _⟩ := all5 (blk_keep K95.out HD7.out)
  obtain ⟨y0, y1, y2, y3, y4, _, _, _, _, _⟩ := all5 (blk_keep KJ5.out HD7.out)
  go_wp2_with fail
  refine (alike_at (HX5.out.below HD7.out) (HA5.out.below HD7.out) HS.out).mono ?_
  rintro e w8 ⟨rfl, hb8⟩
  have HD8 := Aside0.mk (bthen HD7.out hb8)
  clear hb8 x0 x1 x2 x3 x4 y0 y1 y2 y3 y4
  obtain ⟨t0, t1, t2, _, _, _⟩ := all3 (blk_keep K105.out HD8.out)
  obtain ⟨u0, u1, u2, _, _, _⟩ := all3 (blk_keep KV5.out HD8.out)
  go_wp2_with fail
  have hal6 := Edit.alike_any A2 B c2 bc l seq next w8 (by rw [LB.out]; exact Kd.C_below HV5.out HD8.out) (by rw [LB.out]; exact Kd.C_below HR5.out HD8.out) (by rw [LB.out]; exact hlb)
  rw [LB.out] at hal6
  refine hal6.mono ?_
  rintro e w9 ⟨rfl, hb9⟩
  have HD9 := Aside0.mk (bthen HD8.out hb9)
  clear hb9 t0 t1 t2 u0 u1 u2 hal6
  go_wp2_with fail
  refine (Names.alive_any _).mono ?_
  rintro e w10 ⟨rfl, hb10⟩
  have HD10 := Aside0.mk (bthen HD9.out hb10)
  clear hb10
  go_wp2
  go_ret
  exact ⟨rfl, bthen HB5.out HD10.out⟩
end Go.Proofs.YtfakfgblaakgdaaGreat.Files

/- ManifestActs: for all files, versions, numbers and edits of bulk at most 1048576 the law returns true, and what it is given stays. (Printed by wip/gen_rows.py.) -/
namespace Go.Proofs.YtfakfgblaakgdaaGreat.rowActs
open Go.ChangeShapes Go.WideShapes Go.ChangeAt Go.RowKit Go.Proofs.YtfakfgblaakgdaaGreat.Lift
set_option linter.unusedVariables false
set_option linter.unusedSimpArgs false
theorem own : ownKnob Tryz.prog.godebug = none := by kernel_rfl
theorem laidOut : laidOutB Tryz.prog = true := by kernel_rfl

set_option maxRecDepth 100000 in
set_option maxHeartbeats 4000000 in
theorem lifted (os : Os) (started : os.Started) (H : Type) (enc : TypeId × Value → H) (F : Stop.Interp) :
    ReturnsInHanded {} Tryz.checked os 3 .any ((Rows.OpenSpec.upto Rows.manifestActsSpec).pre6 enc Tryz.prog Tryz.f3 Rows.manifestActsUptoRow.domain false) (((Rows.OpenSpec.upto Rows.manifestActsSpec).at F).post enc Tryz.prog Tryz.f3 false true false false) := by
  refine returnsInHanded_of_cond (C := Tryz.checked) (s := Rows.OpenSpec.upto Rows.manifestActsSpec) (k := Rows.uptoSmall) rfl own started (by kernel_rfl) Tryz.func3
    (OpenSpec.witness (enc := enc) (C := Tryz.checked) (s := Rows.OpenSpec.upto Rows.manifestActsSpec) (k := Rows.uptoSmall) rfl false ⟨#[], #[.agg #[.int .i64 0, .slice none 0 0, .slice none 0 0, .slice none 0 0, .int .i64 0], .agg #[.slice none 0 0, .int .i64 0, .int .i64 0], .int .i64 0, .agg #[.slice none 0 0, .slice none 0 0, .int .i64 0, .int .i64 0]], []⟩ 8 (by kernel_rfl) (by kernel_rfl) (by kernel_rfl)
      (x := ([.agg [.lit (.int .i64 0), .nil, .nil, .nil, .lit (.int .i64 0)], .agg [.nil, .lit (.int .i64 0), .lit (.int .i64 0)], .lit (.int .i64 0), .agg [.nil, .nil, .lit (.int .i64 0), .lit (.int .i64 0)]], [], [])) (by kernel_rfl) rfl (by kernel_rfl)) ?_
  intro W base args ds gs before hval hW _ hk _
  have hW' := hW
  obtain ⟨p, q, hA0, hV, rfl, hfz, hnd⟩ := hW
  have hA : DataW.TrodAll enc Tryz.prog W 0 (fun _ => true) true Tryz.f3.params.toList args.toList ds p := hA0
  rw [Tryz.params3] at hA hval
  obtain ⟨v0, vs0, d0, ds0, p0, q0, hargs, rfl, rfl, h0, r0⟩ := trodAll_cons hA
  obtain ⟨v1, vs1, d1, ds1, p1, q1, rfl, rfl, rfl, h1, r1⟩ := trodAll_cons r0
  obtain ⟨v2, vs2, d2, ds2, p2, q2, rfl, rfl, rfl, h2, r2⟩ := trodAll_cons r1
  obtain ⟨v3, vs3, d3, ds3, p3, q3, rfl, rfl, rfl, h3, r3⟩ := trodAll_cons r2
  obtain ⟨rfl, rfl, rfl⟩ := trodAll_nil r3
  obtain rfl : args = #[v0, v1, v2, v3] := by cases args; simp_all
  obtain ⟨rfl, rfl⟩ := trodVars_none hV
  have k0 := h0
  have lt0 : ∀ x ∈ p0, x.block < W.heap.size := by obtain ⟨m, hm⟩ := k0; exact DataW.trod_lt m _ _ _ hm
  have k1 := h1
  have lt1 : ∀ x ∈ p1, x.block < W.heap.size := by obtain ⟨m, hm⟩ := k1; exact DataW.trod_lt m _ _ _ hm
  have k3 := h3
  have lt3 : ∀ x ∈ p3, x.block < W.heap.size := by obtain ⟨m, hm⟩ := k3; exact DataW.trod_lt m _ _ _ hm
  obtain ⟨cs0, hcs0, _⟩ := okWide_struct Tryz.underlying25 (hval 0 25 v0 rfl rfl)
  obtain ⟨fu0, hf0⟩ := h0
  obtain ⟨s0, F0, N0, S0, fc0, nc0, sc0, rfl, hd0, wf0, in0, us0, sm0⟩ := trod_state2 ⟨cs0, hcs0⟩ hf0
  obtain ⟨cs1, hcs1, _⟩ := okWide_struct Tryz.underlying28 (hval 1 28 v1 rfl rfl)
  obtain ⟨fu1, hf1⟩ := h1
  obtain ⟨A1, l1, c1, sq1, nx1, rfl, lc1, hC1, wf1, is1, in1, hb1⟩ := trod_version2 ⟨cs1, hcs1⟩ hf1
  obtain ⟨a2, rfl, rfl, rfl, w2⟩ := open_int Tryz.underlying3 (hval 2 3 v2 rfl rfl) h2
  obtain ⟨cs3, hcs3, _⟩ := okWide_struct Tryz.underlying31 (hval 3 31 v3 rfl rfl)
  obtain ⟨fu3, hf3⟩ := h3
  obtain ⟨D3, dl3, dc3, A3, l3, c3, sq3, nx3, rfl, hD3, lc3, hC3, wf3, wd3, is3, in3, hb3⟩ := trod_edit2 ⟨cs3, hcs3⟩ hf3
  have hb : Rows.uptoBulk d0 + Rows.uptoBulk d1 + Rows.uptoBulk d3 ≤ 1048576 := by
    have h := of_decide_eq_true hk
    simp only [List.append_nil, Rows.uptoBulkAll] at h
    omega
  clear hA0 hk
  refine (Files.acts_walk s0 F0 N0 S0 A1 D3 A3 fc0 nc0 sc0 c1 dc3 c3 l1 sq1 nx1 a2 dl3 l3 sq3 nx3 W hd0 (sm0 (by omega)).1 wf0 hC1 lc1 (by omega) is1 in1 (fun m hm => (wf1 m hm).1) (fun m hm => ⟨by have := (wf1 m hm).2.1; omega, by have := (wf1 m hm).2.2; omega⟩) hD3 hC3 (by omega) (by omega) is3 in3 wd3 (fun m hm => (wf3 m hm).1) (fun m hm => ⟨by have := (wf3 m hm).2.1; omega, by have := (wf3 m hm).2.2; omega⟩)).mono fun e W' ⟨he, bel⟩ => ?_
  subst he
  exact ⟨_, rfl, _, _, _, [], _, [], hW', trodAll_mk1 (shut_bool Tryz.underlying4 _), (trodAll_cons_mk (Below.trod laidOut (by kernel_rfl) (of_decide_eq_true (by kernel_rfl)) k0 bel lt0) (trodAll_cons_mk (Below.trod laidOut (by kernel_rfl) (of_decide_eq_true (by kernel_rfl)) k1 bel lt1) (trodAll_cons_mk (shut_int Tryz.underlying3 w2) (trodAll_cons_mk (Below.trod laidOut (by kernel_rfl) (of_decide_eq_true (by kernel_rfl)) k3 bel lt3) trodAll_mk0)))), rfl, bel.frame _, fun h => by cases h⟩

theorem proved : Rows.ManifestActsUptoSaid :=
  OpenClaim.holds_of_cond 3 Tryz.f3 rfl rfl rfl rfl rfl rfl rfl ⟨rfl, rfl, rfl, rfl, rfl⟩ rfl rfl rfl rfl rfl (by kernel_rfl) Tryz.func3 (by kernel_rfl)
    (of_decide_eq_true (by kernel_rfl)) (by unfold Func.isWrapper; first | (rw [if_pos (by decide +kernel)]; kernel_rfl) | (rw [if_neg (by decide +kernel)]; exact ⟨rfl, rfl⟩))
    (fun os started H enc _ F => lifted os started H enc F)
end Go.Proofs.YtfakfgblaakgdaaGreat.rowActs
namespace Go.Proofs.YtfakfgblaakgdaaGreat
theorem manifestActs_holds : Rows.ManifestActsUptoSaid := rowActs.proved
#print axioms manifestActs_holds
end Go.Proofs.YtfakfgblaakgdaaGreat
