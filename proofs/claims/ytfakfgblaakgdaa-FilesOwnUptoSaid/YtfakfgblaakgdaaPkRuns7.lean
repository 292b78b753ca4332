/- A part of the proof: files.New: walked. -/
import Derived.Test.YtfakfgblaakgdaaPkRuns6
import Derived.Test.YtfakfgblaakgdaaPkRuns5
import Derived.Test.YtfakfgblaakgdaaPkRuns4
import Derived.Lib.SlBytesConst

/- files.New: walked. -/
namespace Go.Proofs.Ytfakfgblaakgdaa.Files
set_option linter.unusedVariables false
set_option linter.unusedSimpArgs false
open Go.RowKit Go.Proofs.YtfakfgblaakgdaaW.PrintWords Go.Proofs.YtfakfgblaakgdaaW.PrintLast Go.Proofs.Ytfakfgblaakgdaa.Base Go.Proofs.Ytfakfgblaakgdaa.Cells Go.Proofs.Ytfakfgblaakgdaa.Ints Go.Proofs.Ytfakfgblaakgdaa.Var Go.Proofs.Ytfakfgblaakgdaa.EditPure Go.Proofs.Ytfakfgblaakgdaa.Edit Go.Proofs.Ytfakfgblaakgdaa.Sets Go.Proofs.Ytfakfgblaakgdaa.Wide Go.Proofs.Ytfakfgblaakgdaa.RowsC

def newSt (size : Int) : St := ⟨size, [], [], [], 1⟩
theorem Rs_new (w : World) (base : Nat) (n : Int) : Rs w base (.agg #[.int .i64 n, .slice none 0 0, .slice none 0 0, .slice none 0 0, .int .i64 1]) (newSt n) :=
  ⟨.slice none 0 0, .slice none 0 0, .slice none 0 0, [], rfl, ⟨CR.nil, fun x hx => by simp at hx, by simp⟩, rfl, Kd.R_nil _ _ _ _ _, Kd.R_nil _ _ _ _ _⟩

set_option maxRecDepth 100000 in
set_option maxHeartbeats 1000000 in
theorem new_any (n : Int) (w : World) (h0 : 0 ≤ n) (h1 : n ≤ 16777216) :
    Calls Try.prog 22 #[.int .i64 n] w fun e w' => ∃ v, e = .returned (.tuple #[v, .int .i64 0]) ∧ Rs w' w.heap.size v (newSt n) ∧ Below w.heap.size w w' := by
  have h2 : ¬ (n < 0) := by omega
  have h3 : ¬ (16777216 < n) := by omega
  clear h0 h1
  go_enter Try.func22, Try.ntmps22
  go_upto_region 1 with (fail)
  obtain ⟨W0, hW0⟩ : ∃ W, W = w.alloc (.cells #[.int .i64 0, .slice none 0 0, .slice none 0 0, .slice none 0 0, .int .i64 0] 33) := ⟨_, rfl⟩
  have hk2 : W0.heap[w.heap.size]? = some (.cells #[.int .i64 0, .slice none 0 0, .slice none 0 0, .slice none 0 0, .int .i64 0] 33 (0, 0)) := by rw [hW0]; exact blk_new _ _
  have HB0 : Aside0 (Below w.heap.size w W0) := ⟨by rw [hW0]; exact below_alloc (Below.refl _ _) _⟩
  rw [← hW0]
  clear hW0
  obtain ⟨z0, z1, z2, z3, z4, f0, f1, f2, f3, f4⟩ := all5 hk2
  have HK2 := Aside0.mk hk2
  clear hk2
  go_wp2
  refine bodyPost_ret (results_ct rfl _ _ w.heap.size 33 #[.int .i64 n, .slice none 0 0, .slice none 0 0, .slice none 0 0, .int .i64 1] (0, 0) _ rfl (blk5 HK2.out) Try.underlying33 rfl (by kernel_rfl)) rfl ?_
  exact ⟨.agg #[.int .i64 n, .slice none 0 0, .slice none 0 0, .slice none 0 0, .int .i64 1], rfl, Rs_new _ _ _, below_set5 HB0.out (Nat.le_refl _) _ _ _ _ _⟩
end Go.Proofs.Ytfakfgblaakgdaa.Files

/- The page's example of chapter 4: its acts; SameBytes, num: walked. -/
namespace Go.Proofs.Ytfakfgblaakgdaa.Files
set_option linter.unusedVariables false
set_option linter.unusedSimpArgs false
open Go.RowKit Go.Proofs.YtfakfgblaakgdaaW.PrintWords Go.Proofs.YtfakfgblaakgdaaW.PrintLast Go.Proofs.Ytfakfgblaakgdaa.Base Go.Proofs.Ytfakfgblaakgdaa.Cells Go.Proofs.Ytfakfgblaakgdaa.Ints Go.Proofs.Ytfakfgblaakgdaa.Var Go.Proofs.Ytfakfgblaakgdaa.EditPure Go.Proofs.Ytfakfgblaakgdaa.Edit Go.Proofs.Ytfakfgblaakgdaa.Sets Go.Proofs.Ytfakfgblaakgdaa.Wide Go.Proofs.Ytfakfgblaakgdaa.RowsC

theorem num_any (n : Int) (w : World) : Calls Try.prog 20 #[.int .i64 n] w fun e w' => e = .returned (.int .i64 n) ∧ w = w' := by
  go_enter Try.func20, Try.ntmps20
  go_wp2
  go_ret
  exact ⟨rfl, rfl⟩

set_option maxRecDepth 100000 in
theorem same_any (A B : Option Addr) (n m c d : Nat) (xs ys : List Int) (w : World) (hA : ReadsInt w .u8 A n xs) (hB : ReadsInt w .u8 B m ys) (he : xs = ys) :
    Calls Try.prog 25 #[.slice A n c, .slice B m d] w fun e w' => e = .returned (.bool true) ∧ w = w' := by
  subst he
  have h1 := string_of_reads (c := c) Try.underlying62 Try.underlying5 Try.underlying9 hA
  have h2 := string_of_reads (c := d) Try.underlying62 Try.underlying5 Try.underlying9 hB
  obtain ⟨T, hT⟩ := named (strOfNums xs)
  rw [← hT.out] at h1 h2
  clear hA hB
  go_enter Try.func25, Try.ntmps25
  go_wp2
  go_ret
  exact ⟨by simp, rfl⟩

/-- an act's cells, its octets' slice told -/
def rowA (x : Ac × Value) : List Value := [.int .i64 x.1.what, .string x.1.name, .string x.1.dest, x.2]
theorem kAc_of_row {w : World} {g cap : Nat} {L : List (Ac × Value)} (h : CRow 64 4 w g cap (L.map rowA)) (hd : ∀ x ∈ L, ∃ D c, x.2 = .slice D x.1.data.length c ∧ x.1.data.length ≤ c ∧ ReadsInt w .u8 D x.1.data.length x.1.data) (hc : cap ≤ 9223372036854775807) :
    kAc.C w (some ⟨g, 0, none⟩) L.length (L.map (·.1)) := by
  have hl := h.len
  rw [List.length_map] at hl
  refine ⟨by rw [List.length_map], by omega, fun _ => ⟨⟨g, 0, none⟩, rfl, fun j p hj => ?_⟩⟩
  rw [List.getElem?_map] at hj
  obtain ⟨x, hx, rfl⟩ := Option.map_eq_some_iff.1 hj
  obtain ⟨D, c, h1, h2, h3⟩ := hd x (List.mem_of_getElem? hx)
  refine ⟨[.int .i64 x.1.what, .string x.1.name, .string x.1.dest, .slice D x.1.data.length c], rfl, kAc_mk h2 h3, fun i u hu => ?_⟩
  have h4 := h.cell j (rowA x) (by rw [List.getElem?_map, hx]; rfl) i (by have := (List.getElem?_eq_some_iff.1 hu).1; simpa using this)
  rw [add_plain]
  refine h4.trans ?_
  rw [rowA, h1]
  exact hu

set_option maxRecDepth 100000 in
set_option maxHeartbeats 1000000 in
theorem xyz_any (w : World) : Calls Try.prog 48 #[] w fun e w' => ∃ g, e = .returned (.slice (some ⟨g, 0, none⟩) 4 4) ∧ kAc.C w' (some ⟨g, 0, none⟩) 4 xyzL ∧ Below w.heap.size w w' := by
  have hcv := Lib.run_convert_bytes_const (P := Try.prog) w 62 5 #[.int .u8 120, .int .u8 121, .int .u8 122] 3 3 Try.underlying62 Try.underlying5
  go_enter Try.func48, Try.ntmps48
  go_wp2
  go_ret
  obtain ⟨W1, hW1⟩ : ∃ W, W = w.alloc (.cells #[.int .u8 120, .int .u8 121, .int .u8 122] 5 (3, 4)) := ⟨_, rfl⟩
  have hz : W1.heap.size = w.heap.size + 1 := by rw [hW1]; simp
  have hB1 : Below w.heap.size w W1 := by rw [hW1]; exact below_alloc (Below.refl _ _) _
  obtain ⟨W2, hW2⟩ : ∃ W, W = W1.alloc (.cells #[.int .i64 1, .string ⟨#[97]⟩, .string ⟨#[]⟩, .slice none 0 0, .int .i64 2, .string ⟨#[97]⟩, .string ⟨#[]⟩, .slice (some ⟨w.heap.size, 0, none⟩) 3 3, .int .i64 3, .string ⟨#[97]⟩, .string ⟨#[]⟩, .slice none 0 0, .int .i64 6, .string ⟨#[]⟩, .string ⟨#[]⟩, .slice none 0 0] 64) := ⟨_, rfl⟩
  have hB2 : Below W1.heap.size W1 W2 := by rw [hW2]; exact below_alloc (Below.refl _ _) _
  have hrd : ReadsInt W2 .u8 (some ⟨w.heap.size, 0, none⟩) 3 [120, 121, 122] := by
    refine ReadsInt.below ?_ hB2
    have hc : ∀ j : Nat, W1.cell? ⟨w.heap.size, j, none⟩ = (#[Value.int .u8 120, .int .u8 121, .int .u8 122] : Array Value)[j]? := fun j => by rw [hW1]; exact World.cell?_alloc_mark _ _ _ _ _
    refine ⟨rfl, by decide, fun _ => ⟨⟨w.heap.size, 0, none⟩, rfl, fun j hj => ?_⟩⟩
    rw [add_plain]
    match j, hj with
    | 0, _ => exact hc 0
    | 1, _ => exact hc 1
    | 2, _ => exact hc 2
  have hrow : CRow 64 4 W2 W1.heap.size 4 ([(xyzL[0], Value.slice none 0 0), (xyzL[1], Value.slice (some ⟨w.heap.size, 0, none⟩) 3 3), (xyzL[2], Value.slice none 0 0), (xyzL[3], Value.slice none 0 0)].map rowA) :=
    ⟨_, by rw [hW2]; exact blk_new _ _, rfl, by simp, rfl, fun r hr => by
      simp only [List.map_cons, List.map_nil, List.mem_cons, List.not_mem_nil, or_false] at hr
      rcases hr with rfl | rfl | rfl | rfl <;> rfl⟩
  have hC := kAc_of_row hrow (fun x hx => by
    simp only [List.mem_cons, List.not_mem_nil, or_false] at hx
    rcases hx with rfl | rfl | rfl | rfl
    · exact ⟨none, 0, rfl, Nat.le_refl _, ReadsInt.nil _ _⟩
    · exact ⟨some ⟨w.heap.size, 0, none⟩, 3, rfl, Nat.le_refl _, hrd⟩
    · exact ⟨none, 0, rfl, Nat.le_refl _, ReadsInt.nil _ _⟩
    · exact ⟨none, 0, rfl, Nat.le_refl _, ReadsInt.nil _ _⟩) (by decide)
  rw [hz] at hC
  refine ⟨w.heap.size + 1, rfl, ?_, ?_⟩
  · rw [hW2, hW1] at hC; exact hC
  · have := bthen hB1 hB2; rw [hW2, hW1] at this; exact this
end Go.Proofs.Ytfakfgblaakgdaa.Files

/- The page's example of chapter 4: walked. -/
namespace Go.Proofs.Ytfakfgblaakgdaa.Files
set_option linter.unusedVariables false
set_option linter.unusedSimpArgs false
open Go.RowKit Go.Proofs.YtfakfgblaakgdaaW.PrintWords Go.Proofs.YtfakfgblaakgdaaW.PrintLast Go.Proofs.Ytfakfgblaakgdaa.Base Go.Proofs.Ytfakfgblaakgdaa.Cells Go.Proofs.Ytfakfgblaakgdaa.Ints Go.Proofs.Ytfakfgblaakgdaa.Var Go.Proofs.Ytfakfgblaakgdaa.EditPure Go.Proofs.Ytfakfgblaakgdaa.Edit Go.Proofs.Ytfakfgblaakgdaa.Sets Go.Proofs.Ytfakfgblaakgdaa.Wide Go.Proofs.Ytfakfgblaakgdaa.RowsC

/-- a state that is there: where its three rows lie -/
def At (w : World) (v : Value) (s : St) : Prop := ∃ F fc N nc S sc, v = .agg #[.int .i64 s.cap, .slice F s.files.length fc, .slice N s.names.length nc, .slice S s.safe.length sc, .int .i64 s.next] ∧ Hd w s F fc N nc S sc
theorem Rs.at_ {w : World} {base : Nat} {v : Value} {s : St} (h : Rs w base v s) : At w v s := h.forms
theorem At.below {w w1 : World} {v : Value} {s : St} (h : At w v s) (hb : Below w.heap.size w w1) : At w1 v s := by
  obtain ⟨F, fc, N, nc, S, sc, h1, h2⟩ := h
  exact ⟨F, fc, N, nc, S, sc, h1, h2.below hb⟩
theorem run_at {s : St} {v : Value} {w : World} {l : List Ac} {A : Option Addr} {n ac : Nat} (h : At w v s) (hs : Small s) (hw : Wf s) (hr : kAc.C w A n l) (hl : n ≤ 1048576) (hu : usedF s.files + dataA l ≤ 1048576) :
    Calls Try.prog 17 #[v, .slice A n ac] w fun e w' => ∃ v', e = .returned (.tuple #[v', .int .i64 (runP s l).2.1, .int .i64 (runP s l).2.2]) ∧ Rs w' w.heap.size v' (runP s l).1 ∧ Below w.heap.size w w' := by
  obtain ⟨F, fc, N, nc, S, sc, rfl, h2⟩ := h
  have hn := Kd.C_len hr
  subst hn
  exact run_any s l F N S A fc nc sc ac w h2 hs hw hr hl hu
theorem crash_at {s : St} {v : Value} {w : World} {keep : List Int} {A : Option Addr} {n ac : Nat} (h : At w v s) (hs : Small s) (hw : Wf s) (hr : ReadsInt w .i64 A n keep) (hkl : n ≤ 1048576) (hki : ∀ x ∈ keep, inI64 x) :
    Calls Try.prog 27 #[v, .slice A n ac] w fun e w' => ∃ v', e = .returned (.tuple #[v', .int .i64 (crashP s keep).2]) ∧ Rs w' w.heap.size v' (crashP s keep).1 ∧ Below w.heap.size w w' := by
  obtain ⟨F, fc, N, nc, S, sc, rfl, h2⟩ := h
  have hn : keep.length = n := hr.1
  subst hn
  exact crash_any s keep F N S A fc nc sc ac w h2 hs hw hr hkl hki
theorem read_at {s : St} {v : Value} {w : World} (q : ByteArray) (h : At w v s) (hs : Small s) (hw : Wf s) :
    Calls Try.prog 24 #[v, .string q] w fun e w' => ∃ v', e = .returned (.tuple #[v', .int .i64 (readP s q).2]) ∧ RB w' w.heap.size v' (readP s q).1 ∧ Below w.heap.size w w' := by
  obtain ⟨F, fc, N, nc, S, sc, rfl, h2⟩ := h
  exact read_any s q F N S fc nc sc w h2 hs hw
theorem do_at {s : St} {v : Value} {w : World} {a : Ac} {D : Option Addr} {n dc : Nat} {wh : Int} {nm de : ByteArray} (h : At w v s) (hs : Small s) (hw : Wf s) (hr : ReadsInt w .u8 D n a.data) (hda : n ≤ 1048576) (e1 : wh = a.what) (e2 : nm = a.name) (e3 : de = a.dest) :
    Calls Try.prog 23 #[v, .agg #[.int .i64 wh, .string nm, .string de, .slice D n dc]] w fun e w' => ∃ v', e = .returned (.tuple #[v', .int .i64 (DoP s a).1]) ∧ Rs w' w.heap.size v' (DoP s a).2 ∧ Below w.heap.size w w' := by
  obtain ⟨F, fc, N, nc, S, sc, rfl, h2⟩ := h
  subst e1 e2 e3
  have hn : a.data.length = n := hr.1
  subst hn
  exact do_any s a F N S D fc nc sc dc w h2 hs hw hr hda

theorem kAc_take {w : World} {A : Option Addr} {n m : Nat} {xs : List Ac} (h : kAc.C w A n xs) (hm : m ≤ n) : kAc.C w A m (xs.take m) := by
  have hn := Kd.C_len h
  obtain ⟨h1, h2, h3⟩ := h
  refine ⟨by rw [List.length_take]; omega, by omega, fun h0 => ?_⟩
  obtain ⟨ad, e, hh⟩ := h3 (by omega)
  refine ⟨ad, e, fun j p hj => hh j p ?_⟩
  rw [List.getElem?_take] at hj
  split at hj
  · exact hj
  · cases hj
theorem infoAc : ∃ i0, Try.prog.info? 64 = some i0 ∧ i0.size = 4 := by
  have h : (Try.prog.info? 64).map (fun i => i.size) = some 4 := by kernel_rfl
  obtain ⟨i0, h1, h2⟩ := Option.map_eq_some_iff.1 h
  exact ⟨i0, h1, h2⟩
theorem small_nil (c n : Int) : Small ⟨c, [], [], [], n⟩ := ⟨by simp, by simp, by simp, by simp⟩
theorem wf_nil (c n : Int) : Wf ⟨c, [], [], [], n⟩ := ⟨by simp, by simp⟩
theorem small_1 : Small s1A := ⟨by decide, by decide, by decide, fun f hf => by simp [s1A] at hf; subst hf; decide⟩
theorem wf_1 : Wf s1A := ⟨fun f hf => by simp [s1A] at hf; subst hf; decide, fun f hf => by simp [s1A] at hf⟩
theorem small_2 : Small s2A := ⟨by decide, by decide, by decide, fun f hf => by simp [s2A] at hf; subst hf; decide⟩
theorem wf_2 : Wf s2A := ⟨fun f hf => by simp [s2A] at hf; subst hf; decide, fun f hf => by simp [s2A] at hf; subst hf; decide⟩

/-- a state's value, shown -/
theorem Rs.show_ {w : World} {base : Nat} {v : Value} {s : St} (h : Rs w base v s) : ∃ n F lf fc N ln nc S ls sc m, v = .agg #[.int .i64 n, .slice F lf fc, .slice N ln nc, .slice S ls sc, .int .i64 m] := by
  obtain ⟨F, fc, N, nc, S, sc, h1, _⟩ := h.forms
  exact ⟨_, _, _, _, _, _, _, _, _, _, _, h1⟩
/-- variable g holds a state -/
def Box (w : World) (g : Nat) (s : St) (a b c d e : Value) : Prop := w.heap[g]? = some (.cells #[a, b, c, d, e] 33 (0, 0)) ∧ Rs w 0 (.agg #[a, b, c, d, e]) s
theorem Box.below {w w1 : World} {g : Nat} {s : St} {a b c d e : Value} (h : Box w g s a b c d e) (hb : Below w.heap.size w w1) : Box w1 g s a b c d e := ⟨blk_keep h.1 hb, h.2.below hb⟩
theorem Box.far {w : World} {g g' : Nat} {s : St} {a b c d e a' b' c' d' e' : Value} {cs : Array Value} (h : Box w g s a b c d e) (hg : w.heap[g']? = some (.cells cs 33 (0, 0))) (hne : g ≠ g') :
    Box (((((w.setCell ⟨g', 0, none⟩ a').setCell ⟨g', 1, none⟩ b').setCell ⟨g', 2, none⟩ c').setCell ⟨g', 3, none⟩ d').setCell ⟨g', 4, none⟩ e') g s a b c d e :=
  ⟨(keep5 _ _ _ _ _ hne).trans h.1, h.2.far5 hg _ _ _ _ _⟩
theorem Box.set {w : World} {g : Nat} {s : St} {a b c d e a' b' c' d' e' : Value} (h : Rs w 0 (.agg #[a, b, c, d, e]) s) (hg : w.heap[g]? = some (.cells #[a', b', c', d', e'] 33 (0, 0))) :
    Box (((((w.setCell ⟨g, 0, none⟩ a).setCell ⟨g, 1, none⟩ b).setCell ⟨g, 2, none⟩ c).setCell ⟨g, 3, none⟩ d).setCell ⟨g, 4, none⟩ e) g s a b c d e :=
  ⟨blk5 hg, h.far5 hg _ _ _ _ _⟩

set_option maxRecDepth 100000 in
set_option maxHeartbeats 4000000 in
theorem alive_any (w : World) : Calls Try.prog 21 #[] w fun e w' => e = .returned (.bool true) ∧ Below w.heap.size w w' := by
  go_enter Try.func21, Try.ntmps21
  go_wp2_with fail
  refine (new_any 99 w (by decide) (by decide)).mono ?_
  rintro e w1 ⟨v1, rfl, hv1, hb1⟩
  obtain ⟨n1, F1, lf1, fc1, N1, ln1, nc1, S1, ls1, sc1, m1, rfl⟩ := hv1.show_
  go_upto_region 2 with (fail)
  obtain ⟨g1, hg1⟩ : ∃ g, g = w1.heap.size := ⟨_, rfl⟩
  obtain ⟨W1, hW1⟩ : ∃ W, W = w1.alloc (.cells #[.int .i64 n1, .slice F1 lf1 fc1, .slice N1 ln1 nc1, .slice S1 ls1 sc1, .int .i64 m1] 33) := ⟨_, rfl⟩
  have HX1 : Aside0 (Box W1 g1 (newSt 99) (.int .i64 n1) (.slice F1 lf1 fc1) (.slice N1 ln1 nc1) (.slice S1 ls1 sc1) (.int .i64 m1)) := ⟨by rw [hW1, hg1]; exact ⟨blk_new _ _, (hv1.lower (Nat.zero_le _)).below (below_alloc (Below.refl _ _) _)⟩⟩
  have HB1 : Aside0 (Below w.heap.size w W1) := ⟨by rw [hW1]; exact bthen hb1 (below_alloc (Below.refl _ _) _)⟩
  have hgw : w.heap.size ≤ g1 := by rw [hg1]; exact hb1.size
  rw [← hW1, ← hg1]
  clear hW1 hv1 hb1 hg1
  go_cut [1, 2, 3, 4] (fun v1 v2 v3 v4 wc => v1 = .pointer (some ⟨g1, 0, none⟩) ∧ v2 = .int .i64 0 ∧ v3 = .int .i64 3 ∧ v4 = .int .i64 0 ∧ ∃ n F lf fc N ln nc S ls sc m, Aside0 (Box wc g1 s1A (.int .i64 n) (.slice F lf fc) (.slice N ln nc) (.slice S ls sc) (.int .i64 m) ∧ Below w.heap.size w wc))
  case first =>
    have HD : Aside0 (Below W1.heap.size W1 W1.drew) := ⟨below_drew (Below.refl _ _)⟩
    obtain ⟨x0, x1, x2, x3, x4, f0, f1, f2, f3, f4⟩ := all5 (blk_keep HX1.out.1 HD.out)
    obtain ⟨i0, hi0, _⟩ := infoAc
    have hct : ∀ g W, (Instr.slice 50 (.slice (some ⟨g, 0, none⟩) 4 4) none (some (.int .i64 3)) none).run Try.prog W = .ok (.slice (some ⟨g, 0, none⟩) 3 4) W := fun g W => cut_to (P := Try.prog) 50 64 .i64 Try.underlying50 hi0 (some ⟨g, 0, none⟩) 4 4 3 (by omega) (by omega) (by omega) W
    clear hi0
    go_region_law (go_simp; go_wp2_with (first
      | (go_at_call 48; refine (xyz_any _).mono ?_; rintro e wx ⟨gx, rfl, hx, bx⟩; (have hbx : Below W1.heap.size W1 wx := bthen HD.out bx); obtain ⟨y0, y1, y2, y3, y4, q0, q1, q2, q3, q4⟩ := all5 (blk_keep HX1.out.1 hbx))
      | (go_at_call 17; refine (run_at (s := newSt 99) (l := xyzL.take 3) ((HX1.out.2.below hbx).at_) (small_nil _ _) (wf_nil _ _) (kAc_take hx (by decide)) (by decide) (by decide)).mono ?_; rw [show runP (newSt 99) (xyzL.take 3) = (s1A, 3, 0) from alive_a]; rintro e w3 ⟨v3, rfl, hv3, hb3⟩; (have hb13 := bthen hbx hb3); obtain ⟨n3, F3, lf3, fc3, N3, ln3, nc3, S3, ls3, sc3, m3, rfl⟩ := hv3.show_; obtain ⟨z0, z1, z2, z3, z4, g0, g2, g3, g4, g5⟩ := all5 (blk_keep HX1.out.1 hb13))))
    all_goals go_wp2_with fail
    all_goals go_meet
    all_goals exact ⟨rfl, rfl, rfl, rfl, _, _, _, _, _, _, _, _, _, _, _, ⟨Box.set (hv3.lower (Nat.zero_le _)) (blk_keep HX1.out.1 hb13), below_set5 (bthen HB1.out hb13) hgw _ _ _ _ _⟩⟩
  case rest =>
    obtain ⟨rfl, rfl, rfl, rfl, n2, F2, lf2, fc2, N2, ln2, nc2, S2, ls2, sc2, m2, HC⟩ := hcut
    obtain ⟨x0, x1, x2, x3, x4, _, _, _, _, _⟩ := all5 HC.out.1.1
    go_wp2_with fail
    refine (crash_at (s := s1A) (keep := []) HC.out.1.2.at_ small_1 wf_1 (ReadsInt.nil _ _) (by decide) (fun x hx => by simp at hx)).mono ?_
    rw [show crashP s1A [] = (⟨99, [], [], [], 2⟩, 0) from alive_b]
    rintro e w3 ⟨v3, rfl, hv3, hb3⟩
    obtain ⟨n3, F3, lf3, fc3, N3, ln3, nc3, S3, ls3, sc3, m3, rfl⟩ := hv3.show_
    clear x0 x1 x2 x3 x4
    go_upto_region 4 with (fail)
    obtain ⟨g5, hg5⟩ : ∃ g, g = w3.heap.size := ⟨_, rfl⟩
    obtain ⟨W5, hW5⟩ : ∃ W, W = w3.alloc (.cells #[.int .i64 n3, .slice F3 lf3 fc3, .slice N3 ln3 nc3, .slice S3 ls3 sc3, .int .i64 m3] 33) := ⟨_, rfl⟩
    have HX5 : Aside0 (Box W5 g5 ⟨99, [], [], [], 2⟩ (.int .i64 n3) (.slice F3 lf3 fc3) (.slice N3 ln3 nc3) (.slice S3 ls3 sc3) (.int .i64 m3)) := ⟨by rw [hW5, hg5]; exact ⟨blk_new _ _, (hv3.lower (Nat.zero_le _)).below (below_alloc (Below.refl _ _) _)⟩⟩
    have HB5 : Aside0 (Below wc.heap.size wc W5) := ⟨by rw [hW5]; exact bthen hb3 (below_alloc (Below.refl _ _) _)⟩
    have HG5 : Aside0 (g1 ≠ g5 ∧ w.heap.size ≤ g5) := ⟨by have h1 := blk_lt HC.out.1.1; have h2 := hb3.size; have h3 := HC.out.2.size; omega⟩
    rw [← hW5, ← hg5]
    clear hW5 hv3 hb3 hg5
    obtain ⟨x0, x1, x2, x3, x4, _, _, _, _, _⟩ := all5 HX5.out.1
    go_wp2_with fail
    refine (read_at (s := ⟨99, [], [], [], 2⟩) sA HX5.out.2.at_ (small_nil _ _) (wf_nil _ _)).mono ?_
    rw [show readP ⟨99, [], [], [], 2⟩ sA = ([], 71) from alive_c]
    rintro e w6 ⟨v6, rfl, hv6, hb6⟩
    have HB6 : Aside0 (Below wc.heap.size wc w6) := ⟨bthen HB5.out hb6⟩
    have HX6 := Aside0.mk (HX5.out.below hb6)
    have HC6 := Aside0.mk (HC.out.1.below HB6.out)
    clear hv6 hb6 x0 x1 x2 x3 x4
    go_upto_region 5 with (fail)
    go_cut [9] (fun v9 wx => v9 = .int .i64 0 ∧ ∃ n F lf fc N ln nc S ls sc m, Aside0 (Box wx g1 s2A (.int .i64 n) (.slice F lf fc) (.slice N ln nc) (.slice S ls sc) (.int .i64 m) ∧ Box wx g5 ⟨99, [], [], [], 2⟩ (.int .i64 n3) (.slice F3 lf3 fc3) (.slice N3 ln3 nc3) (.slice S3 ls3 sc3) (.int .i64 m3) ∧ Below w.heap.size w wx))
    case first =>
      have HD : Aside0 (Below w6.heap.size w6 w6.drew) := ⟨below_drew (Below.refl _ _)⟩
      obtain ⟨x0, x1, x2, x3, x4, f0, f1, f2, f3, f4⟩ := all5 (blk_keep HC6.out.1 HD.out)
      go_region_law (go_simp; go_wp2_with (first
        | (go_at_call 48; refine (xyz_any _).mono ?_; rintro e wx ⟨gx, rfl, hx, bx⟩; (have hbx : Below w6.heap.size w6 wx := bthen HD.out bx); obtain ⟨y0, y1, y2, y3, y4, q0, q1, q2, q3, q4⟩ := all5 (blk_keep HC6.out.1 hbx); obtain ⟨adx, Dx, dcx, hadx, c0, c1, c2, c3, _, hrx⟩ := atAc hx 3 ⟨6, ⟨#[]⟩, ⟨#[]⟩, []⟩ rfl; injection hadx with hadx; subst hadx; rw [add_plain] at c0 c1 c2 c3)
        | (go_at_call 23; refine (do_at (s := s1A) (a := ⟨6, ⟨#[]⟩, ⟨#[]⟩, []⟩) ((HC6.out.2.below hbx).at_) small_1 wf_1 hrx (by decide) rfl rfl rfl).mono ?_; rw [show DoP s1A ⟨6, ⟨#[]⟩, ⟨#[]⟩, []⟩ = (0, s2A) from alive_d]; rintro e w7 ⟨v7, rfl, hv7, hb7⟩; (have hb17 := bthen hbx hb7); obtain ⟨n7, F7, lf7, fc7, N7, ln7, nc7, S7, ls7, sc7, m7, rfl⟩ := hv7.show_; obtain ⟨z0, z1, z2, z3, z4, p0, p2, p3, p4, p5⟩ := all5 (blk_keep HC6.out.1 hb17))))
      all_goals go_wp2_with fail
      all_goals go_meet
      all_goals exact ⟨rfl, _, _, _, _, _, _, _, _, _, _, _, ⟨Box.set (hv7.lower (Nat.zero_le _)) (blk_keep HC6.out.1 hb17), (HX6.out.below hb17).far (blk_keep HC6.out.1 hb17) HG5.out.1.symm, below_set5 (bthen HC.out.2 (bthen HB6.out hb17)) hgw _ _ _ _ _⟩⟩
    case rest =>
      obtain ⟨rfl, n8, F8, lf8, fc8, N8, ln8, nc8, S8, ls8, sc8, m8, HE⟩ := hcut
      obtain ⟨x0, x1, x2, x3, x4, _, _, _, _, _⟩ := all5 HE.out.1.1
      clear HX5 HB5 HB6 HX6 HC6 HC
      go_wp2_with fail
      refine (crash_at (s := s2A) (keep := []) HE.out.1.2.at_ small_2 wf_2 (ReadsInt.nil _ _) (by decide) (fun x hx => by simp at hx)).mono ?_
      rw [show crashP s2A [] = (s2A, 0) from alive_e]
      rintro e w3 ⟨v3, rfl, hv3, hb3⟩
      obtain ⟨n9, F9, lf9, fc9, N9, ln9, nc9, S9, ls9, sc9, m9, rfl⟩ := hv3.show_
      have hk5 := blk_keep HE.out.2.1.1 hb3
      obtain ⟨y0, y1, y2, y3, y4, f0, f1, f2, f3, f4⟩ := all5 hk5
      clear x0 x1 x2 x3 x4
      go_upto_region 7 with (fail)
      obtain ⟨W8, hW8⟩ : ∃ W, W = (((((w3.setCell ⟨g5, 0, none⟩ (.int .i64 n9)).setCell ⟨g5, 1, none⟩ (.slice F9 lf9 fc9)).setCell ⟨g5, 2, none⟩ (.slice N9 ln9 nc9)).setCell ⟨g5, 3, none⟩ (.slice S9 ls9 sc9)).setCell ⟨g5, 4, none⟩ (.int .i64 m9)) := ⟨_, rfl⟩
      have HX8 : Aside0 (Box W8 g5 s2A (.int .i64 n9) (.slice F9 lf9 fc9) (.slice N9 ln9 nc9) (.slice S9 ls9 sc9) (.int .i64 m9)) := ⟨by rw [hW8]; exact Box.set (hv3.lower (Nat.zero_le _)) hk5⟩
      have HB8 : Aside0 (Below w.heap.size w W8) := ⟨by rw [hW8]; exact below_set5 (bthen HE.out.2.2 hb3) HG5.out.2 _ _ _ _ _⟩
      rw [← hW8]
      clear hW8 hv3 hb3 hk5 y0 y1 y2 y3 y4 f0 f1 f2 f3 f4
      obtain ⟨x0, x1, x2, x3, x4, _, _, _, _, _⟩ := all5 HX8.out.1
      go_wp2_with fail
      refine (read_at (s := s2A) sA HX8.out.2.at_ small_2 wf_2).mono ?_
      rw [show readP s2A sA = ([120, 121, 122], 0) from alive_f]
      rintro e w9 ⟨v9, rfl, hv9, hb9⟩
      have hcv := own_string Try.underlying62 Try.underlying5 Try.underlying9 hv9
      rw [show strOfNums [120, 121, 122] = ⟨#[120, 121, 122]⟩ by rfl] at hcv
      have HB9 := Aside0.mk (bthen HB8.out hb9)
      clear hv9 hb9 x0 x1 x2 x3 x4
      go_wp2_with (go_at_call 20; refine (num_any _ _).mono ?_; rintro e wz ⟨rfl, rfl⟩)
      go_ret
      exact ⟨rfl, HB9.out⟩
end Go.Proofs.Ytfakfgblaakgdaa.Files

/- files.List: walked. -/
namespace Go.Proofs.Ytfakfgblaakgdaa.Files
set_option linter.unusedVariables false
set_option linter.unusedSimpArgs false
open Go.RowKit Go.Proofs.YtfakfgblaakgdaaW.PrintWords Go.Proofs.YtfakfgblaakgdaaW.PrintLast Go.Proofs.Ytfakfgblaakgdaa.Base Go.Proofs.Ytfakfgblaakgdaa.Cells Go.Proofs.Ytfakfgblaakgdaa.Ints Go.Proofs.Ytfakfgblaakgdaa.Var Go.Proofs.Ytfakfgblaakgdaa.EditPure Go.Proofs.Ytfakfgblaakgdaa.Edit Go.Proofs.Ytfakfgblaakgdaa.Sets Go.Proofs.Ytfakfgblaakgdaa.Wide Go.Proofs.Ytfakfgblaakgdaa.StrRows

/-- the names of a state -/
def nmsL (l : List Nm) : List ByteArray := l.map (·.name)
def listL (s : St) : List ByteArray := if stB s then nmsL s.names else []

set_option maxRecDepth 100000 in
set_option maxHeartbeats 2000000 in
theorem list_any (s : St) (F N S : Option Addr) (fc nc sc : Nat) (w : World) (h : Hd w s F fc N nc S sc) (hs : Small s) (hw : Wf s) :
    Calls Try.prog 14 #[.agg #[.int .i64 s.cap, .slice F s.files.length fc, .slice N s.names.length nc, .slice S s.safe.length sc, .int .i64 s.next]] w fun e w' => ∃ v, e = .returned (.tuple #[v, .int .i64 (stE s)]) ∧ RS w' w.heap.size v (listL s) ∧ Below w.heap.size w w' := by
  have HH := Aside0.mk h
  have HS := Aside0.mk hs
  have HW := Aside0.mk hw
  obtain ⟨E, hE⟩ := named (stE s)
  rw [← hE.out]
  have hln : s.names.length ≤ 1048576 := hs.ln
  clear h hs hw
  go_enter Try.func14, Try.ntmps14
  go_wp2_with fail
  refine (check_any s F N S fc nc sc _ (HH.out.below (below_alloc (Below.refl _ _) _)) HS.out HW.out).mono ?_
  rw [← hE.out]
  rintro e w1 ⟨rfl, hb1⟩
  have HB1 := Aside0.mk (bthen (below_alloc (Below.refl _ _) _) hb1)
  have HK := Aside0.mk (blk_keep (blk_new w _) hb1)
  clear hb1
  cases hst : stB s with
  | false =>
    have HE : Aside0 (E = 9) := ⟨by rw [hE.out, stE, hst]; rfl⟩
    have HL : Aside0 (listL s = []) := ⟨by rw [listL, hst]; rfl⟩
    rw [HE.out]
    clear hst
    go_wp2
    refine bodyPost_ret (results_tmp2 rfl _ _ _) rfl ?_
    exact ⟨.slice none 0 0, by rw [HE.out]; rfl, by rw [HL.out]; exact Kd.R_nil _ _ _ _ _, HB1.out⟩
  | true =>
    have HE : Aside0 (E = 0) := ⟨by rw [hE.out, stE, hst]; rfl⟩
    have HL : Aside0 (listL s = nmsL s.names) := ⟨by rw [listL, hst]; rfl⟩
    rw [HE.out]
    obtain ⟨_, _, y2, _, _, _, _, _, _, _⟩ := all5 HK.out
    have HY2 := Aside0.mk y2
    clear hst y2
    have y2 := HY2.out
    go_wp2
    go_loopg [5, 16] s.names.length (fun g v5 v16 wr => ∃ i : Nat, v16 = .int .i64 i ∧ g + i = s.names.length ∧ Aside0 (RS wr w1.heap.size v5 (nmsL (s.names.take i))) ∧ Aside0 (Below w1.heap.size w1 wr))
    case atStart => exact ⟨0, rfl, by omega, ⟨Kd.R_nil Kd.string _ _ _ _⟩, ⟨Below.refl _ _⟩⟩
    case round =>
      obtain ⟨i, rfl, hg, HO, HB⟩ := hrel
      by_cases hlt : i < s.names.length
      · obtain ⟨m, hm⟩ : ∃ m, s.names[i]? = some m := ⟨_, List.getElem?_eq_getElem hlt⟩
        obtain ⟨ad, hN, c0, c1⟩ := atNm (Kd.C_below HH.out.hN (bthen HB1.out HB.out)) i m hm
        have ht : Aside0 (nmsL (s.names.take (i + 1)) = nmsL (s.names.take i) ++ [m.name]) := ⟨by rw [List.take_add_one, hm]; simp [nmsL]⟩
        have hl : Aside0 ((nmsL (s.names.take i)).length = i) := ⟨by rw [nmsL, List.length_map, List.length_take]; omega⟩
        subst hN
        clear hm
        go_upto_region 8 with (fail)
        obtain ⟨W8, hW8⟩ : ∃ W8, W8 = wr.alloc (.cells #[.string m.name, .int .i64 m.id] 81) := ⟨_, rfl⟩
        have HB8 : Aside0 (Below wr.heap.size wr W8) := ⟨by rw [hW8]; exact below_alloc (Below.refl _ _) _⟩
        have k0 : W8.cell? ⟨wr.heap.size, 0, none⟩ = some (.string m.name) := by rw [hW8]; exact new_cell _ _ _ 0 _ rfl
        have HO8 := Aside0.mk (Kd.R_below HO.out HB8.out)
        have HBB := Aside0.mk (bthen HB.out HB8.out)
        rw [← hW8]
        clear hW8 c0 c1
        go_wp2_with (first | (at_builtin; refine Kd.R_append Kd.string (w0 := w1) w1.heap.size rfl (.tmp 20) (.tmp 23) 35 9 (.string ⟨#[]⟩) 16 rfl Try.underlying35 infoS3 rfl (by decide) (by omega) u5 (nmsL (s.names.take i)) m.name [.string m.name] (fun _ => True) (fun _ => False) rfl rfl ?aP (fun _ hk => hk.elim) (fun _ _ => trivial) ?aO ?aB ?aS ?c1 ?_; (case aP => exact rfl); (case aO => exact HO8.out); (case aB => exact HBB.out); (case aS => exact HBB.out.size); (case c1 => rw [hl.out]; omega); intro v1 w2 hown hB1 hg1 hat; have HO1 := Aside0.mk hown; have HB2 := Aside0.mk hB1; clear hown hB1 hg1 hat))
        go_roundg (s.names.length - (i + 1))
        case measure => omega
        case rel => exact ⟨i + 1, by go_num, by omega, ⟨by rw [ht.out]; exact HO1.out⟩, HB2⟩
      · have hi : Aside0 (s.names.take i = s.names) := ⟨List.take_of_length_le (by omega)⟩
        go_wp2
        refine bodyPost_ret (results_tmp2 rfl _ _ _) rfl ?_
        exact ⟨u5, by rw [HE.out]; rfl, by rw [HL.out, ← hi.out]; exact Kd.R_lower HO.out HB1.out.size, bthen HB1.out HB.out⟩
end Go.Proofs.Ytfakfgblaakgdaa.Files

/- A state of one's own, of the document's types. (Printed by wip/gen_refown.py.) -/
namespace Go.Proofs.Ytfakfgblaakgdaa.Files.Ref
set_option linter.unusedVariables false
set_option linter.unusedSimpArgs false
open Go.RowKit Go.Proofs.YtfakfgblaakgdaaW.PrintWords Go.Proofs.YtfakfgblaakgdaaW.PrintLast Go.Proofs.Ytfakfgblaakgdaa.Base Go.Proofs.Ytfakfgblaakgdaa.Cells Go.Proofs.Ytfakfgblaakgdaa.Ints Go.Proofs.Ytfakfgblaakgdaa.Var Go.Proofs.Ytfakfgblaakgdaa.EditPure Go.Proofs.Ytfakfgblaakgdaa.Edit Go.Proofs.Ytfakfgblaakgdaa.Sets Go.Proofs.Ytfakfgblaakgdaa.Wide Go.Proofs.Ytfakfgblaakgdaa.RowsC

theorem infoFl : (Try.prog.info? 106).map (fun i => (i.zero, i.size, i.bytes)) = some (some (.agg #[.int .i64 0, .slice none 0 0, .int .i64 0]), 3, 40) := by kernel_rfl
theorem infoNm : (Try.prog.info? 120).map (fun i => (i.zero, i.size, i.bytes)) = some (some (.agg #[.string ⟨#[]⟩, .int .i64 0]), 2, 24) := by kernel_rfl
abbrev RN (w : World) (base : Nat) (v : Value) (l : List Nm) : Prop := kNm.R 120 w base (fun _ => True) v l
abbrev RFd (w : World) (base : Nat) (v : Value) (L : List (Fl × Value)) : Prop := kFd.R 106 w base (fun _ => True) v L
theorem CR_of_RN {w : World} {base : Nat} {v : Value} {l : List Nm} (h : RN w base v l) : CR 120 2 w base v (l.map Nm.cs) := CR_of_R (d := kNm) (fun h => kNm_openM h) (fun _ => rfl) h
theorem RN_of_CR {w : World} {base : Nat} {v : Value} {l : List Nm} (h : CR 120 2 w base v (l.map Nm.cs)) : RN w base v l := R_of_CR (d := kNm) (fun x _ => kNm_mkM _ _ _ x) (fun _ => rfl) h
theorem CR_of_RFd {w : World} {base : Nat} {v : Value} {L : List (Fl × Value)} (h : RFd w base v L) : CR 106 3 w base v (L.map rowF) := CR_of_R (d := kFd) (fun h => h.1) (fun _ => rfl) h
theorem RN_types : ∀ q ∈ (120 :: kNm.E : List Nat), q ≠ 25 := by decide
structure Own (w : World) (base g : Nat) (s : St) (vF vN vS : Value) (L : List (Fl × Value)) : Prop where
  blk : w.heap[g]? = some (.cells #[.int .i64 s.cap, vF, vN, vS, .int .i64 s.next] 25 (0, 0))
  oF : OF 106 w base vF L
  fs : L.map (·.1) = s.files
  rN : RN w base vN s.names
  rS : RN w base vS s.safe
def Mine (w : World) (base g : Nat) (s : St) : Prop := ∃ vF vN vS L, Own w base g s vF vN vS L
theorem RN_block {w : World} {base : Nat} {v : Value} {l : List Nm} (h : RN w base v l) : ∀ k, v.ownBlock = some k → base ≤ k ∧ k < w.heap.size ∧ ∃ cs, w.heap[k]? = some (.cells cs 120 (0, 0)) := (CR_of_RN h).block
theorem RN_step {w w1 : World} {base : Nat} {v : Value} {l : List Nm} (h : RN w base v l) (hm : ∀ k, v.ownBlock = some k → w1.heap[k]? = w.heap[k]?) : RN w1 base v l := RN_of_CR ((CR_of_RN h).step hm)
theorem Own.below {w w1 : World} {base g : Nat} {s : St} {vF vN vS : Value} {L : List (Fl × Value)} (h : Own w base g s vF vN vS L) (hb : Below w.heap.size w w1) : Own w1 base g s vF vN vS L :=
  ⟨blk_keep h.blk hb, h.oF.below hb, h.fs, Kd.R_below h.rN hb, Kd.R_below h.rS hb⟩
theorem Own.other {w w1 : World} {base g : Nat} {s : St} {vF vN vS : Value} {L : List (Fl × Value)} (h : Own w base g s vF vN vS L) {row : Option Nat} (hg : w.grownBy w1 row)
    (hne : ∀ k, row = some k → ∀ q cs, (q = 106 ∨ q = 5 ∨ q = 120 ∨ q = 25) → w.heap[k]? ≠ some (.cells cs q (0, 0))) : Own w1 base g s vF vN vS L :=
  ⟨(hg.block g (blk_lt h.blk) (fun e => hne g e.symm _ _ (.inr (.inr (.inr rfl))) h.blk)).trans h.blk, h.oF.other hg (fun k hk q cs hq => hne k hk q cs (hq.elim .inl (fun h => .inr (.inl h)))), h.fs,
    RN_step h.rN (fun k hk => by obtain ⟨_, h2, cs, h3⟩ := RN_block h.rN k hk; exact hg.block k h2 (fun e => hne k e.symm _ cs (.inr (.inr (.inl rfl))) h3)),
    RN_step h.rS (fun k hk => by obtain ⟨_, h2, cs, h3⟩ := RN_block h.rS k hk; exact hg.block k h2 (fun e => hne k e.symm _ cs (.inr (.inr (.inl rfl))) h3))⟩
theorem Own.lower {w : World} {base base' g : Nat} {s : St} {vF vN vS : Value} {L : List (Fl × Value)} (h : Own w base g s vF vN vS L) (hb : base' ≤ base) : Own w base' g s vF vN vS L :=
  ⟨h.blk, h.oF.lower hb, h.fs, Kd.R_lower h.rN hb, Kd.R_lower h.rS hb⟩
theorem Own.forms {w : World} {base g : Nat} {s : St} {vF vN vS : Value} {L : List (Fl × Value)} (h : Own w base g s vF vN vS L) :
    ∃ F fc N nc S sc, vF = .slice F s.files.length fc ∧ vN = .slice N s.names.length nc ∧ vS = .slice S s.safe.length sc ∧ Hd w s F fc N nc S sc := by
  obtain ⟨F, fc, h1, h2, h3⟩ := h.oF.reads
  obtain ⟨N, nc, h4, h5, h6⟩ := Kd.R_reads h.rN
  obtain ⟨S, sc, h7, h8, h9⟩ := Kd.R_reads h.rS
  have hl : L.length = s.files.length := by rw [← h.fs, List.length_map]
  rw [hl] at h1 h2 h3
  rw [h.fs] at h3
  exact ⟨F, fc, N, nc, S, sc, h1, h4, h7, ⟨h3, h6, h9, h2, h5, h8⟩⟩
theorem RFd_of_OF {w : World} {base : Nat} {v : Value} {L : List (Fl × Value)} (h : OF 106 w base v L) : RFd w base v L :=
  R_of_CR (d := kFd) (fun x hx => ⟨rfl, by obtain ⟨D, n, c, e⟩ := h.vals x hx; rw [e]; rfl⟩) (fun _ => rfl) h.row
theorem Own.setFiles {w w1 : World} {base g : Nat} {s : St} {vF vF' vN vS : Value} {L L' : List (Fl × Value)} (h : Own w base g s vF vN vS L) (hg : w.grownBy w1 vF.ownBlock) (hr : CR 106 3 w1 base vF' (L'.map rowF))
    (ho : ∀ x ∈ L', RB w1 base x.2 x.1.data) (ha : (L'.filterMap fun x => x.2.ownBlock).Nodup) : Own (w1.setCell ⟨g, 1, none⟩ vF') base g { s with files := L'.map (·.1) } vF' vN vS L' := by
  have hF := h.oF.row.block
  have hk : w1.heap[g]? = some (.cells #[.int .i64 s.cap, vF, vN, vS, .int .i64 s.next] 25 (0, 0)) :=
    (hg.block g (blk_lt h.blk) (fun e => by obtain ⟨_, _, cs, h3⟩ := hF g e.symm; exact type_ne h.blk h3 (by decide) rfl)).trans h.blk
  refine ⟨blk_put hk 1 _ rfl, ⟨hr.step (fun k hk' => Below.heap_setCell _ _ _ _ ?_), fun x hx => RB_step (ho x hx) (fun k hk' => Below.heap_setCell _ _ _ _ ?_), ha⟩, rfl, RN_step h.rN (fun k hk' => ?_), RN_step h.rS (fun k hk' => ?_)⟩
  · obtain ⟨_, _, cs, h3⟩ := hr.block k hk'; exact type_ne h3 hk (by decide)
  · obtain ⟨cs, h3⟩ := own_typed (ho x hx) k hk'; exact type_ne h3 hk (by decide)
  · obtain ⟨_, h4, cs, h3⟩ := RN_block h.rN k hk'
    exact (Below.heap_setCell _ _ _ _ (type_ne h3 h.blk (by decide))).trans (hg.block k h4 (fun e => by obtain ⟨_, _, cs', h5⟩ := hF k e.symm; exact type_ne h3 h5 (by decide) rfl))
  · obtain ⟨_, h4, cs, h3⟩ := RN_block h.rS k hk'
    exact (Below.heap_setCell _ _ _ _ (type_ne h3 h.blk (by decide))).trans (hg.block k h4 (fun e => by obtain ⟨_, _, cs', h5⟩ := hF k e.symm; exact type_ne h3 h5 (by decide) rfl))
theorem below_setFiles {w0 w w1 : World} {base g : Nat} {s : St} {vF vN vS : Value} {L : List (Fl × Value)} (u : Value) (h : Own w base g s vF vN vS L) (hb : Bel g base w0 w) (hbw : base ≤ w.heap.size) (hg : w.grownBy w1 vF.ownBlock) : Bel g base w0 (w1.setCell ⟨g, 1, none⟩ u) :=
  (hb.grown hg hbw (fun k hk => (h.oF.row.block k hk).1)).setG u
theorem Own.setNext {w : World} {base g : Nat} {s : St} {vF vN vS : Value} {L : List (Fl × Value)} (h : Own w base g s vF vN vS L) (n : Int) : Own (w.setCell ⟨g, 4, none⟩ (.int .i64 n)) base g { s with next := n } vF vN vS L :=
  ⟨blk_put h.blk 4 _ rfl, h.oF.step (fun k hk => Below.heap_setCell _ _ _ _ (by obtain ⟨_, _, cs, h3⟩ := h.oF.row.block k hk; exact type_ne h3 h.blk (by decide))) (fun x hx k hk => Below.heap_setCell _ _ _ _ (by obtain ⟨cs, h3⟩ := own_typed (h.oF.own x hx) k hk; exact type_ne h3 h.blk (by decide))), h.fs,
    RN_step h.rN (fun k hk => Below.heap_setCell _ _ _ _ (by obtain ⟨_, _, cs, h3⟩ := RN_block h.rN k hk; exact type_ne h3 h.blk (by decide))), RN_step h.rS (fun k hk => Below.heap_setCell _ _ _ _ (by obtain ⟨_, _, cs, h3⟩ := RN_block h.rS k hk; exact type_ne h3 h.blk (by decide)))⟩
theorem Own.setData {w w1 : World} {base g gF lf cf k : Nat} {s : St} {vN vS v' : Value} {L : List (Fl × Value)} {x : Fl × Value} {d' : List Int} (h : Own w base g s (.slice (some ⟨gF, 0, none⟩) lf cf) vN vS L) (hx : L[k]? = some x)
    (hg : w.grownBy w1 x.2.ownBlock) (hr : RB w1 base v' d') (hb : v'.ownBlock = x.2.ownBlock ∨ ∃ b, v'.ownBlock = some b ∧ w.heap.size ≤ b) :
    Own (w1.setCell ⟨gF, k * 3 + 1, none⟩ v') base g { s with files := s.files.set k { x.1 with data := d' } } (.slice (some ⟨gF, 0, none⟩) lf cf) vN vS (L.set k ({ x.1 with data := d' }, v')) := by
  have hxm := List.mem_of_getElem? hx
  have hxt := own_typed (h.oF.own x hxm)
  have hne : ∀ (k : Nat) (q : TypeId) (cs : Array Value), w.heap[k]? = some (.cells cs q (0, 0)) → q ≠ 5 → some k ≠ x.2.ownBlock := fun k q cs hk hq e => by
    obtain ⟨cs', h3⟩ := hxt k e.symm
    exact type_ne hk h3 hq rfl
  have hrow1 : CR 106 3 w1 base (.slice (some ⟨gF, 0, none⟩) lf cf) (L.map rowF) := h.oF.row.step (fun k hk => by obtain ⟨_, h2, cs, h3⟩ := h.oF.row.block k hk; exact hg.block k h2 (hne k _ cs h3 (by decide)))
  obtain ⟨_, _, csF, hgF⟩ := hrow1.block gF (by simp [Value.ownBlock])
  have hk1 : w1.heap[g]? = some (.cells #[.int .i64 s.cap, .slice (some ⟨gF, 0, none⟩) lf cf, vN, vS, .int .i64 s.next] 25 (0, 0)) := (hg.block g (blk_lt h.blk) (hne g _ _ h.blk (by decide))).trans h.blk
  have hset : ∀ (k : Nat) (q : TypeId) (cs : Array Value), w1.heap[k]? = some (.cells cs q (0, 0)) → q ≠ 106 → ∀ u o, (w1.setCell ⟨gF, o, none⟩ u).heap[k]? = w1.heap[k]? := fun k q cs hk hq u o => Below.heap_setCell _ _ _ _ (type_ne hk hgF hq)
  refine ⟨(hset g _ _ hk1 (by decide) _ _).trans hk1, ⟨?_, fun y hy => ?_, ?_⟩, ?_, ?_, ?_⟩
  · rcases hrow1 with ⟨h0, _⟩ | ⟨g', c', he, hb', hc', hrw⟩
    · cases h0
    · injection he with he1 he2 he3
      injection he1 with he1
      injection he1 with he1
      subst he1
      refine .inr ⟨gF, c', by rw [List.length_map, List.length_set]; rw [List.length_map] at he2; rw [he2, he3], hb', hc', ?_⟩
      have := hrw.put k 1 (rowF x) v' (by rw [List.getElem?_map, hx]; rfl) (by omega)
      rw [List.map_set]
      exact this
  · obtain ⟨j, hj⟩ := List.mem_iff_getElem?.1 hy
    rw [List.getElem?_set] at hj
    by_cases e : k = j
    · rw [if_pos e] at hj
      split at hj
      · injection hj with hj
        subst hj
        exact RB_set hr hgF (by decide)
      · cases hj
    · rw [if_neg e] at hj
      have hy' := List.mem_of_getElem? hj
      refine RB_step (h.oF.own y hy') (fun b hb2 => ?_)
      have hby := own_lt (h.oF.own y hy') b hb2
      obtain ⟨cs, h3⟩ := own_typed (h.oF.own y hy') b hb2
      have h4 := hg.block b hby (fun e2 => nodup_apart h.oF.apart (fun e3 => e e3.symm) hj hx hb2 e2.symm)
      exact (hset b _ cs (h4.trans h3) (by decide) _ _).trans h4
  · exact nodup_set h.oF.apart hx hb (fun z hz b hb2 => own_lt (h.oF.own z hz) b hb2)
  · rw [List.map_set, h.fs]
  · exact RN_step h.rN (fun k hk => by obtain ⟨_, h2, cs, h3⟩ := RN_block h.rN k hk; have h4 := hg.block k h2 (hne k _ cs h3 (by decide)); exact (hset k _ cs (h4.trans h3) (by decide) _ _).trans h4)
  · exact RN_step h.rS (fun k hk => by obtain ⟨_, h2, cs, h3⟩ := RN_block h.rS k hk; have h4 := hg.block k h2 (hne k _ cs h3 (by decide)); exact (hset k _ cs (h4.trans h3) (by decide) _ _).trans h4)
theorem Own.setSync {w : World} {base g gF lf cf k : Nat} {s : St} {vN vS : Value} {L : List (Fl × Value)} {x : Fl × Value} (n : Int) (h : Own w base g s (.slice (some ⟨gF, 0, none⟩) lf cf) vN vS L) (hx : L[k]? = some x) :
    Own (w.setCell ⟨gF, k * 3 + 2, none⟩ (.int .i64 n)) base g { s with files := s.files.set k { x.1 with sync := n } } (.slice (some ⟨gF, 0, none⟩) lf cf) vN vS (L.set k ({ x.1 with sync := n }, x.2)) := by
  have hxm := List.mem_of_getElem? hx
  obtain ⟨_, _, csF, hgF⟩ := h.oF.row.block gF (by simp [Value.ownBlock])
  have hset : ∀ (k : Nat) (q : TypeId) (cs : Array Value), w.heap[k]? = some (.cells cs q (0, 0)) → q ≠ 106 → ∀ u o, (w.setCell ⟨gF, o, none⟩ u).heap[k]? = w.heap[k]? := fun k q cs hk hq u o => Below.heap_setCell _ _ _ _ (type_ne hk hgF hq)
  refine ⟨(hset g _ _ h.blk (by decide) _ _).trans h.blk, ⟨?_, fun y hy => ?_, nodup_set (B := w.heap.size) h.oF.apart hx (.inl rfl) (fun z hz b hb2 => own_lt (h.oF.own z hz) b hb2)⟩, ?_, ?_, ?_⟩
  · rcases h.oF.row with ⟨h0, _⟩ | ⟨g', c', he, hb', hc', hrw⟩
    · cases h0
    · injection he with he1 he2 he3
      injection he1 with he1
      injection he1 with he1
      subst he1
      refine .inr ⟨gF, c', by rw [List.length_map, List.length_set]; rw [List.length_map] at he2; rw [he2, he3], hb', hc', ?_⟩
      have := hrw.put k 2 (rowF x) (.int .i64 n) (by rw [List.getElem?_map, hx]; rfl) (by omega)
      rw [List.map_set]
      exact this
  · obtain ⟨j, hj⟩ := List.mem_iff_getElem?.1 hy
    rw [List.getElem?_set] at hj
    by_cases e : k = j
    · rw [if_pos e] at hj
      split at hj
      · injection hj with hj
        subst hj
        exact RB_set (h.oF.own x hxm) hgF (by decide)
      · cases hj
    · rw [if_neg e] at hj
      exact RB_set (h.oF.own y (List.mem_of_getElem? hj)) hgF (by decide)
  · rw [List.map_set, h.fs]
  · exact RN_step h.rN (fun k hk => by obtain ⟨_, h2, cs, h3⟩ := RN_block h.rN k hk; exact hset k _ cs h3 (by decide) _ _)
  · exact RN_step h.rS (fun k hk => by obtain ⟨_, h2, cs, h3⟩ := RN_block h.rS k hk; exact hset k _ cs h3 (by decide) _ _)
theorem Own.setSafe {w : World} {base g : Nat} {s : St} {vF vN vS v' : Value} {L : List (Fl × Value)} {l : List Nm} (h : Own w base g s vF vN vS L) (hr : RN w base v' l) :
    Own (w.setCell ⟨g, 3, none⟩ v') base g { s with safe := l } vF vN v' L :=
  ⟨blk_put h.blk 3 _ rfl, h.oF.step (fun k hk => Below.heap_setCell _ _ _ _ (by obtain ⟨_, _, cs, h3⟩ := h.oF.row.block k hk; exact type_ne h3 h.blk (by decide))) (fun x hx k hk => Below.heap_setCell _ _ _ _ (by obtain ⟨cs, h3⟩ := own_typed (h.oF.own x hx) k hk; exact type_ne h3 h.blk (by decide))), h.fs,
    RN_step h.rN (fun k hk => Below.heap_setCell _ _ _ _ (by obtain ⟨_, _, cs, h3⟩ := RN_block h.rN k hk; exact type_ne h3 h.blk (by decide))), RN_step hr (fun k hk => Below.heap_setCell _ _ _ _ (by obtain ⟨_, _, cs, h3⟩ := RN_block hr k hk; exact type_ne h3 h.blk (by decide)))⟩
def Rs (w : World) (base : Nat) (v : Value) (s : St) : Prop := ∃ vF vN vS L, v = .agg #[.int .i64 s.cap, vF, vN, vS, .int .i64 s.next] ∧ OF 106 w base vF L ∧ L.map (·.1) = s.files ∧ RN w base vN s.names ∧ RN w base vS s.safe
theorem Rs_zero (w : World) (base : Nat) : Rs w base (.agg #[.int .i64 0, .slice none 0 0, .slice none 0 0, .slice none 0 0, .int .i64 0]) zSt :=
  ⟨.slice none 0 0, .slice none 0 0, .slice none 0 0, [], rfl, ⟨CR.nil, fun x hx => by simp at hx, by simp⟩, rfl, Kd.R_nil _ _ _ _ _, Kd.R_nil _ _ _ _ _⟩
theorem Rs.below {w w1 : World} {base : Nat} {v : Value} {s : St} (h : Rs w base v s) (hb : Below w.heap.size w w1) : Rs w1 base v s := by
  obtain ⟨vF, vN, vS, L, h1, h2, h3, h4, h5⟩ := h
  exact ⟨vF, vN, vS, L, h1, h2.below hb, h3, Kd.R_below h4 hb, Kd.R_below h5 hb⟩
theorem Rs.lower {w : World} {base base' : Nat} {v : Value} {s : St} (h : Rs w base v s) (hb : base' ≤ base) : Rs w base' v s := by
  obtain ⟨vF, vN, vS, L, h1, h2, h3, h4, h5⟩ := h
  exact ⟨vF, vN, vS, L, h1, h2.lower hb, h3, Kd.R_lower h4 hb, Kd.R_lower h5 hb⟩
theorem Rs.forms {w : World} {base : Nat} {v : Value} {s : St} (h : Rs w base v s) : ∃ F fc N nc S sc, v = .agg #[.int .i64 s.cap, .slice F s.files.length fc, .slice N s.names.length nc, .slice S s.safe.length sc, .int .i64 s.next] ∧ Hd w s F fc N nc S sc := by
  obtain ⟨vF, vN, vS, L, rfl, h2, h3, h4, h5⟩ := h
  obtain ⟨F, fc, rfl, q2, q3⟩ := h2.reads
  obtain ⟨N, nc, rfl, q5, q6⟩ := Kd.R_reads h4
  obtain ⟨S, sc, rfl, q8, q9⟩ := Kd.R_reads h5
  have hl : L.length = s.files.length := by rw [← h3, List.length_map]
  rw [hl] at q2 q3
  rw [h3] at q3
  exact ⟨F, fc, N, nc, S, sc, by rw [hl], ⟨q3, q6, q9, q2, q5, q8⟩⟩
theorem Own.rs {w : World} {base g : Nat} {s : St} {vF vN vS : Value} {L : List (Fl × Value)} (h : Own w base g s vF vN vS L) : Rs w base (.agg #[.int .i64 s.cap, vF, vN, vS, .int .i64 s.next]) s :=
  ⟨vF, vN, vS, L, rfl, h.oF, h.fs, h.rN, h.rS⟩
theorem Rs.far5 {w : World} {base g : Nat} {v : Value} {s : St} {cs : Array Value} (h : Rs w base v s) (hg : w.heap[g]? = some (.cells cs 25 (0, 0))) (a b c d f : Value) :
    Rs (((((w.setCell ⟨g, 0, none⟩ a).setCell ⟨g, 1, none⟩ b).setCell ⟨g, 2, none⟩ c).setCell ⟨g, 3, none⟩ d).setCell ⟨g, 4, none⟩ f) base v s := by
  obtain ⟨vF, vN, vS, L, h1, h2, h3, h4, h5⟩ := h
  exact ⟨vF, vN, vS, L, h1, h2.far5 hg (by decide) (by decide) _ _ _ _ _, h3, Rset5 h4 (apart_of hg RN_types) _ _ _ _ _, Rset5 h5 (apart_of hg RN_types) _ _ _ _ _⟩
theorem Own.putNames {w : World} {base g : Nat} {s : St} {vF vN vS v' : Value} {L : List (Fl × Value)} {l : List Nm} (h : Own w base g s vF vN vS L) (hr : RN w base v' l) :
    Own (w.setCell ⟨g, 2, none⟩ v') base g { s with names := l } vF v' vS L :=
  ⟨blk_put h.blk 2 _ rfl, h.oF.step (fun k hk => Below.heap_setCell _ _ _ _ (by obtain ⟨_, _, cs, h3⟩ := h.oF.row.block k hk; exact type_ne h3 h.blk (by decide))) (fun x hx k hk => Below.heap_setCell _ _ _ _ (by obtain ⟨cs, h3⟩ := own_typed (h.oF.own x hx) k hk; exact type_ne h3 h.blk (by decide))), h.fs,
    RN_step hr (fun k hk => Below.heap_setCell _ _ _ _ (by obtain ⟨_, _, cs, h3⟩ := RN_block hr k hk; exact type_ne h3 h.blk (by decide))), RN_step h.rS (fun k hk => Below.heap_setCell _ _ _ _ (by obtain ⟨_, _, cs, h3⟩ := RN_block h.rS k hk; exact type_ne h3 h.blk (by decide)))⟩
theorem Rs.at_ {w : World} {base : Nat} {v : Value} {s : St} (h : Rs w base v s) : At w v s := h.forms
theorem Rs.show_ {w : World} {base : Nat} {v : Value} {s : St} (h : Rs w base v s) : ∃ n F lf fc N ln nc S ls sc m, v = .agg #[.int .i64 n, .slice F lf fc, .slice N ln nc, .slice S ls sc, .int .i64 m] := by
  obtain ⟨F, fc, N, nc, S, sc, h1, _⟩ := h.forms
  exact ⟨_, _, _, _, _, _, _, _, _, _, _, h1⟩
end Go.Proofs.Ytfakfgblaakgdaa.Files.Ref

/- What the document's files do, plain: it is what the program's do. No program. -/
namespace Go.Proofs.Ytfakfgblaakgdaa.Files.Ref
set_option linter.unusedVariables false
set_option linter.unusedSimpArgs false
open Go.RowKit Go.Proofs.YtfakfgblaakgdaaW.PrintWords Go.Proofs.YtfakfgblaakgdaaW.PrintLast Go.Proofs.Ytfakfgblaakgdaa.Base Go.Proofs.Ytfakfgblaakgdaa.Cells Go.Proofs.Ytfakfgblaakgdaa.Ints Go.Proofs.Ytfakfgblaakgdaa.Var Go.Proofs.Ytfakfgblaakgdaa.EditPure Go.Proofs.Ytfakfgblaakgdaa.Edit Go.Proofs.Ytfakfgblaakgdaa.Sets Go.Proofs.Ytfakfgblaakgdaa.Wide Go.Proofs.Ytfakfgblaakgdaa.RowsC

/-- a file's place, or -1 -/
def fileIx (l : List Fl) (id : Int) : Int := match l.findIdx? (fun f => f.id == id) with | some k => (k : Int) | none => -1
/-- a name's place, or -1 -/
def findIx (l : List Nm) (s : ByteArray) : Int := match l.findIdx? (fun n => sameB n.name s) with | some k => (k : Int) | none => -1
theorem findIdx_step {α : Type} {l : List α} {p : α → Bool} {i : Nat} {x : α} (hx : l[i]? = some x) (hpre : ∀ k y, k < i → l[k]? = some y → p y = false) (h : p x = true) : l.findIdx? p = some i := by
  rw [List.findIdx?_eq_some_iff_getElem]
  obtain ⟨hl, he⟩ := List.getElem?_eq_some_iff.1 hx
  exact ⟨hl, by rw [he]; exact h, fun j hj => by rw [hpre j _ hj (List.getElem?_eq_getElem (by omega))]; decide⟩
theorem findIdx_none {α : Type} {l : List α} {p : α → Bool} (h : ∀ (k : Nat) y, l[k]? = some y → p y = false) : l.findIdx? p = none := by
  rw [List.findIdx?_eq_none_iff]
  intro x hx
  obtain ⟨k, hk⟩ := List.mem_iff_getElem?.1 hx
  exact h k x hk
theorem fileIx_neg {l : List Fl} {id : Int} : fileIx l id < 0 ↔ hasId l id = false := by
  unfold fileIx
  cases h : l.findIdx? (fun f => f.id == id) with
  | none =>
    rw [List.findIdx?_eq_none_iff] at h
    refine ⟨fun _ => ?_, fun _ => by decide⟩
    rw [hasId, List.any_eq_false]
    intro x hx; rw [h x hx]; decide
  | some k =>
    obtain ⟨hl, h1, _⟩ := List.findIdx?_eq_some_iff_getElem.1 h
    refine ⟨fun h2 => by dsimp only at h2; omega, fun h2 => ?_⟩
    rw [hasId, List.any_eq_false] at h2
    exact absurd h1 (h2 _ (List.getElem_mem hl))
theorem fileIx_some {l : List Fl} {id : Int} (h : hasId l id = true) : ∃ (k : Nat) (f : Fl), fileIx l id = (k : Int) ∧ l[k]? = some f ∧ f.id = id := by
  unfold fileIx
  cases hq : l.findIdx? (fun f => f.id == id) with
  | none =>
    rw [List.findIdx?_eq_none_iff] at hq
    obtain ⟨f, hf, hx⟩ := List.any_eq_true.1 h
    rw [hq f hf] at hx; cases hx
  | some k =>
    obtain ⟨hl, h1, _⟩ := List.findIdx?_eq_some_iff_getElem.1 hq
    exact ⟨k, l[k], rfl, List.getElem?_eq_getElem hl, by simpa using h1⟩
theorem findIx_cases (l : List Nm) (s : ByteArray) : (findIx l s = -1 ∧ hasN l s = false ∧ findN l s = none) ∨ ∃ (k : Nat) (n : Nm), findIx l s = (k : Int) ∧ l[k]? = some n ∧ n.name = s ∧ hasN l s = true ∧ findN l s = some n := by
  unfold findIx
  cases hq : l.findIdx? (fun n => sameB n.name s) with
  | none =>
    rw [List.findIdx?_eq_none_iff] at hq
    refine .inl ⟨rfl, ?_, ?_⟩
    · rw [hasN, List.any_eq_false]; intro x hx; rw [hq x hx]; decide
    · rw [findN, List.find?_eq_none]; intro x hx; rw [hq x hx]; decide
  | some k =>
    obtain ⟨hl, h1, h2⟩ := List.findIdx?_eq_some_iff_getElem.1 hq
    refine .inr ⟨k, l[k], rfl, List.getElem?_eq_getElem hl, sameB_iff.1 h1, List.any_eq_true.2 ⟨l[k], List.getElem_mem hl, h1⟩, ?_⟩
    rw [findN, List.find?_eq_some_iff_getElem]
    exact ⟨h1, k, hl, rfl, fun j hj => by have := h2 j hj; simpa using this⟩
/-- names taken so far, x not laid yet: none is behind x -/
theorem give_lay {l : List Nm} {x m : Nm} (h1 : ∀ n ∈ l, sLt n.name x.name = true) (h2 : sLt x.name m.name = true) : giveN (l ++ [m]) x = l ++ [x] ++ [m] := by
  have e1 : l.filter (fun n => sLt n.name x.name) = l := List.filter_eq_self.2 h1
  have e2 : l.filter (fun n => sLt x.name n.name) = [] := List.filter_eq_nil_iff.2 fun n hn => by rw [sLt_asymm (h1 n hn)]; decide
  rw [giveN, List.filter_append, List.filter_append, e1, e2]
  simp [h2, sLt_asymm h2]
theorem give_more {l : List Nm} {x m : Nm} (h2 : sLt x.name m.name = true) : giveN (l ++ [m]) x = giveN l x ++ [m] := by
  rw [giveN, giveN, List.filter_append, List.filter_append]
  simp [h2, sLt_asymm h2]
theorem give_last {l : List Nm} {x : Nm} (h1 : ∀ n ∈ l, sLt n.name x.name = true) : giveN l x = l ++ [x] := by
  have e1 : l.filter (fun n => sLt n.name x.name) = l := List.filter_eq_self.2 h1
  have e2 : l.filter (fun n => sLt x.name n.name) = [] := List.filter_eq_nil_iff.2 fun n hn => by rw [sLt_asymm (h1 n hn)]; decide
  rw [giveN, e1, e2]
theorem give_without {l : List Nm} {x : Nm} {s : ByteArray} (h : s = x.name) : giveN (withoutN l s) x = giveN l x := by
  subst h
  rw [giveN, giveN, withoutN, List.filter_filter, List.filter_filter]
  have e1 : ∀ n : Nm, (sLt n.name x.name && !sameB n.name x.name) = sLt n.name x.name := fun n => by
    cases h : sLt n.name x.name with
    | false => rfl
    | true => rw [sameB_not.2 (sLt_ne h)]; rfl
  have e2 : ∀ n : Nm, (sLt x.name n.name && !sameB n.name x.name) = sLt x.name n.name := fun n => by
    cases h : sLt x.name n.name with
    | false => rfl
    | true => rw [sameB_not.2 (sLt_ne h).symm]; rfl
  rw [List.filter_congr (fun n _ => e1 n), List.filter_congr (fun n _ => e2 n)]
theorem give_same {l : List Nm} {n : Nm} (ha : AscN l) (hn : n ∈ l) : giveN l n = l := by
  obtain ⟨A, B, rfl⟩ := List.append_of_mem hn
  have h := List.pairwise_append.1 ha
  have h2 := List.pairwise_cons.1 h.2.1
  have a1 : ∀ m ∈ A, sLt m.name n.name = true := fun m hm => h.2.2 m hm n (by simp)
  have e1 : A.filter (fun m => sLt m.name n.name) = A := List.filter_eq_self.2 a1
  have e2 : A.filter (fun m => sLt n.name m.name) = [] := List.filter_eq_nil_iff.2 fun m hm => by rw [sLt_asymm (a1 m hm)]; decide
  have e3 : B.filter (fun m => sLt m.name n.name) = [] := List.filter_eq_nil_iff.2 fun m hm => by rw [sLt_asymm (h2.1 m hm)]; decide
  have e4 : B.filter (fun m => sLt n.name m.name) = B := List.filter_eq_self.2 h2.1
  rw [giveN, List.filter_append, List.filter_append, e1, e2, List.filter_cons_of_neg (by rw [sLt_irrefl]; decide), List.filter_cons_of_neg (by rw [sLt_irrefl]; decide), e3, e4]
  simp
/-- the document's rename -/
def renR (l : List Nm) (a b : ByteArray) (id : Int) : List Nm := if sameB b a then l else giveN (withoutN (withoutN l a) b) ⟨b, id⟩
theorem ren_eq {l : List Nm} {a b : ByteArray} {n : Nm} (ha : AscN l) (hn : n ∈ l) (hna : n.name = a) : renR l a b n.id = giveN (withoutN l a) ⟨b, n.id⟩ := by
  unfold renR
  by_cases h : sameB b a = true
  · rw [if_pos h]
    have hb := sameB_iff.1 h
    subst hb
    rw [give_without (x := ⟨b, n.id⟩) rfl]
    have : (⟨b, n.id⟩ : Nm) = n := by cases n; cases hna; rfl
    rw [this, give_same ha hn]
  · rw [if_neg h, give_without (x := ⟨b, n.id⟩) rfl]
/-- the document's Check, plain -/
def flOkR (s : St) (i : Nat) (f : Fl) : Bool := decide (1 ≤ f.id) && (decide (f.id < s.next) && ((i == 0 || decide ((s.files.getD (i - 1) zFl).id < f.id)) && (decide (0 ≤ f.sync) && (decide (f.sync ≤ f.data.length) && (stands s.names f.id || stands s.safe f.id)))))
def flToR (s : St) : Nat → Bool
  | 0 => true
  | n + 1 => flToR s n && flOkR s n (s.files.getD n zFl)
theorem flToR_false {s : St} {i : Nat} (h : flToR s i = false) {n : Nat} (hn : i ≤ n) : flToR s n = false := by
  induction n with
  | zero => rw [Nat.le_zero.1 hn] at h; exact h
  | succ n ih =>
    rcases Nat.eq_or_lt_of_le hn with rfl | h1
    · exact h
    · rw [flToR, ih (by omega)]; rfl
/-- a state by the document's Check -/
def stR' (s : St) : Bool := hdB s && (flToR s s.files.length && (namesOk s.files s.names && namesOk s.files s.safe))
theorem flToR_iff {s : St} : ∀ n, n ≤ s.files.length → (flToR s n = true ↔ FlsOk s.next (s.files.take n) ∧ ∀ f ∈ s.files.take n, stands s.names f.id = true ∨ stands s.safe f.id = true)
  | 0, _ => by simp only [flToR, List.take_zero, true_iff]; exact ⟨⟨by simp [Asc], by simp⟩, by simp⟩
  | n + 1, hn => by
    have hl : n < s.files.length := by omega
    rw [flToR, Bool.and_eq_true, flToR_iff n (by omega), getD_atF hl, take_snoc hl]
    have hlast : ∀ (h : 0 < n), s.files.getD (n - 1) zFl ∈ s.files.take n ∧ ∀ a ∈ s.files.take n, Asc (s.files.take n) → a.id ≤ (s.files.getD (n - 1) zFl).id := by
      intro h
      have h1 : n - 1 < s.files.length := by omega
      rw [getD_atF h1]
      have hq : (s.files.take n)[n - 1]? = some s.files[n - 1] := by rw [List.getElem?_take, if_pos (by omega), List.getElem?_eq_getElem h1]
      refine ⟨List.mem_of_getElem? hq, fun a ha hasc => ?_⟩
      obtain ⟨k, hk⟩ := List.mem_iff_getElem?.1 ha
      have hkl := (List.getElem?_eq_some_iff.1 hk).1
      rw [List.length_take] at hkl
      rcases Nat.lt_or_ge k (n - 1) with h2 | h2
      · have := hasc.lt h2 hk hq; omega
      · have : k = n - 1 := by omega
        subst this
        rw [hk] at hq; injection hq with hq; rw [hq]; exact Int.le_refl _
    generalize hT : s.files.take n = T at hlast
    generalize s.files[n] = x
    simp only [flOkR, Bool.and_eq_true, Bool.or_eq_true, decide_eq_true_eq, beq_iff_eq]
    constructor
    · rintro ⟨⟨⟨h1, h2⟩, h3⟩, h4, h5, h6, h7, h8, h9⟩
      refine ⟨⟨List.pairwise_append.2 ⟨h1, by simp, fun a ha b hb => ?_⟩, fun m hm => ?_⟩, fun m hm => ?_⟩
      · rw [List.mem_singleton.1 hb]
        rcases h6 with h6 | h6
        · subst h6; simp at hT; rw [hT] at ha; simp at ha
        · by_cases hn0 : n = 0
          · subst hn0; simp at hT; rw [hT] at ha; simp at ha
          · have := (hlast (by omega)).2 a ha h1; omega
      · rcases List.mem_append.1 hm with hm | hm
        · exact h2 m hm
        · rw [List.mem_singleton.1 hm]; exact ⟨⟨h4, h5⟩, h7, h8⟩
      · rcases List.mem_append.1 hm with hm | hm
        · exact h3 m hm
        · rw [List.mem_singleton.1 hm]; exact h9
    · rintro ⟨⟨h1, h2⟩, h3⟩
      have g1 := List.pairwise_append.1 h1
      have hx := h2 x (by simp)
      refine ⟨⟨⟨g1.1, fun m hm => h2 m (List.mem_append_left _ hm)⟩, fun m hm => h3 m (List.mem_append_left _ hm)⟩, hx.1.1, hx.1.2, ?_, hx.2.1, hx.2.2, h3 x (by simp)⟩
      by_cases hn0 : n = 0
      · exact .inl hn0
      · exact .inr (g1.2.2 _ (hlast (by omega)).1 x (by simp))
theorem stR_iff {s : St} : stR' s = true ↔ Good s := by
  simp only [stR', Bool.and_eq_true]
  rw [flToR_iff s.files.length (Nat.le_refl _), List.take_length, hdB_iff, namesOk_iff, namesOk_iff]
  constructor
  · rintro ⟨h1, ⟨h2, h3⟩, h4, h5⟩
    exact ⟨h1, h2, h4, h5, h3⟩
  · rintro ⟨h1, h2, h4, h5, h3⟩
    exact ⟨h1, ⟨h2, h3⟩, h4, h5⟩
theorem stR_eq (s : St) : stR' s = stB s := by rw [Bool.eq_iff_iff, stR_iff, stB_iff]
end Go.Proofs.Ytfakfgblaakgdaa.Files.Ref

/- The document's files: may, file, find, stands, used: walked. -/
namespace Go.Proofs.Ytfakfgblaakgdaa.Files.Ref
set_option linter.unusedVariables false
set_option linter.unusedSimpArgs false
open Go.RowKit Go.Proofs.YtfakfgblaakgdaaW.PrintWords Go.Proofs.YtfakfgblaakgdaaW.PrintLast Go.Proofs.Ytfakfgblaakgdaa.Base Go.Proofs.Ytfakfgblaakgdaa.Cells Go.Proofs.Ytfakfgblaakgdaa.Ints Go.Proofs.Ytfakfgblaakgdaa.Var Go.Proofs.Ytfakfgblaakgdaa.EditPure Go.Proofs.Ytfakfgblaakgdaa.Edit Go.Proofs.Ytfakfgblaakgdaa.Sets Go.Proofs.Ytfakfgblaakgdaa.Wide Go.Proofs.Ytfakfgblaakgdaa.RowsC

theorem byte_at (s : ByteArray) (i : Nat) (h : i < s.size) : (bytesOf s)[i]? = some ((s[i].toNat : Int)) := by
  unfold bytesOf
  rw [List.getElem?_map, Array.getElem?_toList, Array.getElem?_eq_getElem (by exact h)]
  rfl

set_option maxRecDepth 100000 in
set_option maxHeartbeats 1000000 in
theorem may_any (s : ByteArray) (w : World) : Calls Try.prog 60 #[.string s] w fun e w' => e = .returned (.bool (mayF s)) ∧ w = w' := by
  obtain ⟨q, hq⟩ := named (mayF s)
  rw [← hq.out]
  by_cases h1 : s.size < 1
  · have h1' : (s.size : Int) < 1 := by omega
    have HQ : Aside0 (q = false) := ⟨by rw [hq.out, mayF, decide_eq_false (by omega : ¬ (1 ≤ s.size))]; rfl⟩
    go_enter Try.func60, Try.ntmps60
    go_wp2
    go_ret
    exact ⟨by rw [HQ.out]; rfl, rfl⟩
  · have h1' : ¬ ((s.size : Int) < 1) := by omega
    by_cases h2 : 32 < s.size
    · have h2' : (32 : Int) < (s.size : Int) := by omega
      have HQ : Aside0 (q = false) := ⟨by rw [hq.out, mayF, decide_eq_false (by omega : ¬ (s.size ≤ 32))]; simp⟩
      go_enter Try.func60, Try.ntmps60
      go_wp2
      go_ret
      exact ⟨by rw [HQ.out]; rfl, rfl⟩
    · have h2' : ¬ ((32 : Int) < (s.size : Int)) := by omega
      have HQ : Aside0 (q = !(bytesOf s).any badB) := ⟨by rw [hq.out, mayF, decide_eq_true (by omega : 1 ≤ s.size), decide_eq_true (by omega : s.size ≤ 32)]; simp⟩
      go_enter Try.func60, Try.ntmps60
      go_wp2
      go_loopg [3] s.size (fun g v3 wr => ∃ i : Nat, v3 = .int .i64 i ∧ g + i = s.size ∧ Aside0 (((bytesOf s).take i).any badB = false) ∧ w = wr)
      case atStart => exact ⟨0, rfl, by omega, ⟨rfl⟩, rfl⟩
      case round =>
        obtain ⟨i, rfl, hg, HN, rfl⟩ := hrel
        by_cases hlt : i < s.size
        · have hlt' : (i : Int) < (s.size : Int) := by omega
          have HB := Aside0.mk (byte_at s i hlt)
          cases hb : badB (s[i].toNat : Int) with
          | true =>
            have HF : Aside0 (q = false) := ⟨by
              rw [HQ.out]
              have : (bytesOf s).any badB = true := List.any_eq_true.2 ⟨_, List.mem_of_getElem? HB.out, hb⟩
              rw [this]; rfl⟩
            rw [badB, Bool.or_eq_true, decide_eq_true_eq, decide_eq_true_eq] at hb
            by_cases hc : (s[i].toNat : Int) < 33
            · clear hb
              go_wp2
              go_ret
              exact ⟨by rw [HF.out]; rfl, rfl⟩
            · have hc2 : 126 < (s[i].toNat : Int) := by omega
              clear hb
              go_wp2
              go_ret
              exact ⟨by rw [HF.out]; rfl, rfl⟩
          | false =>
            have HT : Aside0 (((bytesOf s).take (i + 1)).any badB = false) := ⟨by rw [List.take_add_one, HB.out, List.any_append, HN.out]; simp [hb]⟩
            rw [badB, Bool.or_eq_false_iff, decide_eq_false_iff_not, decide_eq_false_iff_not] at hb
            obtain ⟨hc1, hc2⟩ := hb
            go_wp2
            go_roundg (s.size - (i + 1))
            case measure => omega
            case rel => exact ⟨i + 1, by go_num, by omega, HT, rfl⟩
        · have hnf : ¬ ((i : Int) < (s.size : Int)) := by omega
          have HT : Aside0 (q = true) := ⟨by
            rw [HQ.out]
            have : (bytesOf s).take i = bytesOf s := List.take_of_length_le (by rw [bytesOf_length]; omega)
            rw [this] at HN
            rw [HN.out]; rfl⟩
          go_wp2
          go_ret
          exact ⟨by rw [HT.out]; rfl, rfl⟩

set_option maxRecDepth 100000 in
set_option maxHeartbeats 1000000 in
theorem file_any (l : List Fl) (id cap next : Int) (F N S : Option Addr) (lf fc ln nc ls sc : Nat) (w : World) (h : kFl.C w F lf l) (hl : lf ≤ 1048576) :
    Calls Try.prog 64 #[.agg #[.int .i64 cap, .slice F lf fc, .slice N ln nc, .slice S ls sc, .int .i64 next], .int .i64 id] w fun e w' => e = .returned (.int .i64 (fileIx l id)) ∧ Below w.heap.size w w' := by
  have HH := Aside0.mk h
  have HLn : Aside0 (l.length = lf) := ⟨Kd.C_len h⟩
  obtain ⟨q, hq⟩ := named (fileIx l id)
  rw [← hq.out]
  clear h
  go_enter Try.func64, Try.ntmps64
  go_upto_region 1 with (fail)
  obtain ⟨W0, hW0⟩ : ∃ W, W = w.alloc (.cells #[.int .i64 cap, .slice F lf fc, .slice N ln nc, .slice S ls sc, .int .i64 next] 25) := ⟨_, rfl⟩
  have hk2 : W0.heap[w.heap.size]? = some (.cells #[.int .i64 cap, .slice F lf fc, .slice N ln nc, .slice S ls sc, .int .i64 next] 25 (0, 0)) := by rw [hW0]; exact blk_new _ _
  have HB0 : Aside0 (Below w.heap.size w W0) := ⟨by rw [hW0]; exact below_alloc (Below.refl _ _) _⟩
  rw [← hW0]
  clear hW0
  obtain ⟨_, x1, _, _, _, _, _, _, _, _⟩ := all5 hk2
  clear hk2
  go_wp2
  go_loopg [5] lf (fun g v5 wr => ∃ i : Nat, v5 = .int .i64 i ∧ g + i = lf ∧ Aside0 (∀ k y, k < i → l[k]? = some y → (y.id == id) = false) ∧ W0 = wr)
  case atStart => exact ⟨0, rfl, by omega, ⟨fun k y h => by omega⟩, rfl⟩
  case round =>
    obtain ⟨i, rfl, hg, HN, rfl⟩ := hrel
    by_cases hlt : i < lf
    · have hlt' : (i : Int) < (lf : Int) := by omega
      obtain ⟨f, hf⟩ : ∃ f, l[i]? = some f := ⟨_, List.getElem?_eq_getElem (by rw [HLn.out]; omega)⟩
      obtain ⟨ad, D, dc, hFs, d0, d1, d2, _, _⟩ := atFl (Kd.C_below HH.out HB0.out) i f hf
      subst hFs
      have HF := Aside0.mk hf
      clear hf d1 d2
      by_cases he : f.id = id
      · have HQ : Aside0 (q = (i : Int)) := ⟨by rw [hq.out, fileIx, findIdx_step HF.out HN.out (by simp [he])]⟩
        go_wp2
        go_ret
        exact ⟨by rw [HQ.out]; rfl, HB0.out⟩
      · have hn' : Aside0 (∀ k y, k < i + 1 → l[k]? = some y → (y.id == id) = false) := ⟨fun k y hk hy => by
          rcases Nat.lt_or_ge k i with h1 | h1
          · exact HN.out k y h1 hy
          · obtain rfl : k = i := by omega
            rw [HF.out] at hy; injection hy with hy; subst hy; simp [he]⟩
        go_wp2
        go_roundg (lf - (i + 1))
        case measure => omega
        case rel => exact ⟨i + 1, by go_num, by omega, hn', rfl⟩
    · have hnf : ¬ ((i : Int) < (lf : Int)) := by omega
      have HQ : Aside0 (q = -1) := ⟨by rw [hq.out, fileIx, findIdx_none (fun k y hy => HN.out k y (by have := (List.getElem?_eq_some_iff.1 hy).1; have := HLn.out; omega) hy)]⟩
      go_wp2
      go_ret
      exact ⟨by rw [HQ.out]; rfl, HB0.out⟩

set_option maxRecDepth 100000 in
set_option maxHeartbeats 1000000 in
theorem find_any (l : List Nm) (s : ByteArray) (N : Option Addr) (ln nc : Nat) (w : World) (h : kNm.C w N ln l) (hl : ln ≤ 1048576) :
    Calls Try.prog 59 #[.slice N ln nc, .string s] w fun e w' => e = .returned (.int .i64 (findIx l s)) ∧ w = w' := by
  have HH := Aside0.mk h
  have HLn : Aside0 (l.length = ln) := ⟨Kd.C_len h⟩
  obtain ⟨q, hq⟩ := named (findIx l s)
  rw [← hq.out]
  clear h
  go_enter Try.func59, Try.ntmps59
  go_wp2
  go_loopg [5] ln (fun g v5 wr => ∃ i : Nat, v5 = .int .i64 i ∧ g + i = ln ∧ Aside0 (∀ k y, k < i → l[k]? = some y → sameB y.name s = false) ∧ w = wr)
  case atStart => exact ⟨0, rfl, by omega, ⟨fun k y h => by omega⟩, rfl⟩
  case round =>
    obtain ⟨i, rfl, hg, HN, rfl⟩ := hrel
    by_cases hlt : i < ln
    · have hlt' : (i : Int) < (ln : Int) := by omega
      obtain ⟨n, hn⟩ : ∃ f, l[i]? = some f := ⟨_, List.getElem?_eq_getElem (by rw [HLn.out]; omega)⟩
      obtain ⟨ad, hNs, c0, c1⟩ := atNm HH.out i n hn
      subst hNs
      have HF := Aside0.mk hn
      clear hn c1
      cases he : sameB n.name s with
      | true =>
        have HQ : Aside0 (q = (i : Int)) := ⟨by rw [hq.out, findIx, findIdx_step HF.out HN.out he]⟩
        have he2 : (n.name.toList == s.toList) = true := by rw [sameB_list]; exact he
        clear he
        go_wp2
        go_ret
        exact ⟨by rw [HQ.out]; rfl, rfl⟩
      | false =>
        have hn' : Aside0 (∀ k y, k < i + 1 → l[k]? = some y → sameB y.name s = false) := ⟨fun k y hk hy => by
          rcases Nat.lt_or_ge k i with h1 | h1
          · exact HN.out k y h1 hy
          · obtain rfl : k = i := by omega
            rw [HF.out] at hy; injection hy with hy; subst hy; exact he⟩
        have he2 : (n.name.toList == s.toList) = false := by rw [sameB_list]; exact he
        clear he
        go_wp2
        go_roundg (ln - (i + 1))
        case measure => omega
        case rel => exact ⟨i + 1, by go_num, by omega, hn', rfl⟩
    · have hnf : ¬ ((i : Int) < (ln : Int)) := by omega
      have HQ : Aside0 (q = -1) := ⟨by rw [hq.out, findIx, findIdx_none (fun k y hy => HN.out k y (by have := (List.getElem?_eq_some_iff.1 hy).1; have := HLn.out; omega) hy)]⟩
      go_wp2
      go_ret
      exact ⟨by rw [HQ.out]; rfl, rfl⟩

set_option maxRecDepth 100000 in
set_option maxHeartbeats 1000000 in
theorem stands_any (l : List Nm) (id : Int) (N : Option Addr) (ln nc : Nat) (w : World) (h : kNm.C w N ln l) (hl : ln ≤ 1048576) :
    Calls Try.prog 53 #[.slice N ln nc, .int .i64 id] w fun e w' => e = .returned (.bool (stands l id)) ∧ w = w' := by
  have HH := Aside0.mk h
  have HLn : Aside0 (l.length = ln) := ⟨Kd.C_len h⟩
  obtain ⟨q, hq⟩ := named (stands l id)
  rw [← hq.out]
  clear h
  go_enter Try.func53, Try.ntmps53
  go_wp2
  go_loopg [5] ln (fun g v5 wr => ∃ i : Nat, v5 = .int .i64 i ∧ g + i = ln ∧ Aside0 ((l.take i).any (fun n => n.id == id) = false) ∧ w = wr)
  case atStart => exact ⟨0, rfl, by omega, ⟨rfl⟩, rfl⟩
  case round =>
    obtain ⟨i, rfl, hg, HN, rfl⟩ := hrel
    by_cases hlt : i < ln
    · have hlt' : (i : Int) < (ln : Int) := by omega
      obtain ⟨n, hn⟩ : ∃ f, l[i]? = some f := ⟨_, List.getElem?_eq_getElem (by rw [HLn.out]; omega)⟩
      obtain ⟨ad, hNs, c0, c1⟩ := atNm HH.out i n hn
      subst hNs
      have HF := Aside0.mk hn
      clear hn c0
      by_cases he : n.id = id
      · have HQ : Aside0 (q = true) := ⟨by rw [hq.out, stands]; exact List.any_eq_true.2 ⟨n, List.mem_of_getElem? HF.out, by simp [he]⟩⟩
        go_wp2
        go_ret
        exact ⟨by rw [HQ.out]; rfl, rfl⟩
      · have hn' : Aside0 ((l.take (i + 1)).any (fun n => n.id == id) = false) := ⟨by rw [List.take_add_one, HF.out, List.any_append, HN.out]; simp [he]⟩
        go_wp2
        go_roundg (ln - (i + 1))
        case measure => omega
        case rel => exact ⟨i + 1, by go_num, by omega, hn', rfl⟩
    · have hnf : ¬ ((i : Int) < (ln : Int)) := by omega
      have HQ : Aside0 (q = false) := ⟨by rw [hq.out, stands]; have := HN.out; rwa [List.take_of_length_le (by rw [HLn.out]; omega)] at this⟩
      go_wp2
      go_ret
      exact ⟨by rw [HQ.out]; rfl, rfl⟩

set_option maxRecDepth 100000 in
set_option maxHeartbeats 1000000 in
theorem used_any (l : List Fl) (cap next : Int) (F N S : Option Addr) (lf fc ln nc ls sc : Nat) (w : World) (h : kFl.C w F lf l) (hl : lf ≤ 1048576) (hd : ∀ f ∈ l, f.data.length ≤ 1048576) :
    Calls Try.prog 52 #[.agg #[.int .i64 cap, .slice F lf fc, .slice N ln nc, .slice S ls sc, .int .i64 next]] w fun e w' => e = .returned (.int .i64 (usedF l)) ∧ Below w.heap.size w w' := by
  have HH := Aside0.mk h
  have HD := Aside0.mk hd
  have HLn : Aside0 (l.length = lf) := ⟨Kd.C_len h⟩
  clear h hd
  go_enter Try.func52, Try.ntmps52
  go_upto_region 1 with (fail)
  obtain ⟨W0, hW0⟩ : ∃ W, W = w.alloc (.cells #[.int .i64 cap, .slice F lf fc, .slice N ln nc, .slice S ls sc, .int .i64 next] 25) := ⟨_, rfl⟩
  have hk2 : W0.heap[w.heap.size]? = some (.cells #[.int .i64 cap, .slice F lf fc, .slice N ln nc, .slice S ls sc, .int .i64 next] 25 (0, 0)) := by rw [hW0]; exact blk_new _ _
  have HB0 : Aside0 (Below w.heap.size w W0) := ⟨by rw [hW0]; exact below_alloc (Below.refl _ _) _⟩
  rw [← hW0]
  clear hW0
  obtain ⟨_, x1, _, _, _, _, _, _, _, _⟩ := all5 hk2
  clear hk2
  go_wp2
  go_loopg [3, 4] lf (fun g v3 v4 wr => ∃ (i : Nat) (u : Int), v4 = .int .i64 i ∧ v3 = .int .i64 u ∧ g + i = lf ∧ 0 ≤ u ∧ u ≤ 1048576 * (i : Int) ∧ Aside0 (u = usedF (l.take i)) ∧ W0 = wr)
  case atStart => exact ⟨0, 0, rfl, rfl, by omega, by omega, by omega, ⟨by simp [usedF]⟩, rfl⟩
  case round =>
    obtain ⟨i, u, rfl, rfl, hg, hu0, hu1, HU, rfl⟩ := hrel
    by_cases hlt : i < lf
    · have hlt' : (i : Int) < (lf : Int) := by omega
      obtain ⟨f, hf⟩ : ∃ f, l[i]? = some f := ⟨_, List.getElem?_eq_getElem (by rw [HLn.out]; omega)⟩
      obtain ⟨ad, D, dc, hFs, d0, d1, d2, _, _⟩ := atFl (Kd.C_below HH.out HB0.out) i f hf
      subst hFs
      have hfd := HD.out f (List.mem_of_getElem? hf)
      obtain ⟨ld, hld⟩ : ∃ n, f.data.length = n := ⟨_, rfl⟩
      rw [hld] at d1 hfd
      have HS : Aside0 (u + (ld : Int) = usedF (l.take (i + 1))) := ⟨by rw [List.take_add_one, hf, Option.toList_some, usedF_snoc, ← HU.out, hld]⟩
      have hb : u + (ld : Int) ≤ 1048576 * ((i : Int) + 1) := by omega
      have hb2 : u + (ld : Int) ≤ 1099511627776 := by omega
      clear hf d0 d2 hld
      go_wp2
      go_roundg (lf - (i + 1))
      case measure => omega
      case rel => exact ⟨i + 1, u + ld, by go_num, rfl, by omega, by omega, by push_cast; exact hb, HS, rfl⟩
    · have hnf : ¬ ((i : Int) < (lf : Int)) := by omega
      have HQ : Aside0 (u = usedF l) := ⟨by rw [HU.out, List.take_of_length_le (by rw [HLn.out]; omega)]⟩
      go_wp2
      go_ret
      exact ⟨by rw [HQ.out]; rfl, HB0.out⟩
end Go.Proofs.Ytfakfgblaakgdaa.Files.Ref

/- The document's files: names, Check: walked. -/
namespace Go.Proofs.Ytfakfgblaakgdaa.Files.Ref
set_option linter.unusedVariables false
set_option linter.unusedSimpArgs false
open Go.RowKit Go.Proofs.YtfakfgblaakgdaaW.PrintWords Go.Proofs.YtfakfgblaakgdaaW.PrintLast Go.Proofs.Ytfakfgblaakgdaa.Base Go.Proofs.Ytfakfgblaakgdaa.Cells Go.Proofs.Ytfakfgblaakgdaa.Ints Go.Proofs.Ytfakfgblaakgdaa.Var Go.Proofs.Ytfakfgblaakgdaa.EditPure Go.Proofs.Ytfakfgblaakgdaa.Edit Go.Proofs.Ytfakfgblaakgdaa.Sets Go.Proofs.Ytfakfgblaakgdaa.Wide Go.Proofs.Ytfakfgblaakgdaa.RowsC

theorem leq_bytes (a b : List UInt8) : (Op.bytesLess a b || a == b) = !Op.bytesLess b a := by
  have h : (a == b) = (b == a) := by rw [Bool.eq_iff_iff, beq_iff_eq, beq_iff_eq]; exact eq_comm
  rw [h]; exact geq_bytes b a
def linkN (l : List Nm) (i : Nat) (m : Nm) : Bool := match (l.take i).getLast? with | none => true | some p => sLt p.name m.name

set_option maxRecDepth 100000 in
set_option maxHeartbeats 4000000 in
theorem names_any (files : List Fl) (l : List Nm) (cap next : Int) (F N S M : Option Addr) (lf fc ln nc ls sc lm mc : Nat) (w : World) (h : kFl.C w F lf files) (hm : kNm.C w M lm l) (hlf : lf ≤ 1048576) (hlm : lm ≤ 1048576) :
    Calls Try.prog 54 #[.agg #[.int .i64 cap, .slice F lf fc, .slice N ln nc, .slice S ls sc, .int .i64 next], .slice M lm mc] w fun e w' => e = .returned (.bool (namesOk files l)) ∧ Below w.heap.size w w' := by
  have HH := Aside0.mk h
  have HM := Aside0.mk hm
  have HLn : Aside0 (l.length = lm) := ⟨Kd.C_len hm⟩
  obtain ⟨q, hq⟩ := named (namesOk files l)
  rw [← hq.out]
  clear h hm
  go_enter Try.func54, Try.ntmps54
  go_upto_region 1 with (fail)
  obtain ⟨W0, hW0⟩ : ∃ W, W = w.alloc (.cells #[.int .i64 cap, .slice F lf fc, .slice N ln nc, .slice S ls sc, .int .i64 next] 25) := ⟨_, rfl⟩
  have hk2 : W0.heap[w.heap.size]? = some (.cells #[.int .i64 cap, .slice F lf fc, .slice N ln nc, .slice S ls sc, .int .i64 next] 25 (0, 0)) := by rw [hW0]; exact blk_new _ _
  have HB0 : Aside0 (Below w.heap.size w W0) := ⟨by rw [hW0]; exact below_alloc (Below.refl _ _) _⟩
  rw [← hW0]
  clear hW0
  have HK2 := Aside0.mk hk2
  clear hk2
  go_wp2
  go_loopg [5] lm (fun g v5 wr => ∃ i : Nat, v5 = .int .i64 i ∧ g + i = lm ∧ Aside0 (nmTo files l i = true) ∧ Aside0 (Below W0.heap.size W0 wr))
  case atStart => exact ⟨0, rfl, by omega, ⟨rfl⟩, ⟨Below.refl _ _⟩⟩
  case round =>
    obtain ⟨i, rfl, hg, HT, HBr⟩ := hrel
    have HBw : Aside0 (Below w.heap.size w wr) := ⟨bthen HB0.out HBr.out⟩
    by_cases hlt : i < lm
    · have hlt' : (i : Int) < (lm : Int) := by omega
      obtain ⟨m, hmi⟩ : ∃ m, l[i]? = some m := ⟨_, List.getElem?_eq_getElem (by rw [HLn.out]; omega)⟩
      obtain ⟨ad, hMs, c0, c1⟩ := atNm (Kd.C_below HM.out HBw.out) i m hmi
      subst hMs
      have hgd : l.getD i zNm = m := by rw [List.getD_eq_getElem?_getD, hmi]; rfl
      have HMi := Aside0.mk hmi
      have hto : nmTo files l (i + 1) = nmOk files (l.take i) m := by rw [nmTo, HT.out, hgd, Bool.true_and]
      obtain ⟨my, hmy⟩ := named (mayF m.name)
      obtain ⟨hi, hhi⟩ := named (hasId files m.id)
      obtain ⟨lnk, hlnk⟩ := named (linkN l i m)
      obtain ⟨r, hr⟩ := named (fileIx files m.id)
      have HR : Aside0 (r < 0 ↔ hi = false) := ⟨by rw [hr.out, hhi.out]; exact fileIx_neg⟩
      have HTO : Aside0 (nmTo files l (i + 1) = (my && (lnk && (hi && !((l.take i).any fun x => x.id == m.id))))) := ⟨by rw [hto, hmy.out, hhi.out, hlnk.out]; rfl⟩
      clear hmi hgd hto
      go_upto_region 4 with (fail)
      go_cut [47] (fun v47 wc => v47 = .bool (!(my && (lnk && hi))) ∧ Aside0 (Below wr.heap.size wr wc))
      case first =>
        have CM : ∀ W, Calls Try.prog 60 #[.string m.name] W fun e w' => e = .returned (.bool my) ∧ W = w' := fun W => by rw [hmy.out]; exact may_any m.name W
        have CF : ∀ x : Later wr, Calls Try.prog 64 #[.agg #[.int .i64 cap, .slice F lf fc, .slice N ln nc, .slice S ls sc, .int .i64 next], .int .i64 m.id] (wb wr x) fun e w' => e = .returned (.int .i64 r) ∧ Below (wb wr x).heap.size (wb wr x) w' := fun x => by
          rw [hr.out]
          exact file_any files m.id cap next F N S lf fc ln nc ls sc _ (Kd.C_below HH.out (bthen HBw.out (wb_below _ x))) hlf
        obtain ⟨x0, x1, x2, x3, x4, _, _, _, _, _⟩ := all5 (blk_keep HK2.out HBr.out)
        have K0 := wb_cell c0
        have K1 := wb_cell c1
        have X0 := wb_cell x0
        have X1 := wb_cell x1
        have X2 := wb_cell x2
        have X3 := wb_cell x3
        have X4 := wb_cell x4
        clear x0 x1 x2 x3 x4 c0 c1
        cases hmv : my with
        | false =>
          rw [hmv] at CM
          have HV : Aside0 ((!(my && (lnk && hi))) = true) := ⟨by rw [hmv]; rfl⟩
          clear hmv
          refine wp_region_wide (by kernel_rfl) (by kernel_rfl) ?_
          repeat (go_big_quiet_step ((first | (go_at_call 60; exact wide_same (CM _)) | (go_at_call 64; exact wide_of (CF _)))))
          refine wpQuiet_nil ?_
          rintro w' ⟨x, rfl⟩
          go_wp2
          go_meet
          exact ⟨by rw [HV.out], ⟨wb_below _ x⟩⟩
        | true =>
          rw [hmv] at CM
          have HMV := Aside0.mk hmv
          clear hmv
          by_cases hi0 : i = 0
          · have hi1 : decide (0 < i) = false := by simp [hi0]
            have hi2 : ¬ (0 < i) := by omega
            have HL : Aside0 (lnk = true) := ⟨by rw [hlnk.out, hi0]; rfl⟩
            clear hi0
            by_cases hr0 : r < 0
            · have hh : Aside0 (hi = false) := ⟨HR.out.1 hr0⟩
              refine wp_region_wide (by kernel_rfl) (by kernel_rfl) ?_
              repeat (go_big_quiet_step ((first | (go_at_call 60; exact wide_same (CM _)) | (go_at_call 64; exact wide_of (CF _)))))
              refine wpQuiet_nil ?_
              rintro w' ⟨x, rfl⟩
              go_wp2
              go_meet
              exact ⟨by rw [HMV.out, HL.out, hh.out]; rfl, ⟨wb_below _ x⟩⟩
            · have hh : Aside0 (hi = true) := ⟨by cases hq : hi with | true => rfl | false => exact absurd (HR.out.2 hq) hr0⟩
              refine wp_region_wide (by kernel_rfl) (by kernel_rfl) ?_
              repeat (go_big_quiet_step ((first | (go_at_call 60; exact wide_same (CM _)) | (go_at_call 64; exact wide_of (CF _)))))
              refine wpQuiet_nil ?_
              rintro w' ⟨x, rfl⟩
              go_wp2
              go_meet
              exact ⟨by rw [HMV.out, HL.out, hh.out]; rfl, ⟨wb_below _ x⟩⟩
          · obtain ⟨k, rfl⟩ : ∃ k, i = k + 1 := ⟨i - 1, by omega⟩
            clear hi0
            obtain ⟨p, hp⟩ : ∃ p, l[k]? = some p := ⟨_, List.getElem?_eq_getElem (by rw [HLn.out]; omega)⟩
            have HL : Aside0 (lnk = sLt p.name m.name) := ⟨by rw [hlnk.out, linkN, List.take_add_one, hp]; simp⟩
            obtain ⟨ad', had, d0, d1⟩ := atNm (Kd.C_below HM.out HBw.out) k p hp
            obtain rfl : ad = ad' := by injection had
            have D0 := wb_cell d0
            have D1 := wb_cell d1
            clear hp had d0 d1
            cases hlv : lnk with
            | false =>
              rw [hlv] at HL
              have hs2 : (Op.bytesLess m.name.toList p.name.toList || m.name.toList == p.name.toList) = true := by rw [leq_bytes]; have : Op.bytesLess p.name.toList m.name.toList = false := HL.out.symm; rw [this]; rfl
              have HLV := Aside0.mk hlv
              clear hlv
              refine wp_region_wide (by kernel_rfl) (by kernel_rfl) ?_
              repeat (go_big_quiet_step ((first | (go_at_call 60; exact wide_same (CM _)) | (go_at_call 64; exact wide_of (CF _)))))
              refine wpQuiet_nil ?_
              rintro w' ⟨x, rfl⟩
              go_wp2
              go_meet
              exact ⟨by rw [HMV.out, HLV.out]; rfl, ⟨wb_below _ x⟩⟩
            | true =>
              rw [hlv] at HL
              have hs2 : (Op.bytesLess m.name.toList p.name.toList || m.name.toList == p.name.toList) = false := by rw [leq_bytes]; have : Op.bytesLess p.name.toList m.name.toList = true := HL.out.symm; rw [this]; rfl
              have HL2 := Aside0.mk hlv
              clear hlv HL
              by_cases hr0 : r < 0
              · have hh : Aside0 (hi = false) := ⟨HR.out.1 hr0⟩
                refine wp_region_wide (by kernel_rfl) (by kernel_rfl) ?_
                repeat (go_big_quiet_step ((first | (go_at_call 60; exact wide_same (CM _)) | (go_at_call 64; exact wide_of (CF _)))))
                refine wpQuiet_nil ?_
                rintro w' ⟨x, rfl⟩
                go_wp2
                go_meet
                exact ⟨by rw [HMV.out, HL2.out, hh.out]; rfl, ⟨wb_below _ x⟩⟩
              · have hh : Aside0 (hi = true) := ⟨by cases hq : hi with | true => rfl | false => exact absurd (HR.out.2 hq) hr0⟩
                refine wp_region_wide (by kernel_rfl) (by kernel_rfl) ?_
                repeat (go_big_quiet_step ((first | (go_at_call 60; exact wide_same (CM _)) | (go_at_call 64; exact wide_of (CF _)))))
                refine wpQuiet_nil ?_
                rintro w' ⟨x, rfl⟩
                go_wp2
                go_meet
                exact ⟨by rw [HMV.out, HL2.out, hh.out]; rfl, ⟨wb_below _ x⟩⟩
      case rest =>
        obtain ⟨rfl, HBc⟩ := hcut
        have HBwc : Aside0 (Below w.heap.size w wc) := ⟨bthen HBw.out HBc.out⟩
        obtain ⟨b, hb⟩ := named (my && (lnk && hi))
        rw [← hb.out]
        cases hbv : b with
        | false =>
          have HQ : Aside0 (q = false) := ⟨by
            rw [hq.out, namesOk]
            refine nmTo_false l (i := i + 1) ?_ (by rw [HLn.out]; omega)
            rw [HTO.out, ← Bool.and_assoc, ← Bool.and_assoc, Bool.and_assoc my, ← hb.out, hbv]; rfl⟩
          clear hbv
          go_wp2
          go_ret
          exact ⟨by rw [HQ.out]; rfl, HBwc.out⟩
        | true =>
          have HTO2 : Aside0 (nmTo files l (i + 1) = !((l.take i).any fun x => x.id == m.id)) := ⟨by
            rw [HTO.out, ← Bool.and_assoc, ← Bool.and_assoc, Bool.and_assoc my, ← hb.out, hbv, Bool.true_and]⟩
          clear hbv c0 c1
          obtain ⟨adm, hadm, c0, c1⟩ := atNm (Kd.C_below HM.out HBwc.out) i m HMi.out
          injection hadm with hadm
          subst hadm
          clear c0
          have C1 := Aside0.mk c1
          clear c1
          go_upto_region 6 with (fail)
          go_wp2
          go_loopg [6] i (fun g v6 wi => ∃ k : Nat, v6 = .int .i64 k ∧ g + k = i ∧ Aside0 ((l.take k).any (fun x => x.id == m.id) = false) ∧ Aside0 (Below wc.heap.size wc wi))
          case atStart => exact ⟨0, rfl, by omega, ⟨rfl⟩, ⟨Below.refl _ _⟩⟩
          case round =>
            obtain ⟨k, rfl, hgk, HN, HBi⟩ := hrel
            by_cases hki : k < i
            · have hki' : (k : Int) < (i : Int) := by omega
              have hkl' : (k : Int) < (lm : Int) := by omega
              obtain ⟨p, hp⟩ : ∃ p, l[k]? = some p := ⟨_, List.getElem?_eq_getElem (by rw [HLn.out]; omega)⟩
              obtain ⟨adp, hadp, _, d1⟩ := atNm (Kd.C_below HM.out (bthen HBwc.out HBi.out)) k p hp
              injection hadp with hadp
              subst hadp
              have c1 := pw_cell_below HBi.out C1.out
              have HP := Aside0.mk hp
              clear hp
              by_cases he : p.id = m.id
              · have HQ : Aside0 (q = false) := ⟨by
                  rw [hq.out, namesOk]
                  refine nmTo_false l (i := i + 1) ?_ (by rw [HLn.out]; omega)
                  have : (l.take i).any (fun x => x.id == m.id) = true := List.any_eq_true.2 ⟨p, List.mem_of_getElem? (i := k) (by rw [List.getElem?_take, if_pos hki]; exact HP.out), by simp [he]⟩
                  rw [HTO2.out, this]; rfl⟩
                go_wp2_with fail
                go_quiet (fail)
                go_wp2
                go_ret
                exact ⟨by rw [HQ.out]; rfl, pw_below_drewN (bthen HBwc.out HBi.out) nq⟩
              · have hn' : Aside0 ((l.take (k + 1)).any (fun x => x.id == m.id) = false) := ⟨by rw [List.take_add_one, HP.out, List.any_append, HN.out]; simp [he]⟩
                go_wp2_with fail
                go_quiet (fail)
                go_wp2
                go_roundg (i - (k + 1))
                case measure => omega
                case rel => exact ⟨k + 1, by go_num, by omega, hn', ⟨pw_below_drewN HBi.out nq⟩⟩
            · have hki' : ¬ ((k : Int) < (i : Int)) := by omega
              have HT2 : Aside0 (nmTo files l (i + 1) = true) := ⟨by
                obtain rfl : k = i := by omega
                rw [HTO2.out, HN.out]; rfl⟩
              go_wp2
              go_roundg (lm - (i + 1))
              case measure => omega
              case rel => exact ⟨i + 1, by go_num, by omega, HT2, ⟨bthen HBr.out (bthen HBc.out HBi.out)⟩⟩
    · have hnf : ¬ ((i : Int) < (lm : Int)) := by omega
      have HQ : Aside0 (q = true) := ⟨by
        rw [hq.out, namesOk, HLn.out]
        obtain rfl : i = lm := by omega
        exact HT.out⟩
      go_wp2
      go_ret
      exact ⟨by rw [HQ.out]; rfl, HBw.out⟩
end Go.Proofs.Ytfakfgblaakgdaa.Files.Ref
