/- FilesReads: for all parts and marks of bulk at most 1048576 the law returns true, and what it is given stays. (Printed by wip/gen_rows.py.) -/
import Derived.Test.YtfakfgblaakgdaaPkReads6
import Derived.Lib.SlBytesConst
import Derived.JoinedCond

/- The page's example of chapter 4: its acts; SameBytes, num: walked. -/
namespace Go.Proofs.Ytfakfgblaakgdaa.Files
set_option linter.unusedVariables false
set_option linter.unusedSimpArgs false
open Go.RowKit Go.Proofs.YtfakfgblaakgdaaW.PrintWords Go.Proofs.YtfakfgblaakgdaaW.PrintLast Go.Proofs.Ytfakfgblaakgdaa.Base Go.Proofs.Ytfakfgblaakgdaa.Cells Go.Proofs.Ytfakfgblaakgdaa.Ints Go.Proofs.Ytfakfgblaakgdaa.Var Go.Proofs.Ytfakfgblaakgdaa.EditPure Go.Proofs.Ytfakfgblaakgdaa.Edit Go.Proofs.Ytfakfgblaakgdaa.Sets Go.Proofs.Ytfakfgblaakgdaa.Wide Go.Proofs.Ytfakfgblaakgdaa.RowsC

theorem num_any (n : Int) (w : World) : Calls Try.prog 20 #[.int .i64 n] w fun e w' => e = .returned (.int .i64 n) ∧ w = w' := by
  go_enter Try.func20, Try.ntmps20
  go_wp2
  go_ret
  exact ⟨rfl, rfl⟩

set_option maxRecDepth 100000 in
theorem same_any (A B : Option Addr) (n m c d : Nat) (xs ys : List Int) (w : World) (hA : ReadsInt w .u8 A n xs) (hB : ReadsInt w .u8 B m ys) (he : xs = ys) :
    Calls Try.prog 25 #[.slice A n c, .slice B m d] w fun e w' => e = .returned (.bool true) ∧ w = w' := by
  subst he
  have h1 := string_of_reads (c := c) Try.underlying62 Try.underlying5 Try.underlying9 hA
  have h2 := string_of_reads (c := d) Try.underlying62 Try.underlying5 Try.underlying9 hB
  obtain ⟨T, hT⟩ := named (strOfNums xs)
  rw [← hT.out] at h1 h2
  clear hA hB
  go_enter Try.func25, Try.ntmps25
  go_wp2
  go_ret
  exact ⟨by simp, rfl⟩

/-- an act's cells, its octets' slice told -/
def rowA (x : Ac × Value) : List Value := [.int .i64 x.1.what, .string x.1.name, .string x.1.dest, x.2]
theorem kAc_of_row {w : World} {g cap : Nat} {L : List (Ac × Value)} (h : CRow 64 4 w g cap (L.map rowA)) (hd : ∀ x ∈ L, ∃ D c, x.2 = .slice D x.1.data.length c ∧ x.1.data.length ≤ c ∧ ReadsInt w .u8 D x.1.data.length x.1.data) (hc : cap ≤ 9223372036854775807) :
    kAc.C w (some ⟨g, 0, none⟩) L.length (L.map (·.1)) := by
  have hl := h.len
  rw [List.length_map] at hl
  refine ⟨by rw [List.length_map], by omega, fun _ => ⟨⟨g, 0, none⟩, rfl, fun j p hj => ?_⟩⟩
  rw [List.getElem?_map] at hj
  obtain ⟨x, hx, rfl⟩ := Option.map_eq_some_iff.1 hj
  obtain ⟨D, c, h1, h2, h3⟩ := hd x (List.mem_of_getElem? hx)
  refine ⟨[.int .i64 x.1.what, .string x.1.name, .string x.1.dest, .slice D x.1.data.length c], rfl, kAc_mk h2 h3, fun i u hu => ?_⟩
  have h4 := h.cell j (rowA x) (by rw [List.getElem?_map, hx]; rfl) i (by have := (List.getElem?_eq_some_iff.1 hu).1; simpa using this)
  rw [add_plain]
  refine h4.trans ?_
  rw [rowA, h1]
  exact hu

set_option maxRecDepth 100000 in
set_option maxHeartbeats 1000000 in
theorem xyz_any (w : World) : Calls Try.prog 48 #[] w fun e w' => ∃ g, e = .returned (.slice (some ⟨g, 0, none⟩) 4 4) ∧ kAc.C w' (some ⟨g, 0, none⟩) 4 xyzL ∧ Below w.heap.size w w' := by
  have hcv := Lib.run_convert_bytes_const (P := Try.prog) w 62 5 #[.int .u8 120, .int .u8 121, .int .u8 122] 3 3 Try.underlying62 Try.underlying5
  go_enter Try.func48, Try.ntmps48
  go_wp2
  go_ret
  obtain ⟨W1, hW1⟩ : ∃ W, W = w.alloc (.cells #[.int .u8 120, .int .u8 121, .int .u8 122] 5 (3, 4)) := ⟨_, rfl⟩
  have hz : W1.heap.size = w.heap.size + 1 := by rw [hW1]; simp
  have hB1 : Below w.heap.size w W1 := by rw [hW1]; exact below_alloc (Below.refl _ _) _
  obtain ⟨W2, hW2⟩ : ∃ W, W = W1.alloc (.cells #[.int .i64 1, .string ⟨#[97]⟩, .string ⟨#[]⟩, .slice none 0 0, .int .i64 2, .string ⟨#[97]⟩, .string ⟨#[]⟩, .slice (some ⟨w.heap.size, 0, none⟩) 3 3, .int .i64 3, .string ⟨#[97]⟩, .string ⟨#[]⟩, .slice none 0 0, .int .i64 6, .string ⟨#[]⟩, .string ⟨#[]⟩, .slice none 0 0] 64) := ⟨_, rfl⟩
  have hB2 : Below W1.heap.size W1 W2 := by rw [hW2]; exact below_alloc (Below.refl _ _) _
  have hrd : ReadsInt W2 .u8 (some ⟨w.heap.size, 0, none⟩) 3 [120, 121, 122] := by
    refine ReadsInt.below ?_ hB2
    have hc : ∀ j : Nat, W1.cell? ⟨w.heap.size, j, none⟩ = (#[Value.int .u8 120, .int .u8 121, .int .u8 122] : Array Value)[j]? := fun j => by rw [hW1]; exact World.cell?_alloc_mark _ _ _ _ _
    refine ⟨rfl, by decide, fun _ => ⟨⟨w.heap.size, 0, none⟩, rfl, fun j hj => ?_⟩⟩
    rw [add_plain]
    match j, hj with
    | 0, _ => exact hc 0
    | 1, _ => exact hc 1
    | 2, _ => exact hc 2
  have hrow : CRow 64 4 W2 W1.heap.size 4 ([(xyzL[0], Value.slice none 0 0), (xyzL[1], Value.slice (some ⟨w.heap.size, 0, none⟩) 3 3), (xyzL[2], Value.slice none 0 0), (xyzL[3], Value.slice none 0 0)].map rowA) :=
    ⟨_, by rw [hW2]; exact blk_new _ _, rfl, by simp, rfl, fun r hr => by
      simp only [List.map_cons, List.map_nil, List.mem_cons, List.not_mem_nil, or_false] at hr
      rcases hr with rfl | rfl | rfl | rfl <;> rfl⟩
  have hC := kAc_of_row hrow (fun x hx => by
    simp only [List.mem_cons, List.not_mem_nil, or_false] at hx
    rcases hx with rfl | rfl | rfl | rfl
    · exact ⟨none, 0, rfl, Nat.le_refl _, ReadsInt.nil _ _⟩
    · exact ⟨some ⟨w.heap.size, 0, none⟩, 3, rfl, Nat.le_refl _, hrd⟩
    · exact ⟨none, 0, rfl, Nat.le_refl _, ReadsInt.nil _ _⟩
    · exact ⟨none, 0, rfl, Nat.le_refl _, ReadsInt.nil _ _⟩) (by decide)
  rw [hz] at hC
  refine ⟨w.heap.size + 1, rfl, ?_, ?_⟩
  · rw [hW2, hW1] at hC; exact hC
  · have := bthen hB1 hB2; rw [hW2, hW1] at this; exact this
end Go.Proofs.Ytfakfgblaakgdaa.Files

/- The page's example of chapter 4: walked. -/
namespace Go.Proofs.Ytfakfgblaakgdaa.Files
set_option linter.unusedVariables false
set_option linter.unusedSimpArgs false
open Go.RowKit Go.Proofs.YtfakfgblaakgdaaW.PrintWords Go.Proofs.YtfakfgblaakgdaaW.PrintLast Go.Proofs.Ytfakfgblaakgdaa.Base Go.Proofs.Ytfakfgblaakgdaa.Cells Go.Proofs.Ytfakfgblaakgdaa.Ints Go.Proofs.Ytfakfgblaakgdaa.Var Go.Proofs.Ytfakfgblaakgdaa.EditPure Go.Proofs.Ytfakfgblaakgdaa.Edit Go.Proofs.Ytfakfgblaakgdaa.Sets Go.Proofs.Ytfakfgblaakgdaa.Wide Go.Proofs.Ytfakfgblaakgdaa.RowsC

/-- a state that is there: where its three rows lie -/
def At (w : World) (v : Value) (s : St) : Prop := ∃ F fc N nc S sc, v = .agg #[.int .i64 s.cap, .slice F s.files.length fc, .slice N s.names.length nc, .slice S s.safe.length sc, .int .i64 s.next] ∧ Hd w s F fc N nc S sc
theorem Rs.at_ {w : World} {base : Nat} {v : Value} {s : St} (h : Rs w base v s) : At w v s := h.forms
theorem At.below {w w1 : World} {v : Value} {s : St} (h : At w v s) (hb : Below w.heap.size w w1) : At w1 v s := by
  obtain ⟨F, fc, N, nc, S, sc, h1, h2⟩ := h
  exact ⟨F, fc, N, nc, S, sc, h1, h2.below hb⟩
theorem run_at {s : St} {v : Value} {w : World} {l : List Ac} {A : Option Addr} {n ac : Nat} (h : At w v s) (hs : Small s) (hw : Wf s) (hr : kAc.C w A n l) (hl : n ≤ 1048576) (hu : usedF s.files + dataA l ≤ 1048576) :
    Calls Try.prog 17 #[v, .slice A n ac] w fun e w' => ∃ v', e = .returned (.tuple #[v', .int .i64 (runP s l).2.1, .int .i64 (runP s l).2.2]) ∧ Rs w' w.heap.size v' (runP s l).1 ∧ Below w.heap.size w w' := by
  obtain ⟨F, fc, N, nc, S, sc, rfl, h2⟩ := h
  have hn := Kd.C_len hr
  subst hn
  exact run_any s l F N S A fc nc sc ac w h2 hs hw hr hl hu
theorem crash_at {s : St} {v : Value} {w : World} {keep : List Int} {A : Option Addr} {n ac : Nat} (h : At w v s) (hs : Small s) (hw : Wf s) (hr : ReadsInt w .i64 A n keep) (hkl : n ≤ 1048576) (hki : ∀ x ∈ keep, inI64 x) :
    Calls Try.prog 27 #[v, .slice A n ac] w fun e w' => ∃ v', e = .returned (.tuple #[v', .int .i64 (crashP s keep).2]) ∧ Rs w' w.heap.size v' (crashP s keep).1 ∧ Below w.heap.size w w' := by
  obtain ⟨F, fc, N, nc, S, sc, rfl, h2⟩ := h
  have hn : keep.length = n := hr.1
  subst hn
  exact crash_any s keep F N S A fc nc sc ac w h2 hs hw hr hkl hki
theorem read_at {s : St} {v : Value} {w : World} (q : ByteArray) (h : At w v s) (hs : Small s) (hw : Wf s) :
    Calls Try.prog 24 #[v, .string q] w fun e w' => ∃ v', e = .returned (.tuple #[v', .int .i64 (readP s q).2]) ∧ RB w' w.heap.size v' (readP s q).1 ∧ Below w.heap.size w w' := by
  obtain ⟨F, fc, N, nc, S, sc, rfl, h2⟩ := h
  exact read_any s q F N S fc nc sc w h2 hs hw
theorem do_at {s : St} {v : Value} {w : World} {a : Ac} {D : Option Addr} {n dc : Nat} {wh : Int} {nm de : ByteArray} (h : At w v s) (hs : Small s) (hw : Wf s) (hr : ReadsInt w .u8 D n a.data) (hda : n ≤ 1048576) (e1 : wh = a.what) (e2 : nm = a.name) (e3 : de = a.dest) :
    Calls Try.prog 23 #[v, .agg #[.int .i64 wh, .string nm, .string de, .slice D n dc]] w fun e w' => ∃ v', e = .returned (.tuple #[v', .int .i64 (DoP s a).1]) ∧ Rs w' w.heap.size v' (DoP s a).2 ∧ Below w.heap.size w w' := by
  obtain ⟨F, fc, N, nc, S, sc, rfl, h2⟩ := h
  subst e1 e2 e3
  have hn : a.data.length = n := hr.1
  subst hn
  exact do_any s a F N S D fc nc sc dc w h2 hs hw hr hda

theorem kAc_take {w : World} {A : Option Addr} {n m : Nat} {xs : List Ac} (h : kAc.C w A n xs) (hm : m ≤ n) : kAc.C w A m (xs.take m) := by
  have hn := Kd.C_len h
  obtain ⟨h1, h2, h3⟩ := h
  refine ⟨by rw [List.length_take]; omega, by omega, fun h0 => ?_⟩
  obtain ⟨ad, e, hh⟩ := h3 (by omega)
  refine ⟨ad, e, fun j p hj => hh j p ?_⟩
  rw [List.getElem?_take] at hj
  split at hj
  · exact hj
  · cases hj
theorem infoAc : ∃ i0, Try.prog.info? 64 = some i0 ∧ i0.size = 4 := by
  have h : (Try.prog.info? 64).map (fun i => i.size) = some 4 := by kernel_rfl
  obtain ⟨i0, h1, h2⟩ := Option.map_eq_some_iff.1 h
  exact ⟨i0, h1, h2⟩
theorem small_nil (c n : Int) : Small ⟨c, [], [], [], n⟩ := ⟨by simp, by simp, by simp, by simp⟩
theorem wf_nil (c n : Int) : Wf ⟨c, [], [], [], n⟩ := ⟨by simp, by simp⟩
theorem small_1 : Small s1A := ⟨by decide, by decide, by decide, fun f hf => by simp [s1A] at hf; subst hf; decide⟩
theorem wf_1 : Wf s1A := ⟨fun f hf => by simp [s1A] at hf; subst hf; decide, fun f hf => by simp [s1A] at hf⟩
theorem small_2 : Small s2A := ⟨by decide, by decide, by decide, fun f hf => by simp [s2A] at hf; subst hf; decide⟩
theorem wf_2 : Wf s2A := ⟨fun f hf => by simp [s2A] at hf; subst hf; decide, fun f hf => by simp [s2A] at hf; subst hf; decide⟩

/-- a state's value, shown -/
theorem Rs.show_ {w : World} {base : Nat} {v : Value} {s : St} (h : Rs w base v s) : ∃ n F lf fc N ln nc S ls sc m, v = .agg #[.int .i64 n, .slice F lf fc, .slice N ln nc, .slice S ls sc, .int .i64 m] := by
  obtain ⟨F, fc, N, nc, S, sc, h1, _⟩ := h.forms
  exact ⟨_, _, _, _, _, _, _, _, _, _, _, h1⟩
/-- variable g holds a state -/
def Box (w : World) (g : Nat) (s : St) (a b c d e : Value) : Prop := w.heap[g]? = some (.cells #[a, b, c, d, e] 33 (0, 0)) ∧ Rs w 0 (.agg #[a, b, c, d, e]) s
theorem Box.below {w w1 : World} {g : Nat} {s : St} {a b c d e : Value} (h : Box w g s a b c d e) (hb : Below w.heap.size w w1) : Box w1 g s a b c d e := ⟨blk_keep h.1 hb, h.2.below hb⟩
theorem Box.far {w : World} {g g' : Nat} {s : St} {a b c d e a' b' c' d' e' : Value} {cs : Array Value} (h : Box w g s a b c d e) (hg : w.heap[g']? = some (.cells cs 33 (0, 0))) (hne : g ≠ g') :
    Box (((((w.setCell ⟨g', 0, none⟩ a').setCell ⟨g', 1, none⟩ b').setCell ⟨g', 2, none⟩ c').setCell ⟨g', 3, none⟩ d').setCell ⟨g', 4, none⟩ e') g s a b c d e :=
  ⟨(keep5 _ _ _ _ _ hne).trans h.1, h.2.far5 hg _ _ _ _ _⟩
theorem Box.set {w : World} {g : Nat} {s : St} {a b c d e a' b' c' d' e' : Value} (h : Rs w 0 (.agg #[a, b, c, d, e]) s) (hg : w.heap[g]? = some (.cells #[a', b', c', d', e'] 33 (0, 0))) :
    Box (((((w.setCell ⟨g, 0, none⟩ a).setCell ⟨g, 1, none⟩ b).setCell ⟨g, 2, none⟩ c).setCell ⟨g, 3, none⟩ d).setCell ⟨g, 4, none⟩ e) g s a b c d e :=
  ⟨blk5 hg, h.far5 hg _ _ _ _ _⟩

set_option maxRecDepth 100000 in
set_option maxHeartbeats 4000000 in
theorem alive_any (w : World) : Calls Try.prog 21 #[] w fun e w' => e = .returned (.bool true) ∧ Below w.heap.size w w' := by
  go_enter Try.func21, Try.ntmps21
  go_wp2_with fail
  refine (new_any 99 w (by decide) (by decide)).mono ?_
  rintro e w1 ⟨v1, rfl, hv1, hb1⟩
  obtain ⟨n1, F1, lf1, fc1, N1, ln1, nc1, S1, ls1, sc1, m1, rfl⟩ := hv1.show_
  go_upto_region 2 with (fail)
  obtain ⟨g1, hg1⟩ : ∃ g, g = w1.heap.size := ⟨_, rfl⟩
  obtain ⟨W1, hW1⟩ : ∃ W, W = w1.alloc (.cells #[.int .i64 n1, .slice F1 lf1 fc1, .slice N1 ln1 nc1, .slice S1 ls1 sc1, .int .i64 m1] 33) := ⟨_, rfl⟩
  have HX1 : Aside0 (Box W1 g1 (newSt 99) (.int .i64 n1) (.slice F1 lf1 fc1) (.slice N1 ln1 nc1) (.slice S1 ls1 sc1) (.int .i64 m1)) := ⟨by rw [hW1, hg1]; exact ⟨blk_new _ _, (hv1.lower (Nat.zero_le _)).below (below_alloc (Below.refl _ _) _)⟩⟩
  have HB1 : Aside0 (Below w.heap.size w W1) := ⟨by rw [hW1]; exact bthen hb1 (below_alloc (Below.refl _ _) _)⟩
  have hgw : w.heap.size ≤ g1 := by rw [hg1]; exact hb1.size
  rw [← hW1, ← hg1]
  clear hW1 hv1 hb1 hg1
  go_cut [1, 2, 3, 4] (fun v1 v2 v3 v4 wc => v1 = .pointer (some ⟨g1, 0, none⟩) ∧ v2 = .int .i64 0 ∧ v3 = .int .i64 3 ∧ v4 = .int .i64 0 ∧ ∃ n F lf fc N ln nc S ls sc m, Aside0 (Box wc g1 s1A (.int .i64 n) (.slice F lf fc) (.slice N ln nc) (.slice S ls sc) (.int .i64 m) ∧ Below w.heap.size w wc))
  case first =>
    have HD : Aside0 (Below W1.heap.size W1 W1.drew) := ⟨below_drew (Below.refl _ _)⟩
    obtain ⟨x0, x1, x2, x3, x4, f0, f1, f2, f3, f4⟩ := all5 (blk_keep HX1.out.1 HD.out)
    obtain ⟨i0, hi0, _⟩ := infoAc
    have hct : ∀ g W, (Instr.slice 50 (.slice (some ⟨g, 0, none⟩) 4 4) none (some (.int .i64 3)) none).run Try.prog W = .ok (.slice (some ⟨g, 0, none⟩) 3 4) W := fun g W => cut_to (P := Try.prog) 50 64 .i64 Try.underlying50 hi0 (some ⟨g, 0, none⟩) 4 4 3 (by omega) (by omega) (by omega) W
    clear hi0
    go_region_law (go_simp; go_wp2_with (first
      | (go_at_call 48; refine (xyz_any _).mono ?_; rintro e wx ⟨gx, rfl, hx, bx⟩; (have hbx : Below W1.heap.size W1 wx := bthen HD.out bx); obtain ⟨y0, y1, y2, y3, y4, q0, q1, q2, q3, q4⟩ := all5 (blk_keep HX1.out.1 hbx))
      | (go_at_call 17; refine (run_at (s := newSt 99) (l := xyzL.take 3) ((HX1.out.2.below hbx).at_) (small_nil _ _) (wf_nil _ _) (kAc_take hx (by decide)) (by decide) (by decide)).mono ?_; rw [show runP (newSt 99) (xyzL.take 3) = (s1A, 3, 0) from alive_a]; rintro e w3 ⟨v3, rfl, hv3, hb3⟩; (have hb13 := bthen hbx hb3); obtain ⟨n3, F3, lf3, fc3, N3, ln3, nc3, S3, ls3, sc3, m3, rfl⟩ := hv3.show_; obtain ⟨z0, z1, z2, z3, z4, g0, g2, g3, g4, g5⟩ := all5 (blk_keep HX1.out.1 hb13))))
    all_goals go_wp2_with fail
    all_goals go_meet
    all_goals exact ⟨rfl, rfl, rfl, rfl, _, _, _, _, _, _, _, _, _, _, _, ⟨Box.set (hv3.lower (Nat.zero_le _)) (blk_keep HX1.out.1 hb13), below_set5 (bthen HB1.out hb13) hgw _ _ _ _ _⟩⟩
  case rest =>
    obtain ⟨rfl, rfl, rfl, rfl, n2, F2, lf2, fc2, N2, ln2, nc2, S2, ls2, sc2, m2, HC⟩ := hcut
    obtain ⟨x0, x1, x2, x3, x4, _, _, _, _, _⟩ := all5 HC.out.1.1
    go_wp2_with fail
    refine (crash_at (s := s1A) (keep := []) HC.out.1.2.at_ small_1 wf_1 (ReadsInt.nil _ _) (by decide) (fun x hx => by simp at hx)).mono ?_
    rw [show crashP s1A [] = (⟨99, [], [], [], 2⟩, 0) from alive_b]
    rintro e w3 ⟨v3, rfl, hv3, hb3⟩
    obtain ⟨n3, F3, lf3, fc3, N3, ln3, nc3, S3, ls3, sc3, m3, rfl⟩ := hv3.show_
    clear x0 x1 x2 x3 x4
    go_upto_region 4 with (fail)
    obtain ⟨g5, hg5⟩ : ∃ g, g = w3.heap.size := ⟨_, rfl⟩
    obtain ⟨W5, hW5⟩ : ∃ W, W = w3.alloc (.cells #[.int .i64 n3, .slice F3 lf3 fc3, .slice N3 ln3 nc3, .slice S3 ls3 sc3, .int .i64 m3] 33) := ⟨_, rfl⟩
    have HX5 : Aside0 (Box W5 g5 ⟨99, [], [], [], 2⟩ (.int .i64 n3) (.slice F3 lf3 fc3) (.slice N3 ln3 nc3) (.slice S3 ls3 sc3) (.int .i64 m3)) := ⟨by rw [hW5, hg5]; exact ⟨blk_new _ _, (hv3.lower (Nat.zero_le _)).below (below_alloc (Below.refl _ _) _)⟩⟩
    have HB5 : Aside0 (Below wc.heap.size wc W5) := ⟨by rw [hW5]; exact bthen hb3 (below_alloc (Below.refl _ _) _)⟩
    have HG5 : Aside0 (g1 ≠ g5 ∧ w.heap.size ≤ g5) := ⟨by have h1 := blk_lt HC.out.1.1; have h2 := hb3.size; have h3 := HC.out.2.size; omega⟩
    rw [← hW5, ← hg5]
    clear hW5 hv3 hb3 hg5
    obtain ⟨x0, x1, x2, x3, x4, _, _, _, _, _⟩ := all5 HX5.out.1
    go_wp2_with fail
    refine (read_at (s := ⟨99, [], [], [], 2⟩) sA HX5.out.2.at_ (small_nil _ _) (wf_nil _ _)).mono ?_
    rw [show readP ⟨99, [], [], [], 2⟩ sA = ([], 71) from alive_c]
    rintro e w6 ⟨v6, rfl, hv6, hb6⟩
    have HB6 : Aside0 (Below wc.heap.size wc w6) := ⟨bthen HB5.out hb6⟩
    have HX6 := Aside0.mk (HX5.out.below hb6)
    have HC6 := Aside0.mk (HC.out.1.below HB6.out)
    clear hv6 hb6 x0 x1 x2 x3 x4
    go_upto_region 5 with (fail)
    go_cut [9] (fun v9 wx => v9 = .int .i64 0 ∧ ∃ n F lf fc N ln nc S ls sc m, Aside0 (Box wx g1 s2A (.int .i64 n) (.slice F lf fc) (.slice N ln nc) (.slice S ls sc) (.int .i64 m) ∧ Box wx g5 ⟨99, [], [], [], 2⟩ (.int .i64 n3) (.slice F3 lf3 fc3) (.slice N3 ln3 nc3) (.slice S3 ls3 sc3) (.int .i64 m3) ∧ Below w.heap.size w wx))
    case first =>
      have HD : Aside0 (Below w6.heap.size w6 w6.drew) := ⟨below_drew (Below.refl _ _)⟩
      obtain ⟨x0, x1, x2, x3, x4, f0, f1, f2, f3, f4⟩ := all5 (blk_keep HC6.out.1 HD.out)
      go_region_law (go_simp; go_wp2_with (first
        | (go_at_call 48; refine (xyz_any _).mono ?_; rintro e wx ⟨gx, rfl, hx, bx⟩; (have hbx : Below w6.heap.size w6 wx := bthen HD.out bx); obtain ⟨y0, y1, y2, y3, y4, q0, q1, q2, q3, q4⟩ := all5 (blk_keep HC6.out.1 hbx); obtain ⟨adx, Dx, dcx, hadx, c0, c1, c2, c3, _, hrx⟩ := atAc hx 3 ⟨6, ⟨#[]⟩, ⟨#[]⟩, []⟩ rfl; injection hadx with hadx; subst hadx; rw [add_plain] at c0 c1 c2 c3)
        | (go_at_call 23; refine (do_at (s := s1A) (a := ⟨6, ⟨#[]⟩, ⟨#[]⟩, []⟩) ((HC6.out.2.below hbx).at_) small_1 wf_1 hrx (by decide) rfl rfl rfl).mono ?_; rw [show DoP s1A ⟨6, ⟨#[]⟩, ⟨#[]⟩, []⟩ = (0, s2A) from alive_d]; rintro e w7 ⟨v7, rfl, hv7, hb7⟩; (have hb17 := bthen hbx hb7); obtain ⟨n7, F7, lf7, fc7, N7, ln7, nc7, S7, ls7, sc7, m7, rfl⟩ := hv7.show_; obtain ⟨z0, z1, z2, z3, z4, p0, p2, p3, p4, p5⟩ := all5 (blk_keep HC6.out.1 hb17))))
      all_goals go_wp2_with fail
      all_goals go_meet
      all_goals exact ⟨rfl, _, _, _, _, _, _, _, _, _, _, _, ⟨Box.set (hv7.lower (Nat.zero_le _)) (blk_keep HC6.out.1 hb17), (HX6.out.below hb17).far (blk_keep HC6.out.1 hb17) HG5.out.1.symm, below_set5 (bthen HC.out.2 (bthen HB6.out hb17)) hgw _ _ _ _ _⟩⟩
    case rest =>
      obtain ⟨rfl, n8, F8, lf8, fc8, N8, ln8, nc8, S8, ls8, sc8, m8, HE⟩ := hcut
      obtain ⟨x0, x1, x2, x3, x4, _, _, _, _, _⟩ := all5 HE.out.1.1
      clear HX5 HB5 HB6 HX6 HC6 HC
      go_wp2_with fail
      refine (crash_at (s := s2A) (keep := []) HE.out.1.2.at_ small_2 wf_2 (ReadsInt.nil _ _) (by decide) (fun x hx => by simp at hx)).mono ?_
      rw [show crashP s2A [] = (s2A, 0) from alive_e]
      rintro e w3 ⟨v3, rfl, hv3, hb3⟩
      obtain ⟨n9, F9, lf9, fc9, N9, ln9, nc9, S9, ls9, sc9, m9, rfl⟩ := hv3.show_
      have hk5 := blk_keep HE.out.2.1.1 hb3
      obtain ⟨y0, y1, y2, y3, y4, f0, f1, f2, f3, f4⟩ := all5 hk5
      clear x0 x1 x2 x3 x4
      go_upto_region 7 with (fail)
      obtain ⟨W8, hW8⟩ : ∃ W, W = (((((w3.setCell ⟨g5, 0, none⟩ (.int .i64 n9)).setCell ⟨g5, 1, none⟩ (.slice F9 lf9 fc9)).setCell ⟨g5, 2, none⟩ (.slice N9 ln9 nc9)).setCell ⟨g5, 3, none⟩ (.slice S9 ls9 sc9)).setCell ⟨g5, 4, none⟩ (.int .i64 m9)) := ⟨_, rfl⟩
      have HX8 : Aside0 (Box W8 g5 s2A (.int .i64 n9) (.slice F9 lf9 fc9) (.slice N9 ln9 nc9) (.slice S9 ls9 sc9) (.int .i64 m9)) := ⟨by rw [hW8]; exact Box.set (hv3.lower (Nat.zero_le _)) hk5⟩
      have HB8 : Aside0 (Below w.heap.size w W8) := ⟨by rw [hW8]; exact below_set5 (bthen HE.out.2.2 hb3) HG5.out.2 _ _ _ _ _⟩
      rw [← hW8]
      clear hW8 hv3 hb3 hk5 y0 y1 y2 y3 y4 f0 f1 f2 f3 f4
      obtain ⟨x0, x1, x2, x3, x4, _, _, _, _, _⟩ := all5 HX8.out.1
      go_wp2_with fail
      refine (read_at (s := s2A) sA HX8.out.2.at_ small_2 wf_2).mono ?_
      rw [show readP s2A sA = ([120, 121, 122], 0) from alive_f]
      rintro e w9 ⟨v9, rfl, hv9, hb9⟩
      have hcv := own_string Try.underlying62 Try.underlying5 Try.underlying9 hv9
      rw [show strOfNums [120, 121, 122] = ⟨#[120, 121, 122]⟩ by rfl] at hcv
      have HB9 := Aside0.mk (bthen HB8.out hb9)
      clear hv9 hb9 x0 x1 x2 x3 x4
      go_wp2_with (go_at_call 20; refine (num_any _ _).mono ?_; rintro e wz ⟨rfl, rfl⟩)
      go_ret
      exact ⟨rfl, HB9.out⟩
end Go.Proofs.Ytfakfgblaakgdaa.Files

/- One file, appended to and synced: what each act makes of it. A state's rows apart from one block. No program. -/
namespace Go.Proofs.Ytfakfgblaakgdaa.Files
set_option linter.unusedVariables false
set_option linter.unusedSimpArgs false
open Go.RowKit Go.Proofs.YtfakfgblaakgdaaW.PrintWords Go.Proofs.YtfakfgblaakgdaaW.PrintLast Go.Proofs.Ytfakfgblaakgdaa.Base Go.Proofs.Ytfakfgblaakgdaa.Cells Go.Proofs.Ytfakfgblaakgdaa.Ints Go.Proofs.Ytfakfgblaakgdaa.Var Go.Proofs.Ytfakfgblaakgdaa.EditPure Go.Proofs.Ytfakfgblaakgdaa.Edit Go.Proofs.Ytfakfgblaakgdaa.Sets Go.Proofs.Ytfakfgblaakgdaa.Wide Go.Proofs.Ytfakfgblaakgdaa.RowsC

def stR (d : List Int) (sy : Int) : St := ⟨1048576, [⟨1, d, sy⟩], [⟨sA, 1⟩], [], 2⟩
theorem good_stR {d : List Int} {sy : Int} (hd : d.length ≤ 1048576) (h0 : 0 ≤ sy) (h1 : sy ≤ (d.length : Int)) : Good (stR d sy) := by
  refine ⟨⟨by show (0 : Int) ≤ 1048576; decide, by show (1048576 : Int) ≤ 16777216; decide, by show 1 ≤ 256; decide, by show (1 : Int) ≤ 2; decide, by show (2 : Int) ≤ 2147483647; decide, ?_, by show 1 ≤ 256; decide, by show 0 ≤ 256; decide⟩, ⟨by simp [stR, Asc], fun f hf => ?_⟩, ⟨by simp [stR, AscN], fun n hn => ?_, by simp [stR]⟩, ⟨by simp [stR, AscN], fun n hn => by simp [stR] at hn, by simp [stR]⟩, fun f hf => ?_⟩
  · show usedF [⟨1, d, sy⟩] ≤ 1048576
    simp [usedF]; omega
  · simp only [stR, List.mem_singleton] at hf
    subst hf
    exact ⟨⟨by show (1 : Int) ≤ 1; omega, by show (1 : Int) < 2; omega⟩, h0, h1⟩
  · simp only [stR, List.mem_singleton] at hn
    subst hn
    exact ⟨by kernel_rfl, rfl⟩
  · simp only [stR, List.mem_singleton] at hf
    subst hf
    exact .inl rfl
theorem find_stR : findN [⟨sA, 1⟩] sA = some ⟨sA, 1⟩ := by kernel_rfl
theorem sweep_stR (d : List Int) (sy : Int) : sweepP (stR d sy) = stR d sy := by
  unfold sweepP stR
  simp [stands]
theorem do_append {d p : List Int} {sy : Int} {de : ByteArray} (hd : d.length ≤ 1048576) (h0 : 0 ≤ sy) (h1 : sy ≤ (d.length : Int)) :
    DoP (stR d sy) ⟨2, sA, de, p⟩ = if (1048576 : Int) - (d.length : Int) < (p.length : Int) then (51, zSt) else (0, stR (d ++ p) sy) := by
  have hg := stB_iff.2 (good_stR hd h0 h1)
  have hu : usedF (stR d sy).files = d.length := by simp [stR, usedF]
  have hact : actP (stR d sy) ⟨2, sA, de, p⟩ = if (1048576 : Int) - (d.length : Int) < (p.length : Int) then (51, stR d sy) else (0, stR (d ++ p) sy) := by
    unfold actP
    rw [show findN (stR d sy).names sA = some ⟨sA, 1⟩ from find_stR]
    dsimp only
    rw [if_pos rfl, hu]
    rfl
  have hdo : doP (stR d sy) ⟨2, sA, de, p⟩ = ((actP (stR d sy) ⟨2, sA, de, p⟩).1, if (actP (stR d sy) ⟨2, sA, de, p⟩).1 = 0 then sweepP (actP (stR d sy) ⟨2, sA, de, p⟩).2 else (actP (stR d sy) ⟨2, sA, de, p⟩).2) := by
    unfold doP
    dsimp only
    rw [if_neg (by decide), if_neg (by decide), if_neg (by decide)]
  rw [hact] at hdo
  rw [DoP, if_neg (by rw [hg]; decide), hdo]
  by_cases h : (1048576 : Int) - (d.length : Int) < (p.length : Int)
  · rw [if_pos h]
    dsimp only
    rw [if_neg (by decide), if_pos h]
  · rw [if_neg h]
    dsimp only
    rw [if_pos rfl, if_pos rfl, sweep_stR, if_neg h]
theorem do_sync {d : List Int} {sy : Int} {de : ByteArray} {p : List Int} (hd : d.length ≤ 1048576) (h0 : 0 ≤ sy) (h1 : sy ≤ (d.length : Int)) : DoP (stR d sy) ⟨3, sA, de, p⟩ = (0, stR d (d.length : Int)) := by
  have hg := stB_iff.2 (good_stR hd h0 h1)
  have hact : actP (stR d sy) ⟨3, sA, de, p⟩ = (0, stR d (d.length : Int)) := by
    unfold actP
    rw [show findN (stR d sy).names sA = some ⟨sA, 1⟩ from find_stR]
    dsimp only
    rw [if_neg (by decide), if_pos rfl]
    rfl
  have hdo : doP (stR d sy) ⟨3, sA, de, p⟩ = ((actP (stR d sy) ⟨3, sA, de, p⟩).1, if (actP (stR d sy) ⟨3, sA, de, p⟩).1 = 0 then sweepP (actP (stR d sy) ⟨3, sA, de, p⟩).2 else (actP (stR d sy) ⟨3, sA, de, p⟩).2) := by
    unfold doP
    dsimp only
    rw [if_neg (by decide), if_neg (by decide), if_neg (by decide)]
  rw [hact] at hdo
  rw [DoP, if_neg (by rw [hg]; decide), hdo]
  dsimp only
  rw [if_pos rfl, if_pos rfl, sweep_stR]
theorem do_first {de : ByteArray} {p : List Int} : DoP (newSt 1048576) ⟨1, sA, de, p⟩ = (0, stR [] 0) := by
  have hg : stB (newSt 1048576) = true := by kernel_rfl
  have hm : mayF sA = true := by kernel_rfl
  have hdo : doP (newSt 1048576) ⟨1, sA, de, p⟩ = (0, stR [] 0) := by
    unfold doP
    dsimp only
    rw [if_neg (by decide), if_pos rfl]
    unfold createP
    dsimp only
    rw [if_neg (by rw [hm]; decide), if_neg (by simp [hasN, newSt]), if_neg (by simp [newSt])]
    rfl
  rw [DoP, if_neg (by rw [hg]; decide), hdo]
  dsimp only
  rw [if_pos rfl]
theorem read_stR {d : List Int} {sy : Int} (hd : d.length ≤ 1048576) (h0 : 0 ≤ sy) (h1 : sy ≤ (d.length : Int)) : readP (stR d sy) sA = (d, 0) := by
  have hg := stB_iff.2 (good_stR hd h0 h1)
  rw [readP, if_neg (by rw [hg]; decide), show findN (stR d sy).names sA = some ⟨sA, 1⟩ from find_stR]
  rfl
theorem small_stR {d : List Int} {sy : Int} (hd : d.length ≤ 1048576) : Small (stR d sy) := ⟨by simp [stR], by simp [stR], by simp [stR], fun f hf => by simp only [stR, List.mem_singleton] at hf; subst hf; exact hd⟩
theorem wf_stR {d : List Int} {sy : Int} : Wf (stR d sy) := ⟨fun n hn => by simp only [stR, List.mem_singleton] at hn; subst hn; decide, fun n hn => by simp [stR] at hn⟩

/-- a state's value of one's own, none of whose rows is block row -/
def RsX (w : World) (row : Option Nat) (v : Value) (s : St) : Prop :=
  ∃ vF vN vS L, v = .agg #[.int .i64 s.cap, vF, vN, vS, .int .i64 s.next] ∧ OF 79 w 0 vF L ∧ L.map (·.1) = s.files ∧ RN w 0 vN s.names ∧ RN w 0 vS s.safe ∧
    ∀ b, row = some b → vF.ownBlock ≠ some b ∧ vN.ownBlock ≠ some b ∧ vS.ownBlock ≠ some b ∧ ∀ x ∈ L, x.2.ownBlock ≠ some b
theorem Rs.x {w : World} {base : Nat} {v : Value} {s : St} (h : Rs w base v s) (row : Option Nat) (hr : ∀ k, row = some k → k < base) : RsX w row v s := by
  obtain ⟨vF, vN, vS, L, h1, h2, h3, h4, h5⟩ := h
  refine ⟨vF, vN, vS, L, h1, h2.lower (Nat.zero_le _), h3, Kd.R_lower h4 (Nat.zero_le _), Kd.R_lower h5 (Nat.zero_le _), fun b hb => ?_⟩
  have hlt := hr b hb
  refine ⟨fun e => ?_, fun e => ?_, fun e => ?_, fun x hx e => ?_⟩
  · have := (h2.row.block b e).1; omega
  · have := (RN_block h4 b e).1; omega
  · have := (RN_block h5 b e).1; omega
  · have := own_base (h2.own x hx) b e; omega
theorem RsX.rs {w : World} {row : Option Nat} {v : Value} {s : St} (h : RsX w row v s) : Rs w 0 v s := by
  obtain ⟨vF, vN, vS, L, h1, h2, h3, h4, h5, _⟩ := h
  exact ⟨vF, vN, vS, L, h1, h2, h3, h4, h5⟩
theorem RsX.below {w w1 : World} {row : Option Nat} {v : Value} {s : St} (h : RsX w row v s) (hb : Below w.heap.size w w1) : RsX w1 row v s := by
  obtain ⟨vF, vN, vS, L, h1, h2, h3, h4, h5, h6⟩ := h
  exact ⟨vF, vN, vS, L, h1, h2.below hb, h3, Kd.R_below h4 hb, Kd.R_below h5 hb, h6⟩
theorem RsX.far5 {w : World} {row : Option Nat} {g : Nat} {v : Value} {s : St} {cs : Array Value} (h : RsX w row v s) (hg : w.heap[g]? = some (.cells cs 33 (0, 0))) (a b c d f : Value) :
    RsX (((((w.setCell ⟨g, 0, none⟩ a).setCell ⟨g, 1, none⟩ b).setCell ⟨g, 2, none⟩ c).setCell ⟨g, 3, none⟩ d).setCell ⟨g, 4, none⟩ f) row v s := by
  obtain ⟨vF, vN, vS, L, h1, h2, h3, h4, h5, h6⟩ := h
  exact ⟨vF, vN, vS, L, h1, h2.far5 hg (by decide) (by decide) _ _ _ _ _, h3, Rset5 h4 (apart_of hg RN_types) _ _ _ _ _, Rset5 h5 (apart_of hg RN_types) _ _ _ _ _, h6⟩
theorem RsX.grown {w w1 : World} {row : Option Nat} {v : Value} {s : St} (h : RsX w row v s) (hg : w.grownBy w1 row) : RsX w1 row v s := by
  obtain ⟨vF, vN, vS, L, h1, h2, h3, h4, h5, h6⟩ := h
  refine ⟨vF, vN, vS, L, h1, h2.step (fun k hk => hg.block k (h2.row.block k hk).2.1 (fun e => (h6 k e.symm).1 hk)) (fun x hx k hk => hg.block k (own_lt (h2.own x hx) k hk) (fun e => (h6 k e.symm).2.2.2 x hx hk)), h3,
    RN_step h4 (fun k hk => hg.block k (RN_block h4 k hk).2.1 (fun e => (h6 k e.symm).2.1 hk)), RN_step h5 (fun k hk => hg.block k (RN_block h5 k hk).2.1 (fun e => (h6 k e.symm).2.2.1 hk)), h6⟩
theorem RsX.turn {w : World} {row row' : Option Nat} {v : Value} {s : St} (h : RsX w row v s) (hr : row' = row ∨ ∃ b, row' = some b ∧ w.heap.size ≤ b) : RsX w row' v s := by
  rcases hr with rfl | ⟨b, rfl, hb⟩
  · exact h
  · obtain ⟨vF, vN, vS, L, h1, h2, h3, h4, h5, h6⟩ := h
    refine ⟨vF, vN, vS, L, h1, h2, h3, h4, h5, fun c hc => ?_⟩
    injection hc with hc
    subst hc
    refine ⟨fun e => ?_, fun e => ?_, fun e => ?_, fun x hx e => ?_⟩
    · have := (h2.row.block b e).2.1; omega
    · have := (RN_block h4 b e).2.1; omega
    · have := (RN_block h5 b e).2.1; omega
    · have := own_lt (h2.own x hx) b e; omega
/-- a row of octets has grown by something: the state's rows stay apart from it -/
theorem RsX.grown2 {w w1 : World} {row row' : Option Nat} {v : Value} {s : St} (h : RsX w row v s) (hg : w.grownBy w1 row) (hr : row' = row ∨ ∃ b, row' = some b ∧ w.heap.size ≤ b) : RsX w1 row' v s := by
  obtain ⟨vF, vN, vS, L, h1, h2, h3, h4, h5, h6⟩ := h
  refine ⟨vF, vN, vS, L, h1, h2.step (fun k hk => hg.block k (h2.row.block k hk).2.1 (fun e => (h6 k e.symm).1 hk)) (fun x hx k hk => hg.block k (own_lt (h2.own x hx) k hk) (fun e => (h6 k e.symm).2.2.2 x hx hk)), h3,
    RN_step h4 (fun k hk => hg.block k (RN_block h4 k hk).2.1 (fun e => (h6 k e.symm).2.1 hk)), RN_step h5 (fun k hk => hg.block k (RN_block h5 k hk).2.1 (fun e => (h6 k e.symm).2.2.1 hk)), fun c hc => ?_⟩
  rcases hr with rfl | ⟨b, rfl, hb⟩
  · exact h6 c hc
  · injection hc with hc
    subst hc
    refine ⟨fun e => ?_, fun e => ?_, fun e => ?_, fun x hx e => ?_⟩
    · have := (h2.row.block b e).2.1; omega
    · have := (RN_block h4 b e).2.1; omega
    · have := (RN_block h5 b e).2.1; omega
    · have := own_lt (h2.own x hx) b e; omega
theorem grown_set5 (w : World) (g : Nat) (a b c d e : Value) : w.grownBy (((((w.setCell ⟨g, 0, none⟩ a).setCell ⟨g, 1, none⟩ b).setCell ⟨g, 2, none⟩ c).setCell ⟨g, 3, none⟩ d).setCell ⟨g, 4, none⟩ e) (some g) :=
  have h : ∀ (w : World) o v, w.grownBy (w.setCell ⟨g, o, none⟩ v) (some g) := fun w o v => setCells_grown w g o [v]
  grown_trans (grown_trans (grown_trans (grown_trans (h w 0 a) (h _ 1 b)) (h _ 2 c)) (h _ 3 d)) (h _ 4 e)
theorem RB_set5 {w : World} {base g : Nat} {v : Value} {l : List Int} {cs : Array Value} (h : RB w base v l) (hg : w.heap[g]? = some (.cells cs 33 (0, 0))) {a b c d e : Value} : RB (((((w.setCell ⟨g, 0, none⟩ a).setCell ⟨g, 1, none⟩ b).setCell ⟨g, 2, none⟩ c).setCell ⟨g, 3, none⟩ d).setCell ⟨g, 4, none⟩ e) base v l :=
  RB_step h (fun k hk => keep5 _ _ _ _ _ (by obtain ⟨cs', h3⟩ := own_typed h k hk; exact type_ne h3 hg (by decide)))
theorem bjoin {B : Nat} {a b c : World} (h : Below B a b) (k : Below B b c) : Below B a c := ⟨k.os.trans h.os, k.tape.trans h.tape, k.output.trans h.output, Nat.le_trans h.size k.size, fun i hi => (k.block i hi).trans (h.block i hi)⟩
/-- a state laid into a new variable, made ahead of the call -/
theorem laid_first {w0 wr w7 : World} {g5 : Nat} {row : Option Nat} {cs : Array Value} {a b c d e n F N S m : Value} {s : St} (hg : wr.heap[g5]? = some (.cells cs 33 (0, 0))) (hB : Below w0.heap.size w0 wr) (hrow : ∀ k, row = some k → k < wr.heap.size)
    (hb : Below (wr.alloc (.cells #[a, b, c, d, e] 33)).drew.heap.size (wr.alloc (.cells #[a, b, c, d, e] 33)).drew w7) (hv : Rs w7 (wr.alloc (.cells #[a, b, c, d, e] 33)).drew.heap.size (.agg #[n, F, N, S, m]) s) :
    ((((((w7.setCell ⟨wr.heap.size, 0, none⟩ n).setCell ⟨wr.heap.size, 1, none⟩ F).setCell ⟨wr.heap.size, 2, none⟩ N).setCell ⟨wr.heap.size, 3, none⟩ S).setCell ⟨wr.heap.size, 4, none⟩ m).heap[wr.heap.size]? = some (.cells #[n, F, N, S, m] 33 (0, 0)) ∧
      RsX (((((w7.setCell ⟨wr.heap.size, 0, none⟩ n).setCell ⟨wr.heap.size, 1, none⟩ F).setCell ⟨wr.heap.size, 2, none⟩ N).setCell ⟨wr.heap.size, 3, none⟩ S).setCell ⟨wr.heap.size, 4, none⟩ m) row (.agg #[n, F, N, S, m]) s) ∧
    (g5 ≠ wr.heap.size ∧ w0.heap.size ≤ wr.heap.size ∧ Below wr.heap.size wr (((((w7.setCell ⟨wr.heap.size, 0, none⟩ n).setCell ⟨wr.heap.size, 1, none⟩ F).setCell ⟨wr.heap.size, 2, none⟩ N).setCell ⟨wr.heap.size, 3, none⟩ S).setCell ⟨wr.heap.size, 4, none⟩ m)) := by
  have h1 := blk_keep (blk_drew (blk_new wr _)) hb
  have hs : (wr.alloc (.cells #[a, b, c, d, e] 33)).drew.heap.size = wr.heap.size + 1 := by simp [World.drew]
  have hal : Below wr.heap.size wr (wr.alloc (.cells #[a, b, c, d, e] 33)).drew := below_drew (below_alloc (Below.refl _ _) _)
  exact ⟨⟨blk5 h1, (hv.x row (fun k hk => by have := hrow k hk; omega)).far5 h1 _ _ _ _ _⟩, Nat.ne_of_lt (blk_lt hg), hB.size, below_set5 (bthen hal hb) (Nat.le_refl _) _ _ _ _ _⟩
/-- a state laid into a new variable, made behind the call -/
theorem laid_last {w0 wr w7 : World} {g5 : Nat} {row : Option Nat} {cs : Array Value} {n F N S m : Value} {s : St} (hg : wr.heap[g5]? = some (.cells cs 33 (0, 0))) (hB : Below w0.heap.size w0 wr) (hrow : ∀ k, row = some k → k < wr.heap.size)
    (hb : Below wr.heap.size wr w7) (hv : Rs w7 wr.heap.size (.agg #[n, F, N, S, m]) s) :
    ((w7.alloc (.cells #[n, F, N, S, m] 33)).heap[w7.heap.size]? = some (.cells #[n, F, N, S, m] 33 (0, 0)) ∧ RsX (w7.alloc (.cells #[n, F, N, S, m] 33)) row (.agg #[n, F, N, S, m]) s) ∧
    (g5 ≠ w7.heap.size ∧ w0.heap.size ≤ w7.heap.size ∧ Below wr.heap.size wr (w7.alloc (.cells #[n, F, N, S, m] 33))) := by
  have h1 := blk_lt hg
  have h2 := hb.size
  have h3 := hB.size
  exact ⟨⟨blk_new _ _, (hv.x row hrow).below (below_alloc (Below.refl _ _) _)⟩, by omega, by omega, below_alloc hb _⟩
end Go.Proofs.Ytfakfgblaakgdaa.Files

/- FilesReads: the law's function walked: it returns true. -/
namespace Go.Proofs.Ytfakfgblaakgdaa.Files
set_option linter.unusedVariables false
set_option linter.unusedSimpArgs false
open Go.RowKit Go.Proofs.YtfakfgblaakgdaaW.PrintWords Go.Proofs.YtfakfgblaakgdaaW.PrintLast Go.Proofs.Ytfakfgblaakgdaa.Base Go.Proofs.Ytfakfgblaakgdaa.Cells Go.Proofs.Ytfakfgblaakgdaa.Ints Go.Proofs.Ytfakfgblaakgdaa.Var Go.Proofs.Ytfakfgblaakgdaa.EditPure Go.Proofs.Ytfakfgblaakgdaa.Edit Go.Proofs.Ytfakfgblaakgdaa.Sets Go.Proofs.Ytfakfgblaakgdaa.Wide Go.Proofs.Ytfakfgblaakgdaa.RowsC

/-- part i of a row of parts that is read -/
theorem atPart {w : World} {A : Option Addr} {n : Nat} {xs : List (List Int)} (h : kOct.C w A n xs) (i : Nat) (m : List Int) (hi : xs[i]? = some m) :
    ∃ ad D dc, A = some ad ∧ w.cell? (ad.add i) = some (.slice D m.length dc) ∧ m.length ≤ dc ∧ ReadsInt w .u8 D m.length m := by
  have hlt : i < xs.length := (List.getElem?_eq_some_iff.1 hi).1
  have hn := Kd.C_len h
  obtain ⟨ad, c, e, _, hK, hc0⟩ := Kd.C_get h [] (i : Int) (by omega) (by omega)
  have hg : xs.getD (i : Int).toNat [] = m := by rw [Int.toNat_natCast, List.getD_eq_getElem?_getD, hi]; rfl
  rw [hg] at hK
  rw [Int.toNat_natCast] at hc0
  obtain ⟨D, dc, rfl, hl, hr⟩ := hK
  have h1 : w.cell? (ad.add (i * 1 + 0)) = some (.slice D m.length dc) := hc0 0 _ rfl
  rw [Nat.mul_one, Nat.add_zero] at h1
  exact ⟨ad, D, dc, e, h1, hl, Kd.reads_of_C (d := (0 : Int)) hr⟩

set_option maxRecDepth 100000 in
set_option maxHeartbeats 8000000 in
theorem reads_walk (P : List (List Int)) (Y : List Bool) (A B : Option Addr) (ac bc : Nat) (w : World) (hA : kOct.C w A P.length P) (hB : ReadsOf Value.bool false w B Y.length Y) (hp : P.length ≤ 1048576) (hy : Y.length ≤ 1048576) (hl : ∀ p ∈ P, p.length ≤ 1048576) :
    Calls Try.prog 5 #[.slice A P.length ac, .slice B Y.length bc] w fun e w' => e = .returned (.bool true) ∧ Below w.heap.size w w' := by
  have HA := Aside0.mk hA
  have HB := Aside0.mk hB
  have HL := Aside0.mk hl
  obtain ⟨np, hnp⟩ : ∃ n, P.length = n := ⟨_, rfl⟩
  obtain ⟨ny, hny⟩ : ∃ n, Y.length = n := ⟨_, rfl⟩
  rw [hnp] at hp ⊢
  rw [hny] at hy ⊢
  have NP := Aside0.mk hnp
  have NY := Aside0.mk hny
  clear hA hB hl hnp hny
  go_enter Try.func5, Try.ntmps5
  go_wp2_with fail
  refine (alive_any w).mono ?_
  rintro e w0 ⟨rfl, hb0⟩
  go_wp2_with fail
  refine (new_any 1048576 w0 (by decide) (by decide)).mono ?_
  rintro e w1 ⟨v1, rfl, hv1, hb1⟩
  obtain ⟨n1, F1, lf1, fc1, N1, ln1, nc1, S1, ls1, sc1, m1, rfl⟩ := hv1.show_
  go_upto_region 4 with (fail)
  obtain ⟨g5, hg5⟩ : ∃ g, g = w1.heap.size := ⟨_, rfl⟩
  obtain ⟨W1, hW1⟩ : ∃ W, W = w1.alloc (.cells #[.int .i64 n1, .slice F1 lf1 fc1, .slice N1 ln1 nc1, .slice S1 ls1 sc1, .int .i64 m1] 33) := ⟨_, rfl⟩
  have HX1 : Aside0 (Box W1 g5 (newSt 1048576) (.int .i64 n1) (.slice F1 lf1 fc1) (.slice N1 ln1 nc1) (.slice S1 ls1 sc1) (.int .i64 m1)) := ⟨by rw [hW1, hg5]; exact ⟨blk_new _ _, (hv1.lower (Nat.zero_le _)).below (below_alloc (Below.refl _ _) _)⟩⟩
  have HB1 : Aside0 (Below w.heap.size w W1) := ⟨by rw [hW1]; exact bthen hb0 (bthen hb1 (below_alloc (Below.refl _ _) _))⟩
  have hgw : w.heap.size ≤ g5 := by rw [hg5]; have := hb0.size; have := hb1.size; omega
  rw [← hW1, ← hg5]
  clear hW1 hv1 hb1 hb0 hg5
  obtain ⟨x0, x1, x2, x3, x4, _, _, _, _, _⟩ := all5 HX1.out.1
  go_wp2_with fail
  refine (do_at (s := newSt 1048576) (a := ⟨1, sA, ⟨#[]⟩, []⟩) HX1.out.2.at_ (small_nil _ _) (wf_nil _ _) (ReadsInt.nil _ _) (by decide) rfl rfl rfl).mono ?_
  rw [show DoP (newSt 1048576) ⟨1, sA, ⟨#[]⟩, []⟩ = (0, stR [] 0) from do_first]
  rintro e w2 ⟨v2, rfl, hv2, hb2⟩
  obtain ⟨n2, F2, lf2, fc2, N2, ln2, nc2, S2, ls2, sc2, m2, rfl⟩ := hv2.show_
  have hk := blk_keep HX1.out.1 hb2
  obtain ⟨z0, z1, z2, z3, z4, f0, f1, f2, f3, f4⟩ := all5 hk
  clear x0 x1 x2 x3 x4
  go_upto_region 5 with (fail)
  obtain ⟨W2, hW2⟩ : ∃ W, W = (((((w2.setCell ⟨g5, 0, none⟩ (.int .i64 n2)).setCell ⟨g5, 1, none⟩ (.slice F2 lf2 fc2)).setCell ⟨g5, 2, none⟩ (.slice N2 ln2 nc2)).setCell ⟨g5, 3, none⟩ (.slice S2 ls2 sc2)).setCell ⟨g5, 4, none⟩ (.int .i64 m2)) := ⟨_, rfl⟩
  have HX2 : Aside0 (W2.heap[g5]? = some (.cells #[.int .i64 n2, .slice F2 lf2 fc2, .slice N2 ln2 nc2, .slice S2 ls2 sc2, .int .i64 m2] 33 (0, 0)) ∧ RsX W2 none (.agg #[.int .i64 n2, .slice F2 lf2 fc2, .slice N2 ln2 nc2, .slice S2 ls2 sc2, .int .i64 m2]) (stR [] 0)) := ⟨by rw [hW2]; exact ⟨blk5 hk, (hv2.x none (fun k h => by cases h)).far5 hk _ _ _ _ _⟩⟩
  have HB2 : Aside0 (Below w.heap.size w W2) := ⟨by rw [hW2]; exact below_set5 (bthen HB1.out hb2) hgw _ _ _ _ _⟩
  rw [← hW2]
  clear hW2 hv2 hb2 hk z0 z1 z2 z3 z4 f0 f1 f2 f3 f4 HX1 HB1
  go_wp2
  go_loopg [8, 9] np (fun gk v8 v9 wr => ∃ (i : Nat) (d : List Int) (sy : Int) (C : Option Addr) (cc : Nat) (n : Int) (F : Option Addr) (lf fc : Nat) (N : Option Addr) (ln nc : Nat) (S : Option Addr) (ls sc : Nat) (m : Int), v9 = .int .i64 i ∧ v8 = .slice C d.length cc ∧ gk + i = np ∧ d.length ≤ 1048576 ∧ 0 ≤ sy ∧ sy ≤ (d.length : Int) ∧
    Aside0 (RB wr w.heap.size (.slice C d.length cc) d) ∧ Aside0 (wr.heap[g5]? = some (.cells #[.int .i64 n, .slice F lf fc, .slice N ln nc, .slice S ls sc, .int .i64 m] 33 (0, 0)) ∧ RsX wr (Value.slice C d.length cc).ownBlock (.agg #[.int .i64 n, .slice F lf fc, .slice N ln nc, .slice S ls sc, .int .i64 m]) (stR d sy)) ∧ Aside0 (Below w.heap.size w wr))
  case atStart => exact ⟨0, [], 0, none, 0, n2, F2, lf2, fc2, N2, ln2, nc2, S2, ls2, sc2, m2, rfl, rfl, by omega, by simp, by omega, by simp, ⟨own_nil _ _ _ _⟩, HX2, HB2⟩
  case round =>
    obtain ⟨i, d, sy, C, cc, n3, F3, lf3, fc3, N3, ln3, nc3, S3, ls3, sc3, m3, rfl, rfl, hgk, hd, hs0, hs1, HC, HX, HBr⟩ := hrel
    by_cases hgo : i < np ∧ i < 30
    · obtain ⟨hlt, h30⟩ := hgo
      have hlt' : (i : Int) < (np : Int) := by omega
      have h30' : (i : Int) < 30 := by omega
      obtain ⟨p, hp'⟩ : ∃ p, P[i]? = some p := ⟨_, List.getElem?_eq_getElem (by have := NP.out; omega)⟩
      obtain ⟨ad, D, dc, hAs, c0, hdl, hrd⟩ := atPart (Kd.C_below HA.out HBr.out) i p hp'
      have hpl := HL.out p (List.mem_of_getElem? hp')
      subst hAs
      obtain ⟨lp, hlp⟩ : ∃ n, p.length = n := ⟨_, rfl⟩
      obtain ⟨ld, hld⟩ : ∃ n, d.length = n := ⟨_, rfl⟩
      rw [hlp] at c0 hpl
      rw [hld] at hd hs1 HC HX ⊢
      have LP := Aside0.mk hlp
      have LD := Aside0.mk hld
      have C0 := Aside0.mk c0
      have HRD := Aside0.mk hrd
      obtain ⟨dq, hdq⟩ := named (DoP (stR d sy) ⟨2, sA, ⟨#[]⟩, p⟩)
      obtain ⟨er, hner⟩ := named dq.1
      clear hp' hrd hlp hld hdl
      go_upto_region 9 with (fail)
      go_cut [10, 11] (fun v10 v11 wc => v11 = .int .i64 er ∧ ∃ (g10 : Nat) (n4 : Int) (F4 : Option Addr) (lf4 fc4 : Nat) (N4 : Option Addr) (ln4 nc4 : Nat) (S4 : Option Addr) (ls4 sc4 : Nat) (m4 : Int), v10 = .pointer (some ⟨g10, 0, none⟩) ∧ Aside0 (wc.heap[g10]? = some (.cells #[.int .i64 n4, .slice F4 lf4 fc4, .slice N4 ln4 nc4, .slice S4 ls4 sc4, .int .i64 m4] 33 (0, 0)) ∧ RsX wc (Value.slice C ld cc).ownBlock (.agg #[.int .i64 n4, .slice F4 lf4 fc4, .slice N4 ln4 nc4, .slice S4 ls4 sc4, .int .i64 m4]) (dq.2)) ∧ Aside0 (g5 ≠ g10 ∧ w.heap.size ≤ g10 ∧ Below wr.heap.size wr wc))
      case first =>
        have HD : Aside0 (Below wr.heap.size wr wr.drew) := ⟨below_drew (Below.refl _ _)⟩
        obtain ⟨x0, x1, x2, x3, x4, _, _, _, _, _⟩ := all5 (blk_keep HX.out.1 HD.out)
        have y0 : wr.drew.cell? (ad.add i) = some (.slice D lp dc) := C0.out
        have HAl : Aside0 (∀ o, Below wr.heap.size wr (wr.drew.alloc o)) := ⟨fun o => below_alloc HD.out o⟩
        have y1 : ∀ o, (wr.alloc o).drew.cell? (ad.add i) = some (.slice D lp dc) := fun o => pw_cell_below (HAl.out o) C0.out
        have a0 : ∀ o, (wr.alloc o).drew.cell? ⟨g5, 0, none⟩ = some (.int .i64 n3) := fun o => (all5 (blk_keep HX.out.1 (HAl.out o))).1
        have a1 : ∀ o, (wr.alloc o).drew.cell? ⟨g5, 1, none⟩ = some (.slice F3 lf3 fc3) := fun o => (all5 (blk_keep HX.out.1 (HAl.out o))).2.1
        have a2 : ∀ o, (wr.alloc o).drew.cell? ⟨g5, 2, none⟩ = some (.slice N3 ln3 nc3) := fun o => (all5 (blk_keep HX.out.1 (HAl.out o))).2.2.1
        have a3 : ∀ o, (wr.alloc o).drew.cell? ⟨g5, 3, none⟩ = some (.slice S3 ls3 sc3) := fun o => (all5 (blk_keep HX.out.1 (HAl.out o))).2.2.2.1
        have a4 : ∀ o, (wr.alloc o).drew.cell? ⟨g5, 4, none⟩ = some (.int .i64 m3) := fun o => (all5 (blk_keep HX.out.1 (HAl.out o))).2.2.2.2.1
        go_region_law (go_simp; go_wp2_with (go_at_call 23; refine Calls.mono (do_at (s := stR d sy) (a := ⟨2, sA, ⟨#[]⟩, p⟩) (HX.out.2.below (by first | with_reducible exact HD.out | exact HAl.out _)).rs.at_ (small_stR (by rw [LD.out]; exact hd)) wf_stR (by rw [← LP.out]; exact HRD.out.below (by first | with_reducible exact HD.out | exact HAl.out _)) hpl rfl rfl rfl) ?_; rw [← hdq.out]; rintro e w7 ⟨v7, rfl, hv7, hb7⟩; rw [← hner.out]; obtain ⟨n7, F7, lf7, fc7, N7, ln7, nc7, S7, ls7, sc7, m7, rfl⟩ := hv7.show_; first | (revert hb7; guard_target =~ (Below (World.drew (World.alloc wr _)).heap.size _ _ → _); intro hb7; obtain ⟨k0, k1, k2, k3, k4, kf0, kf1, kf2, kf3, kf4⟩ := all5 (blk_keep (blk_drew (blk_new _ _)) hb7)) | skip))
        all_goals go_wp2_with fail
        all_goals go_meet
        all_goals first
          | (obtain ⟨q1, q2⟩ := laid_first HX.out.1 HBr.out (fun k hk => own_lt HC.out k hk) hb7 hv7
             exact ⟨rfl, _, n7, F7, lf7, fc7, N7, ln7, nc7, S7, ls7, sc7, m7, rfl, ⟨q1⟩, ⟨q2⟩⟩)
          | (obtain ⟨q1, q2⟩ := laid_last HX.out.1 HBr.out (fun k hk => own_lt HC.out k hk) (bjoin HD.out hb7) hv7
             exact ⟨rfl, _, n7, F7, lf7, fc7, N7, ln7, nc7, S7, ls7, sc7, m7, rfl, ⟨q1⟩, ⟨q2⟩⟩)
      case rest =>
        obtain ⟨rfl, g10, n4, F4, lf4, fc4, N4, ln4, nc4, S4, ls4, sc4, m4, rfl, HT, HTB⟩ := hcut
        have HBc : Aside0 (Below w.heap.size w wc) := ⟨bthen HBr.out HTB.out.2.2⟩
        have c0 := pw_cell_below HTB.out.2.2 C0.out
        have hdo := do_append (p := p) (de := ⟨#[]⟩) (d := d) (sy := sy) (by rw [LD.out]; exact hd) hs0 (by rw [LD.out]; exact hs1)
        have HXk : Aside0 (wc.heap[g5]? = some (.cells #[.int .i64 n3, .slice F3 lf3 fc3, .slice N3 ln3 nc3, .slice S3 ls3 sc3, .int .i64 m3] 33 (0, 0))) := ⟨blk_keep HX.out.1 HTB.out.2.2⟩
        have HCc : Aside0 (RB wc w.heap.size (.slice C ld cc) d) := ⟨RB_below HC.out HTB.out.2.2⟩
        have HRDc : Aside0 (ReadsInt wc .u8 D lp p) := ⟨by have := HRD.out.below HTB.out.2.2; rwa [LP.out] at this⟩
        have HNG : Aside0 (g5 ≠ g10 ∧ w.heap.size ≤ g10) := ⟨HTB.out.1, HTB.out.2.1⟩
        clear HTB HBr HX HC
        by_cases hfull : (1048576 : Int) - (ld : Int) < (lp : Int)
        · obtain rfl : er = 51 := by rw [hner.out, hdq.out, hdo, LD.out, LP.out, if_pos hfull]
          clear hdo
          go_wp2_with (go_at_call 20; refine (num_any _ _).mono ?_; rintro e wz ⟨rfl, rfl⟩)
          go_ret
          exact ⟨rfl, HBc.out⟩
        · have hroom : ld + lp ≤ 1048576 := by omega
          obtain rfl : er = 0 := by rw [hner.out, hdq.out, hdo, LD.out, LP.out, if_neg hfull]
          have hq2 : dq.2 = stR (d ++ p) sy := by rw [hdq.out, hdo, LD.out, LP.out, if_neg hfull]
          rw [hq2] at HT
          have HTc := Aside0.mk HT.out
          clear hdo hq2
          have hbw : w.heap.size ≤ wc.heap.size := HBc.out.size
          have HTy : Aside0 (∃ cs, wc.heap[g5]? = some (.cells cs 33 (0, 0))) := ⟨⟨_, HXk.out⟩⟩
          go_upto_region 13 with (at_builtin; refine print_append_row (w0 := w) w.heap.size (by rfl) (.tmp 60) (.tmp 64) 62 5 .u8 1 (by rfl) Try.underlying62 infoB (by decide) (.slice C ld cc) d p D lp dc (by rfl) (by rfl) ?aO ?aR ?aB ?aS ?c1 ?_; (case aO => have h9 := HCc.out; unfold RB at h9; rw [LD.out] at h9; exact (LD.out.symm ▸ h9)); (case aR => exact HRDc.out); (case aB => exact HBc.out); (case aS => exact hbw); (case c1 => rw [LD.out]; omega); intro v1 w1 hown hB1 hg1 hat; have HO1 := Aside0.mk hown; have HB1 := Aside0.mk hB1; have HG1 := Aside0.mk (And.intro hg1 hat); clear hown hB1 hg1 hat)
          have HR1 : Aside0 (RB w1 w.heap.size v1 (d ++ p)) := ⟨HO1.out⟩
          obtain ⟨A1, c1, rfl⟩ := own_slice HR1.out
          obtain ⟨l1, hl1⟩ : ∃ n, (d ++ p).length = n := ⟨_, rfl⟩
          rw [hl1] at HR1 HG1 ⊢
          have L1 := Aside0.mk hl1
          have hl1' : l1 = ld + lp := by rw [← hl1, List.length_append, LD.out, LP.out]
          have hty : ∀ (k : Nat) (cs : Array Value), wc.heap[k]? = some (.cells cs 33 (0, 0)) → w1.heap[k]? = some (.cells cs 33 (0, 0)) := fun k cs hk => (HG1.out.1.block k (blk_lt hk) (fun e => by
            obtain ⟨cs', h3⟩ := own_typed HCc.out k e.symm
            exact type_ne hk h3 (by decide) rfl)).trans hk
          have HK5 := Aside0.mk (hty g5 _ HXk.out)
          have HT1 : Aside0 (w1.heap[g10]? = some (.cells #[.int .i64 n4, .slice F4 lf4 fc4, .slice N4 ln4 nc4, .slice S4 ls4 sc4, .int .i64 m4] 33 (0, 0)) ∧ RsX w1 (Value.slice A1 l1 c1).ownBlock (.agg #[.int .i64 n4, .slice F4 lf4 fc4, .slice N4 ln4 nc4, .slice S4 ls4 sc4, .int .i64 m4]) (stR (d ++ p) sy)) := ⟨hty g10 _ HTc.out.1, HTc.out.2.grown2 HG1.out.1 HG1.out.2⟩
          have hsy' : sy ≤ (l1 : Int) := by omega
          have hl1m : l1 ≤ 1048576 := by omega
          clear hl1 hty HTy HTc HXk HCc HRDc HO1 hdq hner hl1' hroom hfull
          go_cut [75] (fun v75 wd => ∃ sb, v75 = .bool sb ∧ w1 = wd)
          case first =>
            by_cases hin : i < ny
            · have hin' : (i : Int) < (ny : Int) := by omega
              obtain ⟨adB, hBs, cb⟩ := (HB.out.below HB1.out).at_ (i : Int) (by omega) (by rw [NY.out]; omega)
              subst hBs
              rw [Int.toNat_natCast] at cb
              obtain ⟨sb, hsb⟩ : ∃ b, rdOf false Y (i : Int) = b := ⟨_, rfl⟩
              rw [hsb] at cb
              clear hsb
              go_wp2_with fail
              all_goals go_meet
              all_goals exact ⟨sb, rfl, rfl⟩
            · have hin' : ¬ ((i : Int) < (ny : Int)) := by omega
              go_wp2_with fail
              all_goals go_meet
              all_goals exact ⟨false, rfl, rfl⟩
          case rest =>
            obtain ⟨sb, rfl, rfl⟩ := hcut
            go_upto_if 75 with (fail)
            go_cut [12] (fun v12 wd => ∃ (sy' n5 : Int) (F5 : Option Addr) (lf5 fc5 : Nat) (N5 : Option Addr) (ln5 nc5 : Nat) (S5 : Option Addr) (ls5 sc5 : Nat) (m5 : Int), 0 ≤ sy' ∧ sy' ≤ (l1 : Int) ∧ Aside0 (wd.heap[g10]? = some (.cells #[.int .i64 n5, .slice F5 lf5 fc5, .slice N5 ln5 nc5, .slice S5 ls5 sc5, .int .i64 m5] 33 (0, 0)) ∧ RsX wd (Value.slice A1 l1 c1).ownBlock (.agg #[.int .i64 n5, .slice F5 lf5 fc5, .slice N5 ln5 nc5, .slice S5 ls5 sc5, .int .i64 m5]) (stR (d ++ p) sy')) ∧ Aside0 (w1.grownBy wd (some g10)))
            case first =>
              cases sb with
              | false =>
                go_wp2_with fail
                all_goals go_meet
                all_goals exact ⟨sy, n4, F4, lf4, fc4, N4, ln4, nc4, S4, ls4, sc4, m4, hs0, hsy', HT1, ⟨grown_refl _ _⟩⟩
              | true =>
                obtain ⟨x0, x1, x2, x3, x4, _, _, _, _, _⟩ := all5 HT1.out.1
                go_wp2_with fail
                refine (do_at (s := stR (d ++ p) sy) (a := ⟨3, sA, ⟨#[]⟩, []⟩) HT1.out.2.rs.at_ (small_stR (by rw [L1.out]; exact hl1m)) wf_stR (ReadsInt.nil _ _) (by decide) rfl rfl rfl).mono ?_
                rw [do_sync (d := d ++ p) (sy := sy) (by rw [L1.out]; exact hl1m) hs0 (by rw [L1.out]; exact hsy'), L1.out]
                rintro e w8 ⟨v8, rfl, hv8, hb8⟩
                obtain ⟨n8, F8, lf8, fc8, N8, ln8, nc8, S8, ls8, sc8, m8, rfl⟩ := hv8.show_
                clear x0 x1 x2 x3 x4
                go_upto_region 15 with (fail)
                obtain ⟨W8, hW8⟩ : ∃ W, W = w8.alloc (.cells #[.int .i64 n8, .slice F8 lf8 fc8, .slice N8 ln8 nc8, .slice S8 ls8 sc8, .int .i64 m8] 33) := ⟨_, rfl⟩
                have HK8 : Aside0 (W8.heap[w8.heap.size]? = some (.cells #[.int .i64 n8, .slice F8 lf8 fc8, .slice N8 ln8 nc8, .slice S8 ls8 sc8, .int .i64 m8] 33 (0, 0))) := ⟨by rw [hW8]; exact blk_new _ _⟩
                have HB8 : Aside0 (Below w1.heap.size w1 W8) := ⟨by rw [hW8]; exact below_alloc hb8 _⟩
                have HV8 : Aside0 (RsX W8 (Value.slice A1 l1 c1).ownBlock (.agg #[.int .i64 n8, .slice F8 lf8 fc8, .slice N8 ln8 nc8, .slice S8 ls8 sc8, .int .i64 m8]) (stR (d ++ p) (l1 : Int))) := ⟨by rw [hW8]; exact (hv8.x _ (fun k hk => own_lt HR1.out k hk)).below (below_alloc (Below.refl _ _) _)⟩
                rw [← hW8]
                clear hW8 hv8 hb8
                have hkg := blk_keep HT1.out.1 HB8.out
                obtain ⟨y0, y1, y2, y3, y4, _, _, _, _, _⟩ := all5 HK8.out
                obtain ⟨z0, z1, z2, z3, z4, f0, f1, f2, f3, f4⟩ := all5 hkg
                have HKG := Aside0.mk hkg
                clear hkg
                go_wp2_with (go_at_call 20; refine (num_any _ _).mono ?_; rintro e wz ⟨rfl, rfl⟩)
                all_goals go_meet
                all_goals exact ⟨(l1 : Int), n8, F8, lf8, fc8, N8, ln8, nc8, S8, ls8, sc8, m8, by omega, Int.le_refl _, ⟨⟨blk5 HKG.out, HV8.out.far5 HKG.out _ _ _ _ _⟩⟩, ⟨grown_trans (grown_of_below HB8.out _) (grown_set5 _ _ _ _ _ _ _)⟩⟩
            case rest =>
              obtain ⟨sy', n5, F5, lf5, fc5, N5, ln5, nc5, S5, ls5, sc5, m5, hs0', hs1', HT5, HG5⟩ := hcut
              obtain ⟨wd, hwd⟩ : ∃ wd, wd = wc := ⟨_, rfl⟩
              rw [← hwd] at HT5 HG5 ⊢
              clear hwd
              have hg510 : (some g5 : Option Nat) ≠ some g10 := fun e => HNG.out.1 (by injection e)
              have hk5 := (HG5.out.block g5 (blk_lt HK5.out) hg510).trans HK5.out
              have HKd := Aside0.mk hk5
              obtain ⟨x0, x1, x2, x3, x4, _, _, _, _, _⟩ := all5 HT5.out.1
              obtain ⟨z0, z1, z2, z3, z4, f0, f1, f2, f3, f4⟩ := all5 hk5
              have HRd : Aside0 (RB wd w.heap.size (.slice A1 l1 c1) (d ++ p)) := ⟨RB_step HR1.out (fun k hk => HG5.out.block k (own_lt HR1.out k hk) (fun e => by
                injection e with e
                subst e
                obtain ⟨cs, h3⟩ := own_typed HR1.out k hk
                exact type_ne h3 HT1.out.1 (by decide) rfl))⟩
              have HBd : Aside0 (Below w.heap.size w wd) := ⟨below_of_grown HB1.out HG5.out (fun k hk => by injection hk with hk; rw [← hk]; exact HNG.out.2)⟩
              clear hk5 hg510
              go_wp2_with (go_at_call 20; refine (num_any _ _).mono ?_; rintro e wz ⟨rfl, rfl⟩)
              go_roundg (np - (i + 1))
              case measure => omega
              case rel =>
                exact ⟨i + 1, d ++ p, sy', A1, c1, n5, F5, lf5, fc5, N5, ln5, nc5, S5, ls5, sc5, m5, by go_num, by rw [L1.out], by omega, by rw [L1.out]; exact hl1m, hs0', by rw [L1.out]; exact hs1', ⟨by rw [L1.out]; exact RB_set5 HRd.out HKd.out⟩, ⟨⟨blk5 HKd.out, by rw [L1.out]; exact HT5.out.2.far5 HKd.out _ _ _ _ _⟩⟩, ⟨below_set5 HBd.out hgw _ _ _ _ _⟩⟩
    · obtain ⟨x0, x1, x2, x3, x4, _, _, _, _, _⟩ := all5 HX.out.1
      have hrc : ReadsInt wr .u8 C d.length d := by
        obtain ⟨A9, c9, e9, hr9⟩ := RB_reads HC.out
        injection e9 with e1 e2 e3
        subst e1
        exact hr9
      have HRC := Aside0.mk hrc
      have hrd := read_at (s := stR d sy) sA HX.out.2.rs.at_ (small_stR hd) wf_stR
      rw [show readP (stR d sy) sA = (d, 0) from read_stR hd hs0 hs1] at hrd
      have CRD := Aside0.mk hrd
      clear hrc hrd
      rcases Nat.lt_or_ge i np with h1 | h1
      · have h1' : (i : Int) < (np : Int) := by omega
        have h2' : ¬ ((i : Int) < 30) := by omega
        go_wp2_with (first
          | (go_at_call 24; refine CRD.out.mono ?_; rintro e w6 ⟨v6, rfl, hv6, hb6⟩; obtain ⟨A6, c6, rfl, hr6⟩ := RB_reads hv6; have HR6 := Aside0.mk hr6; have HB6 := Aside0.mk hb6; clear hr6 hb6 hv6)
          | (go_at_call 20; refine (num_any _ _).mono ?_; rintro e wz ⟨rfl, rfl⟩)
          | (go_at_call 25; refine (same_any _ _ _ _ _ _ d d _ HR6.out (HRC.out.below HB6.out) rfl).mono ?_; rintro e wz ⟨rfl, rfl⟩))
        go_ret
        exact ⟨rfl, bthen HBr.out HB6.out⟩
      · have h1' : ¬ ((i : Int) < (np : Int)) := by omega
        go_wp2_with (first
          | (go_at_call 24; refine CRD.out.mono ?_; rintro e w6 ⟨v6, rfl, hv6, hb6⟩; obtain ⟨A6, c6, rfl, hr6⟩ := RB_reads hv6; have HR6 := Aside0.mk hr6; have HB6 := Aside0.mk hb6; clear hr6 hb6 hv6)
          | (go_at_call 20; refine (num_any _ _).mono ?_; rintro e wz ⟨rfl, rfl⟩)
          | (go_at_call 25; refine (same_any _ _ _ _ _ _ d d _ HR6.out (HRC.out.below HB6.out) rfl).mono ?_; rintro e wz ⟨rfl, rfl⟩))
        go_ret
        exact ⟨rfl, bthen HBr.out HB6.out⟩
end Go.Proofs.Ytfakfgblaakgdaa.Files

/- FilesReads: for all parts and marks of bulk at most 1048576 the law returns true, and what it is given stays. (Printed by wip/gen_rows.py.) -/
namespace Go.Proofs.Ytfakfgblaakgdaa.rowReads
open Go.ChangeShapes Go.WideShapes Go.ChangeAt Go.RowKit Go.Proofs.Ytfakfgblaakgdaa.Lift
set_option linter.unusedVariables false
set_option linter.unusedSimpArgs false
theorem own : ownKnob Try.prog.godebug = none := by kernel_rfl
theorem laidOut : laidOutB Try.prog = true := by kernel_rfl

set_option maxRecDepth 100000 in
set_option maxHeartbeats 4000000 in
theorem lifted (os : Os) (started : os.Started) (H : Type) (enc : TypeId × Value → H) (F : Stop.Interp) :
    ReturnsInHanded {} Try.checked os 5 .any ((Rows.OpenSpec.upto Rows.filesReadsSpec).pre6 enc Try.prog Try.f5 Rows.filesReadsUptoRow.domain false) (((Rows.OpenSpec.upto Rows.filesReadsSpec).at F).post enc Try.prog Try.f5 false true false false) := by
  refine returnsInHanded_of_cond (C := Try.checked) (s := Rows.OpenSpec.upto Rows.filesReadsSpec) (k := Rows.uptoSmall) rfl own started (by kernel_rfl) Try.func5
    (OpenSpec.witness (enc := enc) (C := Try.checked) (s := Rows.OpenSpec.upto Rows.filesReadsSpec) (k := Rows.uptoSmall) rfl false ⟨#[], #[.slice none 0 0, .slice none 0 0], []⟩ 8 (by kernel_rfl) (by kernel_rfl) (by kernel_rfl)
      (x := ([.nil, .nil], [], [])) (by kernel_rfl) rfl (by kernel_rfl)) ?_
  intro W base args ds gs before hval hW _ hk _
  have hW' := hW
  obtain ⟨p, q, hA0, hV, rfl, hfz, hnd⟩ := hW
  have hA : DataW.TrodAll enc Try.prog W 0 (fun _ => true) true Try.f5.params.toList args.toList ds p := hA0
  rw [Try.params5] at hA hval
  obtain ⟨v0, vs0, d0, ds0, p0, q0, hargs, rfl, rfl, h0, r0⟩ := trodAll_cons hA
  obtain ⟨v1, vs1, d1, ds1, p1, q1, rfl, rfl, rfl, h1, r1⟩ := trodAll_cons r0
  obtain ⟨rfl, rfl, rfl⟩ := trodAll_nil r1
  obtain rfl : args = #[v0, v1] := by cases args; simp_all
  obtain ⟨rfl, rfl⟩ := trodVars_none hV
  have k0 := h0
  have lt0 : ∀ x ∈ p0, x.block < W.heap.size := by obtain ⟨m, hm⟩ := k0; exact DataW.trod_lt m _ _ _ hm
  have k1 := h1
  have lt1 : ∀ x ∈ p1, x.block < W.heap.size := by obtain ⟨m, hm⟩ := k1; exact DataW.trod_lt m _ _ _ hm
  obtain ⟨A0, sn0, c0, rfl⟩ := okWide_slice Try.underlying57 (hval 0 57 v0 rfl rfl)
  obtain ⟨fu0, hf0⟩ := h0
  obtain ⟨B0, l0, b0, hv0, lc0, hC0, fx0, hb0, hs0⟩ := trod_parts (v := .slice A0 sn0 c0) hf0
  injection hv0 with e1 e2 e3
  subst e1 e2 e3
  obtain ⟨A1, sn1, c1, rfl⟩ := okWide_slice Try.underlying58 (hval 1 58 v1 rfl rfl)
  obtain ⟨fu1, hf1⟩ := h1
  obtain ⟨B1, l1, b1, hv1, hC1, hb1⟩ := trod_bools (v := .slice A1 sn1 c1) hf1
  injection hv1 with e1 e2 e3
  subst e1 e2 e3
  have hb : Rows.uptoBulk d0 + Rows.uptoBulk d1 ≤ 1048576 := by
    have h := of_decide_eq_true hk
    simp only [List.append_nil, Rows.uptoBulkAll] at h
    omega
  clear hA0 hk
  refine (Files.reads_walk l0 l1 A0 A1 c0 c1 W hC0 hC1 (by omega) (by omega) (fun p hp => by have := mem_sum (fun m : List Int => m.length) l0 p hp; omega)).mono fun e W' ⟨he, bel⟩ => ?_
  subst he
  exact ⟨_, rfl, _, _, _, [], _, [], hW', trodAll_mk1 (shut_bool Try.underlying4 _), (trodAll_cons_mk (Below.trod laidOut (by kernel_rfl) (of_decide_eq_true (by kernel_rfl)) k0 bel lt0) (trodAll_cons_mk (Below.trod laidOut (by kernel_rfl) (of_decide_eq_true (by kernel_rfl)) k1 bel lt1) trodAll_mk0)), rfl, bel.frame _, fun h => by cases h⟩

theorem proved : Rows.FilesReadsUptoSaid :=
  OpenClaim.holds_of_cond 5 Try.f5 rfl rfl rfl rfl rfl rfl rfl ⟨rfl, rfl, rfl, rfl, rfl⟩ rfl rfl rfl rfl rfl (by kernel_rfl) Try.func5 (by kernel_rfl)
    (of_decide_eq_true (by kernel_rfl)) (by unfold Func.isWrapper; first | (rw [if_pos (by decide +kernel)]; kernel_rfl) | (rw [if_neg (by decide +kernel)]; exact ⟨rfl, rfl⟩))
    (fun os started H enc _ F => lifted os started H enc F)
end Go.Proofs.Ytfakfgblaakgdaa.rowReads
namespace Go.Proofs.Ytfakfgblaakgdaa
theorem filesReads_holds : Rows.FilesReadsUptoSaid := rowReads.proved
#print axioms filesReads_holds
end Go.Proofs.Ytfakfgblaakgdaa
