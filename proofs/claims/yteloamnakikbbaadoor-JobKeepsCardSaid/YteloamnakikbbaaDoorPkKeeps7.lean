/- JobKeeps: for every input the law returns true, and what it is given stays (the library's tables as their initialisers lay them). -/
import Derived.Test.YteloamnakikbbaaDoorPkKeeps6
import Derived.Test.YteloamnakikbbaaDoorPkKeeps5
import Derived.Test.YteloamnakikbbaaDoorPkKeeps4
import Derived.Test.YteloamnakikbbaaDoorPkKeeps3
import Derived.Test.YteloamnakikbbaaDoorPkKeeps2

/- job.Decode: what it computes; walked. -/
namespace Go.Proofs.YteloamnakikbbaaDoor.JDec
set_option linter.unusedVariables false
set_option linter.unusedSimpArgs false
open Go.RowKit Go.Proofs.YteloamnakikbbaaDoorW.PrintWords Go.Proofs.YteloamnakikbbaaDoorW.PrintLast Go.Proofs.YteloamnakikbbaaDoor.Base Go.Proofs.YteloamnakikbbaaDoor.Cells Go.Proofs.YteloamnakikbbaaDoor.Ints Go.Proofs.YteloamnakikbbaaDoor.Var Go.Proofs.YteloamnakikbbaaDoor.VarPure Go.Proofs.YteloamnakikbbaaDoor.Codec Go.Proofs.YteloamnakikbbaaDoor.JScan Go.Proofs.YteloamnakikbbaaDoor.JobPure Go.Proofs.YteloamnakikbbaaDoor.Job

/-- the numbers and the texts, one behind the other -/
def sN (b : List Nat) : Nat → St
  | 0 => (b, 0)
  | i + 1 => (numS 1099511627776 4 (sN b i)).2
def nN (b : List Nat) (i : Nat) : Int := (numS 1099511627776 4 (sN b i)).1
def sT (b : List Nat) : Nat → St
  | 0 => sN b 7
  | i + 1 => (text2 (sT b i)).2
def tT (b : List Nat) (i : Nat) : ByteArray := (text2 (sT b i)).1
def jobD (b : List Nat) : Jb := ⟨nN b 0, tT b 0, tT b 1, tT b 2, nN b 1, nN b 2, nN b 3, nN b 4, nN b 5, nN b 6⟩
def decE (b : List Nat) : Int :=
  if (sT b 3).2 ≠ 0 then (sT b 3).2 else if (sT b 3).1.length ≠ 0 then 23 else chkE (Cron.parseE (tT b 1)) (jobD b)
def decJ (b : List Nat) : Jb := if decE b = 0 then jobD b else j0

/-- the job's cells behind i numbers, behind i texts -/
def arrN (b : List Nat) : Nat → Array Value
  | 0 => #[.int .i64 0, .string ⟨#[]⟩, .string ⟨#[]⟩, .string ⟨#[]⟩, .int .i64 0, .int .i64 0, .int .i64 0, .int .i64 0, .int .i64 0, .int .i64 0]
  | 1 => #[.int .i64 (nN b 0), .string ⟨#[]⟩, .string ⟨#[]⟩, .string ⟨#[]⟩, .int .i64 0, .int .i64 0, .int .i64 0, .int .i64 0, .int .i64 0, .int .i64 0]
  | 2 => #[.int .i64 (nN b 0), .string ⟨#[]⟩, .string ⟨#[]⟩, .string ⟨#[]⟩, .int .i64 (nN b 1), .int .i64 0, .int .i64 0, .int .i64 0, .int .i64 0, .int .i64 0]
  | 3 => #[.int .i64 (nN b 0), .string ⟨#[]⟩, .string ⟨#[]⟩, .string ⟨#[]⟩, .int .i64 (nN b 1), .int .i64 (nN b 2), .int .i64 0, .int .i64 0, .int .i64 0, .int .i64 0]
  | 4 => #[.int .i64 (nN b 0), .string ⟨#[]⟩, .string ⟨#[]⟩, .string ⟨#[]⟩, .int .i64 (nN b 1), .int .i64 (nN b 2), .int .i64 (nN b 3), .int .i64 0, .int .i64 0, .int .i64 0]
  | 5 => #[.int .i64 (nN b 0), .string ⟨#[]⟩, .string ⟨#[]⟩, .string ⟨#[]⟩, .int .i64 (nN b 1), .int .i64 (nN b 2), .int .i64 (nN b 3), .int .i64 (nN b 4), .int .i64 0, .int .i64 0]
  | 6 => #[.int .i64 (nN b 0), .string ⟨#[]⟩, .string ⟨#[]⟩, .string ⟨#[]⟩, .int .i64 (nN b 1), .int .i64 (nN b 2), .int .i64 (nN b 3), .int .i64 (nN b 4), .int .i64 (nN b 5), .int .i64 0]
  | _ => #[.int .i64 (nN b 0), .string ⟨#[]⟩, .string ⟨#[]⟩, .string ⟨#[]⟩, .int .i64 (nN b 1), .int .i64 (nN b 2), .int .i64 (nN b 3), .int .i64 (nN b 4), .int .i64 (nN b 5), .int .i64 (nN b 6)]
def arrT (b : List Nat) : Nat → Array Value
  | 0 => #[.int .i64 (nN b 0), .string ⟨#[]⟩, .string ⟨#[]⟩, .string ⟨#[]⟩, .int .i64 (nN b 1), .int .i64 (nN b 2), .int .i64 (nN b 3), .int .i64 (nN b 4), .int .i64 (nN b 5), .int .i64 (nN b 6)]
  | 1 => #[.int .i64 (nN b 0), .string (tT b 0), .string ⟨#[]⟩, .string ⟨#[]⟩, .int .i64 (nN b 1), .int .i64 (nN b 2), .int .i64 (nN b 3), .int .i64 (nN b 4), .int .i64 (nN b 5), .int .i64 (nN b 6)]
  | 2 => #[.int .i64 (nN b 0), .string (tT b 0), .string (tT b 1), .string ⟨#[]⟩, .int .i64 (nN b 1), .int .i64 (nN b 2), .int .i64 (nN b 3), .int .i64 (nN b 4), .int .i64 (nN b 5), .int .i64 (nN b 6)]
  | _ => #[.int .i64 (nN b 0), .string (tT b 0), .string (tT b 1), .string (tT b 2), .int .i64 (nN b 1), .int .i64 (nN b 2), .int .i64 (nN b 3), .int .i64 (nN b 4), .int .i64 (nN b 5), .int .i64 (nN b 6)]
theorem text2_len (s : St) : (text2 s).2.1.length ≤ s.1.length := by
  have h := numS_len (most := 256) (code := 5) (s := s) (n := (numS 256 5 s).1) (l := (numS 256 5 s).2.1) (e := (numS 256 5 s).2.2) rfl
  rw [text2]
  split
  · exact h
  · split
    · exact h
    · rw [List.length_drop]; omega
theorem text2_size (s : St) : (text2 s).1.size ≤ s.1.length := by
  have h := numS_len (most := 256) (code := 5) (s := s) (n := (numS 256 5 s).1) (l := (numS 256 5 s).2.1) (e := (numS 256 5 s).2.2) rfl
  rw [text2]
  split
  · exact Nat.zero_le _
  · split
    · exact Nat.zero_le _
    · show (ofB _).size ≤ _
      rw [ofB_size, List.length_take]
      omega
theorem sN_len (b : List Nat) : ∀ i, (sN b i).1.length ≤ b.length
  | 0 => Nat.le_refl _
  | i + 1 => Nat.le_trans (numS_len (s := sN b i) (n := (numS 1099511627776 4 (sN b i)).1) (l := (numS 1099511627776 4 (sN b i)).2.1) (e := (numS 1099511627776 4 (sN b i)).2.2) rfl) (sN_len b i)
theorem sT_len (b : List Nat) : ∀ i, (sT b i).1.length ≤ b.length
  | 0 => sN_len b 7
  | i + 1 => Nat.le_trans (text2_len _) (sT_len b i)
theorem tT_size (b : List Nat) (i : Nat) : (tT b i).size ≤ b.length := Nat.le_trans (text2_size _) (sT_len b i)
theorem nb_strB (s : ByteArray) : nb (strB s) = bytesOf s := by simp [nb, strB, bytesOf, List.map_map, Function.comp_def]

theorem Scan.far {w : World} {g G : Nat} {s : St} (h : Scan w g s) (hne : g < G) (j : Nat) (v : Value) : Scan (w.setCell ⟨G, j, none⟩ v) g s := by
  obtain ⟨A, c, hk, hr, hlc, hby, hlt⟩ := h
  exact ⟨A, c, (Below.heap_setCell _ ⟨G, j, none⟩ _ _ (by show g ≠ G; omega)).trans hk, reads_set hr (fun ad e h0 => Nat.lt_trans (hlt ad e h0) hne) _ _, hlc, hby, hlt⟩

/-- between two fields -/
structure Dd (w : World) (g G : Nat) (cs : Array Value) (s : St) (W : World) : Prop where
  res : W.heap[w.heap.size]? = some (.cells #[.int .i64 0, .string ⟨#[]⟩, .string ⟨#[]⟩, .string ⟨#[]⟩, .int .i64 0, .int .i64 0, .int .i64 0, .int .i64 0, .int .i64 0, .int .i64 0] 35 (0, 0))
  job : W.heap[G]? = some (.cells cs 35 (0, 0))
  scan : Scan W g s
  below : Below w.heap.size w W
  one : w.heap.size < g
  two : g < G
theorem Dd.next {w : World} {g G : Nat} {cs : Array Value} {s s' : St} {W W' : World} (h : Dd w g G cs s W) (hs : Scan W' g s') (hg : W.grownBy W' (some g)) : Dd w g G cs s' W' := by
  have n1 := h.one
  have n2 := h.two
  exact ⟨(hg.block _ (blk_lt h.res) (by simp; omega)).trans h.res, (hg.block _ (blk_lt h.job) (by simp; omega)).trans h.job, hs, h.below.grown hg h.below.size (fun k e => by cases e; omega), n1, n2⟩
theorem Dd.put {w : World} {g G : Nat} {cs cs' : Array Value} {s : St} {W : World} (h : Dd w g G cs s W) (i : Nat) (u : Value) (hc : cs.setIfInBounds i u = cs') : Dd w g G cs' s (W.setCell ⟨G, i, none⟩ u) := by
  have n1 := h.one
  have n2 := h.two
  exact ⟨(Below.heap_setCell _ ⟨G, i, none⟩ _ _ (by show _ ≠ G; omega)).trans h.res, blk_put h.job i u hc, Scan.far h.scan n2 _ _, h.below.setCell (p := ⟨G, i, none⟩) (by show w.heap.size ≤ G; omega) u, n1, n2⟩
theorem Dd.step {w : World} {g G : Nat} {cs : Array Value} {s : St} {W W' : World} (h : Dd w g G cs s W) (hb : Below W.heap.size W W') : Dd w g G cs s W' :=
  ⟨blk_keep h.res hb, blk_keep h.job hb, Scan.below h.scan hb, bthen h.below hb, h.one, h.two⟩
theorem Dd.err {w : World} {g G : Nat} {cs : Array Value} {l : List Nat} {e : Int} {W : World} (h : Dd w g G cs (l, e) W) (e' : Int) : Dd w g G cs (l, e') (W.setCell ⟨g, 1, none⟩ (.int .i64 e')) := h.next (Scan.err h.scan e') (grown_set _ _ _ _)
theorem pidx7_0 (G : Nat) (w : World) : (Instr.index 90 (.agg #[.pointer (some ⟨G, 0, none⟩), .pointer (some ⟨G, 4, none⟩), .pointer (some ⟨G, 5, none⟩), .pointer (some ⟨G, 6, none⟩), .pointer (some ⟨G, 7, none⟩), .pointer (some ⟨G, 8, none⟩), .pointer (some ⟨G, 9, none⟩)]) (.int .i64 0)).run Tryd.prog w = .ok (.pointer (some ⟨G, 0, none⟩)) w := by
  simp [Instr.index, run_underlying Tryd.underlying90, asIntOf, go_sem, Tryd.sizeOf89]
theorem pidx7_1 (G : Nat) (w : World) : (Instr.index 90 (.agg #[.pointer (some ⟨G, 0, none⟩), .pointer (some ⟨G, 4, none⟩), .pointer (some ⟨G, 5, none⟩), .pointer (some ⟨G, 6, none⟩), .pointer (some ⟨G, 7, none⟩), .pointer (some ⟨G, 8, none⟩), .pointer (some ⟨G, 9, none⟩)]) (.int .i64 1)).run Tryd.prog w = .ok (.pointer (some ⟨G, 4, none⟩)) w := by
  simp [Instr.index, run_underlying Tryd.underlying90, asIntOf, go_sem, Tryd.sizeOf89]
theorem pidx7_2 (G : Nat) (w : World) : (Instr.index 90 (.agg #[.pointer (some ⟨G, 0, none⟩), .pointer (some ⟨G, 4, none⟩), .pointer (some ⟨G, 5, none⟩), .pointer (some ⟨G, 6, none⟩), .pointer (some ⟨G, 7, none⟩), .pointer (some ⟨G, 8, none⟩), .pointer (some ⟨G, 9, none⟩)]) (.int .i64 2)).run Tryd.prog w = .ok (.pointer (some ⟨G, 5, none⟩)) w := by
  simp [Instr.index, run_underlying Tryd.underlying90, asIntOf, go_sem, Tryd.sizeOf89]
theorem pidx7_3 (G : Nat) (w : World) : (Instr.index 90 (.agg #[.pointer (some ⟨G, 0, none⟩), .pointer (some ⟨G, 4, none⟩), .pointer (some ⟨G, 5, none⟩), .pointer (some ⟨G, 6, none⟩), .pointer (some ⟨G, 7, none⟩), .pointer (some ⟨G, 8, none⟩), .pointer (some ⟨G, 9, none⟩)]) (.int .i64 3)).run Tryd.prog w = .ok (.pointer (some ⟨G, 6, none⟩)) w := by
  simp [Instr.index, run_underlying Tryd.underlying90, asIntOf, go_sem, Tryd.sizeOf89]
theorem pidx7_4 (G : Nat) (w : World) : (Instr.index 90 (.agg #[.pointer (some ⟨G, 0, none⟩), .pointer (some ⟨G, 4, none⟩), .pointer (some ⟨G, 5, none⟩), .pointer (some ⟨G, 6, none⟩), .pointer (some ⟨G, 7, none⟩), .pointer (some ⟨G, 8, none⟩), .pointer (some ⟨G, 9, none⟩)]) (.int .i64 4)).run Tryd.prog w = .ok (.pointer (some ⟨G, 7, none⟩)) w := by
  simp [Instr.index, run_underlying Tryd.underlying90, asIntOf, go_sem, Tryd.sizeOf89]
theorem pidx7_5 (G : Nat) (w : World) : (Instr.index 90 (.agg #[.pointer (some ⟨G, 0, none⟩), .pointer (some ⟨G, 4, none⟩), .pointer (some ⟨G, 5, none⟩), .pointer (some ⟨G, 6, none⟩), .pointer (some ⟨G, 7, none⟩), .pointer (some ⟨G, 8, none⟩), .pointer (some ⟨G, 9, none⟩)]) (.int .i64 5)).run Tryd.prog w = .ok (.pointer (some ⟨G, 8, none⟩)) w := by
  simp [Instr.index, run_underlying Tryd.underlying90, asIntOf, go_sem, Tryd.sizeOf89]
theorem pidx7_6 (G : Nat) (w : World) : (Instr.index 90 (.agg #[.pointer (some ⟨G, 0, none⟩), .pointer (some ⟨G, 4, none⟩), .pointer (some ⟨G, 5, none⟩), .pointer (some ⟨G, 6, none⟩), .pointer (some ⟨G, 7, none⟩), .pointer (some ⟨G, 8, none⟩), .pointer (some ⟨G, 9, none⟩)]) (.int .i64 6)).run Tryd.prog w = .ok (.pointer (some ⟨G, 9, none⟩)) w := by
  simp [Instr.index, run_underlying Tryd.underlying90, asIntOf, go_sem, Tryd.sizeOf89]
theorem pidx3_0 (G : Nat) (w : World) : (Instr.index 93 (.agg #[.pointer (some ⟨G, 1, none⟩), .pointer (some ⟨G, 2, none⟩), .pointer (some ⟨G, 3, none⟩)]) (.int .i64 0)).run Tryd.prog w = .ok (.pointer (some ⟨G, 1, none⟩)) w := by
  simp [Instr.index, run_underlying Tryd.underlying93, asIntOf, go_sem, Tryd.sizeOf92]
theorem pidx3_1 (G : Nat) (w : World) : (Instr.index 93 (.agg #[.pointer (some ⟨G, 1, none⟩), .pointer (some ⟨G, 2, none⟩), .pointer (some ⟨G, 3, none⟩)]) (.int .i64 1)).run Tryd.prog w = .ok (.pointer (some ⟨G, 2, none⟩)) w := by
  simp [Instr.index, run_underlying Tryd.underlying93, asIntOf, go_sem, Tryd.sizeOf92]
theorem pidx3_2 (G : Nat) (w : World) : (Instr.index 93 (.agg #[.pointer (some ⟨G, 1, none⟩), .pointer (some ⟨G, 2, none⟩), .pointer (some ⟨G, 3, none⟩)]) (.int .i64 2)).run Tryd.prog w = .ok (.pointer (some ⟨G, 3, none⟩)) w := by
  simp [Instr.index, run_underlying Tryd.underlying93, asIntOf, go_sem, Tryd.sizeOf92]
theorem parse_says (r : ByteArray) (hz : r.size ≤ 9223372036854775807) : ParseSays Cron.MaxL r (Cron.parseE r) := fun _ w hw => by
  refine (Cron.parse_any r w hz hw).mono ?_
  rintro e w' ⟨rfl, hb⟩
  rw [Cron.ruleV]
  split
  · exact ⟨_, _, _, _, _, _, _, rfl, hb⟩
  · exact ⟨_, _, _, _, _, _, _, rfl, hb⟩
theorem maxL_lasts : Lasts Cron.MaxL := fun _ _ h hb => h.below hb

set_option maxRecDepth 100000 in
set_option maxHeartbeats 4000000 in
theorem decode_any (s : ByteArray) (w : World) (hs : s.size ≤ 1048576) (hm : Cron.MaxL w) :
    Calls Tryd.prog 19 #[.string s] w fun e w' => e = .returned (.tuple #[.agg (jc (decJ (strB s))), .int .i64 (decE (strB s))]) ∧ Below w.heap.size w w' := by
  have kb := fun (x : ByteArray) (W : World) => print_bytes (P := Tryd.prog) 9 82 5 Tryd.underlying9 Tryd.underlying82 Tryd.underlying5 x W
  obtain ⟨b, hb⟩ := named (strB s)
  have HBL : Aside0 (b.length = s.size ∧ Bytes b ∧ nb b = bytesOf s) := ⟨by rw [hb.out]; exact ⟨strB_len s, strB_bytes s, nb_strB s⟩⟩
  have HM := Aside0.mk hm
  rw [← hb.out]
  obtain ⟨DJ, hDJ⟩ := named (jc (decJ b))
  obtain ⟨DE, hDE⟩ := named (decE b)
  rw [← hDJ.out, ← hDE.out]
  clear hm
  go_enter Tryd.func19, Tryd.ntmps19
  go_upto_region 3 with (fail)
  obtain ⟨B, hB⟩ : ∃ B, B = Lib.bytesWorld (w.alloc (.cells #[.int .i64 0, .string ⟨#[]⟩, .string ⟨#[]⟩, .string ⟨#[]⟩, .int .i64 0, .int .i64 0, .int .i64 0, .int .i64 0, .int .i64 0, .int .i64 0] 35)) 5 s := ⟨_, rfl⟩
  obtain ⟨cap, hcap⟩ : ∃ cap, cap = grownCap (w.alloc (.cells #[.int .i64 0, .string ⟨#[]⟩, .string ⟨#[]⟩, .string ⟨#[]⟩, .int .i64 0, .int .i64 0, .int .i64 0, .int .i64 0, .int .i64 0, .int .i64 0] 35)) s.size 0 5 := ⟨_, rfl⟩
  rw [← hB, ← hcap]
  obtain ⟨W, hW⟩ : ∃ W, W = (B.alloc (.cells #[.slice (some ⟨w.heap.size + 1, 0, none⟩) s.size cap, .int .i64 0] 88)).alloc (.cells #[.int .i64 0, .string ⟨#[]⟩, .string ⟨#[]⟩, .string ⟨#[]⟩, .int .i64 0, .int .i64 0, .int .i64 0, .int .i64 0, .int .i64 0, .int .i64 0] 35) := ⟨_, rfl⟩
  obtain ⟨g, hg⟩ : ∃ g, g = B.heap.size := ⟨_, rfl⟩
  have hBs : B.heap.size = w.heap.size + 1 + 1 := by rw [hB, Lib.bytesWorld_size]; simp
  have HD0 : Aside0 (Dd w g (g + 1) #[.int .i64 0, .string ⟨#[]⟩, .string ⟨#[]⟩, .string ⟨#[]⟩, .int .i64 0, .int .i64 0, .int .i64 0, .int .i64 0, .int .i64 0, .int .i64 0] (sN b 0) W) := ⟨by
    have r0 : B.heap[w.heap.size]? = some (.cells #[.int .i64 0, .string ⟨#[]⟩, .string ⟨#[]⟩, .string ⟨#[]⟩, .int .i64 0, .int .i64 0, .int .i64 0, .int .i64 0, .int .i64 0, .int .i64 0] 35 (0, 0)) := by rw [hB]; exact (Lib.bytesWorld_at_old _ _ _ _ (by simp)).trans (blk_new _ _)
    have hr : ReadsInt B .u8 (some ⟨w.heap.size + 1, 0, none⟩) s.size (bytesOf s) := by
      rw [hB]
      have := bytes_reads (w.alloc (.cells #[.int .i64 0, .string ⟨#[]⟩, .string ⟨#[]⟩, .string ⟨#[]⟩, .int .i64 0, .int .i64 0, .int .i64 0, .int .i64 0, .int .i64 0, .int .i64 0] 35)) 5 s (by omega)
      simpa using this
    have bb : Below w.heap.size w B := by rw [hB]; exact (below_alloc (Below.refl _ _) _).trans ((bytes_below (Below.refl _ _) (Nat.le_refl _) _ _).mono (by simp))
    have b2 : Below B.heap.size B W := by rw [hW]; exact below_alloc (below_alloc (Below.refl _ _) _) _
    refine ⟨by rw [hW]; exact blk_alloc (blk_alloc r0 _) _, by rw [hW, hg]; exact blk_new1 _ _ _ _, ⟨some ⟨w.heap.size + 1, 0, none⟩, cap, ?_, ?_, ?_, HBL.out.2.1, fun ad e _ => ?_⟩, bthen bb b2, by omega, Nat.lt_succ_self _⟩
    · rw [hW, hg]
      show _ = some (Obj.cells #[.slice (some ⟨w.heap.size + 1, 0, none⟩) b.length cap, .int .i64 0] _ _)
      rw [HBL.out.1]
      exact blk_alloc (blk_new _ _) _
    · show ReadsInt W .u8 _ b.length (nb b)
      rw [HBL.out.1, HBL.out.2.2]
      exact hr.below b2
    · show b.length ≤ cap
      rw [HBL.out.1, hcap]
      exact grownCap_ge _ _ _ _
    · injection e with e
      rw [← e]
      show w.heap.size + 1 < g
      omega⟩
  rw [← hW, ← hg]
  clear hW hg hBs hB hcap kb
  have HL : Aside0 (∀ i, (sN b i).1.length ≤ 1048576) := ⟨fun i => Nat.le_trans (sN_len b i) (by rw [HBL.out.1]; exact hs)⟩
  have HLT : Aside0 (∀ i, (sT b i).1.length ≤ 1048576) := ⟨fun i => Nat.le_trans (sT_len b i) (by rw [HBL.out.1]; exact hs)⟩
  go_wp2_with fail
  go_loopg [7, 22] 7 (fun gg v7 v22 wr => ∃ i : Nat, v22 = .int .i64 i ∧ gg + i = 7 ∧ Aside0 (Dd w g (g + 1) (arrN b i) (sN b i) wr))
  case atStart => exact ⟨0, rfl, by omega, HD0⟩
  case round =>
    obtain ⟨i, rfl, hgg, HDi⟩ := hrel
    rcases (show i = 0 ∨ i = 1 ∨ i = 2 ∨ i = 3 ∨ i = 4 ∨ i = 5 ∨ i = 6 ∨ i = 7 by omega) with rfl | rfl | rfl | rfl | rfl | rfl | rfl | rfl
    · have ix := pidx7_0 (g + 1) wr
      go_wp2_with (go_at_call 36; refine (number_any g (sN b 0) 1099511627776 4 _ HDi.out.scan (HL.out 0) (by decide) (by decide) (by decide)).mono ?_; rintro e w1 ⟨rfl, hs1, hg1⟩; (have HDn := Aside0.mk (HDi.out.next (s' := sN b 1) hs1 hg1)); (have c0 : w1.cell? ⟨g + 1, 0, none⟩ = some (.int .i64 0) := blk_cell HDn.out.job 0); (have f0 : w1.frozen? ⟨g + 1, 0, none⟩ = false := blk_frozen HDn.out.job 0); clear hs1 hg1)
      go_roundg 6
      case measure => omega
      case rel => exact ⟨1, rfl, by omega, ⟨HDn.out.put 0 (.int .i64 (nN b 0)) rfl⟩⟩
    · have ix := pidx7_1 (g + 1) wr
      go_wp2_with (go_at_call 36; refine (number_any g (sN b 1) 1099511627776 4 _ HDi.out.scan (HL.out 1) (by decide) (by decide) (by decide)).mono ?_; rintro e w1 ⟨rfl, hs1, hg1⟩; (have HDn := Aside0.mk (HDi.out.next (s' := sN b 2) hs1 hg1)); (have c0 : w1.cell? ⟨g + 1, 4, none⟩ = some (.int .i64 0) := blk_cell HDn.out.job 4); (have f0 : w1.frozen? ⟨g + 1, 4, none⟩ = false := blk_frozen HDn.out.job 4); clear hs1 hg1)
      go_roundg 5
      case measure => omega
      case rel => exact ⟨2, rfl, by omega, ⟨HDn.out.put 4 (.int .i64 (nN b 1)) rfl⟩⟩
    · have ix := pidx7_2 (g + 1) wr
      go_wp2_with (go_at_call 36; refine (number_any g (sN b 2) 1099511627776 4 _ HDi.out.scan (HL.out 2) (by decide) (by decide) (by decide)).mono ?_; rintro e w1 ⟨rfl, hs1, hg1⟩; (have HDn := Aside0.mk (HDi.out.next (s' := sN b 3) hs1 hg1)); (have c0 : w1.cell? ⟨g + 1, 5, none⟩ = some (.int .i64 0) := blk_cell HDn.out.job 5); (have f0 : w1.frozen? ⟨g + 1, 5, none⟩ = false := blk_frozen HDn.out.job 5); clear hs1 hg1)
      go_roundg 4
      case measure => omega
      case rel => exact ⟨3, rfl, by omega, ⟨HDn.out.put 5 (.int .i64 (nN b 2)) rfl⟩⟩
    · have ix := pidx7_3 (g + 1) wr
      go_wp2_with (go_at_call 36; refine (number_any g (sN b 3) 1099511627776 4 _ HDi.out.scan (HL.out 3) (by decide) (by decide) (by decide)).mono ?_; rintro e w1 ⟨rfl, hs1, hg1⟩; (have HDn := Aside0.mk (HDi.out.next (s' := sN b 4) hs1 hg1)); (have c0 : w1.cell? ⟨g + 1, 6, none⟩ = some (.int .i64 0) := blk_cell HDn.out.job 6); (have f0 : w1.frozen? ⟨g + 1, 6, none⟩ = false := blk_frozen HDn.out.job 6); clear hs1 hg1)
      go_roundg 3
      case measure => omega
      case rel => exact ⟨4, rfl, by omega, ⟨HDn.out.put 6 (.int .i64 (nN b 3)) rfl⟩⟩
    · have ix := pidx7_4 (g + 1) wr
      go_wp2_with (go_at_call 36; refine (number_any g (sN b 4) 1099511627776 4 _ HDi.out.scan (HL.out 4) (by decide) (by decide) (by decide)).mono ?_; rintro e w1 ⟨rfl, hs1, hg1⟩; (have HDn := Aside0.mk (HDi.out.next (s' := sN b 5) hs1 hg1)); (have c0 : w1.cell? ⟨g + 1, 7, none⟩ = some (.int .i64 0) := blk_cell HDn.out.job 7); (have f0 : w1.frozen? ⟨g + 1, 7, none⟩ = false := blk_frozen HDn.out.job 7); clear hs1 hg1)
      go_roundg 2
      case measure => omega
      case rel => exact ⟨5, rfl, by omega, ⟨HDn.out.put 7 (.int .i64 (nN b 4)) rfl⟩⟩
    · have ix := pidx7_5 (g + 1) wr
      go_wp2_with (go_at_call 36; refine (number_any g (sN b 5) 1099511627776 4 _ HDi.out.scan (HL.out 5) (by decide) (by decide) (by decide)).mono ?_; rintro e w1 ⟨rfl, hs1, hg1⟩; (have HDn := Aside0.mk (HDi.out.next (s' := sN b 6) hs1 hg1)); (have c0 : w1.cell? ⟨g + 1, 8, none⟩ = some (.int .i64 0) := blk_cell HDn.out.job 8); (have f0 : w1.frozen? ⟨g + 1, 8, none⟩ = false := blk_frozen HDn.out.job 8); clear hs1 hg1)
      go_roundg 1
      case measure => omega
      case rel => exact ⟨6, rfl, by omega, ⟨HDn.out.put 8 (.int .i64 (nN b 5)) rfl⟩⟩
    · have ix := pidx7_6 (g + 1) wr
      go_wp2_with (go_at_call 36; refine (number_any g (sN b 6) 1099511627776 4 _ HDi.out.scan (HL.out 6) (by decide) (by decide) (by decide)).mono ?_; rintro e w1 ⟨rfl, hs1, hg1⟩; (have HDn := Aside0.mk (HDi.out.next (s' := sN b 7) hs1 hg1)); (have c0 : w1.cell? ⟨g + 1, 9, none⟩ = some (.int .i64 0) := blk_cell HDn.out.job 9); (have f0 : w1.frozen? ⟨g + 1, 9, none⟩ = false := blk_frozen HDn.out.job 9); clear hs1 hg1)
      go_roundg 0
      case measure => omega
      case rel => exact ⟨7, rfl, by omega, ⟨HDn.out.put 9 (.int .i64 (nN b 6)) rfl⟩⟩
    · have HT0 : Aside0 (Dd w g (g + 1) (arrT b 0) (sT b 0) wr) := ⟨HDi.out⟩
      clear HDi
      go_wp2_with fail
      go_loopg [9, 34] 3 (fun gg v9 v34 wr => ∃ i : Nat, v34 = .int .i64 i ∧ gg + i = 3 ∧ Aside0 (Dd w g (g + 1) (arrT b i) (sT b i) wr))
      case atStart => exact ⟨0, rfl, by omega, HT0⟩
      case round =>
        clear HT0 hgg
        obtain ⟨i, rfl, hgg, HDi⟩ := hrel
        rcases (show i = 0 ∨ i = 1 ∨ i = 2 ∨ i = 3 by omega) with rfl | rfl | rfl | rfl
        · have ix := pidx3_0 (g + 1) wr
          go_wp2_with (go_at_call 37; refine (text_any g (sT b 0) _ HDi.out.scan (HLT.out 0)).mono ?_; rintro e w1 ⟨rfl, hs1, hg1⟩; (have HDn := Aside0.mk (HDi.out.next (s' := sT b 1) hs1 hg1)); (have c0 : w1.cell? ⟨g + 1, 1, none⟩ = some (.string ⟨#[]⟩) := blk_cell HDn.out.job 1); (have f0 : w1.frozen? ⟨g + 1, 1, none⟩ = false := blk_frozen HDn.out.job 1); clear hs1 hg1)
          go_roundg 2
          case measure => omega
          case rel => exact ⟨1, rfl, by omega, ⟨HDn.out.put 1 (.string (tT b 0)) rfl⟩⟩
        · have ix := pidx3_1 (g + 1) wr
          go_wp2_with (go_at_call 37; refine (text_any g (sT b 1) _ HDi.out.scan (HLT.out 1)).mono ?_; rintro e w1 ⟨rfl, hs1, hg1⟩; (have HDn := Aside0.mk (HDi.out.next (s' := sT b 2) hs1 hg1)); (have c0 : w1.cell? ⟨g + 1, 2, none⟩ = some (.string ⟨#[]⟩) := blk_cell HDn.out.job 2); (have f0 : w1.frozen? ⟨g + 1, 2, none⟩ = false := blk_frozen HDn.out.job 2); clear hs1 hg1)
          go_roundg 1
          case measure => omega
          case rel => exact ⟨2, rfl, by omega, ⟨HDn.out.put 2 (.string (tT b 1)) rfl⟩⟩
        · have ix := pidx3_2 (g + 1) wr
          go_wp2_with (go_at_call 37; refine (text_any g (sT b 2) _ HDi.out.scan (HLT.out 2)).mono ?_; rintro e w1 ⟨rfl, hs1, hg1⟩; (have HDn := Aside0.mk (HDi.out.next (s' := sT b 3) hs1 hg1)); (have c0 : w1.cell? ⟨g + 1, 3, none⟩ = some (.string ⟨#[]⟩) := blk_cell HDn.out.job 3); (have f0 : w1.frozen? ⟨g + 1, 3, none⟩ = false := blk_frozen HDn.out.job 3); clear hs1 hg1)
          go_roundg 0
          case measure => omega
          case rel => exact ⟨3, rfl, by omega, ⟨HDn.out.put 3 (.string (tT b 2)) rfl⟩⟩
        · obtain ⟨rest, hrest⟩ := named (sT b 3).1
          obtain ⟨er, her⟩ := named (sT b 3).2
          have HDF : Aside0 (Dd w g (g + 1) #[.int .i64 (nN b 0), .string (tT b 0), .string (tT b 1), .string (tT b 2), .int .i64 (nN b 1), .int .i64 (nN b 2), .int .i64 (nN b 3), .int .i64 (nN b 4), .int .i64 (nN b 5), .int .i64 (nN b 6)] (rest, er) wr) := ⟨by
            have h := HDi.out
            rw [show sT b 3 = (rest, er) by rw [hrest.out, her.out]] at h
            exact h⟩
          have HE : Aside0 (DE = if er ≠ 0 then er else if rest.length ≠ 0 then 23 else chkE (Cron.parseE (tT b 1)) (jobD b)) := ⟨by rw [hDE.out, decE, hrest.out, her.out]⟩
          have HJN : Aside0 (DE ≠ 0 → DJ = #[.int .i64 0, .string ⟨#[]⟩, .string ⟨#[]⟩, .string ⟨#[]⟩, .int .i64 0, .int .i64 0, .int .i64 0, .int .i64 0, .int .i64 0, .int .i64 0]) := ⟨fun h => by rw [hDJ.out, decJ, ← hDE.out, if_neg h]; rfl⟩
          obtain ⟨A, c, hk, hr, hlc, hby, hlt⟩ := HDF.out.scan
          have HLR : Aside0 ((tT b 1).size ≤ 9223372036854775807) := ⟨Nat.le_trans (tT_size b 1) (by rw [HBL.out.1]; omega)⟩
          have HK := Aside0.mk hk
          dsimp only at hk
          obtain ⟨ln, hln⟩ : ∃ ln, rest.length = ln := ⟨_, rfl⟩
          rw [hln] at HE hk
          have x0 := blk_cell hk 0
          have x1 := blk_cell hk 1
          have g1 := blk_frozen hk 1
          clear hk hr hlc hby hlt HDi HD0 HL HLT
          obtain ⟨k0, k1, k2, k3, k4, k5, k6, k7, k8, k9⟩ := all10 HDF.out.res
          obtain ⟨f0, f1, f2, f3, f4, f5, f6, f7, f8, f9⟩ := frz10 HDF.out.res
          have n1 := HDF.out.one
          by_cases he : er = 0
          · subst he
            by_cases hl0 : ln = 0
            · subst hl0
              obtain ⟨CE, hCE⟩ := named (chkE (Cron.parseE (tT b 1)) (jobD b))
              have HX : Aside0 (DE = CE) := ⟨by rw [HE.out, if_neg (by decide), if_neg (by decide), hCE.out]⟩
              obtain rfl := HX.out
              have CC : Aside0 (Calls Tryd.prog 11 #[.agg #[.int .i64 (nN b 0), .string (tT b 0), .string (tT b 1), .string (tT b 2), .int .i64 (nN b 1), .int .i64 (nN b 2), .int .i64 (nN b 3), .int .i64 (nN b 4), .int .i64 (nN b 5), .int .i64 (nN b 6)]] wr fun e w' => e = .returned (.int .i64 DE) ∧ Below wr.heap.size wr w') := ⟨by
                rw [hCE.out]
                exact check_any maxL_lasts (Cron.parseE (tT b 1)) (jobD b) wr (HM.out.below HDF.out.below) (parse_says _ HLR.out)⟩
              obtain ⟨q0, q1, q2, q3, q4, q5, q6, q7, q8, q9⟩ := all10 HDF.out.job
              go_upto_region 17 with (go_at_call 11; refine CC.out.mono ?_; rintro e w5 ⟨rfl, hb5⟩; (have HD4 := Aside0.mk (HDF.out.step hb5)); (have y1 : w5.cell? ⟨g, 1, none⟩ = some (.int .i64 0) := by (obtain ⟨_, _, hk, _⟩ := HD4.out.scan; exact blk_cell hk 1)); (have y2 : w5.frozen? ⟨g, 1, none⟩ = false := by (obtain ⟨_, _, hk, _⟩ := HD4.out.scan; exact blk_frozen hk 1)); clear hb5)
              obtain ⟨W5, hW5⟩ : ∃ W5, W5 = w5.setCell ⟨g, 1, none⟩ (.int .i64 DE) := ⟨_, rfl⟩
              have HD5 : Aside0 (Dd w g (g + 1) #[.int .i64 (nN b 0), .string (tT b 0), .string (tT b 1), .string (tT b 2), .int .i64 (nN b 1), .int .i64 (nN b 2), .int .i64 (nN b 3), .int .i64 (nN b 4), .int .i64 (nN b 5), .int .i64 (nN b 6)] (rest, DE) W5) := ⟨by rw [hW5]; exact HD4.out.err DE⟩
              rw [← hW5]
              clear hW5 x0 x1 g1 k0 k1 k2 k3 k4 k5 k6 k7 k8 k9 f0 f1 f2 f3 f4 f5 f6 f7 f8 f9 q0 q1 q2 q3 q4 q5 q6 q7 q8 q9 y1 y2
              have x1 : W5.cell? ⟨g, 1, none⟩ = some (.int .i64 DE) := by
                obtain ⟨_, _, hk, _⟩ := HD5.out.scan
                exact blk_cell hk 1
              obtain ⟨k0, k1, k2, k3, k4, k5, k6, k7, k8, k9⟩ := all10 HD5.out.res
              obtain ⟨f0, f1, f2, f3, f4, f5, f6, f7, f8, f9⟩ := frz10 HD5.out.res
              obtain ⟨q0, q1, q2, q3, q4, q5, q6, q7, q8, q9⟩ := all10 HD5.out.job
              by_cases hd : DE = 0
              · have HX : Aside0 (DJ = #[.int .i64 (nN b 0), .string (tT b 0), .string (tT b 1), .string (tT b 2), .int .i64 (nN b 1), .int .i64 (nN b 2), .int .i64 (nN b 3), .int .i64 (nN b 4), .int .i64 (nN b 5), .int .i64 (nN b 6)]) := ⟨by rw [hDJ.out, decJ, ← hDE.out, if_pos hd]; rfl⟩
                obtain rfl := HX.out
                subst hd
                go_wp2
                refine bodyPost_ret (Job.results_ct rfl _ _ w.heap.size 35 #[.int .i64 (nN b 0), .string (tT b 0), .string (tT b 1), .string (tT b 2), .int .i64 (nN b 1), .int .i64 (nN b 2), .int .i64 (nN b 3), .int .i64 (nN b 4), .int .i64 (nN b 5), .int .i64 (nN b 6)] (0, 0) _ rfl (blk10 HD5.out.res) Tryd.underlying35 rfl (by kernel_rfl)) rfl ?_
                exact ⟨rfl, below_set10 HD5.out.below (Nat.le_refl _) _ _ _ _ _ _ _ _ _ _⟩
              · have HX : Aside0 (DJ = #[.int .i64 0, .string ⟨#[]⟩, .string ⟨#[]⟩, .string ⟨#[]⟩, .int .i64 0, .int .i64 0, .int .i64 0, .int .i64 0, .int .i64 0, .int .i64 0]) := ⟨HJN.out hd⟩
                obtain rfl := HX.out
                have hb2 : (DE != 0) = true := by simpa using hd
                clear hd
                go_wp2_with fail
                go_region
                go_wp2
                refine bodyPost_ret (Job.results_ct rfl _ _ w.heap.size 35 #[.int .i64 0, .string ⟨#[]⟩, .string ⟨#[]⟩, .string ⟨#[]⟩, .int .i64 0, .int .i64 0, .int .i64 0, .int .i64 0, .int .i64 0, .int .i64 0] (0, 0) _ rfl (blk_drew (blk10 HD5.out.res)) Tryd.underlying35 rfl (by kernel_rfl)) rfl ?_
                exact ⟨rfl, below_drew (below_set10 HD5.out.below (Nat.le_refl _) _ _ _ _ _ _ _ _ _ _)⟩
            · have hln1 : (0 : Int) < (ln : Int) := by omega
              have HX : Aside0 (DE = 23 ∧ DJ = #[.int .i64 0, .string ⟨#[]⟩, .string ⟨#[]⟩, .string ⟨#[]⟩, .int .i64 0, .int .i64 0, .int .i64 0, .int .i64 0, .int .i64 0, .int .i64 0]) := ⟨by
                have h1 : DE = 23 := by rw [HE.out, if_neg (by decide), if_pos hl0]
                exact ⟨h1, HJN.out (by rw [h1]; decide)⟩⟩
              obtain ⟨rfl, rfl⟩ := HX.out
              go_upto_region 15 with (fail)
              obtain ⟨W5, hW5⟩ : ∃ W5, W5 = wr.setCell ⟨g, 1, none⟩ (.int .i64 23) := ⟨_, rfl⟩
              have HD5 : Aside0 (Dd w g (g + 1) #[.int .i64 (nN b 0), .string (tT b 0), .string (tT b 1), .string (tT b 2), .int .i64 (nN b 1), .int .i64 (nN b 2), .int .i64 (nN b 3), .int .i64 (nN b 4), .int .i64 (nN b 5), .int .i64 (nN b 6)] (rest, 23) W5) := ⟨by rw [hW5]; exact HDF.out.err 23⟩
              rw [← hW5]
              clear hW5 x0 x1 g1 k0 k1 k2 k3 k4 k5 k6 k7 k8 k9 f0 f1 f2 f3 f4 f5 f6 f7 f8 f9
              have x1 : W5.cell? ⟨g, 1, none⟩ = some (.int .i64 23) := by
                obtain ⟨_, _, hk, _⟩ := HD5.out.scan
                exact blk_cell hk 1
              obtain ⟨k0, k1, k2, k3, k4, k5, k6, k7, k8, k9⟩ := all10 HD5.out.res
              obtain ⟨f0, f1, f2, f3, f4, f5, f6, f7, f8, f9⟩ := frz10 HD5.out.res
              go_wp2_with fail
              go_region
              go_wp2
              refine bodyPost_ret (Job.results_ct rfl _ _ w.heap.size 35 #[.int .i64 0, .string ⟨#[]⟩, .string ⟨#[]⟩, .string ⟨#[]⟩, .int .i64 0, .int .i64 0, .int .i64 0, .int .i64 0, .int .i64 0, .int .i64 0] (0, 0) _ rfl (blk_drew (blk10 HD5.out.res)) Tryd.underlying35 rfl (by kernel_rfl)) rfl ?_
              exact ⟨rfl, below_drew (below_set10 HD5.out.below (Nat.le_refl _) _ _ _ _ _ _ _ _ _ _)⟩
          · have hb1 : (er == 0) = false := by simpa using he
            have hb2 : (er != 0) = true := by simpa using he
            have HX : Aside0 (DE = er ∧ DJ = #[.int .i64 0, .string ⟨#[]⟩, .string ⟨#[]⟩, .string ⟨#[]⟩, .int .i64 0, .int .i64 0, .int .i64 0, .int .i64 0, .int .i64 0, .int .i64 0]) := ⟨by
              have h1 : DE = er := by rw [HE.out, if_pos he]
              exact ⟨h1, HJN.out (by rw [h1]; exact he)⟩⟩
            obtain ⟨rfl, rfl⟩ := HX.out
            clear he
            go_wp2_with fail
            go_region
            go_wp2
            refine bodyPost_ret (Job.results_ct rfl _ _ w.heap.size 35 #[.int .i64 0, .string ⟨#[]⟩, .string ⟨#[]⟩, .string ⟨#[]⟩, .int .i64 0, .int .i64 0, .int .i64 0, .int .i64 0, .int .i64 0, .int .i64 0] (0, 0) _ rfl (blk_drew (blk10 HDF.out.res)) Tryd.underlying35 rfl (by kernel_rfl)) rfl ?_
            exact ⟨rfl, below_drew (below_set10 HDF.out.below (Nat.le_refl _) _ _ _ _ _ _ _ _ _ _)⟩
end Go.Proofs.YteloamnakikbbaaDoor.JDec

/- JobKeeps, walked. -/
namespace Go.Proofs.YteloamnakikbbaaDoor.JKeeps
set_option linter.unusedVariables false
set_option linter.unusedSimpArgs false
open Go.RowKit Go.Proofs.YteloamnakikbbaaDoorW.PrintWords Go.Proofs.YteloamnakikbbaaDoorW.PrintLast Go.Proofs.YteloamnakikbbaaDoor.Base Go.Proofs.YteloamnakikbbaaDoor.Cells Go.Proofs.YteloamnakikbbaaDoor.JobPure Go.Proofs.YteloamnakikbbaaDoor.Job

theorem nx_bound (r : ByteArray) : ∀ now, 0 ≤ now → now < 32503680000 → (Cron.nxP r now).2 = true → 0 ≤ (Cron.nxP r now).1 ∧ (Cron.nxP r now).1 ≤ 32503680000 := fun now n0 n1 h => by
  unfold Cron.nxP at h ⊢
  cases hk : Cron.nextR r now with
  | none => rw [hk] at h; cases h
  | some t =>
    have := Cron.nextR_top (by omega) n1 hk
    show 0 ≤ ((t : Nat) : Int) ∧ ((t : Nat) : Int) ≤ 32503680000
    omega
/-- Check of a job that may be -/
theorem check_ok (j : Jb) (w : World) (hw : Cron.Laid w) (hz : j.rule.size ≤ 9223372036854775807) (h : chk (Cron.parseE j.rule) j = true) :
    Calls Tryd.prog 11 #[.agg #[.int .i64 j.id, .string j.name, .string j.rule, .string j.payload, .int .i64 j.status, .int .i64 j.due, .int .i64 j.tries, .int .i64 j.worker, .int .i64 j.token, .int .i64 j.til]] w fun e w' => e = .returned (.int .i64 0) ∧ Below w.heap.size w w' := by
  have c := check_any Cron.laid_lasts (Cron.parseE j.rule) j w hw (Cron.cron_says j.rule hz).parse
  rw [chkE, h, if_pos rfl] at c
  exact c
set_option maxRecDepth 100000 in
set_option maxHeartbeats 4000000 in
theorem keeps_walk (j : Jb) (a k u b c t : Int) (w : World) (hw : Cron.Laid w) (hz : j.rule.size ≤ 9223372036854775807) :
    Calls Tryd.prog 5 #[.agg #[.int .i64 j.id, .string j.name, .string j.rule, .string j.payload, .int .i64 j.status, .int .i64 j.due, .int .i64 j.tries, .int .i64 j.worker, .int .i64 j.token, .int .i64 j.til], .int .i64 a, .int .i64 k, .int .i64 u, .agg #[.int .i64 b, .int .i64 c, .int .i64 t]] w fun e w' => e = .returned (.bool true) ∧ Below w.heap.size w w' := by
  have HTW : Aside0 (∀ W, Below w.heap.size w W → Cron.Laid W) := ⟨fun W h => Cron.laid_lasts _ _ hw h⟩
  have HS := Cron.cron_says j.rule hz
  have HN := nx_bound j.rule
  have HZ0 : (0 : Nat) ≤ 9223372036854775807 := by omega
  have CL := Aside0.mk (fun W (h : Below w.heap.size w W) => lease_any Cron.laid_lasts (Cron.parseE j.rule) j a k u W (HTW.out W h) HS.parse)
  have CF := Aside0.mk (fun W (h : Below w.heap.size w W) => fail_any Cron.laid_lasts (Cron.parseE j.rule) (Cron.nxP j.rule) j b c t u W (HTW.out W h) HS)
  have CG := Aside0.mk (fun W (h : Below w.heap.size w W) => finish_any Cron.laid_lasts (Cron.parseE j.rule) (Cron.nxP j.rule) j u W (HTW.out W h) HS)
  have FL := fun h => lease_may (pe := Cron.parseE j.rule) (j := j) (a := a) (b := k) (c := u) h
  have FF := fun h => fail_may (pe := Cron.parseE j.rule) (nx := Cron.nxP j.rule) (j := j) (b := b) (c := c) (t := t) (now := u) HN h
  have FG := fun h => finish_may (pe := Cron.parseE j.rule) (nx := Cron.nxP j.rule) (j := j) (now := u) HN h
  obtain ⟨LE, hLE⟩ := named (leaseE (Cron.parseE j.rule) j a k u)
  obtain ⟨FE, hFE⟩ := named (failE (Cron.parseE j.rule) j b c t u)
  obtain ⟨GE, hGE⟩ := named (finE (Cron.parseE j.rule) j u)
  obtain ⟨GB, hGB⟩ := named (finB (Cron.parseE j.rule) (Cron.nxP j.rule u) j u)
  obtain ⟨X, hX⟩ := named (leaseJ (Cron.parseE j.rule) j a k u)
  obtain ⟨Y, hY⟩ := named (failJ (Cron.parseE j.rule) (Cron.nxP j.rule u) j b c t u)
  obtain ⟨Z, hZ⟩ := named (finJ (Cron.parseE j.rule) (Cron.nxP j.rule u) j u)
  rw [← hLE.out, ← hX.out] at CL
  rw [← hFE.out, ← hY.out] at CF
  rw [← hGE.out, ← hGB.out, ← hZ.out] at CG
  rw [← hLE.out, ← hX.out] at FL
  rw [← hFE.out, ← hY.out] at FF
  rw [← hGE.out, ← hGB.out, ← hZ.out] at FG
  have RL : Aside0 (LE = 0 → (X.id = j.id ∧ X.name = j.name ∧ X.rule = j.rule ∧ X.payload = j.payload ∧ X.tries = j.tries) ∧ ∀ W, Below w.heap.size w W → Calls Tryd.prog 11 #[.agg (jc X)] W fun e w' => e = .returned (.int .i64 0) ∧ Below W.heap.size W w') := ⟨fun h => by
    obtain ⟨h1, h2, h3⟩ := FL h
    rw [h2]
    exact ⟨⟨rfl, rfl, rfl, rfl, rfl⟩, fun W hW => check_ok (holdJ j 2 0 a k u) W (HTW.out W hW) hz h3⟩⟩
  have RF : Aside0 (FE = 0 → (Y.id = j.id ∧ Y.name = j.name ∧ Y.payload = j.payload ∧ Y.status ≠ 2) ∧ ∀ W, Below w.heap.size w W → Calls Tryd.prog 11 #[.agg (jc Y)] W fun e w' => e = .returned (.int .i64 0) ∧ Below W.heap.size W w') := ⟨fun h => by
    obtain ⟨h1, ⟨h2, h3, h4, h5⟩, h6⟩ := FF h
    refine ⟨⟨h2, h3, h4, h6⟩, fun W hW => check_ok Y W (HTW.out W hW) ?_ ?_⟩
    · rcases h5 with h5 | h5 <;> rw [h5]
      · exact hz
      · exact HZ0
    · rcases h1 with h1 | h1
      · rcases h5 with h5 | h5
        · rw [h5]; exact h1
        · obtain ⟨_, _, q⟩ := chk_iff.1 h1
          obtain ⟨q1, q2, _⟩ := chk_iff.1 h1
          exact chk_iff.2 ⟨q1, q2, by rw [chkC, h5]; rfl⟩
      · exact h1.2 _⟩
  have RG : Aside0 (GE = 0 → (j.id ≠ 0) ∧ (GB = true → (Z.id = j.id ∧ Z.status = 1 ∧ Z.tries = 0) ∧ ∀ W, Below w.heap.size w W → Calls Tryd.prog 11 #[.agg (jc Z)] W fun e w' => e = .returned (.int .i64 0) ∧ Below W.heap.size W w') ∧ (GB = false → Z = JobPure.j0)) := ⟨fun h => by
    obtain ⟨h1, h2, h3⟩ := FG h
    refine ⟨by omega, fun hb => ?_, h3⟩
    obtain ⟨q1, q2, q3, q4, q5⟩ := h2 hb
    exact ⟨⟨q2.1, q4, q5⟩, fun W hW => check_ok Z W (HTW.out W hW) (by rw [q3]; exact hz) (by rw [q3]; exact q1)⟩⟩
  clear FL FF FG HN HS hLE hFE hGE hGB hX hY hZ hw
  have ELE : Aside0 (LE ≠ 0 ∨ LE = 0) := ⟨by omega⟩
  have EFE : Aside0 (FE ≠ 0 ∨ FE = 0) := ⟨by omega⟩
  have EGE : Aside0 (GE ≠ 0 ∨ GE = 0) := ⟨by omega⟩
  obtain ⟨x0, x1, x2, x3, x4, x5, x6, x7, x8, x9⟩ := X
  obtain ⟨y0, y1, y2, y3, y4, y5, y6, y7, y8, y9⟩ := Y
  obtain ⟨z0, z1, z2, z3, z4, z5, z6, z7, z8, z9⟩ := Z
  obtain ⟨id, name, rule, payload, status, due, tries, worker, token, til⟩ := j
  dsimp only at CL CF CG RL RF RG hz ⊢
  clear hz HZ0
  have HJ0 := Aside0.mk (blk_alloc (blk_new w (.cells #[.int .i64 id, .string name, .string rule, .string payload, .int .i64 status, .int .i64 due, .int .i64 tries, .int .i64 worker, .int .i64 token, .int .i64 til] 49)) (.cells #[.int .i64 b, .int .i64 c, .int .i64 t] 23))
  have HL0 := Aside0.mk (blk_new1 w (.cells #[.int .i64 id, .string name, .string rule, .string payload, .int .i64 status, .int .i64 due, .int .i64 tries, .int .i64 worker, .int .i64 token, .int .i64 til] 49) #[.int .i64 b, .int .i64 c, .int .i64 t] 23)
  have HB0 := Aside0.mk (below_alloc (below_alloc (Below.refl _ w) (.cells #[.int .i64 id, .string name, .string rule, .string payload, .int .i64 status, .int .i64 due, .int .i64 tries, .int .i64 worker, .int .i64 token, .int .i64 til] 49)) (.cells #[.int .i64 b, .int .i64 c, .int .i64 t] 23))
  go_enter Tryd.func5, Tryd.ntmps5
  go_upto_region 6 with (first
    | (go_at_call 7; with_reducible refine (alive_any _).mono ?_; rintro e w1 ⟨rfl, hb⟩; (have HB1 := Aside0.mk (bthen HB0.out hb)); (have HJ1 := Aside0.mk (blk_keep HJ0.out hb)); (have HL1 := Aside0.mk (blk_keep HL0.out hb)); obtain ⟨j0, j1, j2, j3, j4, j5, j6, j7, j8, j9⟩ := all10 HJ1.out; clear hb)
    | (go_at_call 16; with_reducible refine (CL.out _ HB1.out).mono ?_; rintro e w2 ⟨rfl, hb⟩; (have HB2 := Aside0.mk (below_alloc (bthen HB1.out hb) (.cells #[.int .i64 x0, .string x1, .string x2, .string x3, .int .i64 x4, .int .i64 x5, .int .i64 x6, .int .i64 x7, .int .i64 x8, .int .i64 x9] 35))); (have HJ2 := Aside0.mk (blk_alloc (blk_keep HJ1.out hb) (.cells #[.int .i64 x0, .string x1, .string x2, .string x3, .int .i64 x4, .int .i64 x5, .int .i64 x6, .int .i64 x7, .int .i64 x8, .int .i64 x9] 35))); (have HL2 := Aside0.mk (blk_alloc (blk_keep HL1.out hb) (.cells #[.int .i64 x0, .string x1, .string x2, .string x3, .int .i64 x4, .int .i64 x5, .int .i64 x6, .int .i64 x7, .int .i64 x8, .int .i64 x9] 35))); (have HX2 := Aside0.mk (blk_new w2 (.cells #[.int .i64 x0, .string x1, .string x2, .string x3, .int .i64 x4, .int .i64 x5, .int .i64 x6, .int .i64 x7, .int .i64 x8, .int .i64 x9] 35))); clear j0 j1 j2 j3 j4 j5 j6 j7 j8 j9; obtain ⟨j0, j1, j2, j3, j4, j5, j6, j7, j8, j9⟩ := all10 HJ2.out; obtain ⟨l0, l1, l2, _, _, _⟩ := all3 HL2.out; clear hb)
    | (go_at_call 14; with_reducible refine (CF.out _ HB2.out).mono ?_; rintro e w3 ⟨rfl, hb⟩; (have HB3 := Aside0.mk (below_alloc (bthen HB2.out hb) (.cells #[.int .i64 y0, .string y1, .string y2, .string y3, .int .i64 y4, .int .i64 y5, .int .i64 y6, .int .i64 y7, .int .i64 y8, .int .i64 y9] 35))); (have HJ3 := Aside0.mk (blk_alloc (blk_keep HJ2.out hb) (.cells #[.int .i64 y0, .string y1, .string y2, .string y3, .int .i64 y4, .int .i64 y5, .int .i64 y6, .int .i64 y7, .int .i64 y8, .int .i64 y9] 35))); (have HX3 := Aside0.mk (blk_alloc (blk_keep HX2.out hb) (.cells #[.int .i64 y0, .string y1, .string y2, .string y3, .int .i64 y4, .int .i64 y5, .int .i64 y6, .int .i64 y7, .int .i64 y8, .int .i64 y9] 35))); (have HY3 := Aside0.mk (blk_new w3 (.cells #[.int .i64 y0, .string y1, .string y2, .string y3, .int .i64 y4, .int .i64 y5, .int .i64 y6, .int .i64 y7, .int .i64 y8, .int .i64 y9] 35))); clear j0 j1 j2 j3 j4 j5 j6 j7 j8 j9 l0 l1 l2; obtain ⟨j0, j1, j2, j3, j4, j5, j6, j7, j8, j9⟩ := all10 HJ3.out; clear hb)
    | (go_at_call 13; with_reducible refine (CG.out _ HB3.out).mono ?_; rintro e w4 ⟨rfl, hb⟩; (have HB4 := Aside0.mk (below_alloc (bthen HB3.out hb) (.cells #[.int .i64 z0, .string z1, .string z2, .string z3, .int .i64 z4, .int .i64 z5, .int .i64 z6, .int .i64 z7, .int .i64 z8, .int .i64 z9] 35))); (have HJ4 := Aside0.mk (blk_alloc (blk_keep HJ3.out hb) (.cells #[.int .i64 z0, .string z1, .string z2, .string z3, .int .i64 z4, .int .i64 z5, .int .i64 z6, .int .i64 z7, .int .i64 z8, .int .i64 z9] 35))); (have HX4 := Aside0.mk (blk_alloc (blk_keep HX3.out hb) (.cells #[.int .i64 z0, .string z1, .string z2, .string z3, .int .i64 z4, .int .i64 z5, .int .i64 z6, .int .i64 z7, .int .i64 z8, .int .i64 z9] 35))); (have HY4 := Aside0.mk (blk_alloc (blk_keep HY3.out hb) (.cells #[.int .i64 z0, .string z1, .string z2, .string z3, .int .i64 z4, .int .i64 z5, .int .i64 z6, .int .i64 z7, .int .i64 z8, .int .i64 z9] 35))); (have HZ4 := Aside0.mk (blk_new w4 (.cells #[.int .i64 z0, .string z1, .string z2, .string z3, .int .i64 z4, .int .i64 z5, .int .i64 z6, .int .i64 z7, .int .i64 z8, .int .i64 z9] 35))); clear j0 j1 j2 j3 j4 j5 j6 j7 j8 j9 hb))
  obtain ⟨W6, hW6⟩ : ∃ W6, W6 = w4.alloc (.cells #[.int .i64 z0, .string z1, .string z2, .string z3, .int .i64 z4, .int .i64 z5, .int .i64 z6, .int .i64 z7, .int .i64 z8, .int .i64 z9] 35) := ⟨_, rfl⟩
  obtain ⟨G1, hG1⟩ : ∃ G1, G1 = w2.heap.size := ⟨_, rfl⟩
  obtain ⟨G2, hG2⟩ : ∃ G2, G2 = w3.heap.size := ⟨_, rfl⟩
  obtain ⟨G3, hG3⟩ : ∃ G3, G3 = w4.heap.size := ⟨_, rfl⟩
  rw [← hW6] at HB4 HJ4 HX4 HY4 HZ4 ⊢
  rw [← hG1] at HX4 ⊢
  rw [← hG2] at HY4 ⊢
  rw [← hG3] at HZ4 ⊢
  clear hW6 hG1 hG2 hG3 HB0 HJ0 HL0 HB1 HJ1 HL1 HB2 HJ2 HL2 HX2 HB3 HJ3 HX3 HY3 CL CF CG
  go_cut [85] (fun v85 wc => v85 = .bool false ∧ Aside0 (Below W6.heap.size W6 wc))
  case first =>
    obtain ⟨j0, j1, j2, j3, j4, j5, j6, j7, j8, j9⟩ := all10 HJ4.out
    obtain ⟨p0, p1, p2, p3, p4, p5, p6, p7, p8, p9⟩ := all10 HX4.out
    rcases ELE.out with h | h
    · have hb : (LE == 0) = false := by simpa using h
      clear h
      go_wp2_with (go_at_call 10; with_reducible refine (num_any _ _).mono ?_; rintro e w9 ⟨rfl, rfl⟩)
      go_meet
      exact ⟨rfl, ⟨Below.refl _ _⟩⟩
    · obtain ⟨⟨h0, h1, h2, h3, h6⟩, hc⟩ := RL.out h
      have CX := Aside0.mk hc
      clear hc RL RF RG
      subst h h0 h1 h2 h3 h6
      go_wp2_with (first
        | (go_at_call 11; with_reducible refine (CX.out _ HB4.out).mono ?_; rintro e w5 ⟨rfl, hb⟩; (have HB5 := Aside0.mk hb); clear j0 j1 j2 j3 j4 j5 j6 j7 j8 j9 p0 p1 p2 p3 p4 p5 p6 p7 p8 p9; obtain ⟨j0, j1, j2, j3, j4, j5, j6, j7, j8, j9⟩ := all10 (blk_keep HJ4.out hb); obtain ⟨p0, p1, p2, p3, p4, p5, p6, p7, p8, p9⟩ := all10 (blk_keep HX4.out hb); clear hb)
        | (go_at_call 10; with_reducible refine (num_any _ _).mono ?_; rintro e w9 ⟨rfl, rfl⟩))
      go_meet
      exact ⟨rfl, ⟨HB5.out⟩⟩
  case rest =>
    obtain ⟨rfl, HBW⟩ := hcut
    have HB5 := Aside0.mk (bthen HB4.out HBW.out)
    have HJ5 := Aside0.mk (blk_keep HJ4.out HBW.out)
    have HY5 := Aside0.mk (blk_keep HY4.out HBW.out)
    have HZ5 := Aside0.mk (blk_keep HZ4.out HBW.out)
    clear HBW HB4 HJ4 HX4 HY4 HZ4 W6
    go_upto_region 8 with (fail)
    go_cut [120] (fun v120 wd => v120 = .bool false ∧ Aside0 (Below wc.heap.size wc wd))
    case first =>
      obtain ⟨j0, j1, j2, j3, j4, j5, j6, j7, j8, j9⟩ := all10 HJ5.out
      obtain ⟨p0, p1, p2, p3, p4, p5, p6, p7, p8, p9⟩ := all10 HY5.out
      rcases EFE.out with h | h
      · have hb : (FE == 0) = false := by simpa using h
        clear h
        go_wp2_with (go_at_call 10; with_reducible refine (num_any _ _).mono ?_; rintro e w9 ⟨rfl, rfl⟩)
        go_meet
        exact ⟨rfl, ⟨Below.refl _ _⟩⟩
      · obtain ⟨⟨h0, h1, h3, h4⟩, hc⟩ := RF.out h
        have CX := Aside0.mk hc
        have hs : (y4 == 2) = false := by simpa using h4
        clear hc RL RF RG h4
        subst h h0 h1 h3
        go_wp2_with (first
          | (go_at_call 11; with_reducible refine (CX.out _ HB5.out).mono ?_; rintro e w6 ⟨rfl, hb⟩; (have HB6 := Aside0.mk hb); clear j0 j1 j2 j3 j4 j5 j6 j7 j8 j9 p0 p1 p2 p3 p4 p5 p6 p7 p8 p9; obtain ⟨j0, j1, j2, j3, j4, j5, j6, j7, j8, j9⟩ := all10 (blk_keep HJ5.out hb); obtain ⟨p0, p1, p2, p3, p4, p5, p6, p7, p8, p9⟩ := all10 (blk_keep HY5.out hb); clear hb)
          | (go_at_call 10; with_reducible refine (num_any _ _).mono ?_; rintro e w9 ⟨rfl, rfl⟩))
        go_meet
        exact ⟨rfl, ⟨HB6.out⟩⟩
    case rest =>
      obtain ⟨rfl, HBW⟩ := hcut
      have HB7 := Aside0.mk (bthen HB5.out HBW.out)
      have HJ7 := Aside0.mk (blk_keep HJ5.out HBW.out)
      have HZ7 := Aside0.mk (blk_keep HZ5.out HBW.out)
      clear HBW HB5 HJ5 HY5 HZ5
      obtain ⟨j0, j1, j2, j3, j4, j5, j6, j7, j8, j9⟩ := all10 HJ7.out
      obtain ⟨p0, p1, p2, p3, p4, p5, p6, p7, p8, p9⟩ := all10 HZ7.out
      rcases EGE.out with h | h
      · have hb : (GE != 0) = true := by simpa using h
        clear h
        go_wp2_with (go_at_call 10; with_reducible refine (num_any _ _).mono ?_; rintro e w9 ⟨rfl, rfl⟩)
        go_ret
        exact ⟨rfl, HB7.out⟩
      · obtain ⟨hi, h1, h2⟩ := RG.out h
        cases GB with
        | false =>
          obtain ⟨rfl, rfl, rfl, rfl, rfl, rfl, rfl, rfl, rfl, rfl⟩ := Jb.mk.inj (h2 rfl)
          have hq : ((0 : Int) == id) = false := by simpa using fun q : (0 : Int) = id => hi q.symm
          clear h1 h2 hi RL RF RG
          subst h
          go_wp2_with (go_at_call 10; with_reducible refine (num_any _ _).mono ?_; rintro e w9 ⟨rfl, rfl⟩)
          go_ret
          exact ⟨rfl, HB7.out⟩
        | true =>
          obtain ⟨⟨q0, q4, q6⟩, hc⟩ := h1 rfl
          have CX := Aside0.mk hc
          clear hc h1 h2 hi RL RF RG
          subst h q0 q4 q6
          go_wp2_with (first
            | (go_at_call 11; with_reducible refine (CX.out _ HB7.out).mono ?_; rintro e w8 ⟨rfl, hb⟩; (have HB8 := Aside0.mk (bthen HB7.out hb)); clear j0 j1 j2 j3 j4 j5 j6 j7 j8 j9 p0 p1 p2 p3 p4 p5 p6 p7 p8 p9; obtain ⟨j0, j1, j2, j3, j4, j5, j6, j7, j8, j9⟩ := all10 (blk_keep HJ7.out hb); obtain ⟨p0, p1, p2, p3, p4, p5, p6, p7, p8, p9⟩ := all10 (blk_keep HZ7.out hb); clear hb)
            | (go_at_call 10; with_reducible refine (num_any _ _).mono ?_; rintro e w9 ⟨rfl, rfl⟩))
          go_ret
          exact ⟨rfl, HB8.out⟩
end Go.Proofs.YteloamnakikbbaaDoor.JKeeps

/- JobKeeps: for every input the law returns true, and what it is given stays (the library's tables as their initialisers lay them). -/
namespace Go.Proofs.YteloamnakikbbaaDoor.rowKeeps
open Go.ChangeShapes Go.WideShapes Go.ChangeAt Go.RowKit Go.Proofs.YteloamnakikbbaaDoor.Laid Go.Proofs.YteloamnakikbbaaDoor.LiftJ
open Go.ChangeMaps (open_string shut_string)
set_option linter.unusedVariables false
set_option linter.unusedSimpArgs false
set_option maxRecDepth 100000

theorem laid_met (os : Os) : laidMet Tryd.prog Rows.jobKeepsRow.laid ((laidWorld os).forCall (fun _ _ => 0) ⟨#[], #[.agg #[.int .i64 0, .string ⟨#[]⟩, .string ⟨#[]⟩, .string ⟨#[]⟩, .int .i64 0, .int .i64 0, .int .i64 0, .int .i64 0, .int .i64 0, .int .i64 0], .int .i64 0, .int .i64 0, .int .i64 0, .agg #[.int .i64 0, .int .i64 0, .int .i64 0]], []⟩).memory :=
  laidMet_of_run' 8 (by kernel_rfl) (by kernel_rfl)
theorem reads (os : Os) {H : Type} (enc : TypeId × Value → H) : ∃ places, DataW.whole enc Tryd.prog ((laidWorld os).forCall (fun _ _ => 0) ⟨#[], #[.agg #[.int .i64 0, .string ⟨#[]⟩, .string ⟨#[]⟩, .string ⟨#[]⟩, .int .i64 0, .int .i64 0, .int .i64 0, .int .i64 0, .int .i64 0, .int .i64 0], .int .i64 0, .int .i64 0, .int .i64 0, .agg #[.int .i64 0, .int .i64 0, .int .i64 0]], []⟩).memory Tryd.f5.params.toList Rows.jobKeepsSpec.vars false #[Value.agg #[.int .i64 0, .string ⟨#[]⟩, .string ⟨#[]⟩, .string ⟨#[]⟩, .int .i64 0, .int .i64 0, .int .i64 0, .int .i64 0, .int .i64 0, .int .i64 0], .int .i64 0, .int .i64 0, .int .i64 0, .agg #[.int .i64 0, .int .i64 0, .int .i64 0]].toList 8 = some ([.agg [.lit (.int .i64 0), .lit (.string []), .lit (.string []), .lit (.string []), .lit (.int .i64 0), .lit (.int .i64 0), .lit (.int .i64 0), .lit (.int .i64 0), .lit (.int .i64 0), .lit (.int .i64 0)], .lit (.int .i64 0), .lit (.int .i64 0), .lit (.int .i64 0), .agg [.lit (.int .i64 0), .lit (.int .i64 0), .lit (.int .i64 0)]], [], places) :=
  ⟨[], by kernel_rfl⟩

theorem contract (H : Type) (enc : TypeId × Value → H) (W : World) (base : Nat) (args : Array Value) (ds gs : List (DataW H)) (before : List MemPlace)
    (hval : ∀ (j : Nat) t v, Tryd.f5.params[j]? = some t → args[j]? = some v → Value.okWide Tryd.prog W .any base t v)
    (hW : DataW.Whole enc Tryd.prog Tryd.f5.params.toList Rows.jobKeepsSpec.vars false W args.toList ds gs before) (hL : laidMet Tryd.prog Rows.jobKeepsRow.laid W) (hsh : W.ShapedOpen Tryd.prog) :
    Calls Tryd.prog 5 args W fun e W' => ∃ v, e = .returned v ∧ Rows.jobKeepsSpec.post enc Tryd.prog Tryd.f5 false true false false W args v W' := by
  have hW' := hW
  obtain ⟨p, q, hA0, hV, rfl, hfz, hnd⟩ := hW
  have hA : DataW.TrodAll enc Tryd.prog W 0 (fun _ => true) true Tryd.f5.params.toList args.toList ds p := hA0
  rw [Tryd.params5] at hA hval
  obtain ⟨v0, vs0, d0, ds0, p0, q0, hargs, rfl, rfl, h0, r0⟩ := trodAll_cons hA
  obtain ⟨v1, vs1, d1, ds1, p1, q1, rfl, rfl, rfl, h1, r1⟩ := trodAll_cons r0
  obtain ⟨v2, vs2, d2, ds2, p2, q2, rfl, rfl, rfl, h2, r2⟩ := trodAll_cons r1
  obtain ⟨v3, vs3, d3, ds3, p3, q3, rfl, rfl, rfl, h3, r3⟩ := trodAll_cons r2
  obtain ⟨v4, vs4, d4, ds4, p4, q4, rfl, rfl, rfl, h4, r4⟩ := trodAll_cons r3
  obtain ⟨rfl, rfl, rfl⟩ := trodAll_nil r4
  obtain rfl : args = #[v0, v1, v2, v3, v4] := by cases args; simp_all
  obtain ⟨rfl, rfl⟩ := trodVars_none hV
  have k0 := h0
  have lt0 : ∀ x ∈ p0, x.block < W.heap.size := by obtain ⟨m, hm⟩ := k0; exact DataW.trod_lt m _ _ _ hm
  have k4 := h4
  have lt4 : ∀ x ∈ p4, x.block < W.heap.size := by obtain ⟨m, hm⟩ := k4; exact DataW.trod_lt m _ _ _ hm
  obtain ⟨cs, hcs, _⟩ := okWide_struct Tryd.underlying49 (hval 0 49 v0 rfl rfl)
  obtain ⟨fuel, hf⟩ := h0
  obtain ⟨id, name, rule, payload, status, due, tries, worker, token, til, rfl, hz⟩ := trod_jobz ⟨cs, hcs⟩ hf
  obtain ⟨a1, rfl, rfl, rfl, w1⟩ := open_int Tryd.underlying3 (hval 1 3 v1 rfl rfl) h1
  obtain ⟨a2, rfl, rfl, rfl, w2⟩ := open_int Tryd.underlying3 (hval 2 3 v2 rfl rfl) h2
  obtain ⟨a3, rfl, rfl, rfl, w3⟩ := open_int Tryd.underlying3 (hval 3 3 v3 rfl rfl) h3
  obtain ⟨cs4, hcs4, _⟩ := okWide_struct Tryd.underlying23 (hval 4 23 v4 rfl rfl)
  obtain ⟨fuel4, hf4⟩ := h4
  obtain ⟨b, c, t, rfl⟩ := trod_lim ⟨cs4, hcs4⟩ hf4
  clear hA0
  have walk : Calls Tryd.prog 5 #[.agg #[.int .i64 id, .string name, .string rule, .string payload, .int .i64 status, .int .i64 due, .int .i64 tries, .int .i64 worker, .int .i64 token, .int .i64 til], .int .i64 a1, .int .i64 a2, .int .i64 a3, .agg #[.int .i64 b, .int .i64 c, .int .i64 t]] W fun e w' => e = .returned (.bool true) ∧ Below W.heap.size W w' :=
    JKeeps.keeps_walk ⟨id, name, rule, payload, status, due, tries, worker, token, til⟩ a1 a2 a3 b c t W ⟨maxL hsh, tab64 hL⟩ (by show rule.size ≤ _; unfold maxLen at hz; omega)
  refine walk.mono fun e W' ⟨he, bel⟩ => ?_
  subst he
  exact ⟨_, rfl, _, _, _, [], _, [], hW', trodAll_mk1 (shut_bool Tryd.underlying4 _), (trodAll_cons_mk (Below.trod laidOut (by kernel_rfl) (of_decide_eq_true (by kernel_rfl)) k0 bel lt0) (trodAll_cons_mk (shut_int Tryd.underlying3 w1) (trodAll_cons_mk (shut_int Tryd.underlying3 w2) (trodAll_cons_mk (shut_int Tryd.underlying3 w3) (trodAll_cons_mk (Below.trod laidOut (by kernel_rfl) (of_decide_eq_true (by kernel_rfl)) k4 bel lt4) trodAll_mk0))))), rfl, bel.frame _, fun h => by cases h⟩

theorem lifted (os : Os) (started : os.Started) (H : Type) (enc : TypeId × Value → H) (F : Stop.Interp) :
    ReturnsInHanded {} Tryd.checked os 5 .any ((OpenSpec.ofChange Rows.jobKeepsSpec).preRow enc Tryd.prog Tryd.f5 Rows.jobKeepsRow.domain false Rows.jobKeepsRow.laid) (((OpenSpec.ofChange Rows.jobKeepsSpec).at F).post enc Tryd.prog Tryd.f5 false true false false) := by
  obtain ⟨places, hx⟩ := reads os enc
  refine returnsInHanded_of_row (C := Tryd.checked) (s := OpenSpec.ofChange Rows.jobKeepsSpec) own started (by kernel_rfl) Tryd.func5
    (witness_row_at (enc := enc) (C := Tryd.checked) false (laidWorld os) #[.agg #[.int .i64 0, .string ⟨#[]⟩, .string ⟨#[]⟩, .string ⟨#[]⟩, .int .i64 0, .int .i64 0, .int .i64 0, .int .i64 0, .int .i64 0, .int .i64 0], .int .i64 0, .int .i64 0, .int .i64 0, .agg #[.int .i64 0, .int .i64 0, .int .i64 0]] rfl (by kernel_rfl) (by kernel_rfl) (by kernel_rfl)
      (OpenSpec.preRow_of_cond 8 hx (by kernel_rfl) (fun k hk => by cases hk) (by kernel_rfl) (laid_met os))) ?_
  intro W base args ds gs before hval hW _ _ _ hL hsh _
  exact contract H enc W base args ds gs before hval hW hL hsh

theorem said : Rows.JobKeepsSaid :=
  OpenClaim.holds_of_cond 5 Tryd.f5 rfl rfl rfl rfl rfl rfl rfl ⟨rfl, rfl, rfl, rfl, rfl⟩ rfl rfl rfl rfl rfl (by kernel_rfl) Tryd.func5 (by kernel_rfl)
    (of_decide_eq_true (by kernel_rfl)) (by unfold Func.isWrapper; first | (rw [if_pos (by decide +kernel)]; kernel_rfl) | (rw [if_neg (by decide +kernel)]; exact ⟨rfl, rfl⟩))
    (fun os started H enc _ F => by rw [OpenClaim.pre_eq_preRow]; exact lifted os started H enc F)

theorem plain (f : FuncId) (fn : Func) (hf : Tryd.pinned.checked.prog.funcNamed "tickler/ticklerlaw19.JobKeeps" = some f) (hfn : Tryd.pinned.checked.prog.funcs[f]? = some fn) :
    false = Tryd.pinned.checked.prog.looks [] ∧ ∀ (j : Nat) t, fn.params[j]? = some t → Tryd.pinned.checked.prog.wantsStandIn t = false := by
  obtain rfl : f = 5 := Option.some.inj ((show Tryd.prog.funcNamed "tickler/ticklerlaw19.JobKeeps" = some 5 by kernel_rfl).symm.trans hf) |>.symm
  obtain rfl : fn = Tryd.f5 := (Option.some.inj (Tryd.func5.symm.trans hfn)).symm
  refine ⟨by kernel_rfl, fun j t ht => ?_⟩
  rw [Tryd.params5] at ht
  have hm := Array.mem_of_getElem? ht
  simp only [List.mem_toArray, List.mem_cons, List.not_mem_nil, or_false] at hm
  rcases hm with rfl | rfl | rfl | rfl | rfl
  · exact (show Tryd.prog.wantsStandIn 49 = false by kernel_rfl)
  · exact (show Tryd.prog.wantsStandIn 3 = false by kernel_rfl)
  · exact (show Tryd.prog.wantsStandIn 3 = false by kernel_rfl)
  · exact (show Tryd.prog.wantsStandIn 3 = false by kernel_rfl)
  · exact (show Tryd.prog.wantsStandIn 23 = false by kernel_rfl)

theorem card : Rows.JobKeepsCardSaid :=
  Claim7.holds_tied_plain_at .later [] _ _ _ _ said (fun _ h => by cases h) (by kernel_rfl) (fun _ h => by cases h) jobKeeps_row_tie rfl ⟨rfl, rfl⟩ (by kernel_rfl) rfl plain (by kernel_rfl)
end Go.Proofs.YteloamnakikbbaaDoor.rowKeeps
namespace Go.Proofs.YteloamnakikbbaaDoor
theorem jobKeeps_holds : Rows.JobKeepsCardSaid := rowKeeps.card
#print axioms jobKeeps_holds
end Go.Proofs.YteloamnakikbbaaDoor
