/- A part of the proof: slices.Grow and slices.Concat of acts: walked. (Printed by wip/gen_concat.py.) -/
import Derived.Test.YtfakfgblaakgdaaGreatPkActs6
import Derived.Test.YtfakfgblaakgdaaGreatPkActs5
import Derived.Test.YtfakfgblaakgdaaGreatPkActs4
import Derived.Test.YtfakfgblaakgdaaGreatWZeros
import Derived.BigRegion
import Derived.Laws.Small
import Derived.Lib.SlBytesConst

/- slices.Grow and slices.Concat of acts: walked. (Printed by wip/gen_concat.py.) -/
namespace Go.Proofs.YtfakfgblaakgdaaGreat.Cat
set_option linter.unusedVariables false
set_option linter.unusedSimpArgs false
open Go.RowKit Go.Proofs.YtfakfgblaakgdaaGreatW.PrintWords Go.Proofs.YtfakfgblaakgdaaGreatW.PrintLast Go.Proofs.YtfakfgblaakgdaaGreat.Base Go.Proofs.YtfakfgblaakgdaaGreat.Cells Go.Proofs.YtfakfgblaakgdaaGreat.Ints Go.Proofs.YtfakfgblaakgdaaGreat.Var Go.Proofs.YtfakfgblaakgdaaGreat.Files

theorem infoA : (Tryz.prog.info? 92).map (fun i => (i.zero, i.size, i.bytes)) = some (some (.agg #[.int .i64 0, .string ⟨#[]⟩, .string ⟨#[]⟩, .slice none 0 0]), 4, 64) := by kernel_rfl
theorem infoAx : ∃ i0, Tryz.prog.info? 92 = some i0 ∧ i0.size = 4 := by
  have h := infoA
  obtain ⟨i0, h1, h2⟩ := Option.map_eq_some_iff.1 h
  exact ⟨i0, h1, congrArg (fun x => x.2.1) h2⟩
set_option maxRecDepth 100000 in
set_option maxHeartbeats 1000000 in
theorem growA_any (n : Int) (w : World) (h0 : 0 ≤ n) (h1 : n ≤ 4194304) :
    Calls Tryz.prog 81 #[.slice none 0 0, .int .i64 n] w fun e w' => ∃ v, e = .returned v ∧ kAd.R 92 w' w.heap.size (fun _ => True) v [] ∧ Below w.heap.size w w' := by
  obtain ⟨i0, hi0, hz2⟩ := infoAx
  have hcn := cut_to (P := Tryz.prog) 44 92 .i64 Tryz.underlying44 hi0 none 0 0 0 (by omega) (by omega) (by omega)
  by_cases hn : 0 < n
  · go_enter Tryz.func81, Tryz.ntmps81
    go_wp2_with (at_builtin; refine Kd.R_append_zeros kAd (w0 := w) w.heap.size rfl (.tmp 20) (.tmp 21) 44 3 92 (.agg #[.int .i64 0, .string ⟨#[]⟩, .string ⟨#[]⟩, .slice none 0 0]) 64 rfl Tryz.underlying44 Tryz.underlying3 infoA rfl (by decide) (by omega) (.slice none 0 0) [] zAd n (fun _ => True) rfl rfl ?aZ (fun _ _ => trivial) ?aO h0 ?aB ?aS ?c1 ?_; (case aZ => exact ⟨rfl, rfl⟩); (case aO => exact Kd.R_nil _ _ _ _ _); (case aB => exact Below.refl _ _); (case aS => exact Nat.le_refl _); (case c1 => simp only [List.length_nil]; omega); intro v1 w1 hown hB1 hg1 hat; obtain ⟨A1, c1, rfl, hlc, _⟩ := Kd.R_reads hown; have hct := cut_to (P := Tryz.prog) 44 92 .i64 Tryz.underlying44 hi0 A1 ([] ++ List.replicate n.toNat zAd).length c1 0 (by omega) (by omega) hlc; have HO1 := Aside0.mk (Kd.R_take hown (Nat.zero_le _)); have HB1 := Aside0.mk hB1; clear hown hB1 hg1 hat hlc)
    go_ret
    exact ⟨_, rfl, HO1.out, HB1.out⟩
  · obtain rfl : n = 0 := by omega
    go_enter Tryz.func81, Tryz.ntmps81
    go_wp2
    go_ret
    exact ⟨_, rfl, Kd.R_nil _ _ _ _ _, Below.refl _ _⟩

set_option maxRecDepth 100000 in
set_option maxHeartbeats 4000000 in
theorem concatA3_any (b : Nat) (A1 A2 A3 : Option Addr) (c1 c2 c3 n1 n2 n3 : Nat) (l1 l2 l3 : List (Ac × Value)) (w : World) (h1 : w.cell? ⟨b, 0, none⟩ = some (.slice A1 n1 c1)) (h2 : w.cell? ⟨b, 1, none⟩ = some (.slice A2 n2 c2)) (h3 : w.cell? ⟨b, 2, none⟩ = some (.slice A3 n3 c3)) (r1 : kAd.C w A1 n1 l1) (r2 : kAd.C w A2 n2 l2) (r3 : kAd.C w A3 n3 l3) (b1 : n1 ≤ 1048576) (b2 : n2 ≤ 1048576) (b3 : n3 ≤ 1048576) :
    Calls Tryz.prog 37 #[.slice (some ⟨b, 0, none⟩) 3 3] w fun e w' => ∃ v, e = .returned v ∧ kAd.R 92 w' w.heap.size (fun _ => True) v (l1 ++ l2 ++ l3) ∧ Below w.heap.size w w' := by
  have R1 := Aside0.mk r1
  have H1 := Aside0.mk h1
  have N1 := Aside0.mk (Kd.C_len r1)
  have R2 := Aside0.mk r2
  have H2 := Aside0.mk h2
  have N2 := Aside0.mk (Kd.C_len r2)
  have R3 := Aside0.mk r3
  have H3 := Aside0.mk h3
  have N3 := Aside0.mk (Kd.C_len r3)
  clear r1 r2 r3
  go_enter Tryz.func37, Tryz.ntmps37
  go_wp2
  go_loopg [3, 5, 11] 3 (fun g v3 v5 v11 wr => ∃ i : Nat, v11 = .int .i64 i ∧ g + i = 3 ∧ v3 = .int .i64 (if i = 0 then 0 else if i = 1 then (n1 : Int) else if i = 2 then (n1 : Int) + n2 else (n1 : Int) + n2 + n3) ∧ w = wr)
  case atStart => exact ⟨0, rfl, rfl, rfl, rfl⟩
  case round =>
    obtain ⟨i, rfl, hg, rfl, rfl⟩ := hrel
    rcases i with _ | _ | _ | _ | i
    · skip
      simp only [if_true]
      go_wp2
      go_roundg 2
      case measure => omega
      case rel => exact ⟨1, rfl, rfl, by simp, rfl⟩
    · skip
      have e0 : ¬ ((0 + 1 : Nat) = 0) := by omega
      rw [if_neg e0]
      clear e0
      simp only [if_true]
      go_wp2
      go_roundg 1
      case measure => omega
      case rel => exact ⟨2, rfl, rfl, by simp, rfl⟩
    · skip
      have e0 : ¬ ((0 + 1 + 1 : Nat) = 0) := by omega
      have e1 : ¬ ((0 + 1 + 1 : Nat) = 1) := by omega
      rw [if_neg e0, if_neg e1]
      clear e0 e1
      simp only [if_true]
      go_wp2
      go_roundg 0
      case measure => omega
      case rel => exact ⟨3, rfl, rfl, by simp, rfl⟩
    · skip
      have e0 : ¬ ((0 + 1 + 1 + 1 : Nat) = 0) := by omega
      have e1 : ¬ ((0 + 1 + 1 + 1 : Nat) = 1) := by omega
      have e2 : ¬ ((0 + 1 + 1 + 1 : Nat) = 2) := by omega
      rw [if_neg e0, if_neg e1, if_neg e2]
      clear e0 e1 e2
      go_wp2_with fail
      refine (growA_any ((n1 : Int) + n2 + n3) _ (by omega) (by omega)).mono ?_
      rintro e w1 ⟨v, rfl, ho, hb⟩
      obtain ⟨Av, cv, rfl⟩ := Kd.R_slice ho
      have HO := Aside0.mk ho
      have HB := Aside0.mk hb
      clear ho hb h1 h2 h3
      go_wp2
      go_loopg [6, 8, 27] 3 (fun g v6 v8 v27 wr => ∃ i : Nat, v27 = .int .i64 i ∧ g + i = 3 ∧ Aside0 (kAd.R 92 wr w.heap.size (fun _ => True) v6 (if i = 0 then [] else if i = 1 then l1 else if i = 2 then l1 ++ l2 else l1 ++ l2 ++ l3)) ∧ Aside0 (Below w.heap.size w wr))
      case atStart => exact ⟨0, rfl, rfl, ⟨HO.out⟩, HB⟩
      case round =>
        obtain ⟨i, rfl, hg, HR, HBr⟩ := hrel
        rcases i with _ | _ | _ | _ | i
        · have HRa : Aside0 (kAd.R 92 wr w.heap.size (fun _ => True) u6 ([])) := HR
          have h1 := (pw_cell_below HBr.out H1.out)
          have RA : Aside0 (kAd.C wr A1 n1 l1) := ⟨Kd.C_below R1.out HBr.out⟩
          clear HR
          go_wp2_with (at_builtin; refine Kd.R_append_rows kAd (Rr := kAd.K wr) (w0 := w) w.heap.size rfl (.tmp 31) (.tmp 32) 44 92 (.agg #[.int .i64 0, .string ⟨#[]⟩, .string ⟨#[]⟩, .slice none 0 0]) 64 rfl Tryz.underlying44 infoA rfl (by decide) (by omega) u6 ([]) l1 A1 n1 c1 (fun _ => True) (fun _ => False) rfl rfl ?aO ?aR ?aK (fun _ hk => hk.elim) (fun _ _ => trivial) ?aB ?aS ?c1 ?_; (case aO => exact HRa.out); (case aR => exact RA.out); (case aK => intro x cs hx; exact hx); (case aB => exact HBr.out); (case aS => exact HBr.out.size); (case c1 => simp only [List.length_nil]; omega); intro v1 w1 hown hB1 hg1 hat; have HO1 := Aside0.mk hown; have HB1 := Aside0.mk hB1; clear hown hB1 hg1 hat)
          go_roundg 2
          case measure => omega
          case rel => exact ⟨1, rfl, rfl, ⟨HO1.out⟩, HB1⟩
        · have HRa : Aside0 (kAd.R 92 wr w.heap.size (fun _ => True) u6 (l1)) := HR
          have h2 := (pw_cell_below HBr.out H2.out)
          have RA : Aside0 (kAd.C wr A2 n2 l2) := ⟨Kd.C_below R2.out HBr.out⟩
          clear HR
          go_wp2_with (at_builtin; refine Kd.R_append_rows kAd (Rr := kAd.K wr) (w0 := w) w.heap.size rfl (.tmp 31) (.tmp 32) 44 92 (.agg #[.int .i64 0, .string ⟨#[]⟩, .string ⟨#[]⟩, .slice none 0 0]) 64 rfl Tryz.underlying44 infoA rfl (by decide) (by omega) u6 (l1) l2 A2 n2 c2 (fun _ => True) (fun _ => False) rfl rfl ?aO ?aR ?aK (fun _ hk => hk.elim) (fun _ _ => trivial) ?aB ?aS ?c1 ?_; (case aO => exact HRa.out); (case aR => exact RA.out); (case aK => intro x cs hx; exact hx); (case aB => exact HBr.out); (case aS => exact HBr.out.size); (case c1 => (try simp only [List.length_append]); have := N1.out; omega); intro v1 w1 hown hB1 hg1 hat; have HO1 := Aside0.mk hown; have HB1 := Aside0.mk hB1; clear hown hB1 hg1 hat)
          go_roundg 1
          case measure => omega
          case rel => exact ⟨2, rfl, rfl, ⟨HO1.out⟩, HB1⟩
        · have HRa : Aside0 (kAd.R 92 wr w.heap.size (fun _ => True) u6 (l1 ++ l2)) := HR
          have h3 := (pw_cell_below HBr.out H3.out)
          have RA : Aside0 (kAd.C wr A3 n3 l3) := ⟨Kd.C_below R3.out HBr.out⟩
          clear HR
          go_wp2_with (at_builtin; refine Kd.R_append_rows kAd (Rr := kAd.K wr) (w0 := w) w.heap.size rfl (.tmp 31) (.tmp 32) 44 92 (.agg #[.int .i64 0, .string ⟨#[]⟩, .string ⟨#[]⟩, .slice none 0 0]) 64 rfl Tryz.underlying44 infoA rfl (by decide) (by omega) u6 (l1 ++ l2) l3 A3 n3 c3 (fun _ => True) (fun _ => False) rfl rfl ?aO ?aR ?aK (fun _ hk => hk.elim) (fun _ _ => trivial) ?aB ?aS ?c1 ?_; (case aO => exact HRa.out); (case aR => exact RA.out); (case aK => intro x cs hx; exact hx); (case aB => exact HBr.out); (case aS => exact HBr.out.size); (case c1 => (try simp only [List.length_append]); have := N1.out; have := N2.out; omega); intro v1 w1 hown hB1 hg1 hat; have HO1 := Aside0.mk hown; have HB1 := Aside0.mk hB1; clear hown hB1 hg1 hat)
          go_roundg 0
          case measure => omega
          case rel => exact ⟨3, rfl, rfl, ⟨HO1.out⟩, HB1⟩
        · have HRa : Aside0 (kAd.R 92 wr w.heap.size (fun _ => True) u6 (l1 ++ l2 ++ l3)) := HR
          clear HR
          go_wp2
          go_ret
          exact ⟨_, rfl, HRa.out, HBr.out⟩
        · omega
    · omega

end Go.Proofs.YtfakfgblaakgdaaGreat.Cat

/- slices.Insert of one act ahead of others: walked. -/
namespace Go.Proofs.YtfakfgblaakgdaaGreat.Files
set_option linter.unusedVariables false
set_option linter.unusedSimpArgs false
open Go.RowKit Go.Proofs.YtfakfgblaakgdaaGreatW.PrintWords Go.Proofs.YtfakfgblaakgdaaGreatW.PrintLast Go.Proofs.YtfakfgblaakgdaaGreat.Base Go.Proofs.YtfakfgblaakgdaaGreat.Cells Go.Proofs.YtfakfgblaakgdaaGreat.Ints Go.Proofs.YtfakfgblaakgdaaGreat.Var Go.Proofs.YtfakfgblaakgdaaGreat.EditPure Go.Proofs.YtfakfgblaakgdaaGreat.Edit Go.Proofs.YtfakfgblaakgdaaGreat.RowsC

theorem infoAs : (Tryz.prog.info? 92).map (·.size) = some 4 := by kernel_rfl
theorem flatA_len (B : List (Ac × Value)) : (B.map rowAc).flatten.length = B.length * 4 := by
  rw [flatten_len (B.map rowAc) (sz := 4) (fun r hr => by obtain ⟨x, _, rfl⟩ := List.mem_map.1 hr; rfl), List.length_map]
theorem csA_one (L : List (Ac × Value)) (hL : ∀ m ∈ L, m.2.oneCell' = true) : ∀ u ∈ (L.map rowAc).flatten, u.oneCell' = true := by
  intro u hu
  obtain ⟨r, hr, hm⟩ := List.mem_flatten.1 hu
  obtain ⟨m, hmem, rfl⟩ := List.mem_map.1 hr
  simp [rowAc] at hm
  rcases hm with rfl | rfl | rfl | rfl
  · rfl
  · rfl
  · rfl
  · exact hL m hmem
set_option maxRecDepth 100000 in
set_option maxHeartbeats 4000000 in
theorem insGrowA_any (g cap i : Nat) (l : List (Ac × Value)) (x : Ac × Value) (vb : Nat) (w : World) (hone : ∀ m ∈ l, m.2.oneCell' = true) (hx1 : x.2.oneCell' = true) (h : CRow 92 4 w g cap (l.map rowAc)) (hi : i < l.length) (hroom : cap < l.length + 1) (hl : l.length ≤ 1048576) (hvb : w.heap[vb]? = some (.cells #[.int .i64 x.1.what, .string x.1.name, .string x.1.dest, x.2] 92 (0, 0))) :
    Calls Tryz.prog 82 #[.slice (some ⟨g, 0, none⟩) l.length cap, .int .i64 i, .slice (some ⟨vb, 0, none⟩) 1 1] w fun e w' => ∃ G, e = .returned (.slice (some ⟨w.heap.size, 0, none⟩) (l.length + 1) G) ∧ G ≤ 9223372036854775807 ∧ CRow 92 4 w' w.heap.size G ((l.take i ++ x :: l.drop i).map rowAc) ∧ Below w.heap.size w w' := by
  obtain ⟨i0, hi0, hz2⟩ := Cat.infoAx
  obtain ⟨hz0, hzb⟩ : i0.zero = some (.agg #[.int .i64 0, .string ⟨#[]⟩, .string ⟨#[]⟩, .slice none 0 0]) ∧ i0.bytes = 64 := by
    have h := Cat.infoA
    rw [hi0] at h
    simp only [Option.map_some, Option.some.injEq, Prod.mk.injEq] at h
    exact ⟨h.1, h.2.2⟩
  have hcapn : cap = l.length := by have := h.len; simp at this; omega
  have hgw : g < w.heap.size := h.lt
  have hvbw : vb < w.heap.size := blk_lt hvb
  have hti : (l.take i).length = i := by rw [List.length_take]; omega
  obtain ⟨csA, hcsA⟩ : ∃ cs, cs = ((l.take i).map rowAc).flatten := ⟨_, rfl⟩
  obtain ⟨csB, hcsB⟩ : ∃ cs, cs = ((l.drop i).map rowAc).flatten := ⟨_, rfl⟩
  have hlA : csA.length = i * 4 := by rw [hcsA, flatA_len, hti]
  have hlB : csB.length = (l.length - i) * 4 := by rw [hcsB, flatA_len, List.length_drop]
  have hall : CRow 92 4 w g cap ((l.take i).map rowAc ++ (l.drop i).map rowAc) := by rw [← List.map_append, List.take_append_drop]; exact h
  have hsA : ∀ j u, csA[j]? = some u → w.cell? ⟨g, j, none⟩ = some u := by
    intro j u hu
    have h3 : CRow 92 4 w g cap ([] ++ (l.take i).map rowAc) := by rw [List.nil_append]; exact hall.front
    have := CRow_flat h3 j u (by rw [← hcsA]; exact hu)
    simpa using this
  have hsB : ∀ j u, csB[j]? = some u → w.cell? ⟨g, i * 4 + j, none⟩ = some u := by
    intro j u hu
    have := CRow_flat hall j u (by rw [← hcsB]; exact hu)
    rw [List.length_map, hti] at this
    exact this
  have hoB : ∀ u ∈ csB, u.oneCell' = true := by rw [hcsB]; exact csA_one _ (fun m hm => hone m (List.mem_of_mem_drop hm))
  have hold : (Builtin.firstCells i0.size i (.slice (some ⟨g, 0, none⟩) i cap)).run Tryz.prog w.drew = .ok csA.toArray w.drew := by
    rw [hz2]
    exact run_firstCells_some w.drew 4 i ⟨g, 0, none⟩ i cap csA hlA (fun j v hj => by rw [add_plain]; exact hsA j v hj)
  obtain ⟨G, hG⟩ : ∃ G, G = grownCap w (l.length + 1) cap 92 := ⟨_, rfl⟩
  obtain ⟨ROW, hROW⟩ : ∃ ROW : Array Value, ROW = csA.toArray ++ Builtin.zeroCells (Value.agg #[.int .i64 0, .string ⟨#[]⟩, .string ⟨#[]⟩, .slice none 0 0]).cells (l.length + 1 - i) ++ Builtin.zeroCells (Value.agg #[.int .i64 0, .string ⟨#[]⟩, .string ⟨#[]⟩, .slice none 0 0]).cells (G - (l.length + 1)) := ⟨_, rfl⟩
  have hGn : l.length + 1 ≤ G := by rw [hG]; exact grownCap_ge w _ _ _
  have hG63 : G ≤ 9223372036854775807 := by
    have := grownCap_le_maxLen w (l.length + 1) cap 92 (by unfold maxLen; omega)
    rw [← hG] at this
    unfold maxLen at this
    omega
  have hrz : ∀ ty, (Builtin.append_ #[44, 3] ty #[.slice (some ⟨g, 0, none⟩) i cap, .int .i64 ((l.length : Int) + 1 - i)]).run Tryz.prog w =
      .ok (.slice (some ⟨w.heap.size, 0, none⟩) (l.length + 1) G) (w.drew.alloc (.cells ROW 92)) := fun ty => by
    have h := Lib.run_append_grow_zeros w 44 3 ty 92 i0 _ .i64 .i64 Tryz.underlying44 Tryz.underlying3 hi0 hz0 (some ⟨g, 0, none⟩) i cap csA hold (l.length + 1 - i) (by omega) (by rw [hz2]; omega) (by omega) (by omega) (by rw [hzb]; omega) (by rw [hzb, show i + (l.length + 1 - i) = l.length + 1 by omega]; exact growslice_fits (by omega) (by omega))
    rw [show i + (l.length + 1 - i) = l.length + 1 by omega, ← hG, ← hROW] at h
    rw [show (l.length : Int) + 1 - i = ((l.length + 1 - i : Nat) : Int) by omega]
    exact h
  obtain ⟨W1, hW1⟩ : ∃ W1, W1 = w.drew.alloc (.cells ROW 92) := ⟨_, rfl⟩
  rw [← hW1] at hrz
  have h1 : CRow 92 4 W1 w.heap.size G ((l.take i).map rowAc) := by
    refine ⟨ROW, by rw [hW1]; exact blk_new w.drew _, ?_, by rw [List.length_map, hti]; omega, ?_, fun r hr => by obtain ⟨x, _, rfl⟩ := List.mem_map.1 hr; rfl⟩
    · rw [hROW]
      simp [Builtin.zeroCells, Value.cells, hlA]
      omega
    · rw [hROW, Array.append_assoc, Array.toList_append, List.length_map, hti, ← hcsA]
      exact List.take_left' hlA
  obtain ⟨W2, hW2⟩ : ∃ W2, W2 = W1.setCells w.heap.size (i * 4) (rowAc x) := ⟨_, rfl⟩
  have h2 : CRow 92 4 W2 w.heap.size G ((l.take i ++ [x]).map rowAc) := by
    have h3 := CRow.over (A := (l.take i).map rowAc) (B := []) (by rw [List.append_nil]; exact h1) [(rowAc x)] (fun r hr => by rw [List.mem_singleton.1 hr]; rfl) (by simp; omega)
    rw [List.length_map, hti] at h3
    rw [hW2, List.map_append]
    simpa using h3
  have h3 : CRow 92 4 (W2.setCells w.heap.size ((i + 1) * 4) csB) w.heap.size G ((l.take i ++ x :: l.drop i).map rowAc) := by
    have h4 := CRow.over (A := (l.take i ++ [x]).map rowAc) (B := []) (by rw [List.append_nil]; exact h2) ((l.drop i).map rowAc) (fun r hr => by obtain ⟨x, _, rfl⟩ := List.mem_map.1 hr; rfl) (by simp; omega)
    rw [List.length_map, List.length_append, hti, ← hcsB] at h4
    rw [show l.take i ++ x :: l.drop i = (l.take i ++ [x]) ++ l.drop i by simp, List.map_append]
    exact h4
  have hb1 : Below w.heap.size w W1 := by rw [hW1]; exact (Below.refl _ w).drew.alloc (Nat.le_refl _) _
  have hb3 : Below w.heap.size w (W2.setCells w.heap.size ((i + 1) * 4) csB) := by
    have hs1 : w.heap.size ≤ W1.heap.size := hb1.size
    have hb2 : Below w.heap.size w W2 := by rw [hW2]; exact hb1.grown (setCells_grown _ _ _ _) hs1 (fun k hk => by injection hk with hk; omega)
    exact hb2.grown (setCells_grown _ _ _ _) hb2.size (fun k hk => by injection hk with hk; omega)
  have hOld : ∀ k, k < w.heap.size → W1.heap[k]? = w.heap[k]? := fun k hk => hb1.block k hk
  have hcell1 : ∀ k j v, k < w.heap.size → w.cell? ⟨k, j, none⟩ = some v → W1.cell? ⟨k, j, none⟩ = some v := fun k j v hk hv => (hb1.cell (p := ⟨k, j, none⟩) hk).trans hv
  have hcell2 : ∀ k j v, k < w.heap.size → w.cell? ⟨k, j, none⟩ = some v → W2.cell? ⟨k, j, none⟩ = some v := fun k j v hk hv => by
    rw [hW2, World.cell?_setCells_out _ _ _ _ _ (fun h _ => absurd h (by show k ≠ _; omega))]
    exact hcell1 k j v hk hv
  have hvc : ∀ j v, (rowAc x)[j]? = some v → w.cell? ⟨vb, j, none⟩ = some v := fun j v hj => by
    rw [blk_cell hvb]
    have hj2 : j < 4 := (List.getElem?_eq_some_iff.1 hj).1
    rcases j with _ | _ | _ | _ | j
    · exact hj
    · exact hj
    · exact hj
    · exact hj
    · omega
  have hcpA : ∀ (W : World), (∀ x, W.cell? x = W1.cell? x) → (∀ x, W.frozen? x = W1.frozen? x) → ∀ ty dc, (Builtin.copy_ #[44, 44] ty #[.slice (some ⟨w.heap.size, i * 4, none⟩) (l.length + 1 - i) dc, .slice (some ⟨vb, 0, none⟩) 1 1]).run Tryz.prog W = .ok (goInt 1) (W.setCells w.heap.size (i * 4) (rowAc x)) := fun W hWc hWf ty dc =>
    run_copy_sz W _ _ ty 92 w.heap.size (i * 4) (l.length + 1 - i) dc ⟨vb, 0, none⟩ 1 1 1 4 (rowAc x) Tryz.underlying44 infoAs (by simp only [Nat.min_def]; split <;> omega) rfl
      (fun j v hj => by rw [Addr.add_lit, Nat.zero_add, hWc]; exact hcell1 _ _ _ hvbw (hvc j v hj))
      (fun j hj => by have hj2 : j < 4 := hj; rw [hWc]; exact h1.there _ (by omega)) (fun j hj => by rw [hWf]; exact h1.froz _) (fun u hu => csA_one [x] (fun m hm => by rw [List.mem_singleton.1 hm]; exact hx1) u (by simpa using hu))
  have hcpB : ∀ (W : World), (∀ x, W.cell? x = W2.cell? x) → (∀ x, W.frozen? x = W2.frozen? x) → ∀ ty dc sc, (Builtin.copy_ #[44, 44] ty #[.slice (some ⟨w.heap.size, (i + 1) * 4, none⟩) (l.length - i) dc, .slice (some ⟨g, i * 4, none⟩) (l.length - i) sc]).run Tryz.prog W = .ok (goInt ((l.length - i : Nat) : Int)) (W.setCells w.heap.size ((i + 1) * 4) csB) := fun W hWc hWf ty dc sc =>
    run_copy_sz W _ _ ty 92 w.heap.size ((i + 1) * 4) (l.length - i) dc ⟨g, i * 4, none⟩ (l.length - i) sc (l.length - i) 4 csB Tryz.underlying44 infoAs (by simp only [Nat.min_def]; split <;> omega) hlB
      (fun j v hj => by rw [Addr.add_lit, hWc]; exact hcell2 _ _ _ hgw (hsB j v hj))
      (fun j hj => by rw [hWc]; exact h2.there _ (by omega)) (fun j hj => by rw [hWf]; exact h2.froz _) hoB
  have R3 := Aside0.mk h3
  have B3 := Aside0.mk hb3
  obtain ⟨n, hn⟩ : ∃ n, l.length = n := ⟨_, rfl⟩
  obtain ⟨N, hN⟩ : ∃ N, w.heap.size = N := ⟨_, rfl⟩
  rw [hn] at hi hroom hl hrz hcpA hcpB hGn hcapn ⊢
  have c1 := cut_mid (P := Tryz.prog) 44 92 Tryz.underlying44 hi0 4 hz2 g n cap i i rfl (by omega) (by omega)
  have c2 := cut_to (P := Tryz.prog) 44 92 .i64 Tryz.underlying44 hi0 (some ⟨g, 0, none⟩) n cap i (by omega) (by omega) (by omega)
  have c3 := cut_mid (P := Tryz.prog) 44 92 Tryz.underlying44 hi0 4 hz2 w.heap.size (n + 1) G i i rfl (by omega) (by omega)
  have c4 := cut_mid (P := Tryz.prog) 44 92 Tryz.underlying44 hi0 4 hz2 w.heap.size (n + 1) G (i + 1) ((i : Int) + 1) (by omega) (by omega) (by omega)
  rw [Int.toNat_natCast] at c2
  have hz3 : ¬ ((i : Int) = (n : Int)) := by omega
  have hcn : (cap : Int) < (n : Int) + 1 := by omega
  have hw1 : IntKind.i64.wrap ((i : Int) + 1) = (i : Int) + 1 := by rw [IntKind.wrap_i64]; omega
  have hb1' : (0 : Int) ≤ (i : Int) + 1 := by omega
  have htn : ((i : Int) + 1).toNat = i + 1 := by omega
  have hb2 : ¬ (G = i + 1) := by omega
  have hb3' : (i : Int) + 1 ≤ (n : Int) + 1 := by omega
  have hb5 : (i : Int) ≤ (n : Int) := by omega
  have hb4 : ¬ (G = i) := by omega
  have hb6 : ¬ (cap = i) := by omega
  have mixed : Tryz.prog.follows .mixedOrders = true := by kernel_rfl
  have hG63' := Aside0.mk hG63
  subst hW2
  subst hW1
  have hE1 : ∀ x, ((w.alloc (.cells ROW 92)).drew).cell? x = (w.drew.alloc (.cells ROW 92)).cell? x := fun x => rfl
  have hE2 : ∀ x, ((w.alloc (.cells ROW 92)).drew).frozen? x = (w.drew.alloc (.cells ROW 92)).frozen? x := fun x => rfl
  have hF1 : ∀ y, (((w.alloc (.cells ROW 92)).drew.setCells w.heap.size (i * 4) (rowAc x)).drew).cell? y = ((w.drew.alloc (.cells ROW 92)).setCells w.heap.size (i * 4) (rowAc x)).cell? y := fun y => rfl
  have hF2 : ∀ y, (((w.alloc (.cells ROW 92)).drew.setCells w.heap.size (i * 4) (rowAc x)).drew).frozen? y = ((w.drew.alloc (.cells ROW 92)).setCells w.heap.size (i * 4) (rowAc x)).frozen? y := fun y => rfl
  clear h1 h2 h3 hb1 hb3 hOld hcell1 hcell2 hvc hold hsA hsB hall hoB hROW hG hlA hlB hcsA hcsB hti h hvb hn hN hone hx1 hgw hvbw hz0 hzb hcapn
  go_enter Tryz.func82, Tryz.ntmps82
  go_wp2_with (at_builtin; refine Lib.wpList_append_run _ rfl _ _ _ _ rfl _ _ rfl rfl _ _ (hrz _) ?_)
  go_region_law_o (refine step_copy_runI rfl _ _ 44 44 rfl (.slice (some ⟨w.heap.size, (i + 1) * 4, none⟩) (n - i) (G - (i + 1))) (.slice (some ⟨g, i * 4, none⟩) (n - i) (cap - i)) (by simp [Act.eval, Act.put]) (by simp [Act.eval, Act.put]) (hcpB _ hF1 hF2 3 (G - (i + 1)) (cap - i)) ?_)
  go_wp2
  go_ret
  refine ⟨G, rfl, hG63'.out, ?_, ?_⟩
  · rw [← drew_setCells]; exact R3.out
  · rw [← drew_setCells]; exact B3.out.drew
end Go.Proofs.YtfakfgblaakgdaaGreat.Files

/- files.Read: walked. -/
namespace Go.Proofs.YtfakfgblaakgdaaGreat.Files
set_option linter.unusedVariables false
set_option linter.unusedSimpArgs false
open Go.RowKit Go.Proofs.YtfakfgblaakgdaaGreatW.PrintWords Go.Proofs.YtfakfgblaakgdaaGreatW.PrintLast Go.Proofs.YtfakfgblaakgdaaGreat.Base Go.Proofs.YtfakfgblaakgdaaGreat.Cells Go.Proofs.YtfakfgblaakgdaaGreat.Ints Go.Proofs.YtfakfgblaakgdaaGreat.Var Go.Proofs.YtfakfgblaakgdaaGreat.EditPure Go.Proofs.YtfakfgblaakgdaaGreat.Edit Go.Proofs.YtfakfgblaakgdaaGreat.Sets Go.Proofs.YtfakfgblaakgdaaGreat.Wide Go.Proofs.YtfakfgblaakgdaaGreat.RowsC

def dataOf (s : St) (id : Int) : List Int := match s.files.find? (fun f => f.id == id) with | some f => f.data | none => []
def readP (s : St) (q : ByteArray) : List Int × Int :=
  if stB s = false then ([], 9) else match findN s.names q with | none => ([], 71) | some n => (dataOf s n.id, 0)
theorem dataOf_at {s : St} {id : Int} {k : Nat} {f : Fl} (ha : Asc s.files) (hk : s.files[k]? = some f) (hf : f.id = id) : dataOf s id = f.data := by
  unfold dataOf
  obtain ⟨hl, he⟩ := List.getElem?_eq_some_iff.1 hk
  have h0 : s.files.find? (fun f => f.id == id) = some f := by
    rw [List.find?_eq_some_iff_getElem]
    refine ⟨by simp [hf], k, hl, he, fun j hj => ?_⟩
    have := List.pairwise_iff_getElem.1 ha j k (by omega) hl hj
    rw [he] at this
    have hne : (s.files[j]).id ≠ id := by omega
    simp [hne]
  rw [h0]

set_option maxRecDepth 100000 in
set_option maxHeartbeats 8000000 in
theorem read_any (s : St) (q : ByteArray) (F N S : Option Addr) (fc nc sc : Nat) (w : World) (h : Hd w s F fc N nc S sc) (hs : Small s) (hw : Wf s) :
    Calls Tryz.prog 52 #[.agg #[.int .i64 s.cap, .slice F s.files.length fc, .slice N s.names.length nc, .slice S s.safe.length sc, .int .i64 s.next], .string q] w fun e w' => ∃ v, e = .returned (.tuple #[v, .int .i64 (readP s q).2]) ∧ RB w' w.heap.size v (readP s q).1 ∧ Below w.heap.size w w' := by
  have HH := Aside0.mk h
  have HS := Aside0.mk hs
  have HW := Aside0.mk hw
  obtain ⟨dp, hdp⟩ := named (readP s q)
  rw [← hdp.out]
  obtain ⟨lf, hlf⟩ : ∃ n, s.files.length = n := ⟨_, rfl⟩
  obtain ⟨ln, hln⟩ : ∃ n, s.names.length = n := ⟨_, rfl⟩
  obtain ⟨ls, hls⟩ : ∃ n, s.safe.length = n := ⟨_, rfl⟩
  have LF := Aside0.mk hlf
  have LN := Aside0.mk hln
  have LS := Aside0.mk hls
  rw [hlf, hln, hls]
  have CCheck : Aside0 (∀ W, Below w.heap.size w W → Calls Tryz.prog 33 #[.agg #[.int .i64 s.cap, .slice F lf fc, .slice N ln nc, .slice S ls sc, .int .i64 s.next]] W fun e w' => e = .returned (.int .i64 (stE s)) ∧ Below W.heap.size W w') := ⟨fun W hW => by
    have := check_any s F N S fc nc sc W (HH.out.below hW) HS.out HW.out
    rw [hlf, hln, hls] at this
    exact this⟩
  clear h hs hw hlf hln hls
  go_enter Tryz.func52, Tryz.ntmps52
  go_upto_region 1 with (fail)
  obtain ⟨W0, hW0⟩ : ∃ W, W = w.alloc (.cells #[.int .i64 s.cap, .slice F lf fc, .slice N ln nc, .slice S ls sc, .int .i64 s.next] 35) := ⟨_, rfl⟩
  have hk2 : W0.heap[w.heap.size]? = some (.cells #[.int .i64 s.cap, .slice F lf fc, .slice N ln nc, .slice S ls sc, .int .i64 s.next] 35 (0, 0)) := by rw [hW0]; exact blk_new _ _
  have HB0 : Aside0 (Below w.heap.size w W0) := ⟨by rw [hW0]; exact below_alloc (Below.refl _ _) _⟩
  rw [← hW0]
  clear hW0
  have HK2 := Aside0.mk hk2
  obtain ⟨x0, x1, x2, x3, x4, _, _, _, _, _⟩ := all5 hk2
  clear hk2
  go_wp2_with fail
  refine (CCheck.out _ HB0.out).mono ?_
  obtain ⟨E, hE⟩ := named (stE s)
  rw [← hE.out]
  rintro e w1 ⟨rfl, hb1⟩
  have HB01 := Aside0.mk (bthen HB0.out hb1)
  have HK2' := Aside0.mk (blk_keep HK2.out hb1)
  clear hb1 x0 x1 x2 x3 x4
  cases hst : stB s with
  | false =>
    have HE : Aside0 (E = 9) := ⟨by rw [hE.out, stE, hst]; rfl⟩
    have HDP : Aside0 (dp = ([], 9)) := ⟨by rw [hdp.out, readP, if_pos hst]⟩
    rw [HE.out]
    clear hst
    go_upto_region 3 with (fail)
    go_wp2
    refine bodyPost_ret (results_tmp2 rfl _ _ _) rfl ?_
    exact ⟨.slice none 0 0, by rw [HDP.out]; rfl, by rw [HDP.out]; exact own_nil _ _ _ _, HB01.out⟩
  | true =>
    have HE : Aside0 (E = 0) := ⟨by rw [hE.out, stE, hst]; rfl⟩
    have HST : Aside0 (Good s) := ⟨stB_iff.1 hst⟩
    have HNF : Aside0 (stB s = true) := ⟨hst⟩
    rw [HE.out]
    obtain ⟨x0, x1, x2, x3, x4, _, _, _, _, _⟩ := all5 HK2'.out
    clear hst
    go_upto_region 4 with (fail)
    go_wp2_with fail
    obtain ⟨has, hhas⟩ := named (hasN s.names q)
    have CC : Aside0 (Calls Tryz.prog 94 #[.slice N ln nc, .string q] w1 fun e w' => ∃ r : Int, e = .returned (.tuple #[.int .i64 r, .bool has]) ∧ 0 ≤ r ∧ PlaceN s.names q r.toNat ∧ Below w1.heap.size w1 w') := ⟨by
      have := find_any N nc s.names q w1 (Kd.C_below HH.out.hN HB01.out) HS.out.ln HST.out.nm.asc
      rw [LN.out, ← hhas.out] at this
      exact this.mono fun e w' ⟨⟨r, h1, h2, h3⟩, h4⟩ => ⟨r, h1, h2, h3, h4⟩⟩
    refine CC.out.mono ?_
    rintro e w5 ⟨r, rfl, hr0, hP5, hB5⟩
    have HBw := Aside0.mk (bthen HB01.out hB5)
    have HK5 := Aside0.mk (blk_keep HK2'.out hB5)
    have hh := hasN_place HST.out.nm.asc hP5
    rw [← hhas.out] at hh
    have HP5 := Aside0.mk hP5
    clear CC hP5 hB5 x0 x1 x2 x3 x4
    cases hv : has with
    | false =>
      have HDP : Aside0 (dp = ([], 71)) := ⟨by rw [hdp.out, readP, if_neg (by rw [HNF.out]; decide), findN_none (by rw [← hhas.out]; exact hv)]⟩
      clear hv hh
      go_wp2
      refine bodyPost_ret (results_tmp2 rfl _ _ _) rfl ?_
      exact ⟨.slice none 0 0, by rw [HDP.out]; rfl, by rw [HDP.out]; exact own_nil _ _ _ _, HBw.out⟩
    | true =>
      rw [hv] at hh
      obtain ⟨y, hy⟩ : ∃ y, s.names[r.toNat]? = some y := by
        cases hq : s.names[r.toNat]? with
        | none => rw [hq] at hh; simp at hh
        | some y => exact ⟨y, rfl⟩
      rw [hy] at hh
      have hyn : y.name = q := sameB_iff.1 hh.symm
      have hrl := (List.getElem?_eq_some_iff.1 hy).1
      have hrl' : r < ln := by rw [LN.out] at hrl; omega
      have hln2 : ln ≤ 1048576 := by have := HS.out.ln; rw [LN.out] at this; exact this
      obtain ⟨ad, hNs, c0, c1⟩ := atNm (Kd.C_below HH.out.hN HBw.out) r.toNat y hy
      subst hNs
      obtain ⟨k, f, hk, hfi⟩ := find_id HST.out.pre (List.mem_of_getElem? hy)
      have HDP : Aside0 (dp = (f.data, 0)) := ⟨by rw [hdp.out, readP, if_neg (by rw [HNF.out]; decide), findN_at HST.out.nm.asc HP5.out hy hyn]; show (dataOf s y.id, (0 : Int)) = _; rw [dataOf_at HST.out.fl.asc hk hfi]⟩
      obtain ⟨k', f', hk', hfi', hpl⟩ := fileP_at (F := F) (HST.out.nm.each y (List.mem_of_getElem? hy)).2
      have hdat : f'.data = f.data := by rw [← dataOf_at HST.out.fl.asc hk hfi, ← dataOf_at HST.out.fl.asc hk' hfi']
      obtain ⟨adF, D, dc, hFs, d0, d1, d2, hdl, hrd⟩ := atFl (Kd.C_below HH.out.hF HBw.out) k' f' hk'
      subst hFs
      obtain ⟨yid, hyid⟩ : ∃ n, y.id = n := ⟨_, rfl⟩
      rw [hyid] at c1 hpl
      obtain ⟨ld, hld⟩ : ∃ n, f'.data.length = n := ⟨_, rfl⟩
      have HLD : Aside0 (ld ≤ 1048576) := ⟨by rw [← hld]; exact HS.out.ld f' (List.mem_of_getElem? hk')⟩
      rw [hld] at d1
      have CF : Aside0 (Calls Tryz.prog 95 #[.pointer (some ⟨w.heap.size, 0, none⟩), .int .i64 yid] w5 fun e w' => e = .returned (.pointer (some (adF.add (k' * 3)))) ∧ Below w5.heap.size w5 w') := ⟨by
        have hc1 := (all5 HK5.out).2.1
        have := file_any w.heap.size (some adF) fc s.files yid w5 (by rw [LF.out]; exact hc1) (Kd.C_below HH.out.hF HBw.out) HS.out.lf HST.out.fl.asc
        rw [hpl] at this
        exact this⟩
      have HRD := Aside0.mk hrd
      have HLd := Aside0.mk hld
      have HDt := Aside0.mk hdat
      have e1 : w5.cell? ⟨(adF.add (k' * 3)).block, (adF.add (k' * 3)).off + 1, none⟩ = some (.slice D ld dc) := d1
      obtain ⟨adk, hadk⟩ : ∃ a, a = adF.add (k' * 3) := ⟨_, rfl⟩
      rw [← hadk] at CF e1
      have HE1 := Aside0.mk e1
      obtain ⟨z0, z1, z2, z3, z4, _, _, _, _, _⟩ := all5 HK5.out
      clear hv hh hy hyn hrl hk hfi hk' hfi' hpl hdat hrd hld d0 d1 d2 hadk hyid e1 hdl
      go_wp2_with fail
      refine CF.out.mono ?_
      rintro e w6 ⟨rfl, hb6⟩
      have e1 := pw_cell_below hb6 HE1.out
      have HB6 := Aside0.mk hb6
      clear hb6 c0 c1 z0 z1 z2 z3 z4
      go_wp2_with fail
      have hcl := cloneO_any D dc f'.data w6 (HRD.out.below HB6.out) (by rw [HLd.out]; exact HLD.out)
      rw [HLd.out] at hcl
      refine hcl.mono ?_
      rintro e w7 ⟨v, rfl, hv, hb7⟩
      obtain ⟨Av, cv, rfl, _⟩ := RB_reads hv
      have HV := Aside0.mk (And.intro hv hb7)
      clear hcl hv hb7 e1
      go_wp2
      refine bodyPost_ret (results_tmp2 rfl _ _ _) rfl ?_
      exact ⟨.slice Av f'.data.length cv, by rw [HDP.out]; rfl, by rw [HDP.out, ← HDt.out]; exact own_weaken HV.out.1 (Nat.le_trans HBw.out.size HB6.out.size), bthen HBw.out (bthen HB6.out HV.out.2)⟩
end Go.Proofs.YtfakfgblaakgdaaGreat.Files

/- files.Crash: walked. -/
namespace Go.Proofs.YtfakfgblaakgdaaGreat.Files
set_option linter.unusedVariables false
set_option linter.unusedSimpArgs false
open Go.RowKit Go.Proofs.YtfakfgblaakgdaaGreatW.PrintWords Go.Proofs.YtfakfgblaakgdaaGreatW.PrintLast Go.Proofs.YtfakfgblaakgdaaGreat.Base Go.Proofs.YtfakfgblaakgdaaGreat.Cells Go.Proofs.YtfakfgblaakgdaaGreat.Ints Go.Proofs.YtfakfgblaakgdaaGreat.Var Go.Proofs.YtfakfgblaakgdaaGreat.EditPure Go.Proofs.YtfakfgblaakgdaaGreat.Edit Go.Proofs.YtfakfgblaakgdaaGreat.Sets Go.Proofs.YtfakfgblaakgdaaGreat.Wide Go.Proofs.YtfakfgblaakgdaaGreat.RowsC

/-- how much of a file a crash keeps -/
def keptOf (f : Fl) (k : Option Int) : Int :=
  match k with
  | none => f.sync
  | some x => f.sync + (if (f.data.length : Int) - f.sync < (if (0 : Int) > x then 0 else x) then (f.data.length : Int) - f.sync else (if (0 : Int) > x then 0 else x))
def cutF (f : Fl) (k : Option Int) : Fl := { f with data := f.data.take (keptOf f k).toNat, sync := keptOf f k }
def cutAt (keep : List Int) : Nat → List Fl → List Fl
  | _, [] => []
  | i, f :: l => cutF f keep[i]? :: cutAt keep (i + 1) l
def crashP (s : St) (keep : List Int) : St × Int :=
  if stB s = false then (zSt, 9) else (sweepP { s with files := cutAt keep 0 s.files, names := s.safe }, 0)
/-- the files with the first i cut -/
def cutTo (keep : List Int) (l : List Fl) (i : Nat) : List Fl := (cutAt keep 0 l).take i ++ l.drop i
end Go.Proofs.YtfakfgblaakgdaaGreat.Files

/- The page's example of chapter 4, reckoned. No program. -/
namespace Go.Proofs.YtfakfgblaakgdaaGreat.Files
set_option linter.unusedVariables false
set_option linter.unusedSimpArgs false
open Go.RowKit Go.Proofs.YtfakfgblaakgdaaGreatW.PrintWords Go.Proofs.YtfakfgblaakgdaaGreatW.PrintLast Go.Proofs.YtfakfgblaakgdaaGreat.Base Go.Proofs.YtfakfgblaakgdaaGreat.Cells Go.Proofs.YtfakfgblaakgdaaGreat.EditPure Go.Proofs.YtfakfgblaakgdaaGreat.Edit Go.Proofs.YtfakfgblaakgdaaGreat.Sets

def sA : ByteArray := ⟨#[97]⟩
def xyzL : List Ac := [⟨1, sA, ⟨#[]⟩, []⟩, ⟨2, sA, ⟨#[]⟩, [120, 121, 122]⟩, ⟨3, sA, ⟨#[]⟩, []⟩, ⟨6, ⟨#[]⟩, ⟨#[]⟩, []⟩]
def s1A : St := ⟨99, [⟨1, [120, 121, 122], 3⟩], [⟨sA, 1⟩], [], 2⟩
def s2A : St := ⟨99, [⟨1, [120, 121, 122], 3⟩], [⟨sA, 1⟩], [⟨sA, 1⟩], 2⟩
set_option maxRecDepth 100000
end Go.Proofs.YtfakfgblaakgdaaGreat.Files

/- files.Crash: walked. -/
namespace Go.Proofs.YtfakfgblaakgdaaGreat.Files
set_option linter.unusedVariables false
set_option linter.unusedSimpArgs false
open Go.RowKit Go.Proofs.YtfakfgblaakgdaaGreatW.PrintWords Go.Proofs.YtfakfgblaakgdaaGreatW.PrintLast Go.Proofs.YtfakfgblaakgdaaGreat.Base Go.Proofs.YtfakfgblaakgdaaGreat.Cells Go.Proofs.YtfakfgblaakgdaaGreat.Ints Go.Proofs.YtfakfgblaakgdaaGreat.Var Go.Proofs.YtfakfgblaakgdaaGreat.EditPure Go.Proofs.YtfakfgblaakgdaaGreat.Edit Go.Proofs.YtfakfgblaakgdaaGreat.Sets Go.Proofs.YtfakfgblaakgdaaGreat.Wide Go.Proofs.YtfakfgblaakgdaaGreat.RowsC

end Go.Proofs.YtfakfgblaakgdaaGreat.Files

/- files.New: walked. -/
namespace Go.Proofs.YtfakfgblaakgdaaGreat.Files
set_option linter.unusedVariables false
set_option linter.unusedSimpArgs false
open Go.RowKit Go.Proofs.YtfakfgblaakgdaaGreatW.PrintWords Go.Proofs.YtfakfgblaakgdaaGreatW.PrintLast Go.Proofs.YtfakfgblaakgdaaGreat.Base Go.Proofs.YtfakfgblaakgdaaGreat.Cells Go.Proofs.YtfakfgblaakgdaaGreat.Ints Go.Proofs.YtfakfgblaakgdaaGreat.Var Go.Proofs.YtfakfgblaakgdaaGreat.EditPure Go.Proofs.YtfakfgblaakgdaaGreat.Edit Go.Proofs.YtfakfgblaakgdaaGreat.Sets Go.Proofs.YtfakfgblaakgdaaGreat.Wide Go.Proofs.YtfakfgblaakgdaaGreat.RowsC

def newSt (size : Int) : St := ⟨size, [], [], [], 1⟩
end Go.Proofs.YtfakfgblaakgdaaGreat.Files

/- The page's example of chapter 4: its acts; SameBytes, num: walked. -/
namespace Go.Proofs.YtfakfgblaakgdaaGreat.Files
set_option linter.unusedVariables false
set_option linter.unusedSimpArgs false
open Go.RowKit Go.Proofs.YtfakfgblaakgdaaGreatW.PrintWords Go.Proofs.YtfakfgblaakgdaaGreatW.PrintLast Go.Proofs.YtfakfgblaakgdaaGreat.Base Go.Proofs.YtfakfgblaakgdaaGreat.Cells Go.Proofs.YtfakfgblaakgdaaGreat.Ints Go.Proofs.YtfakfgblaakgdaaGreat.Var Go.Proofs.YtfakfgblaakgdaaGreat.EditPure Go.Proofs.YtfakfgblaakgdaaGreat.Edit Go.Proofs.YtfakfgblaakgdaaGreat.Sets Go.Proofs.YtfakfgblaakgdaaGreat.Wide Go.Proofs.YtfakfgblaakgdaaGreat.RowsC

set_option maxRecDepth 100000 in
theorem same_any (A B : Option Addr) (n m c d : Nat) (xs ys : List Int) (w : World) (hA : ReadsInt w .u8 A n xs) (hB : ReadsInt w .u8 B m ys) (he : xs = ys) :
    Calls Tryz.prog 48 #[.slice A n c, .slice B m d] w fun e w' => e = .returned (.bool true) ∧ w = w' := by
  subst he
  have h1 := string_of_reads (c := c) Tryz.underlying88 Tryz.underlying5 Tryz.underlying9 hA
  have h2 := string_of_reads (c := d) Tryz.underlying88 Tryz.underlying5 Tryz.underlying9 hB
  obtain ⟨T, hT⟩ := named (strOfNums xs)
  rw [← hT.out] at h1 h2
  clear hA hB
  go_enter Tryz.func48, Tryz.ntmps48
  go_wp2
  go_ret
  exact ⟨by simp, rfl⟩

/-- an act's cells, its octets' slice told -/
def rowA (x : Ac × Value) : List Value := [.int .i64 x.1.what, .string x.1.name, .string x.1.dest, x.2]
end Go.Proofs.YtfakfgblaakgdaaGreat.Files

/- The page's example of chapter 4: walked. -/
namespace Go.Proofs.YtfakfgblaakgdaaGreat.Files
set_option linter.unusedVariables false
set_option linter.unusedSimpArgs false
open Go.RowKit Go.Proofs.YtfakfgblaakgdaaGreatW.PrintWords Go.Proofs.YtfakfgblaakgdaaGreatW.PrintLast Go.Proofs.YtfakfgblaakgdaaGreat.Base Go.Proofs.YtfakfgblaakgdaaGreat.Cells Go.Proofs.YtfakfgblaakgdaaGreat.Ints Go.Proofs.YtfakfgblaakgdaaGreat.Var Go.Proofs.YtfakfgblaakgdaaGreat.EditPure Go.Proofs.YtfakfgblaakgdaaGreat.Edit Go.Proofs.YtfakfgblaakgdaaGreat.Sets Go.Proofs.YtfakfgblaakgdaaGreat.Wide Go.Proofs.YtfakfgblaakgdaaGreat.RowsC

/-- a state that is there: where its three rows lie -/
def At (w : World) (v : Value) (s : St) : Prop := ∃ F fc N nc S sc, v = .agg #[.int .i64 s.cap, .slice F s.files.length fc, .slice N s.names.length nc, .slice S s.safe.length sc, .int .i64 s.next] ∧ Hd w s F fc N nc S sc
theorem Rs.at_ {w : World} {base : Nat} {v : Value} {s : St} (h : Rs w base v s) : At w v s := h.forms
theorem At.below {w w1 : World} {v : Value} {s : St} (h : At w v s) (hb : Below w.heap.size w w1) : At w1 v s := by
  obtain ⟨F, fc, N, nc, S, sc, h1, h2⟩ := h
  exact ⟨F, fc, N, nc, S, sc, h1, h2.below hb⟩
theorem read_at {s : St} {v : Value} {w : World} (q : ByteArray) (h : At w v s) (hs : Small s) (hw : Wf s) :
    Calls Tryz.prog 52 #[v, .string q] w fun e w' => ∃ v', e = .returned (.tuple #[v', .int .i64 (readP s q).2]) ∧ RB w' w.heap.size v' (readP s q).1 ∧ Below w.heap.size w w' := by
  obtain ⟨F, fc, N, nc, S, sc, rfl, h2⟩ := h
  exact read_any s q F N S fc nc sc w h2 hs hw
/-- a state's value, shown -/
theorem Rs.show_ {w : World} {base : Nat} {v : Value} {s : St} (h : Rs w base v s) : ∃ n F lf fc N ln nc S ls sc m, v = .agg #[.int .i64 n, .slice F lf fc, .slice N ln nc, .slice S ls sc, .int .i64 m] := by
  obtain ⟨F, fc, N, nc, S, sc, h1, _⟩ := h.forms
  exact ⟨_, _, _, _, _, _, _, _, _, _, _, h1⟩
/-- variable g holds a state -/
def Box (w : World) (g : Nat) (s : St) (a b c d e : Value) : Prop := w.heap[g]? = some (.cells #[a, b, c, d, e] 35 (0, 0)) ∧ Rs w 0 (.agg #[a, b, c, d, e]) s
theorem Box.below {w w1 : World} {g : Nat} {s : St} {a b c d e : Value} (h : Box w g s a b c d e) (hb : Below w.heap.size w w1) : Box w1 g s a b c d e := ⟨blk_keep h.1 hb, h.2.below hb⟩
theorem Box.far {w : World} {g g' : Nat} {s : St} {a b c d e a' b' c' d' e' : Value} {cs : Array Value} (h : Box w g s a b c d e) (hg : w.heap[g']? = some (.cells cs 35 (0, 0))) (hne : g ≠ g') :
    Box (((((w.setCell ⟨g', 0, none⟩ a').setCell ⟨g', 1, none⟩ b').setCell ⟨g', 2, none⟩ c').setCell ⟨g', 3, none⟩ d').setCell ⟨g', 4, none⟩ e') g s a b c d e :=
  ⟨(keep5 _ _ _ _ _ hne).trans h.1, h.2.far5 hg _ _ _ _ _⟩
theorem Box.set {w : World} {g : Nat} {s : St} {a b c d e a' b' c' d' e' : Value} (h : Rs w 0 (.agg #[a, b, c, d, e]) s) (hg : w.heap[g]? = some (.cells #[a', b', c', d', e'] 35 (0, 0))) :
    Box (((((w.setCell ⟨g, 0, none⟩ a).setCell ⟨g, 1, none⟩ b).setCell ⟨g, 2, none⟩ c).setCell ⟨g, 3, none⟩ d).setCell ⟨g, 4, none⟩ e) g s a b c d e :=
  ⟨blk5 hg, h.far5 hg _ _ _ _ _⟩

end Go.Proofs.YtfakfgblaakgdaaGreat.Files

/- files.List: walked. -/
namespace Go.Proofs.YtfakfgblaakgdaaGreat.Files
set_option linter.unusedVariables false
set_option linter.unusedSimpArgs false
open Go.RowKit Go.Proofs.YtfakfgblaakgdaaGreatW.PrintWords Go.Proofs.YtfakfgblaakgdaaGreatW.PrintLast Go.Proofs.YtfakfgblaakgdaaGreat.Base Go.Proofs.YtfakfgblaakgdaaGreat.Cells Go.Proofs.YtfakfgblaakgdaaGreat.Ints Go.Proofs.YtfakfgblaakgdaaGreat.Var Go.Proofs.YtfakfgblaakgdaaGreat.EditPure Go.Proofs.YtfakfgblaakgdaaGreat.Edit Go.Proofs.YtfakfgblaakgdaaGreat.Sets Go.Proofs.YtfakfgblaakgdaaGreat.Wide Go.Proofs.YtfakfgblaakgdaaGreat.StrRows

/-- the names of a state -/
def nmsL (l : List Nm) : List ByteArray := l.map (·.name)
def listL (s : St) : List ByteArray := if stB s then nmsL s.names else []

end Go.Proofs.YtfakfgblaakgdaaGreat.Files

/- A state of one's own, of the document's types. (Printed by wip/gen_refown.py.) -/
namespace Go.Proofs.YtfakfgblaakgdaaGreat.Files.Ref
set_option linter.unusedVariables false
set_option linter.unusedSimpArgs false
open Go.RowKit Go.Proofs.YtfakfgblaakgdaaGreatW.PrintWords Go.Proofs.YtfakfgblaakgdaaGreatW.PrintLast Go.Proofs.YtfakfgblaakgdaaGreat.Base Go.Proofs.YtfakfgblaakgdaaGreat.Cells Go.Proofs.YtfakfgblaakgdaaGreat.Ints Go.Proofs.YtfakfgblaakgdaaGreat.Var Go.Proofs.YtfakfgblaakgdaaGreat.EditPure Go.Proofs.YtfakfgblaakgdaaGreat.Edit Go.Proofs.YtfakfgblaakgdaaGreat.Sets Go.Proofs.YtfakfgblaakgdaaGreat.Wide Go.Proofs.YtfakfgblaakgdaaGreat.RowsC

theorem infoFl : (Tryz.prog.info? 114).map (fun i => (i.zero, i.size, i.bytes)) = some (some (.agg #[.int .i64 0, .slice none 0 0, .int .i64 0]), 3, 40) := by kernel_rfl
theorem infoNm : (Tryz.prog.info? 147).map (fun i => (i.zero, i.size, i.bytes)) = some (some (.agg #[.string ⟨#[]⟩, .int .i64 0]), 2, 24) := by kernel_rfl
abbrev RN (w : World) (base : Nat) (v : Value) (l : List Nm) : Prop := kNm.R 147 w base (fun _ => True) v l
abbrev RFd (w : World) (base : Nat) (v : Value) (L : List (Fl × Value)) : Prop := kFd.R 114 w base (fun _ => True) v L
theorem CR_of_RN {w : World} {base : Nat} {v : Value} {l : List Nm} (h : RN w base v l) : CR 147 2 w base v (l.map Nm.cs) := CR_of_R (d := kNm) (fun h => kNm_openM h) (fun _ => rfl) h
theorem RN_of_CR {w : World} {base : Nat} {v : Value} {l : List Nm} (h : CR 147 2 w base v (l.map Nm.cs)) : RN w base v l := R_of_CR (d := kNm) (fun x _ => kNm_mkM _ _ _ x) (fun _ => rfl) h
theorem CR_of_RFd {w : World} {base : Nat} {v : Value} {L : List (Fl × Value)} (h : RFd w base v L) : CR 114 3 w base v (L.map rowF) := CR_of_R (d := kFd) (fun h => h.1) (fun _ => rfl) h
theorem RN_types : ∀ q ∈ (147 :: kNm.E : List Nat), q ≠ 25 := by decide
structure Own (w : World) (base g : Nat) (s : St) (vF vN vS : Value) (L : List (Fl × Value)) : Prop where
  blk : w.heap[g]? = some (.cells #[.int .i64 s.cap, vF, vN, vS, .int .i64 s.next] 25 (0, 0))
  oF : OF 114 w base vF L
  fs : L.map (·.1) = s.files
  rN : RN w base vN s.names
  rS : RN w base vS s.safe
def Mine (w : World) (base g : Nat) (s : St) : Prop := ∃ vF vN vS L, Own w base g s vF vN vS L
theorem RN_block {w : World} {base : Nat} {v : Value} {l : List Nm} (h : RN w base v l) : ∀ k, v.ownBlock = some k → base ≤ k ∧ k < w.heap.size ∧ ∃ cs, w.heap[k]? = some (.cells cs 147 (0, 0)) := (CR_of_RN h).block
theorem RN_step {w w1 : World} {base : Nat} {v : Value} {l : List Nm} (h : RN w base v l) (hm : ∀ k, v.ownBlock = some k → w1.heap[k]? = w.heap[k]?) : RN w1 base v l := RN_of_CR ((CR_of_RN h).step hm)
theorem Own.below {w w1 : World} {base g : Nat} {s : St} {vF vN vS : Value} {L : List (Fl × Value)} (h : Own w base g s vF vN vS L) (hb : Below w.heap.size w w1) : Own w1 base g s vF vN vS L :=
  ⟨blk_keep h.blk hb, h.oF.below hb, h.fs, Kd.R_below h.rN hb, Kd.R_below h.rS hb⟩
theorem Own.other {w w1 : World} {base g : Nat} {s : St} {vF vN vS : Value} {L : List (Fl × Value)} (h : Own w base g s vF vN vS L) {row : Option Nat} (hg : w.grownBy w1 row)
    (hne : ∀ k, row = some k → ∀ q cs, (q = 114 ∨ q = 5 ∨ q = 147 ∨ q = 25) → w.heap[k]? ≠ some (.cells cs q (0, 0))) : Own w1 base g s vF vN vS L :=
  ⟨(hg.block g (blk_lt h.blk) (fun e => hne g e.symm _ _ (.inr (.inr (.inr rfl))) h.blk)).trans h.blk, h.oF.other hg (fun k hk q cs hq => hne k hk q cs (hq.elim .inl (fun h => .inr (.inl h)))), h.fs,
    RN_step h.rN (fun k hk => by obtain ⟨_, h2, cs, h3⟩ := RN_block h.rN k hk; exact hg.block k h2 (fun e => hne k e.symm _ cs (.inr (.inr (.inl rfl))) h3)),
    RN_step h.rS (fun k hk => by obtain ⟨_, h2, cs, h3⟩ := RN_block h.rS k hk; exact hg.block k h2 (fun e => hne k e.symm _ cs (.inr (.inr (.inl rfl))) h3))⟩
theorem Own.lower {w : World} {base base' g : Nat} {s : St} {vF vN vS : Value} {L : List (Fl × Value)} (h : Own w base g s vF vN vS L) (hb : base' ≤ base) : Own w base' g s vF vN vS L :=
  ⟨h.blk, h.oF.lower hb, h.fs, Kd.R_lower h.rN hb, Kd.R_lower h.rS hb⟩
theorem Own.forms {w : World} {base g : Nat} {s : St} {vF vN vS : Value} {L : List (Fl × Value)} (h : Own w base g s vF vN vS L) :
    ∃ F fc N nc S sc, vF = .slice F s.files.length fc ∧ vN = .slice N s.names.length nc ∧ vS = .slice S s.safe.length sc ∧ Hd w s F fc N nc S sc := by
  obtain ⟨F, fc, h1, h2, h3⟩ := h.oF.reads
  obtain ⟨N, nc, h4, h5, h6⟩ := Kd.R_reads h.rN
  obtain ⟨S, sc, h7, h8, h9⟩ := Kd.R_reads h.rS
  have hl : L.length = s.files.length := by rw [← h.fs, List.length_map]
  rw [hl] at h1 h2 h3
  rw [h.fs] at h3
  exact ⟨F, fc, N, nc, S, sc, h1, h4, h7, ⟨h3, h6, h9, h2, h5, h8⟩⟩
def Rs (w : World) (base : Nat) (v : Value) (s : St) : Prop := ∃ vF vN vS L, v = .agg #[.int .i64 s.cap, vF, vN, vS, .int .i64 s.next] ∧ OF 114 w base vF L ∧ L.map (·.1) = s.files ∧ RN w base vN s.names ∧ RN w base vS s.safe
theorem Rs.below {w w1 : World} {base : Nat} {v : Value} {s : St} (h : Rs w base v s) (hb : Below w.heap.size w w1) : Rs w1 base v s := by
  obtain ⟨vF, vN, vS, L, h1, h2, h3, h4, h5⟩ := h
  exact ⟨vF, vN, vS, L, h1, h2.below hb, h3, Kd.R_below h4 hb, Kd.R_below h5 hb⟩
theorem Rs.lower {w : World} {base base' : Nat} {v : Value} {s : St} (h : Rs w base v s) (hb : base' ≤ base) : Rs w base' v s := by
  obtain ⟨vF, vN, vS, L, h1, h2, h3, h4, h5⟩ := h
  exact ⟨vF, vN, vS, L, h1, h2.lower hb, h3, Kd.R_lower h4 hb, Kd.R_lower h5 hb⟩
theorem Rs.forms {w : World} {base : Nat} {v : Value} {s : St} (h : Rs w base v s) : ∃ F fc N nc S sc, v = .agg #[.int .i64 s.cap, .slice F s.files.length fc, .slice N s.names.length nc, .slice S s.safe.length sc, .int .i64 s.next] ∧ Hd w s F fc N nc S sc := by
  obtain ⟨vF, vN, vS, L, rfl, h2, h3, h4, h5⟩ := h
  obtain ⟨F, fc, rfl, q2, q3⟩ := h2.reads
  obtain ⟨N, nc, rfl, q5, q6⟩ := Kd.R_reads h4
  obtain ⟨S, sc, rfl, q8, q9⟩ := Kd.R_reads h5
  have hl : L.length = s.files.length := by rw [← h3, List.length_map]
  rw [hl] at q2 q3
  rw [h3] at q3
  exact ⟨F, fc, N, nc, S, sc, by rw [hl], ⟨q3, q6, q9, q2, q5, q8⟩⟩
theorem Rs.far5 {w : World} {base g : Nat} {v : Value} {s : St} {cs : Array Value} (h : Rs w base v s) (hg : w.heap[g]? = some (.cells cs 25 (0, 0))) (a b c d f : Value) :
    Rs (((((w.setCell ⟨g, 0, none⟩ a).setCell ⟨g, 1, none⟩ b).setCell ⟨g, 2, none⟩ c).setCell ⟨g, 3, none⟩ d).setCell ⟨g, 4, none⟩ f) base v s := by
  obtain ⟨vF, vN, vS, L, h1, h2, h3, h4, h5⟩ := h
  exact ⟨vF, vN, vS, L, h1, h2.far5 hg (by decide) (by decide) _ _ _ _ _, h3, Rset5 h4 (apart_of hg RN_types) _ _ _ _ _, Rset5 h5 (apart_of hg RN_types) _ _ _ _ _⟩
theorem Rs.at_ {w : World} {base : Nat} {v : Value} {s : St} (h : Rs w base v s) : At w v s := h.forms
theorem Rs.show_ {w : World} {base : Nat} {v : Value} {s : St} (h : Rs w base v s) : ∃ n F lf fc N ln nc S ls sc m, v = .agg #[.int .i64 n, .slice F lf fc, .slice N ln nc, .slice S ls sc, .int .i64 m] := by
  obtain ⟨F, fc, N, nc, S, sc, h1, _⟩ := h.forms
  exact ⟨_, _, _, _, _, _, _, _, _, _, _, h1⟩
end Go.Proofs.YtfakfgblaakgdaaGreat.Files.Ref

/- What the document's files do, plain: it is what the program's do. No program. -/
namespace Go.Proofs.YtfakfgblaakgdaaGreat.Files.Ref
set_option linter.unusedVariables false
set_option linter.unusedSimpArgs false
open Go.RowKit Go.Proofs.YtfakfgblaakgdaaGreatW.PrintWords Go.Proofs.YtfakfgblaakgdaaGreatW.PrintLast Go.Proofs.YtfakfgblaakgdaaGreat.Base Go.Proofs.YtfakfgblaakgdaaGreat.Cells Go.Proofs.YtfakfgblaakgdaaGreat.Ints Go.Proofs.YtfakfgblaakgdaaGreat.Var Go.Proofs.YtfakfgblaakgdaaGreat.EditPure Go.Proofs.YtfakfgblaakgdaaGreat.Edit Go.Proofs.YtfakfgblaakgdaaGreat.Sets Go.Proofs.YtfakfgblaakgdaaGreat.Wide Go.Proofs.YtfakfgblaakgdaaGreat.RowsC

/-- a file's place, or -1 -/
def fileIx (l : List Fl) (id : Int) : Int := match l.findIdx? (fun f => f.id == id) with | some k => (k : Int) | none => -1
/-- a name's place, or -1 -/
def findIx (l : List Nm) (s : ByteArray) : Int := match l.findIdx? (fun n => sameB n.name s) with | some k => (k : Int) | none => -1
theorem findIdx_step {α : Type} {l : List α} {p : α → Bool} {i : Nat} {x : α} (hx : l[i]? = some x) (hpre : ∀ k y, k < i → l[k]? = some y → p y = false) (h : p x = true) : l.findIdx? p = some i := by
  rw [List.findIdx?_eq_some_iff_getElem]
  obtain ⟨hl, he⟩ := List.getElem?_eq_some_iff.1 hx
  exact ⟨hl, by rw [he]; exact h, fun j hj => by rw [hpre j _ hj (List.getElem?_eq_getElem (by omega))]; decide⟩
theorem findIdx_none {α : Type} {l : List α} {p : α → Bool} (h : ∀ (k : Nat) y, l[k]? = some y → p y = false) : l.findIdx? p = none := by
  rw [List.findIdx?_eq_none_iff]
  intro x hx
  obtain ⟨k, hk⟩ := List.mem_iff_getElem?.1 hx
  exact h k x hk
theorem fileIx_neg {l : List Fl} {id : Int} : fileIx l id < 0 ↔ hasId l id = false := by
  unfold fileIx
  cases h : l.findIdx? (fun f => f.id == id) with
  | none =>
    rw [List.findIdx?_eq_none_iff] at h
    refine ⟨fun _ => ?_, fun _ => by decide⟩
    rw [hasId, List.any_eq_false]
    intro x hx; rw [h x hx]; decide
  | some k =>
    obtain ⟨hl, h1, _⟩ := List.findIdx?_eq_some_iff_getElem.1 h
    refine ⟨fun h2 => by dsimp only at h2; omega, fun h2 => ?_⟩
    rw [hasId, List.any_eq_false] at h2
    exact absurd h1 (h2 _ (List.getElem_mem hl))
theorem fileIx_some {l : List Fl} {id : Int} (h : hasId l id = true) : ∃ (k : Nat) (f : Fl), fileIx l id = (k : Int) ∧ l[k]? = some f ∧ f.id = id := by
  unfold fileIx
  cases hq : l.findIdx? (fun f => f.id == id) with
  | none =>
    rw [List.findIdx?_eq_none_iff] at hq
    obtain ⟨f, hf, hx⟩ := List.any_eq_true.1 h
    rw [hq f hf] at hx; cases hx
  | some k =>
    obtain ⟨hl, h1, _⟩ := List.findIdx?_eq_some_iff_getElem.1 hq
    exact ⟨k, l[k], rfl, List.getElem?_eq_getElem hl, by simpa using h1⟩
theorem findIx_cases (l : List Nm) (s : ByteArray) : (findIx l s = -1 ∧ hasN l s = false ∧ findN l s = none) ∨ ∃ (k : Nat) (n : Nm), findIx l s = (k : Int) ∧ l[k]? = some n ∧ n.name = s ∧ hasN l s = true ∧ findN l s = some n := by
  unfold findIx
  cases hq : l.findIdx? (fun n => sameB n.name s) with
  | none =>
    rw [List.findIdx?_eq_none_iff] at hq
    refine .inl ⟨rfl, ?_, ?_⟩
    · rw [hasN, List.any_eq_false]; intro x hx; rw [hq x hx]; decide
    · rw [findN, List.find?_eq_none]; intro x hx; rw [hq x hx]; decide
  | some k =>
    obtain ⟨hl, h1, h2⟩ := List.findIdx?_eq_some_iff_getElem.1 hq
    refine .inr ⟨k, l[k], rfl, List.getElem?_eq_getElem hl, sameB_iff.1 h1, List.any_eq_true.2 ⟨l[k], List.getElem_mem hl, h1⟩, ?_⟩
    rw [findN, List.find?_eq_some_iff_getElem]
    exact ⟨h1, k, hl, rfl, fun j hj => by have := h2 j hj; simpa using this⟩
/-- the document's rename -/
def renR (l : List Nm) (a b : ByteArray) (id : Int) : List Nm := if sameB b a then l else giveN (withoutN (withoutN l a) b) ⟨b, id⟩
/-- the document's Check, plain -/
def flOkR (s : St) (i : Nat) (f : Fl) : Bool := decide (1 ≤ f.id) && (decide (f.id < s.next) && ((i == 0 || decide ((s.files.getD (i - 1) zFl).id < f.id)) && (decide (0 ≤ f.sync) && (decide (f.sync ≤ f.data.length) && (stands s.names f.id || stands s.safe f.id)))))
def flToR (s : St) : Nat → Bool
  | 0 => true
  | n + 1 => flToR s n && flOkR s n (s.files.getD n zFl)
theorem flToR_false {s : St} {i : Nat} (h : flToR s i = false) {n : Nat} (hn : i ≤ n) : flToR s n = false := by
  induction n with
  | zero => rw [Nat.le_zero.1 hn] at h; exact h
  | succ n ih =>
    rcases Nat.eq_or_lt_of_le hn with rfl | h1
    · exact h
    · rw [flToR, ih (by omega)]; rfl
/-- a state by the document's Check -/
def stR' (s : St) : Bool := hdB s && (flToR s s.files.length && (namesOk s.files s.names && namesOk s.files s.safe))
theorem flToR_iff {s : St} : ∀ n, n ≤ s.files.length → (flToR s n = true ↔ FlsOk s.next (s.files.take n) ∧ ∀ f ∈ s.files.take n, stands s.names f.id = true ∨ stands s.safe f.id = true)
  | 0, _ => by simp only [flToR, List.take_zero, true_iff]; exact ⟨⟨by simp [Asc], by simp⟩, by simp⟩
  | n + 1, hn => by
    have hl : n < s.files.length := by omega
    rw [flToR, Bool.and_eq_true, flToR_iff n (by omega), getD_atF hl, take_snoc hl]
    have hlast : ∀ (h : 0 < n), s.files.getD (n - 1) zFl ∈ s.files.take n ∧ ∀ a ∈ s.files.take n, Asc (s.files.take n) → a.id ≤ (s.files.getD (n - 1) zFl).id := by
      intro h
      have h1 : n - 1 < s.files.length := by omega
      rw [getD_atF h1]
      have hq : (s.files.take n)[n - 1]? = some s.files[n - 1] := by rw [List.getElem?_take, if_pos (by omega), List.getElem?_eq_getElem h1]
      refine ⟨List.mem_of_getElem? hq, fun a ha hasc => ?_⟩
      obtain ⟨k, hk⟩ := List.mem_iff_getElem?.1 ha
      have hkl := (List.getElem?_eq_some_iff.1 hk).1
      rw [List.length_take] at hkl
      rcases Nat.lt_or_ge k (n - 1) with h2 | h2
      · have := hasc.lt h2 hk hq; omega
      · have : k = n - 1 := by omega
        subst this
        rw [hk] at hq; injection hq with hq; rw [hq]; exact Int.le_refl _
    generalize hT : s.files.take n = T at hlast
    generalize s.files[n] = x
    simp only [flOkR, Bool.and_eq_true, Bool.or_eq_true, decide_eq_true_eq, beq_iff_eq]
    constructor
    · rintro ⟨⟨⟨h1, h2⟩, h3⟩, h4, h5, h6, h7, h8, h9⟩
      refine ⟨⟨List.pairwise_append.2 ⟨h1, by simp, fun a ha b hb => ?_⟩, fun m hm => ?_⟩, fun m hm => ?_⟩
      · rw [List.mem_singleton.1 hb]
        rcases h6 with h6 | h6
        · subst h6; simp at hT; rw [hT] at ha; simp at ha
        · by_cases hn0 : n = 0
          · subst hn0; simp at hT; rw [hT] at ha; simp at ha
          · have := (hlast (by omega)).2 a ha h1; omega
      · rcases List.mem_append.1 hm with hm | hm
        · exact h2 m hm
        · rw [List.mem_singleton.1 hm]; exact ⟨⟨h4, h5⟩, h7, h8⟩
      · rcases List.mem_append.1 hm with hm | hm
        · exact h3 m hm
        · rw [List.mem_singleton.1 hm]; exact h9
    · rintro ⟨⟨h1, h2⟩, h3⟩
      have g1 := List.pairwise_append.1 h1
      have hx := h2 x (by simp)
      refine ⟨⟨⟨g1.1, fun m hm => h2 m (List.mem_append_left _ hm)⟩, fun m hm => h3 m (List.mem_append_left _ hm)⟩, hx.1.1, hx.1.2, ?_, hx.2.1, hx.2.2, h3 x (by simp)⟩
      by_cases hn0 : n = 0
      · exact .inl hn0
      · exact .inr (g1.2.2 _ (hlast (by omega)).1 x (by simp))
theorem stR_iff {s : St} : stR' s = true ↔ Good s := by
  simp only [stR', Bool.and_eq_true]
  rw [flToR_iff s.files.length (Nat.le_refl _), List.take_length, hdB_iff, namesOk_iff, namesOk_iff]
  constructor
  · rintro ⟨h1, ⟨h2, h3⟩, h4, h5⟩
    exact ⟨h1, h2, h4, h5, h3⟩
  · rintro ⟨h1, h2, h4, h5, h3⟩
    exact ⟨h1, ⟨h2, h3⟩, h4, h5⟩
theorem stR_eq (s : St) : stR' s = stB s := by rw [Bool.eq_iff_iff, stR_iff, stB_iff]
end Go.Proofs.YtfakfgblaakgdaaGreat.Files.Ref
