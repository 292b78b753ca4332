/- The law EditWhole, walked. -/
import Derived.Test.YtelnhecpcjoonaaApplyE
namespace Go.Proofs.Ytelnhecpcjoonaa.Edit
set_option linter.unusedVariables false
set_option linter.unusedSimpArgs false
open Go.RowKit Go.Proofs.YtelnhecpcjoonaaW.PrintWords Go.Proofs.YtelnhecpcjoonaaW.PrintLast Go.Proofs.Ytelnhecpcjoonaa.Base Go.Proofs.Ytelnhecpcjoonaa.EditPure Go.Proofs.Ytelnhecpcjoonaa.Sets Go.Proofs.Ytelnhecpcjoonaa.Wide Go.Proofs.Ytelnhecpcjoonaa.Cells

theorem srt_of_strict {l : List Meta} (h : Strict l) : srt l = l := strict_unique h (srt_sorted l) (srt_perm l)
theorem whole_again {l : List Meta} {seq next : Int} (h : verOk l seq next = true) : applyE [] 0 1 [] l seq next = 0 ∧ applyL [] [] l = l := by
  have h0 : verOk [] 0 1 = true := by decide +kernel
  have hs := srt_of_strict (verOk_list h).2.1
  have hh := h
  rw [verOk, Bool.and_eq_true] at hh
  have h1 := hh.1
  simp only [headOk, within, Bool.and_eq_true, decide_eq_true_eq] at h1
  refine ⟨?_, ?_⟩
  · rw [applyE, if_pos h0]
    show (if seq < 0 ∨ next < 1 then (4 : Int) else if verOk (srt ([] ++ l)) seq next then 0 else 9) = 0
    rw [if_neg (by omega), List.nil_append, hs, if_pos h]
  · rw [applyL]; show srt ([] ++ l) = _; rw [List.nil_append, hs]

set_option maxRecDepth 100000 in
set_option maxHeartbeats 4000000 in
theorem editWhole_no (A : Option Addr) (c : Nat) (l : List Meta) (seq next : Int) (w : World) (hr : Kd.C kMeta w A l.length l) (hc : l.length ≤ c) (hw : ∀ m ∈ l, inI64 m.id) (hb : l.length ≤ 1048576) (hv : verOk l seq next = false) :
    Calls Try.prog 7 #[.agg #[.slice A l.length c, .int .i64 seq, .int .i64 next]] w fun e w' => e = .returned (.bool true) ∧ Below w.heap.size w w' := by
  have HR := Aside0.mk hr
  have hV := Aside0.mk hv
  have hE : Aside0 (verE l seq next = 9) := ⟨by rw [verE, if_neg (by simp [hv])]⟩
  clear hr hv
  go_enter Try.func7, Try.ntmps7
  go_wp2_with fail
  have hb0 := below_alloc (Below.refl w.heap.size w) (Obj.cells #[Value.slice A l.length c, Value.int IntKind.i64 seq, Value.int IntKind.i64 next] 38)
  refine (alive11_any _).mono ?_
  rintro e w1 ⟨rfl, hb1⟩
  have HK1 := Aside0.mk (blk_keep (blk_new w (Obj.cells #[Value.slice A l.length c, Value.int IntKind.i64 seq, Value.int IntKind.i64 next] 38)) hb1)
  have HB1 := Aside0.mk (bthen hb0 hb1)
  obtain ⟨x0, x1, x2, _, _, _⟩ := all3 HK1.out
  clear hb0 hb1
  go_wp2_with fail
  refine (of_any A c l seq next _ (Kd.C_below HR.out HB1.out) hb).mono ?_
  rintro e w2 ⟨v, rfl, ho, hb2⟩
  obtain ⟨A2, c2, rfl, hc2, hC2⟩ := RM_reads ho
  have HC2 := Aside0.mk hC2
  have HB2 := Aside0.mk (bthen HB1.out hb2)
  have HK2 := Aside0.mk (blk_keep HK1.out hb2)
  clear x0 x1 x2 ho hC2 hb2
  go_wp2_with fail
  refine (whole_no A2 c2 l seq next _ HC2.out hc2 hw hV.out).mono ?_
  rintro e w3 ⟨rfl, hb3⟩
  have HB3 := Aside0.mk (bthen HB2.out hb3)
  have HK3 := Aside0.mk (blk_keep HK2.out hb3)
  have y := fun o => all3 (blk_keep HK3.out (below_alloc (Below.refl w3.heap.size w3) o))
  have y0 := fun o => (y o).1
  have y1 := fun o => (y o).2.1
  have y2 := fun o => (y o).2.2.1
  clear hb3 y
  go_wp2_with (first | (go_at_call 23; refine (numE_any _ _).mono ?_; rintro e w4 ⟨rfl, rfl⟩) | (go_at_call 28; refine (refCheck_any A c l seq next _ (Kd.C_below HR.out (below_alloc HB3.out _)) hc).mono ?_; rw [hE.out]; rintro e w5 ⟨rfl, hb5⟩))
  go_ret
  exact ⟨rfl, bthen (below_alloc HB3.out _) hb5⟩

theorem apply_zero (A B D : Option Addr) (c bc dc : Nat) (l add : List Meta) (drop : List Int) (seq next seq' next' : Int) (w : World)
    (hr : Kd.C kMeta w A l.length l) (hc : l.length ≤ c) (hw : ∀ m ∈ l, inI64 m.id) (hra : Kd.C kMeta w B add.length add) (hwa : ∀ m ∈ add, inI64 m.id) (hd : ReadsInt w .i64 D drop.length drop) (hb : l.length + add.length ≤ 1048576) (hdl : drop.length ≤ 1048576) (hE : applyE l seq next drop add seq' next' = 0) :
    Calls Try.prog 21 #[.agg #[.slice A l.length c, .int .i64 seq, .int .i64 next], .agg #[.slice D drop.length dc, .slice B add.length bc, .int .i64 seq', .int .i64 next']] w fun e w' => ∃ A' c', e = .returned (.tuple #[.agg #[.slice A' (applyL l drop add).length c', .int .i64 seq', .int .i64 next'], .int .i64 0]) ∧ RM 63 w' w.heap.size (.slice A' (applyL l drop add).length c') (applyL l drop add) ∧ Below w.heap.size w w' := by
  refine (apply_any A B D c bc dc l add drop seq next seq' next' w hr hc hw hra hwa hd hb hdl).mono fun e w' h => ?_
  rw [hE] at h
  rcases h.1 with ⟨_, v, he, ho⟩ | ⟨h0, _⟩
  · obtain ⟨A', c', rfl, h1, h2⟩ := RM_reads ho
    exact ⟨A', c', he, ho, h.2⟩
  · exact absurd rfl h0

set_option maxRecDepth 100000 in
set_option maxHeartbeats 4000000 in
theorem editWhole_yes (A : Option Addr) (c : Nat) (l : List Meta) (seq next : Int) (w : World) (hr : Kd.C kMeta w A l.length l) (hc : l.length ≤ c) (hw : ∀ m ∈ l, inI64 m.id) (hb : l.length ≤ 1048576) (hv : verOk l seq next = true) :
    Calls Try.prog 7 #[.agg #[.slice A l.length c, .int .i64 seq, .int .i64 next]] w fun e w' => e = .returned (.bool true) ∧ Below w.heap.size w w' := by
  have HR := Aside0.mk hr
  have hV := Aside0.mk hv
  have hA := Aside0.mk (whole_again hv)
  clear hr hv
  go_enter Try.func7, Try.ntmps7
  go_wp2_with fail
  have hb0 := below_alloc (Below.refl w.heap.size w) (Obj.cells #[Value.slice A l.length c, Value.int IntKind.i64 seq, Value.int IntKind.i64 next] 38)
  refine (alive11_any _).mono ?_
  rintro e w1 ⟨rfl, hb1⟩
  have HK1 := Aside0.mk (blk_keep (blk_new w (Obj.cells #[Value.slice A l.length c, Value.int IntKind.i64 seq, Value.int IntKind.i64 next] 38)) hb1)
  have HB1 := Aside0.mk (bthen hb0 hb1)
  obtain ⟨x0, x1, x2, _, _, _⟩ := all3 HK1.out
  clear hb0 hb1
  go_wp2_with fail
  refine (of_any A c l seq next _ (Kd.C_below HR.out HB1.out) hb).mono ?_
  rintro e w2 ⟨v, rfl, ho, hb2⟩
  obtain ⟨A2, c2, rfl, hc2, hC2⟩ := RM_reads ho
  have HC2 := Aside0.mk hC2
  have HB2 := Aside0.mk (bthen HB1.out hb2)
  have HK2 := Aside0.mk (blk_keep HK1.out hb2)
  clear x0 x1 x2 ho hC2 hb2
  go_wp2_with fail
  refine (whole_yes A2 c2 l seq next _ HC2.out hc2 hw hb hV.out).mono ?_
  rintro e w3 ⟨v3, rfl, ho, hb3⟩
  obtain ⟨A3, c3, rfl, hc3, hC3⟩ := RM_reads ho
  have HC3 := Aside0.mk hC3
  have HB3 := Aside0.mk (bthen HB2.out hb3)
  have HK3 := Aside0.mk (blk_keep HK2.out hb3)
  clear hb3 ho hC3
  go_upto_region 6 with (go_at_call 23; refine (numE_any _ _).mono ?_; rintro e w4 ⟨rfl, rfl⟩)
  obtain ⟨W, hW⟩ : ∃ W, W = w3.alloc (Obj.cells #[.slice none 0 0, .slice A3 l.length c3, .int .i64 seq, .int .i64 next] 61) := ⟨_, rfl⟩
  have hkE : W.heap[w3.heap.size]? = some (.cells #[.slice none 0 0, .slice A3 l.length c3, .int .i64 seq, .int .i64 next] 61 (0, 0)) := by rw [hW]; exact blk_new _ _
  have HBW : Aside0 (Below w3.heap.size w3 W) := ⟨by rw [hW]; exact below_alloc (Below.refl _ _) _⟩
  rw [← hW]
  clear hW
  obtain ⟨p0, p1, p2, p3, _, _, _, _⟩ := all4 hkE
  have HKE := Aside0.mk hkE
  clear hkE
  have d := fun w' (hb : Below W.heap.size W w') => all4 (blk_keep HKE.out hb)
  go_cut [5, 6] (fun v5 v6 wc => v6 = .int .i64 0 ∧ ∃ g A' c', v5 = .pointer (some ⟨g, 0, none⟩) ∧ Aside0 (wc.heap[g]? = some (.cells #[.slice A' l.length c', .int .i64 seq, .int .i64 next] 49 (0, 0)) ∧ Kd.C kMeta wc A' l.length l ∧ Below W.heap.size W wc))
  case first =>
    have p0' : W.drew.cell? ⟨w3.heap.size, 0, none⟩ = some (.slice none 0 0) := p0
    have p1' : W.drew.cell? ⟨w3.heap.size, 1, none⟩ = some (.slice A3 l.length c3) := p1
    have p2' : W.drew.cell? ⟨w3.heap.size, 2, none⟩ = some (.int .i64 seq) := p2
    have p3' : W.drew.cell? ⟨w3.heap.size, 3, none⟩ = some (.int .i64 next) := p3
    have hl3 : w3.heap.size < W.heap.size := blk_lt HKE.out
    go_region_with (first | (go_at_call 29; refine (new_any _).mono ?_; rintro e wn ⟨rfl, hbn⟩; (have hwn : Below W.heap.size W wn := bthen (by repeat (first | exact Below.refl _ _ | apply below_drew | apply below_alloc)) hbn); (first | have kn := blk_keep (blk_new _ #[.slice none 0 0, .int .i64 0, .int .i64 0] 49) hbn | have kn := blk_keep (w := (W.alloc (Obj.cells #[.slice none 0 0, .int .i64 0, .int .i64 0] 49)).drew) (blk_drew (blk_new _ (Obj.cells #[.slice none 0 0, .int .i64 0, .int .i64 0] 49))) hbn | skip); obtain ⟨q0, q1, q2, q3, _, _, _, _⟩ := d _ hwn; (have hln : w3.heap.size < wn.heap.size := World.block_lt_of_cell? wn _ q0)) | (go_at_call 21; refine (apply_zero none A3 none 0 c3 0 [] l [] 0 1 seq next _ (C_nil _) (Nat.le_refl _) (fun m hm => by simp at hm) ?pa hw (ReadsInt.nil _ _) ?pb (by decide) hA.out.1).mono ?_; (case pb => simpa using hb); (case pa => exact Kd.C_below HC3.out (bthen HBW.out (by first | exact hwn | exact below_alloc hwn _))); rw [hA.out.2]; rintro e wa ⟨Aa, ca, rfl, hoa, hba⟩; (first | (have ka := blk_keep (blk_new _ (Obj.cells #[.slice none 0 0, .int .i64 0, .int .i64 0] 49)) hba; obtain ⟨r0, r1, r2, s0, s1, s2⟩ := all3 ka) | (have ka := blk_keep kn hba; obtain ⟨r0, r1, r2, s0, s1, s2⟩ := all3 ka) | skip); (have hwa : Below W.heap.size W wa := bthen (by first | exact hwn | exact below_alloc hwn _) hba)))
    all_goals go_wp2
    all_goals go_meet
    all_goals refine ⟨rfl, _, Aa, ca, rfl, ⟨?_, ?_, ?_⟩⟩
    all_goals first
      | with_reducible exact blk_new _ _
      | with_reducible exact blk3 ka
      | with_reducible exact below_alloc hwa _
      | with_reducible exact below_set3 hwa hwn.size _ _ _
      | with_reducible exact below_set3 hwa (Nat.le_refl _) _ _ _
      | with_reducible exact (Kd.R_reads' (Kd.R_alloc hoa _)).2.2
      | (have hbl := blk_lt kn; with_reducible exact (Kd.R_reads' (Rset3 hoa hbl _ _ _)).2.2)
      | (have hbl := blk_lt (blk_new wn (Obj.cells #[Value.slice none 0 0, Value.int IntKind.i64 0, Value.int IntKind.i64 0] 49)); with_reducible exact (Kd.R_reads' (Rset3 hoa hbl _ _ _)).2.2)
  case rest =>
    obtain ⟨rfl, g, A', c', rfl, HF⟩ := hcut
    have hb8 := HF.out.2.2
    have HB8 := Aside0.mk (bthen HB3.out (bthen HBW.out hb8))
    have HB9 := Aside0.mk (bthen HBW.out hb8)
    obtain ⟨a0, a1, a2, _, _, _⟩ := all3 HF.out.1
    obtain ⟨b0, b1, b2, _, _, _⟩ := all3 (blk_keep HK3.out HB9.out)
    have HE8 := Aside0.mk (blk_keep HKE.out hb8)
    clear p0 p1 p2 p3 d hb8
    go_wp2_with (first | (go_at_call 23; refine (numE_any _ _).mono ?_; rintro e w4 ⟨rfl, rfl⟩) | (go_at_call 26; refine (alike_any A' A c' c l seq next _ HF.out.2.1 (Kd.C_below HR.out HB8.out) hb).mono ?_; rintro e w5 ⟨rfl, hb5⟩; (have e0 := (all4 (blk_keep HE8.out hb5)).1)))
    go_ret
    exact ⟨rfl, bthen HB8.out hb5⟩

/-- The law EditWhole holds of any version. -/
theorem editWhole_walk (A : Option Addr) (c : Nat) (l : List Meta) (seq next : Int) (w : World) (hr : Kd.C kMeta w A l.length l) (hc : l.length ≤ c) (hw : ∀ m ∈ l, inI64 m.id) (hb : l.length ≤ 1048576) :
    Calls Try.prog 7 #[.agg #[.slice A l.length c, .int .i64 seq, .int .i64 next]] w fun e w' => e = .returned (.bool true) ∧ Below w.heap.size w w' := by
  cases hv : verOk l seq next with
  | true => exact editWhole_yes A c l seq next w hr hc hw hb hv
  | false => exact editWhole_no A c l seq next w hr hc hw hb hv
end Go.Proofs.Ytelnhecpcjoonaa.Edit
