/- slices.insertionSortCmpFunc of tables by their order, walked. -/
import Derived.Test.YtelnhecpcjoonaaSortC
namespace Go.Proofs.Ytelnhecpcjoonaa.Edit
set_option linter.unusedVariables false
set_option linter.unusedSimpArgs false
open Go.RowKit Go.Proofs.YtelnhecpcjoonaaW.PrintWords Go.Proofs.YtelnhecpcjoonaaW.PrintLast Go.Proofs.Ytelnhecpcjoonaa.Base Go.Proofs.Ytelnhecpcjoonaa.EditPure Go.Proofs.Ytelnhecpcjoonaa.Sets Go.Proofs.Ytelnhecpcjoonaa.Wide Go.Proofs.Ytelnhecpcjoonaa.Cells

theorem MRow.wb {w : World} {g cap : Nat} {L : List Meta} (h : MRow w g cap L) (x : Later w) : MRow (wb w x) g cap L := h.keep (wb_below w x)
theorem grown_wb {w0 w : World} {r : Option Nat} (h : w0.grownBy w r) (x : Later w) : w0.grownBy (wb w x) r := grown_trans h (Go.Proofs.YtelnhecpcjoonaaW.PrintWords.grown_of_below (wb_below w x) r)

theorem isort_exit {Z Z' X1 X2 : List Meta} {x : Meta} {k : Nat} (hZ : Z'.Perm (Z.take k) ∧ Srt Z') (hx : Z.take (k + 1) = Z.take k ++ [x]) (hX : X1 ++ X2 = Z') (h1 : ∀ y ∈ X1, leM y x) (h2 : ∀ y ∈ X2, ltM x y = true) :
    (X1 ++ x :: X2).Perm (Z.take (k + 1)) ∧ Srt (X1 ++ x :: X2) := by
  refine ⟨?_, srt_insert (by rw [hX]; exact hZ.2) h1 (fun y hy => leM_of_lt (h2 y hy))⟩
  rw [hx]
  refine List.perm_middle.trans (List.Perm.trans ?_ (List.perm_append_singleton x (Z.take k)).symm)
  rw [hX]
  exact hZ.1.cons x

set_option maxRecDepth 100000 in
set_option maxHeartbeats 1000000 in
theorem isort_any (g cap : Nat) (P Z S : List Meta) (a b len : Nat) (w : World) (ha : a = P.length) (hb : b = a + Z.length) (hlen : len = (P ++ (Z ++ S)).length) (hl : len ≤ 1048576) (h : MRow w g cap (P ++ (Z ++ S))) :
    Calls Try.prog 84 #[.slice (some ⟨g, 0, none⟩) len cap, .int .i64 a, .int .i64 b, cmpV] w fun e w' => e = .returned (.tuple #[]) ∧ ∃ Z', Z'.Perm Z ∧ Srt Z' ∧ MRow w' g cap (P ++ (Z' ++ S)) ∧ w.grownBy w' (some g) := by
  have H := Aside0.mk h
  have E := Aside0.mk (show a = P.length ∧ b = a + Z.length ∧ len = a + Z.length + S.length from ⟨ha, hb, by rw [hlen, ha]; simp; omega⟩)
  have hal : a ≤ 1048576 := by have := E.out; omega
  have hbl : b ≤ len := by have := E.out; omega
  clear h ha hb hlen
  go_enter Try.func84, Try.ntmps84
  go_wp2
  go_loopg [8] (b + 1) (fun g0 v8 wr => ∃ (k : Nat) (Z' : List Meta), v8 = .int .i64 ((a + k : Nat) : Int) ∧ g0 + (a + k) = b + a + 2 ∧ Aside0 (Z'.Perm (Z.take k) ∧ Srt Z') ∧ Aside0 (MRow wr g cap (P ++ (Z' ++ (Z.drop k ++ S)))) ∧ Aside0 (w.grownBy wr (some g)))
  case atStart => exact ⟨1, Z.take 1, by go_num, by omega, ⟨List.Perm.refl _, by rcases Z with _ | ⟨z, Z⟩ <;> simp⟩, ⟨by have := H.out; rw [← List.append_assoc (Z.take 1), List.take_append_drop]; exact this⟩, ⟨grown_refl _ _⟩⟩
  case round =>
    obtain ⟨k, Z', rfl, hg, HZ, HR, HG⟩ := hrel
    obtain ⟨i, hi⟩ := named (a + k)
    rw [← hi.out] at hg ⊢
    by_cases hlt : i < b
    · have hlt' : (i : Int) < b := by omega
      have hi1 : (i : Int) + 1 ≤ 1048577 := by omega
      obtain ⟨x, hx⟩ : ∃ x, Aside0 (Z.drop k = x :: Z.drop (k + 1) ∧ Z.take (k + 1) = Z.take k ++ [x]) := ⟨Z[k]'(by have := E.out; have := hi.out; omega), ⟨List.drop_eq_getElem_cons _, by rw [List.take_add_one, List.getElem?_eq_getElem (by have := E.out; have := hi.out; omega)]; rfl⟩⟩
      have hZl : Aside0 (Z'.length = k) := ⟨by rw [HZ.out.1.length_eq, List.length_take]; have := E.out; have := hi.out; omega⟩
      go_wp2
      go_loopg [9] i (fun g0 v9 wv => ∃ (j : Nat) (X1 X2 : List Meta), v9 = .int .i64 j ∧ g0 = j ∧ j ≤ i ∧ a ≤ j ∧ Aside0 (j = a + X1.length ∧ X1 ++ X2 = Z' ∧ ∀ y ∈ X2, ltM x y = true) ∧ Aside0 (MRow wv g cap (P ++ (X1 ++ (x :: (X2 ++ (Z.drop (k + 1) ++ S)))))) ∧ Aside0 (w.grownBy wv (some g)))
      case atStart => exact ⟨i, Z', [], rfl, rfl, Nat.le_refl _, by have := hi.out; omega, ⟨by rw [hZl.out]; exact hi.out, by simp, by simp⟩, ⟨by have := HR.out; rw [hx.out.1] at this; simpa using this⟩, HG⟩
      case round =>
        obtain ⟨j, X1, X2, rfl, hgj, hji, haj, HX, HRv, HGv⟩ := hrel
        by_cases hja : a < j
        · obtain ⟨jm, rfl⟩ : ∃ jm, j = jm + 1 := ⟨j - 1, by omega⟩
          have hja1 : (a : Int) < jm + 1 := by omega
          have hja2 : decide ((a : Int) < jm + 1) = true := by simp; omega
          have hjl : (jm : Int) + 1 < len := by omega
          have hjl2 : (jm : Int) < len := by omega
          obtain ⟨X, p, hX⟩ : ∃ X p, Aside0 (X1 = X ++ [p] ∧ jm = a + X.length) := by
            have hne : X1 ≠ [] := by intro e; have := HX.out.1; rw [e] at this; simp at this; omega
            refine ⟨X1.dropLast, X1.getLast hne, ⟨(List.dropLast_concat_getLast hne).symm, ?_⟩⟩
            rw [List.length_dropLast]
            have := HX.out.1
            omega
          obtain ⟨L, hL⟩ := named (P ++ (X1 ++ (x :: (X2 ++ (Z.drop (k + 1) ++ S)))))
          rw [← hL.out] at HRv
          have g1 : Aside0 (L[jm]? = some p) := ⟨by rw [hL.out, hX.out.1]; have := get_mid (P ++ X) (x :: (X2 ++ (Z.drop (k + 1) ++ S))) p jm (by have := E.out; have := hX.out; simp; omega); simpa using this⟩
          have g2 : Aside0 (L[jm + 1]? = some x) := ⟨by rw [hL.out, hX.out.1]; have := get_mid (P ++ (X ++ [p])) (X2 ++ (Z.drop (k + 1) ++ S)) x (jm + 1) (by have := E.out; have := hX.out; simp; omega); simpa using this⟩
          have q1 : jm < L.length := (List.getElem?_eq_some_iff.1 g1.out).1
          have q2 : jm + 1 < L.length := (List.getElem?_eq_some_iff.1 g2.out).1
          obtain ⟨o, ho⟩ := named (ord x p)
          have CO : ∀ W, Calls Try.prog 52 #[.agg #[.int .i64 x.id, .int .i64 x.level, .int .i64 x.count, .string x.low, .string x.high], .agg #[.int .i64 p.id, .int .i64 p.level, .int .i64 p.count, .string p.low, .string p.high]] W fun e w' => e = .returned (.int .i64 o) ∧ Below W.heap.size W w' :=
            fun W => (order_any x p W).mono fun e w' ⟨he, o1, o2, hw'⟩ => ⟨by rw [ho.out]; exact he, by rw [hw']; exact below_alloc (below_alloc (Below.refl _ _) _) _⟩
          by_cases hlss : o < 0
          · go_upto_region 4 with (fail)
            obtain ⟨a0, a1, a2, a3, a4⟩ := HRv.out.cells _ _ g1.out
            obtain ⟨b0, b1, b2, b3, b4⟩ := HRv.out.cells _ _ g2.out
            have a0 := wb_cell a0
            have a1 := wb_cell a1
            have a2 := wb_cell a2
            have a3 := wb_cell a3
            have a4 := wb_cell a4
            have b0 := wb_cell b0
            have b1 := wb_cell b1
            have b2 := wb_cell b2
            have b3 := wb_cell b3
            have b4 := wb_cell b4
            refine wp_region_wide (by kernel_rfl) (by kernel_rfl) ?_
            repeat (go_big_quiet_step ((go_at_call 52; exact wide_of (CO _))))
            refine wpQuiet_nil ?_
            rintro w' ⟨x', rfl⟩
            have hrl : Aside0 (ltM x p = true) := ⟨by rw [ltM, ← ho.out]; simpa using hlss⟩
            clear a0 a1 a2 a3 a4 b0 b1 b2 b3 b4 CO ho
            have HRw := Aside0.mk (HRv.out.wb x')
            have HGw := Aside0.mk (grown_wb HGv.out x')
            generalize wb wr x' = wk at HRw HGw ⊢
            have HE := Aside0.mk (HRw.out.exch (jm + 1) jm x p q2 q1)
            have HX' := Aside0.mk (exch_grown wk g ((jm + 1) * 5) (jm * 5) x p)
            obtain ⟨a0, a1, a2, a3, a4⟩ := HRw.out.cells _ _ g1.out
            obtain ⟨b0, b1, b2, b3, b4⟩ := HRw.out.cells _ _ g2.out
            have hf := HRw.out.froz
            obtain ⟨c0, c1, c2, c3, c4⟩ := HRw.out.behind (jm + 1) jm p p g1.out (by omega)
            unfold put5 at c0 c1 c2 c3 c4
            clear q1 q2
            go_wp2_with fail
            go_region
            go_wp2
            go_roundg jm
            case measure => omega
            case rel => exact ⟨jm, X, p :: X2, by go_num, rfl, by omega, by omega, ⟨hX.out.2, by have := HX.out.2.1; rw [hX.out.1] at this; simpa using this, fun y hy => by rcases List.mem_cons.1 hy with rfl | hy; exact hrl.out; exact HX.out.2.2 y hy⟩, ⟨by
              have := HE.out
              have e : (L.set (jm + 1) p).set jm x = P ++ (X ++ (x :: (p :: X2 ++ (Z.drop (k + 1) ++ S)))) := by
                have e1 : L = (P ++ (X ++ [p])) ++ x :: (X2 ++ (Z.drop (k + 1) ++ S)) := by rw [hL.out, hX.out.1]; simp
                rw [e1, set_mid _ _ _ _ _ (by have := E.out; have := hX.out; simp; omega)]
                have e2 : (P ++ (X ++ [p])) ++ p :: (X2 ++ (Z.drop (k + 1) ++ S)) = (P ++ X) ++ p :: (p :: (X2 ++ (Z.drop (k + 1) ++ S))) := by simp
                rw [e2, set_mid _ _ _ _ _ (by have := E.out; have := hX.out; simp; omega)]
                simp
              rw [e] at this
              exact this⟩, ⟨grown_trans HGw.out HX'.out⟩⟩
          · go_upto_region 4 with (fail)
            obtain ⟨a0, a1, a2, a3, a4⟩ := HRv.out.cells _ _ g1.out
            obtain ⟨b0, b1, b2, b3, b4⟩ := HRv.out.cells _ _ g2.out
            have a0 := wb_cell a0
            have a1 := wb_cell a1
            have a2 := wb_cell a2
            have a3 := wb_cell a3
            have a4 := wb_cell a4
            have b0 := wb_cell b0
            have b1 := wb_cell b1
            have b2 := wb_cell b2
            have b3 := wb_cell b3
            have b4 := wb_cell b4
            refine wp_region_wide (by kernel_rfl) (by kernel_rfl) ?_
            repeat (go_big_quiet_step ((go_at_call 52; exact wide_of (CO _))))
            refine wpQuiet_nil ?_
            rintro w' ⟨x', rfl⟩
            have hrl : Aside0 (leM p x) := ⟨by rw [leM, ltM, ← ho.out]; simpa using hlss⟩
            clear a0 a1 a2 a3 a4 b0 b1 b2 b3 b4 CO ho
            have HRw := Aside0.mk (HRv.out.wb x')
            have HGw := Aside0.mk (grown_wb HGv.out x')
            generalize wb wr x' = wk at HRw HGw ⊢
            go_wp2
            go_roundg (b + a + 2 - (i + 1))
            case measure => omega
            case rel => exact ⟨k + 1, X1 ++ x :: X2, by rw [hi.out]; go_num, by have := hi.out; omega, ⟨isort_exit HZ.out hx.out.2 HX.out.2.1 (by
                have hs : Srt (X ++ [p]) := by
                  have := HZ.out.2
                  rw [← HX.out.2.1, hX.out.1] at this
                  exact (List.pairwise_append.1 this).1
                rw [hX.out.1]
                exact srt_last hs x hrl.out) HX.out.2.2⟩, ⟨by have := HRw.out; rw [hL.out] at this; simpa using this⟩, HGw⟩
        · have hja1 : ¬ ((a : Int) < j) := by omega
          have hja2 : decide ((a : Int) < j) = false := by simp; omega
          go_upto_region 4 with (fail)
          refine wp_region_wide (by kernel_rfl) (by kernel_rfl) ?_
          repeat (go_big_quiet_step (fail))
          refine wpQuiet_nil ?_
          rintro w' ⟨x', rfl⟩
          have HRw := Aside0.mk (HRv.out.wb x')
          have HGw := Aside0.mk (grown_wb HGv.out x')
          generalize wb wr x' = wk at HRw HGw ⊢
          go_wp2
          go_roundg (b + a + 2 - (i + 1))
          case measure => omega
          case rel => exact ⟨k + 1, X1 ++ x :: X2, by rw [hi.out]; go_num, by have := hi.out; omega, ⟨isort_exit HZ.out hx.out.2 HX.out.2.1 (by
              have hn : X1 = [] := List.eq_nil_of_length_eq_zero (by have := HX.out.1; omega)
              rw [hn]
              simp) HX.out.2.2⟩, ⟨by simpa using HRw.out⟩, HGw⟩
    · have hlt' : ¬ ((i : Int) < b) := by omega
      have hk : Aside0 (Z.length ≤ k) := ⟨by have := E.out; have := hi.out; omega⟩
      go_wp2
      go_end0
      refine ⟨rfl, Z', ?_, HZ.out.2, ?_, HG.out⟩
      · have := HZ.out.1; rwa [List.take_of_length_le hk.out] at this
      · have := HR.out; rw [List.drop_of_length_le hk.out] at this; simpa using this
end Go.Proofs.Ytelnhecpcjoonaa.Edit
