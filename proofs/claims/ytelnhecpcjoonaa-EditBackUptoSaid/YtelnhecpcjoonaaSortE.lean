/- slices.symMergeCmpFunc of tables by their order, walked: one run of one table. -/
import Derived.Test.YtelnhecpcjoonaaSortD
namespace Go.Proofs.Ytelnhecpcjoonaa.Edit
set_option linter.unusedVariables false
set_option linter.unusedSimpArgs false
open Go.RowKit Go.Proofs.YtelnhecpcjoonaaW.PrintWords Go.Proofs.YtelnhecpcjoonaaW.PrintLast Go.Proofs.Ytelnhecpcjoonaa.Base Go.Proofs.Ytelnhecpcjoonaa.EditPure Go.Proofs.Ytelnhecpcjoonaa.Sets Go.Proofs.Ytelnhecpcjoonaa.Wide Go.Proofs.Ytelnhecpcjoonaa.Cells

theorem order_below (x p : Meta) (o : Int) (ho : Aside0 (o = ord x p)) (W : World) : Calls Try.prog 52 #[.agg #[.int .i64 x.id, .int .i64 x.level, .int .i64 x.count, .string x.low, .string x.high], .agg #[.int .i64 p.id, .int .i64 p.level, .int .i64 p.count, .string p.low, .string p.high]] W fun e w' => e = .returned (.int .i64 o) ∧ Below W.heap.size W w' :=
  (order_any x p W).mono fun e w' ⟨he, o1, o2, hw'⟩ => ⟨by rw [ho.out]; exact he, by rw [hw']; exact below_alloc (below_alloc (Below.refl _ _) _) _⟩

set_option maxRecDepth 100000 in
set_option maxHeartbeats 1000000 in
theorem symMerge_x1 (g cap : Nat) (P Y S : List Meta) (x : Meta) (a m b len : Nat) (w : World) (ha : a = P.length) (hm : m = a + 1) (hb : b = m + Y.length) (hY : 0 < Y.length) (hlen : len = (P ++ (x :: (Y ++ S))).length) (hl : len ≤ 1048576) (hs : Srt Y) (h : MRow w g cap (P ++ (x :: (Y ++ S)))) :
    Calls Try.prog 85 #[.slice (some ⟨g, 0, none⟩) len cap, .int .i64 a, .int .i64 m, .int .i64 b, cmpV] w fun e w' => e = .returned (.tuple #[]) ∧ ∃ Z, Z.Perm (x :: Y) ∧ Srt Z ∧ MRow w' g cap (P ++ (Z ++ S)) ∧ w.grownBy w' (some g) := by
  have H := Aside0.mk h
  have E := Aside0.mk (show a = P.length ∧ m = a + 1 ∧ b = m + Y.length ∧ len = a + 1 + Y.length + S.length ∧ 0 < Y.length from ⟨ha, hm, hb, by rw [hlen, ha]; simp; omega, hY⟩)
  have HS := Aside0.mk hs
  have hma : ((m : Int) - a == 1) = true := by simp; omega
  have hml : m ≤ 1048576 := by have := E.out; omega
  have hal : a ≤ 1048576 := by have := E.out; omega
  have hbl : b ≤ len := by have := E.out; omega
  have hmb : m ≤ b := by have := E.out; omega
  obtain ⟨L, hL⟩ := named (P ++ (x :: (Y ++ S)))
  have gx : Aside0 (L[a]? = some x) := ⟨by rw [hL.out]; exact get_mid _ _ _ _ ha⟩
  have gY : Aside0 (∀ t, t < Y.length → ∃ y, Y[t]? = some y ∧ L[m + t]? = some y) := ⟨fun t ht => ⟨Y[t], List.getElem?_eq_getElem ht, by
    rw [hL.out, List.getElem?_append_right (by omega), show m + t - P.length = t + 1 by omega, List.getElem?_cons_succ, List.getElem?_append_left ht]
    exact List.getElem?_eq_getElem ht⟩⟩
  have hal2 : (a : Int) < len := by have := E.out; omega
  rw [← hL.out] at H
  clear h ha hm hb hlen hY hs
  go_enter Try.func85, Try.ntmps85
  go_wp2
  go_loopg [10, 11, 12] (b - m) (fun g0 v10 v11 v12 wr => ∃ i j : Nat, v10 = .int .i64 i ∧ v11 = .int .i64 j ∧ g0 + i = j ∧ m ≤ i ∧ j ≤ b ∧ Aside0 ((i = m ∨ ∃ y, m < i ∧ Y[i - 1 - m]? = some y ∧ ltM y x = true) ∧ (j = b ∨ ∃ y, Y[j - m]? = some y ∧ ltM y x = false)) ∧ Aside0 (MRow wr g cap L) ∧ Aside0 (w.grownBy wr (some g)))
  case atStart => exact ⟨m, b, rfl, rfl, by omega, Nat.le_refl _, Nat.le_refl _, ⟨.inl rfl, .inl rfl⟩, H, ⟨grown_refl _ _⟩⟩
  case round =>
    obtain ⟨i, j, rfl, rfl, hg, hmi, hjb, HI, HR, HG⟩ := hrel
    by_cases hij : i < j
    · have hij' : (i : Int) < j := by omega
      obtain ⟨c, hc⟩ : ∃ c : Nat, c = (i + j) / 2 := ⟨_, rfl⟩
      have hcc : ((i : Int) + j) / 2 = c := by omega
      have hci : i ≤ c := by omega
      have hcj : c < j := by omega
      have hcl : (c : Int) < len := by omega
      clear hc
      obtain ⟨y, hy⟩ : ∃ y, Aside0 (Y[c - m]? = some y ∧ L[c]? = some y) := by
        obtain ⟨y, h1, h2⟩ := gY.out (c - m) (by have := E.out; omega)
        exact ⟨y, ⟨h1, by rw [show m + (c - m) = c by omega] at h2; exact h2⟩⟩
      go_upto_region 5 with (fail)
      obtain ⟨o, ho⟩ := named (ord y x)
      have CO := order_below y x o ho
      obtain ⟨a0, a1, a2, a3, a4⟩ := HR.out.cells _ _ gx.out
      obtain ⟨b0, b1, b2, b3, b4⟩ := HR.out.cells _ _ hy.out.2
      have a0 := wb_cell a0
      have a1 := wb_cell a1
      have a2 := wb_cell a2
      have a3 := wb_cell a3
      have a4 := wb_cell a4
      have b0 := wb_cell b0
      have b1 := wb_cell b1
      have b2 := wb_cell b2
      have b3 := wb_cell b3
      have b4 := wb_cell b4
      refine wp_region_wide (by kernel_rfl) (by kernel_rfl) ?_
      repeat (go_big_quiet_step ((go_at_call 52; exact wide_of (CO _))))
      refine wpQuiet_nil ?_
      rintro w' ⟨x', rfl⟩
      clear a0 a1 a2 a3 a4 b0 b1 b2 b3 b4 CO
      have HRw := Aside0.mk (HR.out.wb x')
      have HGw := Aside0.mk (grown_wb HG.out x')
      generalize wb wr x' = wk at HRw HGw ⊢
      by_cases hlss : o < 0
      · have hrl : Aside0 (ltM y x = true) := ⟨by rw [ltM, ← ho.out]; simpa using hlss⟩
        go_wp2
        go_roundg (j - (c + 1))
        case measure => omega
        case rel => exact ⟨c + 1, j, by go_num, rfl, by omega, by omega, hjb, ⟨.inr ⟨y, by omega, by rw [show c + 1 - 1 - m = c - m by omega]; exact hy.out.1, hrl.out⟩, HI.out.2⟩, HRw, HGw⟩
      · have hrl : Aside0 (ltM y x = false) := ⟨by rw [ltM, ← ho.out]; simpa using hlss⟩
        go_wp2
        go_roundg (c - i)
        case measure => omega
        case rel => exact ⟨i, c, rfl, rfl, by omega, hmi, by omega, ⟨HI.out.1, .inr ⟨y, hy.out.1, hrl.out⟩⟩, HRw, HGw⟩
    · obtain rfl : i = j := by omega
      have hij' : ¬ ((i : Int) < i) := by omega
      obtain ⟨t, rfl⟩ : ∃ t, i = m + t := ⟨i - m, by omega⟩
      have htl : Aside0 (t ≤ Y.length ∧ P.length = a) := ⟨by have := E.out; omega⟩
      have hmt : m + t ≤ 1048576 := by omega
      have hma1 : (m : Int) + t - 1 = ((a + t : Nat) : Int) := by have := E.out; omega
      clear hg
      go_wp2
      go_loopg [13] t (fun g0 v13 wv => ∃ k u : Nat, v13 = .int .i64 k ∧ g0 + u = t ∧ Aside0 (k = a + u) ∧ Aside0 (MRow wv g cap (P ++ (Y.take u ++ (x :: (Y.drop u ++ S))))) ∧ Aside0 (w.grownBy wv (some g)))
      case atStart => exact ⟨a, 0, rfl, by omega, ⟨rfl⟩, ⟨by have := HR.out; rw [hL.out] at this; simpa using this⟩, HG⟩
      case round =>
        obtain ⟨k, u, rfl, hg, hk, HRv, HGv⟩ := hrel
        have htY := htl.out
        have hkl : k + 1 ≤ 1048577 := by have := hk.out; omega
        by_cases hlt : u < t
        · obtain ⟨y, hy⟩ : ∃ y, Aside0 (Y.drop u = y :: Y.drop (u + 1) ∧ Y.take (u + 1) = Y.take u ++ [y]) := ⟨Y[u]'(by omega), ⟨List.drop_eq_getElem_cons _, by rw [List.take_add_one, List.getElem?_eq_getElem (by omega)]; rfl⟩⟩
          have hkt : (k : Int) < m + t - 1 := by have := hk.out; have := E.out; omega
          have hk1 : (k : Int) + 1 < len := by have := hk.out; have := E.out; omega
          have hk0 : (k : Int) < len := by omega
          have hka : Aside0 (k = (P ++ Y.take u).length) := ⟨by have := hk.out; simp; omega⟩
          obtain ⟨K, hK⟩ := named (P ++ (Y.take u ++ (x :: (Y.drop u ++ S))))
          rw [← hK.out] at HRv
          have hK1 : Aside0 (K = (P ++ Y.take u) ++ x :: (y :: (Y.drop (u + 1) ++ S))) := ⟨by rw [hK.out, hy.out.1]; simp⟩
          have hK2 : Aside0 ((P ++ Y.take u) ++ y :: (y :: (Y.drop (u + 1) ++ S)) = ((P ++ Y.take u) ++ [y]) ++ y :: (Y.drop (u + 1) ++ S)) := ⟨by simp⟩
          have g1 : Aside0 (K[k]? = some x) := ⟨by rw [hK1.out]; exact get_mid _ _ _ _ hka.out⟩
          have g2 : Aside0 (K[k + 1]? = some y) := ⟨by
            rw [hK1.out, show (P ++ Y.take u) ++ x :: (y :: (Y.drop (u + 1) ++ S)) = ((P ++ Y.take u) ++ [x]) ++ y :: (Y.drop (u + 1) ++ S) by simp]
            exact get_mid _ _ _ _ (by have := hka.out; simp at this ⊢; omega)⟩
          have q1 : k < K.length := (List.getElem?_eq_some_iff.1 g1.out).1
          have q2 : k + 1 < K.length := (List.getElem?_eq_some_iff.1 g2.out).1
          have hKs : Aside0 ((K.set k y).set (k + 1) x = P ++ (Y.take (u + 1) ++ (x :: (Y.drop (u + 1) ++ S)))) := ⟨by
            rw [hK1.out, set_mid _ _ _ _ _ hka.out, hK2.out, set_mid _ _ _ _ _ (by have := hka.out; simp at this ⊢; omega), hy.out.2]
            simp⟩
          have HE := Aside0.mk (HRv.out.exch k (k + 1) x y q1 q2)
          have HX' := Aside0.mk (exch_grown wr g (k * 5) ((k + 1) * 5) x y)
          obtain ⟨a0, a1, a2, a3, a4⟩ := HRv.out.cells _ _ g1.out
          obtain ⟨b0, b1, b2, b3, b4⟩ := HRv.out.cells _ _ g2.out
          have hf := HRv.out.froz
          obtain ⟨c0, c1, c2, c3, c4⟩ := HRv.out.behind k (k + 1) y y g2.out (by omega)
          unfold put5 at c0 c1 c2 c3 c4
          clear q1 q2 htY hma1
          go_wp2_with fail
          go_region
          go_wp2
          go_roundg (t - (u + 1))
          case measure => omega
          case rel => exact ⟨k + 1, u + 1, by go_num, by omega, ⟨by have := hk.out; omega⟩, ⟨by have := HE.out; rw [hKs.out] at this; exact this⟩, ⟨grown_trans HGv.out HX'.out⟩⟩
        · obtain rfl : u = t := by omega
          have hkt : ¬ ((k : Int) < m + u - 1) := by have := hk.out; have := E.out; omega
          have HF : Aside0 (Srt (Y.take u ++ x :: Y.drop u)) := ⟨by
            refine srt_insert (by rw [List.take_append_drop]; exact HS.out) ?_ ?_
            · rcases HI.out.1 with h | ⟨y, h0, h1, h2⟩
              · obtain rfl : u = 0 := by omega
                simp
              · obtain ⟨v, rfl⟩ : ∃ v, u = v + 1 := ⟨u - 1, by omega⟩
                rw [show m + (v + 1) - 1 - m = v by omega] at h1
                have e : Y.take (v + 1) = Y.take v ++ [y] := by rw [List.take_add_one, h1]; rfl
                rw [e]
                exact srt_last (by rw [← e]; exact List.Pairwise.sublist (List.take_sublist _ _) HS.out) x (leM_of_lt h2)
            · rcases HI.out.2 with h | ⟨y, h1, h2⟩
              · rw [List.drop_of_length_le (by have := E.out; omega)]; simp
              · rw [show m + u - m = u by omega] at h1
                have e : Y.drop u = y :: Y.drop (u + 1) := by
                  obtain ⟨hu, rfl⟩ := List.getElem?_eq_some_iff.1 h1
                  exact List.drop_eq_getElem_cons hu
                rw [e]
                exact srt_head (by rw [← e]; exact List.Pairwise.sublist (List.drop_sublist _ _) HS.out) x h2⟩
          clear htY hma1
          go_wp2
          refine bodyPost_ret (results_none rfl _ _ _) rfl ?_
          exact ⟨rfl, Y.take u ++ x :: Y.drop u, by refine List.perm_middle.trans ?_; rw [List.take_append_drop], HF.out, by simpa using HRv.out, HGv.out⟩
end Go.Proofs.Ytelnhecpcjoonaa.Edit
