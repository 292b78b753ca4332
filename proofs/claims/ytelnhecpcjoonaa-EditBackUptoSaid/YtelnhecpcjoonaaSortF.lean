/- slices.symMergeCmpFunc of tables by their order, walked: the second run of one table. -/
import Derived.Test.YtelnhecpcjoonaaSortE
namespace Go.Proofs.Ytelnhecpcjoonaa.Edit
set_option linter.unusedVariables false
set_option linter.unusedSimpArgs false
open Go.RowKit Go.Proofs.YtelnhecpcjoonaaW.PrintWords Go.Proofs.YtelnhecpcjoonaaW.PrintLast Go.Proofs.Ytelnhecpcjoonaa.Base Go.Proofs.Ytelnhecpcjoonaa.EditPure Go.Proofs.Ytelnhecpcjoonaa.Sets Go.Proofs.Ytelnhecpcjoonaa.Wide Go.Proofs.Ytelnhecpcjoonaa.Cells

set_option maxRecDepth 100000 in
set_option maxHeartbeats 1000000 in
theorem symMerge_y1 (g cap : Nat) (P X S : List Meta) (y : Meta) (a m b len : Nat) (w : World) (ha : a = P.length) (hm : m = a + X.length) (hb : b = m + 1) (hX : 1 < X.length) (hlen : len = (P ++ (X ++ (y :: S))).length) (hl : len ≤ 1048576) (hs : Srt X) (h : MRow w g cap (P ++ (X ++ (y :: S)))) :
    Calls Try.prog 85 #[.slice (some ⟨g, 0, none⟩) len cap, .int .i64 a, .int .i64 m, .int .i64 b, cmpV] w fun e w' => e = .returned (.tuple #[]) ∧ ∃ Z, Z.Perm (X ++ [y]) ∧ Srt Z ∧ MRow w' g cap (P ++ (Z ++ S)) ∧ w.grownBy w' (some g) := by
  have H := Aside0.mk h
  have E := Aside0.mk (show a = P.length ∧ m = a + X.length ∧ b = m + 1 ∧ len = a + X.length + 1 + S.length ∧ 1 < X.length from ⟨ha, hm, hb, by rw [hlen, ha]; simp; omega, hX⟩)
  have HS := Aside0.mk hs
  have hma : ((m : Int) - a == 1) = false := by simp; omega
  have hbm : ((b : Int) - m == 1) = true := by simp; omega
  have hml : m ≤ 1048576 := by have := E.out; omega
  have hal : a ≤ 1048576 := by have := E.out; omega
  have hbl : b ≤ len := by have := E.out; omega
  have hmb : m ≤ b := by have := E.out; omega
  obtain ⟨L, hL⟩ := named (P ++ (X ++ (y :: S)))
  have gy : Aside0 (L[m]? = some y) := ⟨by rw [hL.out, ← List.append_assoc]; exact get_mid _ _ _ _ (by simp; omega)⟩
  have gX : Aside0 (∀ t, t < X.length → ∃ z, X[t]? = some z ∧ L[a + t]? = some z) := ⟨fun t ht => ⟨X[t], List.getElem?_eq_getElem ht, by
    rw [hL.out, List.getElem?_append_right (by omega), show a + t - P.length = t by omega, List.getElem?_append_left ht]
    exact List.getElem?_eq_getElem ht⟩⟩
  have hml2 : (m : Int) < len := by have := E.out; omega
  rw [← hL.out] at H
  have ham : a ≤ m := by omega
  clear h ha hm hb hlen hX hs
  go_enter Try.func85, Try.ntmps85
  go_wp2
  go_loopg [14, 15, 16] (m - a) (fun g0 v10 v11 v12 wr => ∃ i j : Nat, v10 = .int .i64 i ∧ v11 = .int .i64 j ∧ g0 + i = j ∧ a ≤ i ∧ j ≤ m ∧ Aside0 ((i = a ∨ ∃ z, a < i ∧ X[i - 1 - a]? = some z ∧ ltM y z = false) ∧ (j = m ∨ ∃ z, X[j - a]? = some z ∧ ltM y z = true)) ∧ Aside0 (MRow wr g cap L) ∧ Aside0 (w.grownBy wr (some g)))
  case atStart => exact ⟨a, m, rfl, rfl, by omega, Nat.le_refl _, Nat.le_refl _, ⟨.inl rfl, .inl rfl⟩, H, ⟨grown_refl _ _⟩⟩
  case round =>
    obtain ⟨i, j, rfl, rfl, hg, hmi, hjb, HI, HR, HG⟩ := hrel
    by_cases hij : i < j
    · have hij' : (i : Int) < j := by omega
      obtain ⟨c, hc⟩ : ∃ c : Nat, c = (i + j) / 2 := ⟨_, rfl⟩
      have hcc : ((i : Int) + j) / 2 = c := by omega
      have hci : i ≤ c := by omega
      have hcj : c < j := by omega
      have hcl : (c : Int) < len := by omega
      clear hc
      obtain ⟨z, hz⟩ : ∃ z, Aside0 (X[c - a]? = some z ∧ L[c]? = some z) := by
        obtain ⟨z, h1, h2⟩ := gX.out (c - a) (by have := E.out; omega)
        exact ⟨z, ⟨h1, by rw [show a + (c - a) = c by omega] at h2; exact h2⟩⟩
      go_upto_region 17 with (fail)
      obtain ⟨o, ho⟩ := named (ord y z)
      have CO := order_below y z o ho
      obtain ⟨a0, a1, a2, a3, a4⟩ := HR.out.cells _ _ gy.out
      obtain ⟨b0, b1, b2, b3, b4⟩ := HR.out.cells _ _ hz.out.2
      have a0 := wb_cell a0
      have a1 := wb_cell a1
      have a2 := wb_cell a2
      have a3 := wb_cell a3
      have a4 := wb_cell a4
      have b0 := wb_cell b0
      have b1 := wb_cell b1
      have b2 := wb_cell b2
      have b3 := wb_cell b3
      have b4 := wb_cell b4
      refine wp_region_wide (by kernel_rfl) (by kernel_rfl) ?_
      repeat (go_big_quiet_step ((go_at_call 52; exact wide_of (CO _))))
      refine wpQuiet_nil ?_
      rintro w' ⟨x', rfl⟩
      clear a0 a1 a2 a3 a4 b0 b1 b2 b3 b4 CO
      have HRw := Aside0.mk (HR.out.wb x')
      have HGw := Aside0.mk (grown_wb HG.out x')
      generalize wb wr x' = wk at HRw HGw ⊢
      generalize hbb : decide (o < 0) = bb
      have HBB : Aside0 (ltM y z = bb) := ⟨by rw [ltM, ← ho.out]; exact hbb⟩
      clear hbb
      cases bb with
      | true =>
        have hrl : Aside0 (ltM y z = true) := HBB
        go_wp2
        go_roundg (c - i)
        case measure => omega
        case rel => exact ⟨i, c, rfl, rfl, by omega, hmi, by omega, ⟨HI.out.1, .inr ⟨z, hz.out.1, hrl.out⟩⟩, HRw, HGw⟩
      | false =>
        have hrl : Aside0 (ltM y z = false) := HBB
        go_wp2
        go_roundg (j - (c + 1))
        case measure => omega
        case rel => exact ⟨c + 1, j, by go_num, rfl, by omega, by omega, hjb, ⟨.inr ⟨z, by omega, by rw [show c + 1 - 1 - a = c - a by omega]; exact hz.out.1, hrl.out⟩, HI.out.2⟩, HRw, HGw⟩
    · obtain rfl : i = j := by omega
      have hij' : ¬ ((i : Int) < i) := by omega
      obtain ⟨t, rfl⟩ : ∃ t, i = a + t := ⟨i - a, by omega⟩
      have htl : Aside0 (t ≤ X.length ∧ P.length = a) := ⟨by have := E.out; omega⟩
      clear hg
      go_wp2
      go_loopg [17] (X.length - t) (fun g0 v13 wv => ∃ k u : Nat, v13 = .int .i64 k ∧ g0 + t = u ∧ u ≤ X.length ∧ Aside0 (k = a + u) ∧ Aside0 (MRow wv g cap (P ++ (X.take u ++ (y :: (X.drop u ++ S))))) ∧ Aside0 (w.grownBy wv (some g)))
      case atStart => exact ⟨m, X.length, rfl, by have := htl.out; omega, Nat.le_refl _, ⟨E.out.2.1⟩, ⟨by have := HR.out; rw [hL.out] at this; simpa using this⟩, HG⟩
      case round =>
        obtain ⟨k, u, rfl, hg, huX, hk, HRv, HGv⟩ := hrel
        by_cases hlt : t < u
        · obtain ⟨v, rfl⟩ : ∃ v, u = v + 1 := ⟨u - 1, by omega⟩
          obtain ⟨km, rfl⟩ : ∃ km, k = km + 1 := ⟨k - 1, by have := hk.out; omega⟩
          have hkm : Aside0 (km = a + v) := ⟨by have := hk.out; omega⟩
          obtain ⟨z, hz⟩ : ∃ z, Aside0 (X.drop v = z :: X.drop (v + 1) ∧ X.take (v + 1) = X.take v ++ [z]) := ⟨X[v]'(by omega), ⟨List.drop_eq_getElem_cons _, by rw [List.take_add_one, List.getElem?_eq_getElem (by omega)]; rfl⟩⟩
          have hkt : (a : Int) + t < km + 1 := by have := hkm.out; omega
          have hk1 : (km : Int) + 1 < len := by have := hkm.out; have := E.out; omega
          have hk0 : (km : Int) < len := by omega
          have hka : Aside0 (km = (P ++ X.take v).length) := ⟨by have := hkm.out; have := htl.out; simp; omega⟩
          obtain ⟨K, hK⟩ := named (P ++ (X.take (v + 1) ++ (y :: (X.drop (v + 1) ++ S))))
          rw [← hK.out] at HRv
          have hK1 : Aside0 (K = ((P ++ X.take v) ++ [z]) ++ y :: (X.drop (v + 1) ++ S)) := ⟨by rw [hK.out, hz.out.2]; simp⟩
          have hK2 : Aside0 (((P ++ X.take v) ++ [z]) ++ z :: (X.drop (v + 1) ++ S) = (P ++ X.take v) ++ z :: (z :: (X.drop (v + 1) ++ S))) := ⟨by simp⟩
          have g2 : Aside0 (K[km + 1]? = some y) := ⟨by rw [hK1.out]; exact get_mid _ _ _ _ (by have := hka.out; simp at this ⊢; omega)⟩
          have g1 : Aside0 (K[km]? = some z) := ⟨by
            rw [hK1.out, show ((P ++ X.take v) ++ [z]) ++ y :: (X.drop (v + 1) ++ S) = (P ++ X.take v) ++ z :: (y :: (X.drop (v + 1) ++ S)) by simp]
            exact get_mid _ _ _ _ hka.out⟩
          have q1 : km < K.length := (List.getElem?_eq_some_iff.1 g1.out).1
          have q2 : km + 1 < K.length := (List.getElem?_eq_some_iff.1 g2.out).1
          have hKs : Aside0 ((K.set (km + 1) z).set km y = P ++ (X.take v ++ (y :: (X.drop v ++ S)))) := ⟨by
            rw [hK1.out, set_mid _ _ _ _ _ (by have := hka.out; simp at this ⊢; omega), hK2.out, set_mid _ _ _ _ _ hka.out, hz.out.1]
            simp⟩
          have HE := Aside0.mk (HRv.out.exch (km + 1) km y z q2 q1)
          have HX' := Aside0.mk (exch_grown wr g ((km + 1) * 5) (km * 5) y z)
          obtain ⟨a0, a1, a2, a3, a4⟩ := HRv.out.cells _ _ g1.out
          obtain ⟨b0, b1, b2, b3, b4⟩ := HRv.out.cells _ _ g2.out
          have hf := HRv.out.froz
          obtain ⟨c0, c1, c2, c3, c4⟩ := HRv.out.behind (km + 1) km z z g1.out (by omega)
          unfold put5 at c0 c1 c2 c3 c4
          clear q1 q2
          go_wp2_with fail
          go_region
          go_wp2
          go_roundg (v - t)
          case measure => omega
          case rel => exact ⟨km, v, by go_num, by omega, by omega, hkm, ⟨by have := HE.out; rw [hKs.out] at this; exact this⟩, ⟨grown_trans HGv.out HX'.out⟩⟩
        · obtain rfl : u = t := by omega
          have hkt : ¬ ((a : Int) + u < k) := by have := hk.out; omega
          have HF : Aside0 (Srt (X.take u ++ y :: X.drop u)) := ⟨by
            refine srt_insert (by rw [List.take_append_drop]; exact HS.out) ?_ ?_
            · rcases HI.out.1 with h | ⟨z, h0, h1, h2⟩
              · obtain rfl : u = 0 := by omega
                simp
              · obtain ⟨v, rfl⟩ : ∃ v, u = v + 1 := ⟨u - 1, by omega⟩
                rw [show a + (v + 1) - 1 - a = v by omega] at h1
                have e : X.take (v + 1) = X.take v ++ [z] := by rw [List.take_add_one, h1]; rfl
                rw [e]
                exact srt_last (by rw [← e]; exact List.Pairwise.sublist (List.take_sublist _ _) HS.out) y h2
            · rcases HI.out.2 with h | ⟨z, h1, h2⟩
              · rw [List.drop_of_length_le (by have := E.out; omega)]; simp
              · rw [show a + u - a = u by omega] at h1
                have e : X.drop u = z :: X.drop (u + 1) := by
                  obtain ⟨hu, rfl⟩ := List.getElem?_eq_some_iff.1 h1
                  exact List.drop_eq_getElem_cons hu
                rw [e]
                exact srt_head (by rw [← e]; exact List.Pairwise.sublist (List.drop_sublist _ _) HS.out) y (leM_of_lt h2)⟩
          go_wp2
          refine bodyPost_ret (results_none rfl _ _ _) rfl ?_
          exact ⟨rfl, X.take u ++ y :: X.drop u, by refine List.perm_middle.trans ((List.perm_append_singleton _ _).symm.trans ?_); rw [List.take_append_drop], HF.out, by simpa using HRv.out, HGv.out⟩
end Go.Proofs.Ytelnhecpcjoonaa.Edit
