/- slices.symMergeCmpFunc of tables by their order, walked. -/
import Derived.Test.YtelnhecpcjoonaaSortF
namespace Go.Proofs.Ytelnhecpcjoonaa.Edit
set_option linter.unusedVariables false
set_option linter.unusedSimpArgs false
open Go.RowKit Go.Proofs.YtelnhecpcjoonaaW.PrintWords Go.Proofs.YtelnhecpcjoonaaW.PrintLast Go.Proofs.Ytelnhecpcjoonaa.Base Go.Proofs.Ytelnhecpcjoonaa.EditPure Go.Proofs.Ytelnhecpcjoonaa.Sets Go.Proofs.Ytelnhecpcjoonaa.Wide Go.Proofs.Ytelnhecpcjoonaa.Cells

/-- every one of a row comes no later than any of another one, if its last comes no later than the other's first -/
theorem srt_across {A B : List Meta} (hA : Srt A) (hB : Srt B) (c : A = [] ∨ B = [] ∨ ∃ A' p q B', A = A' ++ [p] ∧ B = q :: B' ∧ leM p q) : ∀ u ∈ A, ∀ v ∈ B, leM u v := by
  intro u hu v hv
  rcases c with rfl | rfl | ⟨A', p, q, B', rfl, rfl, h⟩
  · simp at hu
  · simp at hv
  · exact srt_last hA v (srt_head hB p h v hv) u hu
theorem sym_halves {A1 A2 B1 B2 Z1 Z2 : List Meta} (hX : Srt (A1 ++ A2)) (hY : Srt (B1 ++ B2)) (c1 : A1 = [] ∨ B2 = [] ∨ ∃ A' p q B', A1 = A' ++ [p] ∧ B2 = q :: B' ∧ leM p q) (c2 : B1 = [] ∨ A2 = [] ∨ ∃ A' p q B', B1 = A' ++ [p] ∧ A2 = q :: B' ∧ leM p q)
    (h1 : Z1.Perm (A1 ++ B1)) (s1 : Srt Z1) (h2 : Z2.Perm (A2 ++ B2)) (s2 : Srt Z2) : Srt (Z1 ++ Z2) ∧ (Z1 ++ Z2).Perm ((A1 ++ A2) ++ (B1 ++ B2)) := by
  obtain ⟨x1, x2, x3⟩ := List.pairwise_append.1 hX
  obtain ⟨y1, y2, y3⟩ := List.pairwise_append.1 hY
  refine ⟨List.pairwise_append.2 ⟨s1, s2, fun u hu v hv => ?_⟩, ?_⟩
  · rcases List.mem_append.1 (h1.mem_iff.1 hu) with hu | hu
    · rcases List.mem_append.1 (h2.mem_iff.1 hv) with hv | hv
      · exact x3 u hu v hv
      · exact srt_across x1 y2 c1 u hu v hv
    · rcases List.mem_append.1 (h2.mem_iff.1 hv) with hv | hv
      · exact srt_across y1 x2 c2 u hu v hv
      · exact y3 u hu v hv
  · refine (h1.append h2).trans ?_
    rw [List.append_assoc, List.append_assoc]
    refine List.Perm.append_left _ ?_
    rw [← List.append_assoc, ← List.append_assoc]
    exact List.Perm.append_right _ List.perm_append_comm

/-- what is asked of sorting runs X and Y that lie side by side -/
def SymOk (k : Nat) : Prop := ∀ (g cap : Nat) (P X Y S : List Meta) (a m b len : Nat) (w : World), a = P.length → m = a + X.length → b = m + Y.length → X.length + Y.length ≤ k → 0 < X.length → 0 < Y.length → len = (P ++ (X ++ (Y ++ S))).length → len ≤ 1048576 → Srt X → Srt Y → MRow w g cap (P ++ (X ++ (Y ++ S))) →
    Calls Try.prog 85 #[.slice (some ⟨g, 0, none⟩) len cap, .int .i64 a, .int .i64 m, .int .i64 b, cmpV] w fun e w' => e = .returned (.tuple #[]) ∧ ∃ Z, Z.Perm (X ++ Y) ∧ Srt Z ∧ MRow w' g cap (P ++ (Z ++ S)) ∧ w.grownBy w' (some g)

set_option maxRecDepth 100000 in
set_option maxHeartbeats 16000000 in
theorem symMerge_step (k : Nat) (IH : SymOk k) (g cap : Nat) (P X Y S : List Meta) (a m b len : Nat) (w : World) (ha : a = P.length) (hm : m = a + X.length) (hb : b = m + Y.length) (hk : X.length + Y.length ≤ k + 1) (hX : 1 < X.length) (hY : 1 < Y.length) (hlen : len = (P ++ (X ++ (Y ++ S))).length) (hl : len ≤ 1048576) (hsX : Srt X) (hsY : Srt Y) (h : MRow w g cap (P ++ (X ++ (Y ++ S)))) :
    Calls Try.prog 85 #[.slice (some ⟨g, 0, none⟩) len cap, .int .i64 a, .int .i64 m, .int .i64 b, cmpV] w fun e w' => e = .returned (.tuple #[]) ∧ ∃ Z, Z.Perm (X ++ Y) ∧ Srt Z ∧ MRow w' g cap (P ++ (Z ++ S)) ∧ w.grownBy w' (some g) := by
  have IHA := Aside0.mk IH
  have H := Aside0.mk h
  have E := Aside0.mk (show a = P.length ∧ m = a + X.length ∧ b = m + Y.length ∧ len = a + X.length + Y.length + S.length ∧ X.length + Y.length ≤ k + 1 ∧ 1 < X.length ∧ 1 < Y.length ∧ len = (P ++ (X ++ (Y ++ S))).length from ⟨ha, hm, hb, by rw [hlen, ha]; simp; omega, hk, hX, hY, hlen⟩)
  have HS := Aside0.mk (And.intro hsX hsY)
  obtain ⟨mid, hmid⟩ : ∃ mid : Nat, mid = (a + b) / 2 := ⟨_, rfl⟩
  obtain ⟨n, hn⟩ : ∃ n : Nat, n = mid + m := ⟨_, rfl⟩
  obtain ⟨s0, hs0⟩ : ∃ s0 : Nat, s0 = if mid < m then n - b else a := ⟨_, rfl⟩
  obtain ⟨r0, hr0⟩ : ∃ r0 : Nat, r0 = if mid < m then mid else m := ⟨_, rfl⟩
  have M : Aside0 (mid = (a + b) / 2 ∧ n = mid + m ∧ (mid < m → s0 = n - b ∧ r0 = mid) ∧ (¬ mid < m → s0 = a ∧ r0 = m) ∧ a ≤ s0 ∧ s0 ≤ r0 ∧ r0 ≤ m ∧ r0 ≤ mid ∧ n ≤ s0 + b ∧ a < mid ∧ mid < b) := ⟨by
    rw [hs0, hr0]
    split <;> refine ⟨hmid, hn, fun h => ?_, fun h => ?_, ?_⟩ <;> omega⟩
  have hma : ((m : Int) - a == 1) = false := by simp; omega
  have hbm : ((b : Int) - m == 1) = false := by simp; omega
  have hmid1 : ((a : Int) + b) / 2 = mid := by omega
  have hn1 : (mid : Int) + m = n := by omega
  have hnl : n ≤ 3000000 := by have := E.out; omega
  have hn0 : 1 ≤ n := by omega
  have hml : m ≤ 1048576 := by have := E.out; omega
  have hal : a ≤ 1048576 := by have := E.out; omega
  have hbl : b ≤ len := by have := E.out; omega
  have hmb : m ≤ b := by have := E.out; omega
  obtain ⟨L, hL⟩ := named (P ++ (X ++ (Y ++ S)))
  have gX : Aside0 (∀ t, t < X.length → ∃ z, X[t]? = some z ∧ L[a + t]? = some z) := ⟨fun t ht => ⟨X[t], List.getElem?_eq_getElem ht, by
    rw [hL.out, List.getElem?_append_right (by omega), show a + t - P.length = t by omega, List.getElem?_append_left ht]
    exact List.getElem?_eq_getElem ht⟩⟩
  have gY : Aside0 (∀ t, t < Y.length → ∃ z, Y[t]? = some z ∧ L[m + t]? = some z) := ⟨fun t ht => ⟨Y[t], List.getElem?_eq_getElem ht, by
    rw [hL.out, ← List.append_assoc, List.getElem?_append_right (by simp; omega), show m + t - (P ++ X).length = t by simp; omega, List.getElem?_append_left ht]
    exact List.getElem?_eq_getElem ht⟩⟩
  rw [← hL.out] at H
  clear h ha hm hb hlen hX hY hsX hsY hs0 hr0 hk IH hmid hn
  go_enter Try.func85, Try.ntmps85
  go_upto_if 140 with (fail)
  go_cut [20, 21] (fun v20 v21 wc => v20 = .int .i64 s0 ∧ v21 = .int .i64 r0 ∧ w = wc)
  case first => as_aux_lemma =>
    by_cases hc : mid < m
    · have hc' : (mid : Int) < m := by omega
      have e1 : (n : Int) - b = s0 := by have := M.out; omega
      have e2 : r0 = mid := by have := M.out; omega
      clear hc
      go_wp2
      go_meet
      exact ⟨rfl, by rw [e2], rfl⟩
    · have hc' : ¬ ((mid : Int) < m) := by omega
      have e1 : s0 = a := by have := M.out; omega
      have e2 : r0 = m := by have := M.out; omega
      clear hc
      go_wp2
      go_meet
      exact ⟨by rw [e1], by rw [e2], rfl⟩
  case rest =>
    obtain ⟨rfl, rfl, rfl⟩ := hcut
    go_wp2
    go_loopg [20, 21, 23] (r0 - s0) (fun g0 v20 v21 v23 wr => ∃ i j : Nat, v20 = .int .i64 i ∧ v21 = .int .i64 j ∧ g0 + i = j ∧ s0 ≤ i ∧ j ≤ r0 ∧ Aside0 ((i = s0 ∨ ∃ u v, s0 < i ∧ L[n - i]? = some u ∧ L[i - 1]? = some v ∧ ltM u v = false) ∧ (j = r0 ∨ ∃ u v, j < r0 ∧ L[n - 1 - j]? = some u ∧ L[j]? = some v ∧ ltM u v = true)) ∧ Aside0 (MRow wr g cap L) ∧ Aside0 (w.grownBy wr (some g)))
    case atStart => exact ⟨s0, r0, rfl, rfl, by have := M.out; omega, Nat.le_refl _, Nat.le_refl _, ⟨.inl rfl, .inl rfl⟩, H, ⟨grown_refl _ _⟩⟩
    case round =>
      obtain ⟨i, j, rfl, rfl, hg, hsi, hjr, HI, HR, HG⟩ := hrel
      by_cases hij : i < j
      · have hij' : (i : Int) < j := by omega
        obtain ⟨c, hc⟩ : ∃ c : Nat, c = (i + j) / 2 := ⟨_, rfl⟩
        have hcc : ((i : Int) + j) / 2 = c := by have := M.out; omega
        have hci : i ≤ c := by omega
        have hcj : c < j := by omega
        have hij2 : (i : Int) + j ≤ 3000000 := by have := M.out; omega
        obtain ⟨d, hd⟩ : ∃ d : Nat, n = d + 1 + c := ⟨n - 1 - c, by have := M.out; omega⟩
        have hdd : (n : Int) - 1 - c = d := by omega
        have hdl : (d : Int) < len := by have := M.out; have := E.out; omega
        have hcl : (c : Int) < len := by have := M.out; have := E.out; omega
        have hcm : Aside0 (a ≤ c ∧ c < m ∧ m ≤ d ∧ d < b ∧ d = n - 1 - c) := ⟨by have := M.out; have := E.out; omega⟩
        clear hc hd
        obtain ⟨v, hv⟩ : ∃ v, Aside0 (L[c]? = some v) := by
          obtain ⟨v, h1, h2⟩ := gX.out (c - a) (by have := E.out; have := hcm.out; omega)
          exact ⟨v, ⟨by rw [show a + (c - a) = c by have := hcm.out; omega] at h2; exact h2⟩⟩
        obtain ⟨u, hu⟩ : ∃ u, Aside0 (L[d]? = some u) := by
          obtain ⟨v, h1, h2⟩ := gY.out (d - m) (by have := E.out; have := hcm.out; omega)
          exact ⟨v, ⟨by rw [show m + (d - m) = d by have := hcm.out; omega] at h2; exact h2⟩⟩
        go_upto_region 35 with (fail)
        obtain ⟨o, ho⟩ := named (ord u v)
        have CO := order_below u v o ho
        obtain ⟨a0, a1, a2, a3, a4⟩ := HR.out.cells _ _ hu.out
        obtain ⟨b0, b1, b2, b3, b4⟩ := HR.out.cells _ _ hv.out
        have a0 := wb_cell a0
        have a1 := wb_cell a1
        have a2 := wb_cell a2
        have a3 := wb_cell a3
        have a4 := wb_cell a4
        have b0 := wb_cell b0
        have b1 := wb_cell b1
        have b2 := wb_cell b2
        have b3 := wb_cell b3
        have b4 := wb_cell b4
        refine wp_region_wide (by kernel_rfl) (by kernel_rfl) ?_
        repeat (go_big_quiet_step ((go_at_call 52; exact wide_of (CO _))))
        refine wpQuiet_nil ?_
        rintro w' ⟨x', rfl⟩
        clear a0 a1 a2 a3 a4 b0 b1 b2 b3 b4 CO
        have HRw := Aside0.mk (HR.out.wb x')
        have HGw := Aside0.mk (grown_wb HG.out x')
        generalize wb wr x' = wk at HRw HGw ⊢
        generalize hbb : decide (o < 0) = bb
        have HBB : Aside0 (ltM u v = bb) := ⟨by rw [ltM, ← ho.out]; exact hbb⟩
        clear hbb
        cases bb with
        | true => as_aux_lemma =>
          go_wp2
          go_roundg (c - i)
          case measure => omega
          case rel => exact ⟨i, c, rfl, rfl, by omega, hsi, by omega, ⟨HI.out.1, .inr ⟨u, v, by omega, by rw [← hcm.out.2.2.2.2]; exact hu.out, hv.out, HBB.out⟩⟩, HRw, HGw⟩
        | false => as_aux_lemma =>
          go_wp2
          go_roundg (j - (c + 1))
          case measure => omega
          case rel => exact ⟨c + 1, j, by go_num, rfl, by omega, by omega, hjr, ⟨.inr ⟨u, v, by omega, by rw [show n - (c + 1) = n - 1 - c by omega, ← hcm.out.2.2.2.2]; exact hu.out, by rw [Nat.add_sub_cancel]; exact hv.out, HBB.out⟩, HI.out.2⟩, HRw, HGw⟩
      · obtain rfl : i = j := by omega
        have hij' : ¬ ((i : Int) < i) := by omega
        clear hg hij
        obtain ⟨e, he⟩ : ∃ e : Nat, n = e + i := ⟨n - i, by have := M.out; omega⟩
        have hee : (n : Int) - i = e := by omega
        have B : Aside0 (a ≤ i ∧ i ≤ m ∧ i ≤ mid ∧ m ≤ e ∧ e ≤ b ∧ e = n - i ∧ e + i = mid + m) := ⟨by have := M.out; have := E.out; omega⟩
        clear he
        obtain ⟨A1, hA1⟩ := named (X.take (i - a))
        obtain ⟨A2, hA2⟩ := named (X.drop (i - a))
        obtain ⟨B1, hB1⟩ := named (Y.take (e - m))
        obtain ⟨B2, hB2⟩ := named (Y.drop (e - m))
        have EX : Aside0 (X = A1 ++ A2 ∧ A1.length = i - a ∧ A2.length = m - i) := ⟨by rw [hA1.out, hA2.out, List.take_append_drop, List.length_take, List.length_drop]; have := E.out; have := B.out; exact ⟨rfl, by omega, by omega⟩⟩
        have EY : Aside0 (Y = B1 ++ B2 ∧ B1.length = e - m ∧ B2.length = b - e) := ⟨by rw [hB1.out, hB2.out, List.take_append_drop, List.length_take, List.length_drop]; have := E.out; have := B.out; exact ⟨rfl, by omega, by omega⟩⟩
        have C1 : Aside0 (A1 = [] ∨ B2 = [] ∨ ∃ A' p q B', A1 = A' ++ [p] ∧ B2 = q :: B' ∧ leM p q) := ⟨by
          rcases HI.out.1 with h | ⟨u, v, h0, h1, h2, h3⟩
          · by_cases hc : mid < m
            · exact .inr (.inl (List.eq_nil_of_length_eq_zero (by have := EY.out; have := M.out; have := B.out; omega)))
            · exact .inl (List.eq_nil_of_length_eq_zero (by have := EX.out; have := M.out; have := B.out; omega))
          · have hB := B.out
            have hM := M.out
            have hE := E.out
            obtain ⟨p, h4, h5⟩ := gX.out (i - 1 - a) (by omega)
            rw [show a + (i - 1 - a) = i - 1 by omega] at h5
            obtain rfl : v = p := by rw [h5] at h2; injection h2 with h2; exact h2.symm
            obtain ⟨q, h6, h7⟩ := gY.out (e - m) (by omega)
            rw [show m + (e - m) = n - i by omega] at h7
            obtain rfl : u = q := by rw [h7] at h1; injection h1 with h1; exact h1.symm
            refine .inr (.inr ⟨X.take (i - 1 - a), v, u, Y.drop (e - m + 1), ?_, ?_, h3⟩)
            · rw [hA1.out, show i - a = i - 1 - a + 1 by omega, List.take_add_one, h4]; rfl
            · rw [hB2.out]
              obtain ⟨hu, rfl⟩ := List.getElem?_eq_some_iff.1 h6
              exact List.drop_eq_getElem_cons hu⟩
        have C2 : Aside0 (B1 = [] ∨ A2 = [] ∨ ∃ A' p q B', B1 = A' ++ [p] ∧ A2 = q :: B' ∧ leM p q) := ⟨by
          rcases HI.out.2 with h | ⟨u, v, h0, h1, h2, h3⟩
          · by_cases hc : mid < m
            · exact .inl (List.eq_nil_of_length_eq_zero (by have := EY.out; have := M.out; have := B.out; omega))
            · exact .inr (.inl (List.eq_nil_of_length_eq_zero (by have := EX.out; have := M.out; have := B.out; omega)))
          · have hB := B.out
            have hM := M.out
            have hE := E.out
            obtain ⟨q, h4, h5⟩ := gX.out (i - a) (by omega)
            rw [show a + (i - a) = i by omega] at h5
            obtain rfl : v = q := by rw [h5] at h2; injection h2 with h2; exact h2.symm
            obtain ⟨p, h6, h7⟩ := gY.out (e - 1 - m) (by omega)
            rw [show m + (e - 1 - m) = n - 1 - i by omega] at h7
            obtain rfl : u = p := by rw [h7] at h1; injection h1 with h1; exact h1.symm
            refine .inr (.inr ⟨Y.take (e - 1 - m), u, v, X.drop (i - a + 1), ?_, ?_, leM_of_lt h3⟩)
            · rw [hB1.out, show e - m = e - 1 - m + 1 by omega, List.take_add_one, h6]; rfl
            · rw [hA2.out]
              obtain ⟨hu, rfl⟩ := List.getElem?_eq_some_iff.1 h4
              exact List.drop_eq_getElem_cons hu⟩
        have SX : Aside0 (Srt A1 ∧ Srt A2 ∧ Srt B1 ∧ Srt B2) := ⟨by
          have h1 := HS.out.1
          have h2 := HS.out.2
          rw [EX.out.1] at h1
          rw [EY.out.1] at h2
          exact ⟨(List.pairwise_append.1 h1).1, (List.pairwise_append.1 h1).2.1, (List.pairwise_append.1 h2).1, (List.pairwise_append.1 h2).2.1⟩⟩
        have hLe : Aside0 (L = P ++ (A1 ++ (A2 ++ (B1 ++ (B2 ++ S))))) := ⟨by rw [hL.out, EX.out.1, EY.out.1]; simp⟩
        rw [hLe.out] at HR
        have hlenA : Aside0 (len = P.length + A1.length + A2.length + B1.length + B2.length + S.length) := ⟨by have := E.out; have := EX.out; have := EY.out; have := B.out; omega⟩
        have IH := IHA.out
        have IHB := Aside0.mk IH
        have hel : e ≤ 1048576 := by have := B.out; have := E.out; omega
        have hil : i ≤ 1048576 := by have := B.out; have := E.out; omega
        clear IH IHA hmid1 hn1 hnl hn0 hmb gX gY hsi hjr hij' hA1 hA2 hB1 hB2 HI hLe H hL
        obtain ⟨t1, ht1⟩ : ∃ t : Bool, Aside0 (t = true ↔ (i < m ∧ m < e)) := ⟨decide (i < m ∧ m < e), ⟨by simp⟩⟩
        go_upto_region 39 with (fail)
        clear hma hbm hee
        go_cut [185] (fun v185 wc => v185 = .bool t1 ∧ wr = wc)
        case first => as_aux_lemma =>
          by_cases h1 : i < m
          · by_cases h2 : m < e
            · have e1 : t1 = true := ht1.out.2 ⟨h1, h2⟩
              have h1' : (i : Int) < m := by omega
              have h2' : (m : Int) < e := by omega
              clear h1 h2
              go_wp2
              go_meet
              exact ⟨by rw [e1], rfl⟩
            · have e1 : t1 = false := Bool.eq_false_iff.2 fun h => h2 (ht1.out.1 h).2
              have h1' : (i : Int) < m := by omega
              have h2' : ¬ ((m : Int) < e) := by omega
              clear h1 h2
              go_wp2
              go_meet
              exact ⟨by rw [e1], rfl⟩
          · have e1 : t1 = false := Bool.eq_false_iff.2 fun h => h1 (ht1.out.1 h).1
            have h1' : ¬ ((i : Int) < m) := by omega
            clear h1
            go_wp2
            go_meet
            exact ⟨by rw [e1], rfl⟩
        case rest =>
        obtain ⟨rfl, rfl⟩ := hcut
        go_upto_if 185 with (fail)
        go_cut [20] (fun v20 wc => v20 = .int .i64 i ∧ Aside0 (MRow wc g cap (P ++ (A1 ++ (B1 ++ (A2 ++ (B2 ++ S)))))) ∧ Aside0 (w.grownBy wc (some g)))
        case first => as_aux_lemma =>
          cases t1 with
          | true =>
            have hh := ht1.out.1 rfl
            go_wp2_with (go_at_call 94; refine (rotate_any g cap (P ++ A1) A2 B1 (B2 ++ S) i m e len _ ?q1 ?q2 ?q3 ?q4 hl ?q5 ?q6 ?q7).mono ?_; (case q1 => have := E.out; have := EX.out; have := B.out; simp; omega); (case q2 => have := EX.out; have := B.out; omega); (case q3 => have := EY.out; have := B.out; omega); (case q4 => rw [hlenA.out]; simp; omega); (case q5 => have := EX.out; omega); (case q6 => have := EY.out; omega); (case q7 => simpa using HR.out); rintro e w1 ⟨rfl, hr1, hg1⟩; have HR1 := Aside0.mk hr1; have HG1 := Aside0.mk hg1; clear hr1 hg1)
            go_meet
            exact ⟨rfl, ⟨by simpa using HR1.out⟩, ⟨grown_trans HG.out HG1.out⟩⟩
          | false =>
            have hz : A2 = [] ∨ B1 = [] := by
              have := ht1.out
              by_cases h1 : i < m
              · exact .inr (List.eq_nil_of_length_eq_zero (by have h2 : ¬ m < e := fun h2 => by have := this.2 ⟨h1, h2⟩; cases this
                                                              have := EY.out; have := B.out; omega))
              · exact .inl (List.eq_nil_of_length_eq_zero (by have := EX.out; have := B.out; omega))
            have HZ := Aside0.mk hz
            clear hz
            go_wp2
            go_meet
            exact ⟨rfl, ⟨by have := HR.out; rcases HZ.out with h | h <;> rw [h] at this ⊢ <;> simpa using this⟩, HG⟩
        case rest =>
        obtain ⟨rfl, HR2, HG2⟩ := hcut
        have hbl2 : b ≤ 1048576 := by omega
        clear ht1 HR HG
        obtain ⟨t2, ht2⟩ : ∃ t : Bool, Aside0 (t = true ↔ (a < i ∧ i < mid)) := ⟨decide (a < i ∧ i < mid), ⟨by simp⟩⟩
        go_upto_region 41 with (fail)
        go_cut [199] (fun v199 wd => v199 = .bool t2 ∧ wc = wd)
        case first => as_aux_lemma =>
          by_cases h1 : a < i
          · by_cases h2 : i < mid
            · have e1 : t2 = true := ht2.out.2 ⟨h1, h2⟩
              have h1' : (a : Int) < i := by omega
              have h2' : (i : Int) < mid := by omega
              clear h1 h2
              go_wp2
              go_meet
              exact ⟨by rw [e1], rfl⟩
            · have e1 : t2 = false := Bool.eq_false_iff.2 fun h => h2 (ht2.out.1 h).2
              have h1' : (a : Int) < i := by omega
              have h2' : ¬ ((i : Int) < mid) := by omega
              clear h1 h2
              go_wp2
              go_meet
              exact ⟨by rw [e1], rfl⟩
          · have e1 : t2 = false := Bool.eq_false_iff.2 fun h => h1 (ht2.out.1 h).1
            have h1' : ¬ ((a : Int) < i) := by omega
            clear h1
            go_wp2
            go_meet
            exact ⟨by rw [e1], rfl⟩
        case rest =>
        obtain ⟨rfl, rfl⟩ := hcut
        go_upto_if 199 with (fail)
        go_cut [20] (fun v20 wd => v20 = .int .i64 i ∧ ∃ Z1 : List Meta, Aside0 (Z1.Perm (A1 ++ B1) ∧ Srt Z1) ∧ Aside0 (MRow wd g cap (P ++ (Z1 ++ (A2 ++ (B2 ++ S))))) ∧ Aside0 (w.grownBy wd (some g)))
        case first => as_aux_lemma =>
          cases t2 with
          | true =>
            have hh := Aside0.mk (ht2.out.1 rfl)
            go_wp2_with (go_at_call 85; refine (IHB.out g cap P A1 B1 (A2 ++ (B2 ++ S)) a i mid len _ ?q1 ?q2 ?q3 ?q4 ?q5 ?q6 ?q7 hl ?q8 ?q9 ?q10).mono ?_; (case q1 => exact E.out.1); (case q2 => have := EX.out; have := B.out; omega); (case q3 => have := EY.out; have := B.out; omega); (case q4 => have := E.out; have := EX.out; have := EY.out; have := B.out; have := M.out; omega); (case q5 => have := hh.out; have := EX.out; omega); (case q6 => have := hh.out; have := EY.out; have := B.out; omega); (case q7 => rw [hlenA.out]; simp; omega); (case q8 => exact SX.out.1); (case q9 => exact SX.out.2.2.1); (case q10 => exact HR2.out); rintro e w1 ⟨rfl, Z1, hp1, hs1, hr1, hg1⟩; have HP1 := Aside0.mk (And.intro hp1 hs1); have HR1 := Aside0.mk hr1; have HG1 := Aside0.mk hg1; clear hp1 hs1 hr1 hg1)
            go_meet
            exact ⟨rfl, Z1, HP1, HR1, ⟨grown_trans HG2.out HG1.out⟩⟩
          | false =>
            have hz : A1 = [] ∨ B1 = [] := by
              have := ht2.out
              by_cases h1 : a < i
              · exact .inr (List.eq_nil_of_length_eq_zero (by have h2 : ¬ i < mid := fun h2 => by have := this.2 ⟨h1, h2⟩; cases this
                                                              have := EY.out; have := B.out; omega))
              · exact .inl (List.eq_nil_of_length_eq_zero (by have := EX.out; have := B.out; omega))
            have HZ := Aside0.mk hz
            clear hz
            go_wp2
            go_meet
            exact ⟨rfl, A1 ++ B1, ⟨List.Perm.refl _, by rcases HZ.out with h | h <;> rw [h]; simpa using SX.out.2.2.1; simpa using SX.out.1⟩, ⟨by simpa using HR2.out⟩, HG2⟩
        case rest =>
        obtain ⟨rfl, Z1, HP1, HR3, HG3⟩ := hcut
        clear ht2 HR2 HG2
        by_cases h1 : mid < e
        · by_cases h2 : e < b
          · as_aux_lemma =>
            have h1' : (mid : Int) < e := by omega
            have h2' : (e : Int) < b := by omega
            have hh := Aside0.mk (And.intro h1 h2)
            clear h1 h2
            go_wp2_with (go_at_call 85; refine (IHB.out g cap (P ++ Z1) A2 B2 S mid e b len _ ?q1 ?q2 ?q3 ?q4 ?q5 ?q6 ?q7 hl ?q8 ?q9 ?q10).mono ?_; (case q1 => have := E.out; have := EX.out; have := EY.out; have := B.out; have h9 := HP1.out.1.length_eq; simp at h9 ⊢; omega); (case q2 => have := EX.out; have := B.out; omega); (case q3 => have := EY.out; have := B.out; omega); (case q4 => have := E.out; have := EX.out; have := EY.out; have := B.out; have := M.out; omega); (case q5 => have := hh.out; have := EX.out; have := B.out; omega); (case q6 => have := hh.out; have := EY.out; omega); (case q7 => have h9 := HP1.out.1.length_eq; rw [hlenA.out]; simp at h9 ⊢; omega); (case q8 => exact SX.out.2.1); (case q9 => exact SX.out.2.2.2); (case q10 => simpa using HR3.out); rintro e w1 ⟨rfl, Z2, hp2, hs2, hr2, hg2⟩; have HP2 := Aside0.mk (And.intro hp2 hs2); have HR4 := Aside0.mk hr2; have HG4 := Aside0.mk hg2; clear hp2 hs2 hr2 hg2)
            go_end0
            have hf := sym_halves (by rw [← EX.out.1]; exact HS.out.1) (by rw [← EY.out.1]; exact HS.out.2) C1.out C2.out HP1.out.1 HP1.out.2 HP2.out.1 HP2.out.2
            exact ⟨rfl, Z1 ++ Z2, by rw [EX.out.1, EY.out.1]; exact hf.2, hf.1, by simpa using HR4.out, grown_trans HG3.out HG4.out⟩
          · as_aux_lemma =>
            have h1' : (mid : Int) < e := by omega
            have h2' : ¬ ((e : Int) < b) := by omega
            have hz : Aside0 (B2 = []) := ⟨List.eq_nil_of_length_eq_zero (by have := EY.out; omega)⟩
            clear h1 h2
            go_wp2
            go_end0
            have hf := sym_halves (by rw [← EX.out.1]; exact HS.out.1) (by rw [← EY.out.1]; exact HS.out.2) C1.out C2.out HP1.out.1 HP1.out.2 (List.Perm.refl _) (by rw [hz.out]; simpa using SX.out.2.1)
            exact ⟨rfl, Z1 ++ (A2 ++ B2), by rw [EX.out.1, EY.out.1]; exact hf.2, hf.1, by simpa using HR3.out, HG3.out⟩
        · as_aux_lemma =>
          have h1' : ¬ ((mid : Int) < e) := by omega
          have hz : Aside0 (A2 = []) := ⟨List.eq_nil_of_length_eq_zero (by have := EX.out; have := B.out; omega)⟩
          clear h1
          go_wp2
          go_end0
          have hf := sym_halves (by rw [← EX.out.1]; exact HS.out.1) (by rw [← EY.out.1]; exact HS.out.2) C1.out C2.out HP1.out.1 HP1.out.2 (List.Perm.refl _) (by rw [hz.out]; simpa using SX.out.2.2.2)
          exact ⟨rfl, Z1 ++ (A2 ++ B2), by rw [EX.out.1, EY.out.1]; exact hf.2, hf.1, by simpa using HR3.out, HG3.out⟩

theorem symMerge_any : ∀ k, SymOk k
  | 0 => fun g cap P X Y S a m b len w ha hm hb hk hX hY => by omega
  | k + 1 => fun g cap P X Y S a m b len w ha hm hb hk hX hY hlen hl hsX hsY h => by
    by_cases h1 : X.length = 1
    · obtain ⟨x, rfl⟩ := List.length_eq_one_iff.1 h1
      exact symMerge_x1 g cap P Y S x a m b len w ha hm hb hY (by simpa using hlen) hl hsY (by simpa using h)
    · by_cases h2 : Y.length = 1
      · obtain ⟨y, rfl⟩ := List.length_eq_one_iff.1 h2
        exact symMerge_y1 g cap P X S y a m b len w ha hm hb (by omega) (by simpa using hlen) hl hsX (by simpa using h)
      · exact symMerge_step k (symMerge_any k) g cap P X Y S a m b len w ha hm hb hk (by omega) (by omega) hlen hl hsX hsY h
end Go.Proofs.Ytelnhecpcjoonaa.Edit
