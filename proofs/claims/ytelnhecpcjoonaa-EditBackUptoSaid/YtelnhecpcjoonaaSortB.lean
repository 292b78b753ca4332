/- slices.insertionSortCmpFunc of tables, by their order: walked. -/
import Derived.Test.YtelnhecpcjoonaaSortA
import Derived.Test.YtelnhecpcjoonaaSortPure
import Derived.BigRegion
namespace Go.Proofs.Ytelnhecpcjoonaa.Edit
set_option linter.unusedVariables false
set_option linter.unusedSimpArgs false
open Go.RowKit Go.Proofs.YtelnhecpcjoonaaW.PrintWords Go.Proofs.YtelnhecpcjoonaaW.PrintLast Go.Proofs.Ytelnhecpcjoonaa.Base Go.Proofs.Ytelnhecpcjoonaa.EditPure Go.Proofs.Ytelnhecpcjoonaa.Sets Go.Proofs.Ytelnhecpcjoonaa.Wide Go.Proofs.Ytelnhecpcjoonaa.Cells

/-- the order of tables, handed as a function -/
abbrev cmpV : Value := .func (.func 52) #[] #[]

set_option maxRecDepth 100000 in
set_option maxHeartbeats 1000000 in
/-- two runs of one length exchanged -/
theorem swapRange_any (g cap : Nat) (P X M Y S : List Meta) (n a b len : Nat) (w : World) (hX : X.length = n) (hY : Y.length = n) (ha : a = P.length) (hb : b = P.length + n + M.length) (hlen : len = (P ++ (X ++ (M ++ (Y ++ S)))).length) (hl : len ≤ 1048576) (h : MRow w g cap (P ++ (X ++ (M ++ (Y ++ S))))) :
    Calls Try.prog 97 #[.slice (some ⟨g, 0, none⟩) len cap, .int .i64 a, .int .i64 b, .int .i64 n, cmpV] w fun e w' => e = .returned (.tuple #[]) ∧ MRow w' g cap (P ++ (Y ++ (M ++ (X ++ S)))) ∧ w.grownBy w' (some g) := by
  have H := Aside0.mk h
  have hlen2 : len = a + n + M.length + n + S.length := by rw [hlen, ha]; simp [hX, hY]; omega
  have E := Aside0.mk (show a = P.length ∧ b = a + n + M.length ∧ len = a + n + M.length + n + S.length ∧ X.length = n ∧ Y.length = n ∧ len = (P ++ (X ++ (M ++ (Y ++ S)))).length from ⟨ha, by omega, hlen2, hX, hY, hlen⟩)
  clear h ha hb hlen hlen2 hX hY
  go_enter Try.func97, Try.ntmps97
  go_wp2
  go_loopg [10] n (fun g0 v10 wr => ∃ i : Nat, v10 = .int .i64 i ∧ g0 + i = n ∧ Aside0 (MRow wr g cap (P ++ (Y.take i ++ (X.drop i ++ (M ++ (X.take i ++ (Y.drop i ++ S))))))) ∧ Aside0 (w.grownBy wr (some g)))
  case atStart => exact ⟨0, rfl, by omega, ⟨by simpa using H.out⟩, ⟨grown_refl _ _⟩⟩
  case round =>
    obtain ⟨i, rfl, hg, HR, HG⟩ := hrel
    obtain ⟨ha, hb, hlen2, hX, hY, hlen⟩ := E.out
    by_cases hlt : i < n
    · have hai : (a : Int) + i < len := by omega
      have hbi : (b : Int) + i < len := by omega
      have hl' : (len : Int) ≤ 1048576 := by omega
      obtain ⟨x, hx⟩ : ∃ x, Aside0 (X.drop i = x :: X.drop (i + 1) ∧ X.take (i + 1) = X.take i ++ [x]) := ⟨X[i], ⟨List.drop_eq_getElem_cons (by omega), by rw [List.take_add_one, List.getElem?_eq_getElem (by omega)]; rfl⟩⟩
      obtain ⟨y, hy⟩ : ∃ y, Aside0 (Y.drop i = y :: Y.drop (i + 1) ∧ Y.take (i + 1) = Y.take i ++ [y]) := ⟨Y[i], ⟨List.drop_eq_getElem_cons (by omega), by rw [List.take_add_one, List.getElem?_eq_getElem (by omega)]; rfl⟩⟩
      obtain ⟨L, hL⟩ := named (P ++ (Y.take i ++ (X.drop i ++ (M ++ (X.take i ++ (Y.drop i ++ S))))))
      have hL1 : Aside0 (L = (P ++ Y.take i) ++ x :: (X.drop (i + 1) ++ (M ++ (X.take i ++ (Y.drop i ++ S))))) := ⟨by rw [hL.out, hx.out.1]; simp⟩
      have hL2 : Aside0 (L = (P ++ (Y.take i ++ (X.drop i ++ (M ++ X.take i)))) ++ y :: (Y.drop (i + 1) ++ S)) := ⟨by rw [hL.out, hy.out.1]; simp⟩
      have hLL : Aside0 (L.length = len) := ⟨by rw [hL.out, hlen]; simp [hX, hY]; omega⟩
      rw [← hL.out] at HR
      have g1 : Aside0 (L[a + i]? = some x) := ⟨by rw [hL1.out]; exact get_mid _ _ _ _ (by simp; omega)⟩
      have g2 : Aside0 (L[b + i]? = some y) := ⟨by rw [hL2.out]; exact get_mid _ _ _ _ (by simp; omega)⟩
      have hLs : Aside0 ((L.set (a + i) y).set (b + i) x = P ++ (Y.take (i + 1) ++ (X.drop (i + 1) ++ (M ++ (X.take (i + 1) ++ (Y.drop (i + 1) ++ S)))))) := ⟨by
        rw [hL1.out, set_mid _ _ _ _ _ (by simp; omega)]
        have e : (P ++ Y.take i) ++ y :: (X.drop (i + 1) ++ (M ++ (X.take i ++ (Y.drop i ++ S)))) = (P ++ (Y.take i ++ (y :: X.drop (i + 1) ++ (M ++ X.take i)))) ++ y :: (Y.drop (i + 1) ++ S) := by rw [hy.out.1]; simp
        rw [e, set_mid _ _ _ _ _ (by simp; omega), hx.out.2, hy.out.2]
        simp⟩
      have hp : a + i < L.length := by rw [hLL.out]; omega
      have hq : b + i < L.length := by rw [hLL.out]; omega
      have HE := Aside0.mk (HR.out.exch (a + i) (b + i) x y hp hq)
      have HX := Aside0.mk (exch_grown wr g ((a + i) * 5) ((b + i) * 5) x y)
      clear hp hq
      obtain ⟨a0, a1, a2, a3, a4⟩ := HR.out.cells _ _ g1.out
      obtain ⟨b0, b1, b2, b3, b4⟩ := HR.out.cells _ _ g2.out
      have hf := HR.out.froz
      obtain ⟨c0, c1, c2, c3, c4⟩ := HR.out.behind (a + i) (b + i) y y g2.out (by omega)
      unfold put5 at c0 c1 c2 c3 c4
      clear ha hb hlen2 hX hY hlen
      go_wp2_with fail
      go_region
      go_wp2
      go_roundg (n - (i + 1))
      case measure => omega
      case rel => exact ⟨i + 1, by go_num, by omega, ⟨by rw [← hLs.out]; exact HE.out⟩, ⟨grown_trans HG.out HX.out⟩⟩
    · obtain rfl : i = n := by omega
      have hR := HR.out
      clear ha hb hlen2 hlen
      rw [List.take_of_length_le (by omega), List.drop_of_length_le (by omega), List.take_of_length_le (by omega), List.drop_of_length_le (by omega)] at hR
      have HR2 := Aside0.mk hR
      clear hR hX hY
      go_wp2
      go_end0
      exact ⟨rfl, by simpa using HR2.out, HG.out⟩
end Go.Proofs.Ytelnhecpcjoonaa.Edit
