/- slices.rotateCmpFunc of tables, walked. -/
import Derived.Test.YtelnhecpcjoonaaSortB
namespace Go.Proofs.Ytelnhecpcjoonaa.Edit
set_option linter.unusedVariables false
set_option linter.unusedSimpArgs false
open Go.RowKit Go.Proofs.YtelnhecpcjoonaaW.PrintWords Go.Proofs.YtelnhecpcjoonaaW.PrintLast Go.Proofs.Ytelnhecpcjoonaa.Base Go.Proofs.Ytelnhecpcjoonaa.EditPure Go.Proofs.Ytelnhecpcjoonaa.Sets Go.Proofs.Ytelnhecpcjoonaa.Wide Go.Proofs.Ytelnhecpcjoonaa.Cells

set_option maxRecDepth 100000 in
set_option maxHeartbeats 1000000 in
/-- two neighbouring runs exchanged -/
theorem rotate_any (g cap : Nat) (P X Y S : List Meta) (a m b len : Nat) (w : World) (ha : a = P.length) (hm : m = a + X.length) (hb : b = m + Y.length) (hlen : len = (P ++ (X ++ (Y ++ S))).length) (hl : len ≤ 1048576) (hX : 0 < X.length) (hY : 0 < Y.length) (h : MRow w g cap (P ++ (X ++ (Y ++ S)))) :
    Calls Try.prog 94 #[.slice (some ⟨g, 0, none⟩) len cap, .int .i64 a, .int .i64 m, .int .i64 b, cmpV] w fun e w' => e = .returned (.tuple #[]) ∧ MRow w' g cap (P ++ (Y ++ (X ++ S))) ∧ w.grownBy w' (some g) := by
  have H := Aside0.mk h
  have hlen2 : len = a + X.length + Y.length + S.length := by rw [hlen, ha]; simp; omega
  obtain ⟨x, hx⟩ := named X.length
  obtain ⟨y, hy⟩ := named Y.length
  have E := Aside0.mk (show a = P.length ∧ m = a + x ∧ b = a + x + y ∧ len = a + x + y + S.length ∧ x = X.length ∧ y = Y.length from ⟨ha, by rw [hx.out]; exact hm, by rw [hx.out, hy.out]; omega, by rw [hx.out, hy.out]; exact hlen2, hx.out, hy.out⟩)
  have hxm : (m : Int) - a = x := by have := E.out; omega
  have hyb : (b : Int) - m = y := by have := E.out; omega
  have hx0 : 0 < x := by have := E.out; omega
  have hy0 : 0 < y := by have := E.out; omega
  have hxl : x + y ≤ 1048576 := by have := E.out; omega
  have hml : m ≤ 1048576 := by have := E.out; omega
  have hbl : b ≤ 1048576 := by have := E.out; omega
  have hal : a ≤ 1048576 := by have := E.out; omega
  clear h ha hm hb hlen hlen2 hX hY hx hy
  go_enter Try.func94, Try.ntmps94
  go_wp2
  go_loopg [10, 11] (x + y) (fun g0 v10 v11 wr => ∃ (i j : Nat) (D1 A B D2 : List Meta), v10 = .int .i64 i ∧ v11 = .int .i64 j ∧ g0 = i + j ∧ 0 < i ∧ 0 < j ∧ i ≤ m ∧ i + j ≤ x + y ∧ Aside0 (i = A.length ∧ j = B.length ∧ P.length + D1.length + i = m ∧ D1 ++ (B ++ (A ++ D2)) = Y ++ X) ∧ Aside0 (MRow wr g cap (P ++ (D1 ++ (A ++ (B ++ (D2 ++ S)))))) ∧ Aside0 (w.grownBy wr (some g)))
  case atStart => exact ⟨x, y, [], X, Y, [], rfl, rfl, rfl, hx0, hy0, by have := E.out; omega, Nat.le_refl _, ⟨by have := E.out; exact ⟨this.2.2.2.2.1, this.2.2.2.2.2, by simp; omega, by simp⟩⟩, ⟨by simpa using H.out⟩, ⟨grown_refl _ _⟩⟩
  case round =>
    obtain ⟨i, j, D1, A, B, D2, rfl, rfl, hg, hi0, hj0, him, hij, HI, HR, HG⟩ := hrel
    have hi1 : (i : Int) ≤ m := by omega
    have hlenD : Aside0 (len = (P ++ (D1 ++ (A ++ (B ++ (D2 ++ S))))).length) := ⟨by
      have h1 := congrArg List.length HI.out.2.2.2
      have h2 := HI.out
      have := E.out
      simp at h1 ⊢
      omega⟩
    obtain ⟨p, hp⟩ : ∃ p : Nat, m = p + i := ⟨m - i, by omega⟩
    have hmi : (m : Int) - i = p := by omega
    have HP := Aside0.mk hp
    clear hp
    by_cases hne : i = j
    · subst hne
      clear hi1
      go_wp2_with (go_at_call 97; refine (swapRange_any g cap (P ++ D1) A [] B (D2 ++ S) i p m len _ ?q1 ?q2 ?q3 ?q4 ?q5 hl ?q6).mono ?_; (case q1 => exact HI.out.1.symm); (case q2 => exact HI.out.2.1.symm); (case q3 => have := HI.out; have := HP.out; simp; omega); (case q4 => have := HI.out; simp; omega); (case q5 => rw [hlenD.out]; simp); (case q6 => simpa using HR.out); rintro e w1 ⟨rfl, hr1, hg1⟩; have HR1 := Aside0.mk hr1; have HG1 := Aside0.mk hg1; clear hr1 hg1)
      go_end0
      refine ⟨rfl, ?_, grown_trans HG.out HG1.out⟩
      have e : P ++ (Y ++ (X ++ S)) = P ++ D1 ++ (B ++ ([] ++ (A ++ (D2 ++ S)))) := by
        have := HI.out.2.2.2
        have e2 : P ++ (Y ++ (X ++ S)) = P ++ ((Y ++ X) ++ S) := by simp
        rw [e2, ← this]; simp
      rw [e]; exact HR1.out
    · by_cases hgt : j < i
      · obtain ⟨d, hd⟩ : ∃ d : Nat, i = j + d := ⟨i - j, by omega⟩
        have hij2 : (i : Int) - j = d := by omega
        have HD := Aside0.mk hd
        have hd0 : 0 < d := by omega
        have hne' : ((i : Int) != j) = true := by simp; omega
        have hgt' : (j : Int) < i := by omega
        clear hd hi1 hne
        obtain ⟨A1, A2, hA⟩ : ∃ A1 A2, Aside0 (A = A1 ++ A2 ∧ A1.length = j ∧ A2.length = d) := ⟨A.take j, A.drop j, ⟨(List.take_append_drop _ _).symm, by rw [List.length_take]; have := HI.out; have := HD.out; omega, by rw [List.length_drop]; have := HI.out; have := HD.out; omega⟩⟩
        go_wp2_with (go_at_call 97; refine (swapRange_any g cap (P ++ D1) A1 A2 B (D2 ++ S) j p m len _ ?q1 ?q2 ?q3 ?q4 ?q5 hl ?q6).mono ?_; (case q1 => exact hA.out.2.1); (case q2 => exact HI.out.2.1.symm); (case q3 => have := HI.out; have := HP.out; simp; omega); (case q4 => have := HI.out; have := hA.out; have := HD.out; simp; omega); (case q5 => rw [hlenD.out, hA.out.1]; simp); (case q6 => have := HR.out; rw [hA.out.1] at this; simpa using this); rintro e w1 ⟨rfl, hr1, hg1⟩; have HR1 := Aside0.mk hr1; have HG1 := Aside0.mk hg1; clear hr1 hg1)
        go_roundg (d + j)
        case measure => have := HD.out; omega
        case rel => exact ⟨d, j, D1 ++ B, A2, A1, D2, rfl, rfl, rfl, hd0, hj0, by have := HD.out; omega, by have := HD.out; omega, ⟨hA.out.2.2.symm, hA.out.2.1.symm, by have := HI.out; have := HD.out; simp; omega, by
          have := HI.out.2.2.2
          rw [hA.out.1] at this
          simpa using this⟩, ⟨by simpa using HR1.out⟩, ⟨grown_trans HG.out HG1.out⟩⟩
      · obtain ⟨d, hd⟩ : ∃ d : Nat, j = i + d := ⟨j - i, by omega⟩
        have hij2 : (j : Int) - i = d := by omega
        have hq : (m : Int) + j - i = ((m + d : Nat) : Int) := by omega
        have HD := Aside0.mk hd
        have hd0 : 0 < d := by omega
        have hne' : ((i : Int) != j) = true := by simp; omega
        have hgt' : ¬ (j : Int) < i := by omega
        have hmj : (m : Int) + j ≤ 3000000 := by omega
        clear hd hne hgt
        obtain ⟨B1, B2, hB⟩ : ∃ B1 B2, Aside0 (B = B1 ++ B2 ∧ B1.length = d ∧ B2.length = i) := ⟨B.take d, B.drop d, ⟨(List.take_append_drop _ _).symm, by rw [List.length_take]; have := HI.out; have := HD.out; omega, by rw [List.length_drop]; have := HI.out; have := HD.out; omega⟩⟩
        go_wp2_with (go_at_call 97; refine (swapRange_any g cap (P ++ D1) A B1 B2 (D2 ++ S) i p (m + d) len _ ?q1 ?q2 ?q3 ?q4 ?q5 hl ?q6).mono ?_; (case q1 => exact HI.out.1.symm); (case q2 => exact hB.out.2.2); (case q3 => have := HI.out; have := HP.out; simp; omega); (case q4 => have := HI.out; have := hB.out; have := HD.out; simp; omega); (case q5 => rw [hlenD.out, hB.out.1]; simp); (case q6 => have := HR.out; rw [hB.out.1] at this; simpa using this); rintro e w1 ⟨rfl, hr1, hg1⟩; have HR1 := Aside0.mk hr1; have HG1 := Aside0.mk hg1; clear hr1 hg1)
        go_roundg (i + d)
        case measure => have := HD.out; omega
        case rel => exact ⟨i, d, D1, B2, B1, A ++ D2, rfl, rfl, rfl, hi0, hd0, him, by have := HD.out; omega, ⟨hB.out.2.2.symm, hB.out.2.1.symm, by have := HI.out; omega, by
          have := HI.out.2.2.2
          rw [hB.out.1] at this
          simpa using this⟩, ⟨by simpa using HR1.out⟩, ⟨grown_trans HG.out HG1.out⟩⟩
end Go.Proofs.Ytelnhecpcjoonaa.Edit
