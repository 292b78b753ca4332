/- slices.SortStableFunc of tables by their order, walked. -/
import Derived.Test.YtelnhecpcjoonaaSortG
namespace Go.Proofs.Ytelnhecpcjoonaa.Edit
set_option linter.unusedVariables false
set_option linter.unusedSimpArgs false
open Go.RowKit Go.Proofs.YtelnhecpcjoonaaW.PrintWords Go.Proofs.YtelnhecpcjoonaaW.PrintLast Go.Proofs.Ytelnhecpcjoonaa.Base Go.Proofs.Ytelnhecpcjoonaa.EditPure Go.Proofs.Ytelnhecpcjoonaa.Sets Go.Proofs.Ytelnhecpcjoonaa.Wide Go.Proofs.Ytelnhecpcjoonaa.Cells

/-- sorted blocks of one length -/
def Blks (bs : Nat) (Ds : List (List Meta)) : Prop := ∀ B ∈ Ds, B.length = bs ∧ Srt B
theorem Blks.len {bs : Nat} {Ds : List (List Meta)} (h : Blks bs Ds) : Ds.flatten.length = Ds.length * bs := by
  induction Ds with
  | nil => simp
  | cons B Ds ih =>
    rw [List.flatten_cons, List.length_append, (h B (by simp)).1, ih (fun B hB => h B (by simp [hB])), List.length_cons, Nat.succ_mul, Nat.add_comm]
theorem Blks.snoc {bs : Nat} {Ds : List (List Meta)} (h : Blks bs Ds) {B : List Meta} (h1 : B.length = bs) (h2 : Srt B) : Blks bs (Ds ++ [B]) := by
  intro C hC
  rcases List.mem_append.1 hC with hC | hC
  · exact h C hC
  · rw [List.mem_singleton.1 hC]; exact ⟨h1, h2⟩

set_option maxRecDepth 100000 in
set_option maxHeartbeats 4000000 in
theorem stable_any (g cap : Nat) (L : List Meta) (n : Nat) (w : World) (hn : n = L.length) (hl : n ≤ 1048576) (h : MRow w g cap L) :
    Calls Try.prog 72 #[.slice (some ⟨g, 0, none⟩) n cap, .int .i64 n, cmpV] w fun e w' => e = .returned (.tuple #[]) ∧ ∃ Z, Z.Perm L ∧ Srt Z ∧ MRow w' g cap Z ∧ w.grownBy w' (some g) := by
  have H := Aside0.mk h
  have N := Aside0.mk hn
  clear h hn
  go_enter Try.func72, Try.ntmps72
  go_wp2
  go_loopg [7, 8] n (fun g0 v7 v8 wr => ∃ (a : Nat) (Ds : List (List Meta)) (R : List Meta), v7 = .int .i64 a ∧ v8 = .int .i64 ((a + 20 : Nat) : Int) ∧ g0 + a = n ∧ Aside0 (a = Ds.flatten.length ∧ Blks 20 Ds ∧ (Ds.flatten ++ R).Perm L) ∧ Aside0 (MRow wr g cap (Ds.flatten ++ R)) ∧ Aside0 (w.grownBy wr (some g)))
  case atStart => exact ⟨0, [], L, rfl, rfl, by omega, ⟨rfl, (fun B hB => by simp at hB), by simp⟩, ⟨by simpa using H.out⟩, ⟨grown_refl _ _⟩⟩
  case round =>
    obtain ⟨a, Ds, R, rfl, rfl, hg, HD, HR, HG⟩ := hrel
    have hlenR : Aside0 (R.length + a = n) := ⟨by have h1 := HD.out.2.2.length_eq; have h2 := N.out; have h3 := HD.out.1; simp only [List.length_append] at h1; omega⟩
    by_cases hb : a + 20 ≤ n
    · have hb' : ((a + 20 : Nat) : Int) ≤ n := by omega
      have hb2 : (a : Int) + 20 ≤ n := by omega
      obtain ⟨R1, R2, hRR⟩ : ∃ R1 R2, Aside0 (R = R1 ++ R2 ∧ R1.length = 20) := ⟨R.take 20, R.drop 20, ⟨(List.take_append_drop _ _).symm, by rw [List.length_take]; have := hlenR.out; omega⟩⟩
      go_wp2_with (go_at_call 84; refine (isort_any g cap Ds.flatten R1 R2 a (a + 20) n _ ?q1 ?q2 ?q3 hl ?q4).mono ?_; (case q1 => exact HD.out.1); (case q2 => rw [hRR.out.2]); (case q3 => have h1 := hlenR.out; have h2 := HD.out.1; have h3 := hRR.out; rw [h3.1] at h1; simp only [List.length_append] at h1 ⊢; omega); (case q4 => have := HR.out; rw [hRR.out.1] at this; exact this); rintro e w1 ⟨rfl, Z, hp1, hs1, hr1, hg1⟩; have HP1 := Aside0.mk (And.intro hp1 hs1); have HR1 := Aside0.mk hr1; have HG1 := Aside0.mk hg1; clear hp1 hs1 hr1 hg1)
      go_roundg (n - (a + 20))
      case measure => omega
      case rel => exact ⟨a + 20, Ds ++ [Z], R2, by go_num, by go_num, by omega, ⟨by have h1 := HD.out.1; have h2 := HP1.out.1.length_eq; have h3 := hRR.out.2; simp only [List.flatten_append, List.flatten_singleton, List.length_append]; omega, HD.out.2.1.snoc (by rw [HP1.out.1.length_eq, hRR.out.2]) HP1.out.2, by
          have h1 := HD.out.2.2
          rw [hRR.out.1] at h1
          refine List.Perm.trans ?_ h1
          simp only [List.flatten_append, List.flatten_singleton, List.append_assoc]
          exact List.Perm.append_left _ (List.Perm.append_right _ HP1.out.1)⟩, ⟨by simpa using HR1.out⟩, ⟨grown_trans HG.out HG1.out⟩⟩
    · have hb' : ¬ (((a + 20 : Nat) : Int) ≤ n) := by omega
      have hb2 : ¬ ((a : Int) + 20 ≤ n) := by omega
      go_wp2_with (go_at_call 84; refine (isort_any g cap Ds.flatten R [] a n n _ ?q1 ?q2 ?q3 hl ?q4).mono ?_; (case q1 => exact HD.out.1); (case q2 => have := hlenR.out; omega); (case q3 => have h1 := hlenR.out; have h2 := HD.out.1; simp only [List.length_append, List.length_nil]; omega); (case q4 => simpa using HR.out); rintro e w1 ⟨rfl, T, hp1, hs1, hr1, hg1⟩; have HP1 := Aside0.mk (And.intro hp1 hs1); have HR1 := Aside0.mk hr1; have HG1 := Aside0.mk hg1; clear hp1 hs1 hr1 hg1)
      have HBB := Aside0.mk hb
      clear hb hb' hb2
      go_loopg [6, 7, 8, 9] (n - 20) (fun g0 v6 v7 v8 v9 wr2 => ∃ (bs : Nat) (Bs : List (List Meta)) (T2 : List Meta), v6 = .int .i64 bs ∧ 20 ≤ bs ∧ bs ≤ 2097152 ∧ g0 = n - bs ∧ Aside0 (Blks bs Bs ∧ (Bs.flatten ++ T2).Perm L ∧ Srt T2 ∧ T2.length < bs) ∧ Aside0 (MRow wr2 g cap (Bs.flatten ++ T2)) ∧ Aside0 (w.grownBy wr2 (some g)))
      case atStart => exact ⟨20, Ds, T, rfl, by omega, by omega, rfl, ⟨HD.out.2.1, (List.Perm.append_left _ HP1.out.1).trans HD.out.2.2, HP1.out.2, by have h1 := HP1.out.1.length_eq; have := hlenR.out; have := HBB.out; omega⟩, ⟨by simpa using HR1.out⟩, ⟨grown_trans HG.out HG1.out⟩⟩
      case round =>
        clear HD HR HG HP1 HR1 HG1 hlenR hg
        obtain ⟨bs, Bs, T2, rfl, hbs, hbs2, hg, HD, HR, HG⟩ := hrel
        have hlen2 : Aside0 (Bs.length * bs + T2.length = n) := ⟨by have h1 := HD.out.2.1.length_eq; have h2 := N.out; have h3 := HD.out.1.len; simp only [List.length_append] at h1; omega⟩
        by_cases hlt : bs < n
        · have hlt' : (bs : Int) < n := by omega
          have hlt2 : 2 * (bs : Int) ≤ 2097152 := by omega
          go_wp2
          go_loopg [7, 8] n (fun g1 v7 v8 wr3 => ∃ (a b : Nat) (Es Rs : List (List Meta)), v7 = .int .i64 a ∧ v8 = .int .i64 b ∧ g1 + a = n ∧ Aside0 (b = a + 2 * bs ∧ a = Es.flatten.length ∧ Blks (2 * bs) Es ∧ Blks bs Rs ∧ (Es.flatten ++ (Rs.flatten ++ T2)).Perm L) ∧ Aside0 (MRow wr3 g cap (Es.flatten ++ (Rs.flatten ++ T2))) ∧ Aside0 (w.grownBy wr3 (some g)))
          case atStart => exact ⟨0, 2 * bs, [], Bs, rfl, by go_num, by omega, ⟨by omega, rfl, (fun B hB => by simp at hB), HD.out.1, by simpa using HD.out.2.1⟩, ⟨by simpa using HR.out⟩, HG⟩
          case round =>
            obtain ⟨a2, b2, Es, Rs, rfl, rfl, hg2, HE, HR3, HG3⟩ := hrel
            have hlen3 : Aside0 (Rs.length * bs + T2.length + a2 = n) := ⟨by have h1 := HE.out.2.2.2.2.length_eq; have h2 := N.out; have h3 := HE.out.2.2.2.1.len; have h4 := HE.out.2.1; simp only [List.length_append] at h1; omega⟩
            obtain ⟨m2, hm2⟩ : ∃ m2 : Nat, m2 = a2 + bs := ⟨_, rfl⟩
            have hm3 : (a2 : Int) + bs = m2 := by omega
            have HM := Aside0.mk hm2
            have hb3 : (b2 : Int) + bs * 2 ≤ 9000000 := by have := HE.out.1; omega
            clear hm2
            by_cases hb : b2 ≤ n
            · have hb' : (b2 : Int) ≤ n := by omega
              obtain ⟨R1, R2, Rs', hRs⟩ : ∃ R1 R2 Rs', Aside0 (Rs = R1 :: R2 :: Rs' ∧ R1.length = bs ∧ R2.length = bs ∧ Srt R1 ∧ Srt R2 ∧ Blks bs Rs') := by
                have h1 := hlen3.out
                have h2 := HE.out.1
                have h3 := HD.out.2.2.2
                rcases Rs with _ | ⟨R1, _ | ⟨R2, Rs'⟩⟩
                · simp at h1; omega
                · simp at h1; omega
                · have h5 := HE.out.2.2.2.1
                  exact ⟨R1, R2, Rs', ⟨rfl, (h5 R1 (by simp)).1, (h5 R2 (by simp)).1, (h5 R1 (by simp)).2, (h5 R2 (by simp)).2, fun B hB => h5 B (by simp [hB])⟩⟩
              go_wp2_with (go_at_call 85; refine (symMerge_any _ g cap Es.flatten R1 R2 (Rs'.flatten ++ T2) a2 m2 b2 n _ ?q1 ?q2 ?q3 (Nat.le_refl _) ?q5 ?q6 ?q7 hl ?q8 ?q9 ?q10).mono ?_; (case q1 => exact HE.out.2.1); (case q2 => have := HM.out; have := hRs.out; omega); (case q3 => have := HM.out; have := hRs.out; have := HE.out.1; omega); (case q5 => have := hRs.out; omega); (case q6 => have := hRs.out; omega); (case q7 => have h1 := hlen3.out; have h2 := hRs.out; have h3 := HE.out.2.1; have h4 := h2.2.2.2.2.2.len; rw [h2.1] at h1; simp only [List.length_append, List.length_cons, Nat.add_mul, Nat.one_mul] at h1 ⊢; omega); (case q8 => exact hRs.out.2.2.2.1); (case q9 => exact hRs.out.2.2.2.2.1); (case q10 => have := HR3.out; rw [hRs.out.1] at this; simpa using this); rintro e w1 ⟨rfl, Z, hp1, hs1, hr1, hg1⟩; have HP1 := Aside0.mk (And.intro hp1 hs1); have HR1 := Aside0.mk hr1; have HG1 := Aside0.mk hg1; clear hp1 hs1 hr1 hg1)
              go_roundg (n - b2)
              case measure => have := HE.out.1; omega
              case rel => exact ⟨b2, b2 + bs * 2, Es ++ [Z], Rs', rfl, by go_num, by omega, ⟨by omega, by
                  have h1 := HE.out; have h2 := HP1.out.1.length_eq; have h3 := hRs.out
                  simp only [List.flatten_append, List.flatten_singleton, List.length_append] at h2 ⊢; omega, HE.out.2.2.1.snoc (by have h2 := HP1.out.1.length_eq; have h3 := hRs.out; simp only [List.length_append] at h2; omega) HP1.out.2, hRs.out.2.2.2.2.2, by
                  have h1 := HE.out.2.2.2.2
                  rw [hRs.out.1] at h1
                  refine List.Perm.trans ?_ h1
                  simp only [List.flatten_append, List.flatten_singleton, List.append_assoc, List.flatten_cons]
                  refine List.Perm.append_left _ ?_
                  rw [← List.append_assoc R1]
                  exact List.Perm.append_right _ HP1.out.1⟩, ⟨by simpa using HR1.out⟩, ⟨grown_trans HG3.out HG1.out⟩⟩
            · have hb' : ¬ ((b2 : Int) ≤ n) := by omega
              by_cases hmn : m2 < n
              · have hmn' : (m2 : Int) < n := by omega
                obtain ⟨R1, hRs⟩ : ∃ R1, Aside0 (Rs = [R1] ∧ R1.length = bs ∧ Srt R1 ∧ 0 < T2.length) := by
                  have h1 := hlen3.out
                  have h2 := HE.out.1
                  have h3 := HD.out.2.2.2
                  have h4 := HM.out
                  rcases Rs with _ | ⟨R1, _ | ⟨R2, Rs'⟩⟩
                  · simp at h1; omega
                  · have h5 := HE.out.2.2.2.1
                    exact ⟨R1, ⟨rfl, (h5 R1 (by simp)).1, (h5 R1 (by simp)).2, by simp at h1; omega⟩⟩
                  · simp only [List.length_cons, Nat.add_mul, Nat.one_mul] at h1; omega
                go_wp2_with (go_at_call 85; refine (symMerge_any _ g cap Es.flatten R1 T2 [] a2 m2 n n _ ?q1 ?q2 ?q3 (Nat.le_refl _) ?q5 ?q6 ?q7 hl ?q8 ?q9 ?q10).mono ?_; (case q1 => exact HE.out.2.1); (case q2 => have := HM.out; have := hRs.out; omega); (case q3 => have h1 := hlen3.out; rw [hRs.out.1] at h1; have := HM.out; simp at h1; omega); (case q5 => have := hRs.out; omega); (case q6 => exact hRs.out.2.2.2); (case q7 => have h1 := hlen3.out; have h2 := hRs.out; have h3 := HE.out.2.1; rw [h2.1] at h1; simp only [List.length_append, List.length_cons, List.length_nil, Nat.add_mul, Nat.one_mul, Nat.zero_mul] at h1 ⊢; omega); (case q8 => exact hRs.out.2.2.1); (case q9 => exact HD.out.2.2.1); (case q10 => have := HR3.out; rw [hRs.out.1] at this; simpa using this); rintro e w1 ⟨rfl, Z, hp1, hs1, hr1, hg1⟩; have HP1 := Aside0.mk (And.intro hp1 hs1); have HR1 := Aside0.mk hr1; have HG1 := Aside0.mk hg1; clear hp1 hs1 hr1 hg1)
                go_roundg (n - 2 * bs)
                case measure => omega
                case rel => exact ⟨2 * bs, Es, Z, by go_num, by omega, by omega, rfl, ⟨HE.out.2.2.1, by
                    have h1 := HE.out.2.2.2.2
                    rw [hRs.out.1] at h1
                    refine List.Perm.trans (List.Perm.append_left _ HP1.out.1) ?_
                    simpa using h1, HP1.out.2, by have h2 := HP1.out.1.length_eq; have h3 := hRs.out; have := HD.out.2.2.2; simp only [List.length_append] at h2; omega⟩, ⟨by simpa using HR1.out⟩, ⟨grown_trans HG3.out HG1.out⟩⟩
              · have hmn' : ¬ ((m2 : Int) < n) := by omega
                have HT : Aside0 (Srt (Rs.flatten ++ T2) ∧ (Rs.flatten ++ T2).length < 2 * bs) := ⟨by
                  have h1 := hlen3.out
                  have h2 := HE.out.1
                  have h3 := HD.out.2.2.2
                  have h4 := HM.out
                  rcases Rs with _ | ⟨R1, _ | ⟨R2, Rs'⟩⟩
                  · exact ⟨by simpa using HD.out.2.2.1, by simp; omega⟩
                  · have h5 := HE.out.2.2.2.1 R1 (by simp)
                    have h6 : T2 = [] := List.eq_nil_of_length_eq_zero (by simp at h1; omega)
                    rw [h6]
                    exact ⟨by simpa using h5.2, by simp; omega⟩
                  · simp only [List.length_cons, Nat.add_mul, Nat.one_mul] at h1; omega⟩
                go_wp2
                go_roundg (n - 2 * bs)
                case measure => omega
                case rel => exact ⟨2 * bs, Es, Rs.flatten ++ T2, by go_num, by omega, by omega, rfl, ⟨HE.out.2.2.1, HE.out.2.2.2.2, HT.out.1, HT.out.2⟩, HR3, HG3⟩
        · have hlt' : ¬ ((bs : Int) < n) := by omega
          have HT : Aside0 (Srt (Bs.flatten ++ T2)) := ⟨by
            have h1 := hlen2.out
            have h3 := HD.out.2.2.2
            rcases Bs with _ | ⟨R1, _ | ⟨R2, Rs'⟩⟩
            · simpa using HD.out.2.2.1
            · have h5 := HD.out.1 R1 (by simp)
              have h6 : T2 = [] := List.eq_nil_of_length_eq_zero (by simp at h1; omega)
              rw [h6]
              simpa using h5.2
            · simp only [List.length_cons, Nat.add_mul, Nat.one_mul] at h1; omega⟩
          go_wp2
          go_end0
          exact ⟨rfl, Bs.flatten ++ T2, HD.out.2.1, HT.out, HR.out, HG.out⟩

set_option maxRecDepth 100000 in
set_option maxHeartbeats 1000000 in
theorem sort_any (g cap : Nat) (L : List Meta) (n : Nat) (w : World) (hn : n = L.length) (hl : n ≤ 1048576) (h : MRow w g cap L) :
    Calls Try.prog 51 #[.slice (some ⟨g, 0, none⟩) n cap, cmpV] w fun e w' => e = .returned (.tuple #[]) ∧ ∃ Z, Z.Perm L ∧ Srt Z ∧ MRow w' g cap Z ∧ w.grownBy w' (some g) := by
  have H := Aside0.mk h
  have N := Aside0.mk hn
  clear h hn
  go_enter Try.func51, Try.ntmps51
  go_wp2_with (go_at_call 72; refine (stable_any g cap L n _ N.out hl H.out).mono ?_; rintro e w1 ⟨rfl, Z, hp, hs, hr, hg⟩; have HX := Aside0.mk (show ∃ Z : List Meta, Z.Perm L ∧ Srt Z ∧ MRow w1 g cap Z ∧ w.grownBy w1 (some g) from ⟨Z, hp, hs, hr, hg⟩); clear hp hs hr hg)
  go_end0
  exact ⟨rfl, HX.out⟩
end Go.Proofs.Ytelnhecpcjoonaa.Edit
