/- Alike of two results of an edit, the program's and the page's. -/
import Derived.Test.YtelnhecpcjoonaaApplyOut
import Derived.Test.YtelnhecpcjoonaaApplyE
namespace Go.Proofs.Ytelnhecpcjoonaa.Edit
set_option linter.unusedVariables false
set_option linter.unusedSimpArgs false
open Go.RowKit Go.Proofs.YtelnhecpcjoonaaW.PrintWords Go.Proofs.YtelnhecpcjoonaaW.PrintLast Go.Proofs.Ytelnhecpcjoonaa.Base Go.Proofs.Ytelnhecpcjoonaa.EditPure Go.Proofs.Ytelnhecpcjoonaa.Sets Go.Proofs.Ytelnhecpcjoonaa.Wide Go.Proofs.Ytelnhecpcjoonaa.Cells

theorem apply_few {l add : List Meta} {drop : List Int} {seq next seq' next' : Int} (h : applyE l seq next drop add seq' next' = 0) : (applyL l drop add).length ≤ 256 := by
  rw [applyE] at h
  by_cases hv : verOk l seq next = true
  · rw [if_pos hv] at h
    rw [applyL]
    cases hk : dropIds l drop with
    | none => rw [hk] at h; simp at h
    | some k =>
      rw [hk] at h
      dsimp only at h
      by_cases hs : seq' < seq ∨ next' < next
      · rw [if_pos hs] at h; cases h
      · rw [if_neg hs] at h
        by_cases h1 : verOk (srt (k ++ add)) seq' next' = true
        · exact (verOk_list h1).1
        · rw [if_neg h1] at h; cases h
  · rw [if_neg hv] at h; cases h
theorem alike_out {E : Int} {L : List Meta} {seq next : Int} {base1 base2 : Nat} {w : World} {A1 A2 : Option Addr} {n1 n2 c1 c2 : Nat} {a1 a2 b1 b2 : Int}
    (h1 : Out 63 E L seq next base1 w A1 n1 c1 a1 b1) (h2 : Out 53 E L seq next base2 w A2 n2 c2 a2 b2) (hL : E = 0 → L.length ≤ 1048576) :
    Calls Try.prog 26 #[.agg #[.slice A1 n1 c1, .int .i64 a1, .int .i64 b1], .agg #[.slice A2 n2 c2, .int .i64 a2, .int .i64 b2]] w fun e w' => e = .returned (.int .i64 0) ∧ Below w.heap.size w w' := by
  by_cases hE : E = 0
  · obtain ⟨rfl, rfl, rfl, o1⟩ := h1.yes hE
    obtain ⟨rfl, rfl, rfl, o2⟩ := h2.yes hE
    exact alike_any A1 A2 c1 c2 L _ _ w (Kd.R_reads' o1).2.2 (Kd.R_reads' o2).2.2 (hL hE)
  · obtain ⟨rfl, rfl, rfl, rfl, rfl⟩ := h1.no hE
    obtain ⟨rfl, rfl, rfl, rfl, rfl⟩ := h2.no hE
    exact alike_any none none 0 0 [] 0 0 w (C_nil _) (C_nil _) (by simp)
end Go.Proofs.Ytelnhecpcjoonaa.Edit
