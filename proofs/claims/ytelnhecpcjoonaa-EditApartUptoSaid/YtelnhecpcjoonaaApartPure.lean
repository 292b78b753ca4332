/- The tables of a version that may be lie apart. No program. -/
import Derived.Test.YtelnhecpcjoonaaApplyPure
namespace Go.Proofs.Ytelnhecpcjoonaa.EditPure
open Go.RowKit Go.Proofs.YtelnhecpcjoonaaW.PrintWords Go.Proofs.YtelnhecpcjoonaaW.PrintLast Go.Proofs.Ytelnhecpcjoonaa.Base Go.Proofs.Ytelnhecpcjoonaa.Edit
set_option linter.unusedVariables false
set_option linter.unusedSimpArgs false

theorem sLt_trans_le {a b c : ByteArray} (h : sLt a b = true) (k : sLt c b = false) : sLt a c = true := by
  cases h1 : sLt a c with
  | true => rfl
  | false =>
    have h2 : Op.bytesLess a.toList b.toList = false := bytesLess_negtrans b.toList c.toList a.toList k h1
    rw [sLt, h2] at h; cases h
theorem ltM_level {a b : Meta} (h : ltM a b = true) : a.level ≤ b.level := by
  rw [ltM_eq] at h
  simp only [Bool.or_eq_true, decide_eq_true_eq, Bool.and_eq_true] at h
  omega
/-- of one level but the first: the one ends ahead of the other -/
def ApartM (a b : Meta) : Prop := a.level = b.level → 0 < a.level → sLt a.high b.low = true
theorem okTo_apart (next : Int) (l : List Meta) : ∀ i, i ≤ l.length → okTo next l i = true → (l.take i).Pairwise ApartM
  | 0, _, _ => by simp
  | i + 1, hi, h => by
    have hall := okTo_list next l (i + 1) hi h
    rw [okTo, Bool.and_eq_true, Bool.and_eq_true] at h
    obtain ⟨h1, h2, h3⟩ := h
    have s1 := okTo_apart next l i (by omega) h1
    have hm : l[i]? = some (l.getD i zMeta) := by rw [List.getD_eq_getElem?_getD, List.getElem?_eq_getElem (by omega)]; rfl
    have ht : l.take (i + 1) = l.take i ++ [l.getD i zMeta] := by rw [List.take_add_one, hm]; rfl
    rw [ht] at hall ⊢
    generalize l.getD i zMeta = m at h3 hall ⊢
    refine List.pairwise_append.2 ⟨s1, by simp, fun x hx y hy => ?_⟩
    rw [List.mem_singleton.1 hy]
    intro hlev hpos
    rw [lastOk] at h3
    generalize l.take i = T at s1 h3 hx hall
    rcases List.eq_nil_or_concat T with rfl | ⟨T, p, rfl⟩
    · simp at hx
    · simp [linkOk] at h3
      have hst := hall.1
      have hpm : ltM p m = true := (List.pairwise_append.1 hst).2.2 p (by simp) m (by simp)
      have hl1 := ltM_level hpm
      have hmay : mayM p = true := (hall.2.2 p (by simp)).1
      have hple : sLt p.high p.low = false := by
        simp only [mayM, Bool.and_eq_true, Bool.not_eq_true'] at hmay
        exact hmay.2.2.2.2.2
      rcases (show x ∈ T ∨ x = p by simpa using hx) with hxT | rfl
      · have hxp : ltM x p = true := by
          have := (List.pairwise_append.1 hst).1
          exact (List.pairwise_append.1 (by simpa using this)).2.2 x hxT p (by simp)
        have hl2 := ltM_level hxp
        have hpl : p.level = m.level := by omega
        have hxa : ApartM x p := (List.pairwise_append.1 (by simpa using s1)).2.2 x hxT p (by simp)
        have e1 : sLt x.high p.low = true := hxa (by omega) hpos
        have e2 : sLt p.high m.low = true := by
          rcases h3.2 with h | h | h
          · omega
          · exact absurd hpl.symm h
          · exact h
        have e3 : sLt x.high p.high = true := sLt_trans_le e1 hple
        exact sLt_trans_le e3 (bytesLess_asymm _ _ e2)
      · rcases h3.2 with h | h | h
        · omega
        · exact absurd hlev.symm h
        · exact h
theorem verOk_apart {l : List Meta} {seq next : Int} (h : verOk l seq next = true) : l.Pairwise ApartM := by
  rw [verOk, Bool.and_eq_true] at h
  have := okTo_apart next l l.length (Nat.le_refl _) h.2
  rwa [List.take_length] at this
end Go.Proofs.Ytelnhecpcjoonaa.EditPure
