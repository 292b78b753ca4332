/- What an edit makes of a version, on lists. No program. -/
import Derived.Test.YtelnhecpcjoonaaSortPure
import Derived.Test.YtelnhecpcjoonaaSets
namespace Go.Proofs.Ytelnhecpcjoonaa.EditPure
open Go.RowKit Go.Proofs.YtelnhecpcjoonaaW.PrintWords Go.Proofs.YtelnhecpcjoonaaW.PrintLast Go.Proofs.Ytelnhecpcjoonaa.Base Go.Proofs.Ytelnhecpcjoonaa.Edit
set_option linter.unusedVariables false
set_option linter.unusedSimpArgs false

theorem ltM_trans {a b c : Meta} (h : ltM a b = true) (k : ltM b c = true) : ltM a c = true := by
  cases h1 : ltM a c with
  | true => rfl
  | false =>
    have := ltM_negtrans (a := c) (b := a) (c := b) h1 (ltM_asymm h)
    rw [k] at this; cases this
/-- no two tables of one number -/
abbrev IdNd (l : List Meta) : Prop := l.Pairwise (fun a b => a.id ≠ b.id)
theorem okTo_list (next : Int) (l : List Meta) : ∀ i, i ≤ l.length → okTo next l i = true → Strict (l.take i) ∧ IdNd (l.take i) ∧ ∀ m ∈ l.take i, mayM m = true ∧ m.id < next
  | 0, _, _ => by simp
  | i + 1, hi, h => by
    rw [okTo, Bool.and_eq_true, Bool.and_eq_true] at h
    obtain ⟨h1, h2, h3⟩ := h
    obtain ⟨s1, s2, s3⟩ := okTo_list next l i (by omega) h1
    have hm : l[i]? = some (l.getD i zMeta) := by rw [List.getD_eq_getElem?_getD, List.getElem?_eq_getElem (by omega)]; rfl
    have ht : l.take (i + 1) = l.take i ++ [l.getD i zMeta] := by rw [List.take_add_one, hm]; rfl
    rw [ht]
    generalize l.getD i zMeta = m at h2 h3 ⊢
    rw [stepOk, Bool.and_eq_true, Bool.and_eq_true, decide_eq_true_eq, Bool.not_eq_true'] at h2
    refine ⟨List.pairwise_append.2 ⟨s1, by simp, fun x hx y hy => ?_⟩, List.pairwise_append.2 ⟨s2, by simp, fun x hx y hy => ?_⟩, fun x hx => ?_⟩
    · rw [List.mem_singleton.1 hy]
      rw [lastOk] at h3
      generalize l.take i = T at s1 h3 hx
      rcases List.eq_nil_or_concat T with rfl | ⟨T, p, rfl⟩
      · simp at hx
      · simp [linkOk] at h3
        have hp : ltM p m = true := by rw [ltM]; simpa using h3.1
        rcases (show x ∈ T ∨ x = p by simpa using hx) with hx | hx
        · exact ltM_trans ((List.pairwise_append.1 (by simpa using s1)).2.2 x hx p (by simp)) hp
        · rw [hx]; exact hp
    · rw [List.mem_singleton.1 hy]
      have := h2.2.2
      rw [List.any_eq_false] at this
      simpa using this x hx
    · rcases List.mem_append.1 hx with hx | hx
      · exact s3 x hx
      · rw [List.mem_singleton.1 hx]; exact ⟨h2.1, h2.2.1⟩
theorem verOk_list {l : List Meta} {seq next : Int} (h : verOk l seq next = true) : l.length ≤ 256 ∧ Strict l ∧ IdNd l ∧ ∀ m ∈ l, mayM m = true ∧ m.id < next := by
  rw [verOk, Bool.and_eq_true] at h
  have h2 := okTo_list next l l.length (Nat.le_refl _) h.2
  rw [List.take_length] at h2
  have h1 := h.1
  simp only [headOk, Bool.and_eq_true, decide_eq_true_eq] at h1
  exact ⟨h1.1, h2⟩
/-- any sorted row of the same tables may be a version's just as the sorted one may, and then it is that -/
theorem verOk_srt {l z : List Meta} (seq next : Int) (hp : z.Perm l) (hs : Srt z) : verOk z seq next = verOk (srt l) seq next ∧ (verOk (srt l) seq next = true → z = srt l) := by
  have e1 : verOk z seq next = true → z = srt l := fun h => (strict_unique (verOk_list h).2.1 (srt_sorted l) ((srt_perm l).trans hp.symm)).symm
  have e2 : verOk (srt l) seq next = true → z = srt l := fun h => strict_unique (verOk_list h).2.1 hs (hp.trans (srt_perm l).symm)
  refine ⟨?_, e2⟩
  cases h1 : verOk z seq next with
  | true => rw [← e1 h1, h1]
  | false =>
    cases h2 : verOk (srt l) seq next with
    | false => rfl
    | true => rw [← e2 h2, h1] at h2; cases h2

/-- tables without those of the numbers, if each is there -/
def dropIds : List Meta → List Int → Option (List Meta)
  | l, [] => some l
  | l, id :: r => if l.any (fun x => x.id == id) then dropIds (l.filter (fun x => x.id != id)) r else none
theorem dropIds_snoc (l : List Meta) (a : List Int) (id : Int) : dropIds l (a ++ [id]) = (dropIds l a).bind fun k => if k.any (fun x => x.id == id) then some (k.filter (fun x => x.id != id)) else none := by
  induction a generalizing l with
  | nil => rw [List.nil_append, dropIds]; rfl
  | cons b a ih =>
    rw [List.cons_append, dropIds, dropIds]
    by_cases h : l.any (fun x => x.id == b)
    · rw [if_pos h, if_pos h, ih]
    · rw [if_neg h, if_neg h]; rfl
theorem dropIds_app (l : List Meta) (a b : List Int) : dropIds l (a ++ b) = (dropIds l a).bind fun k => dropIds k b := by
  induction a generalizing l with
  | nil => rfl
  | cons c a ih =>
    rw [List.cons_append, dropIds, dropIds]
    by_cases h : l.any (fun x => x.id == c)
    · rw [if_pos h, if_pos h, ih]
    · rw [if_neg h, if_neg h]; rfl
/-- one table taken out, by its place or by its number -/
theorem out_one {l : List Meta} (h : IdNd l) {i : Nat} {m : Meta} (hi : l[i]? = some m) : l = l.take i ++ m :: l.drop (i + 1) ∧ l.take i ++ l.drop (i + 1) = l.filter (fun x => x.id != m.id) := by
  obtain ⟨hl, rfl⟩ := List.getElem?_eq_some_iff.1 hi
  have e : l = l.take i ++ l[i] :: l.drop (i + 1) := by
    conv => lhs; rw [← List.take_append_drop i l, List.drop_eq_getElem_cons hl]
  refine ⟨e, ?_⟩
  generalize l.take i = A at e
  generalize l.drop (i + 1) = B at e
  generalize l[i] = m at e ⊢
  rw [e] at h ⊢
  rw [List.filter_append, List.filter_cons, if_neg (by simp)]
  obtain ⟨h1, h2, h3⟩ := List.pairwise_append.1 h
  rw [List.filter_eq_self.2 (fun x hx => by simpa using h3 x hx m (by simp)), List.filter_eq_self.2 (fun x hx => by simpa using ((List.pairwise_cons.1 h2).1 x hx).symm)]
theorem IdNd_filter {l : List Meta} (h : IdNd l) (p : Meta → Bool) : IdNd (l.filter p) := List.Pairwise.sublist List.filter_sublist h

/-- what an edit makes of a version: its error's number -/
def applyE (l : List Meta) (seq next : Int) (drop : List Int) (add : List Meta) (seq' next' : Int) : Int :=
  if verOk l seq next then match dropIds l drop with
    | none => 71
    | some k => if seq' < seq ∨ next' < next then 4 else if verOk (srt (k ++ add)) seq' next' then 0 else 9
  else 9
/-- .. and its tables, where there is none -/
def applyL (l : List Meta) (drop : List Int) (add : List Meta) : List Meta := srt (((dropIds l drop).getD []) ++ add)
end Go.Proofs.Ytelnhecpcjoonaa.EditPure
