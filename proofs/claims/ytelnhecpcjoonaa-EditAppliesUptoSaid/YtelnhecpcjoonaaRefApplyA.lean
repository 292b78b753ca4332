/- The document's Apply: what its loops make, on lists. No program. -/
import Derived.Test.YtelnhecpcjoonaaApplyPure
namespace Go.Proofs.Ytelnhecpcjoonaa.EditPure
open Go.RowKit Go.Proofs.YtelnhecpcjoonaaW.PrintWords Go.Proofs.YtelnhecpcjoonaaW.PrintLast Go.Proofs.Ytelnhecpcjoonaa.Base Go.Proofs.Ytelnhecpcjoonaa.Edit
set_option linter.unusedVariables false
set_option linter.unusedSimpArgs false

/-- a table put where the first one stands that does not come before it -/
theorem ins_srt {Z : List Meta} {x : Meta} {n : Nat} (hs : Srt Z) (h1 : ∀ m ∈ Z.take n, ltM m x = true) (h2 : ∀ m, Z[n]? = some m → ltM m x = false) : Srt (Z.take n ++ x :: Z.drop n) := by
  refine srt_insert (by rw [List.take_append_drop]; exact hs) (fun y hy => leM_of_lt (h1 y hy)) ?_
  rcases hd : Z.drop n with _ | ⟨p, R⟩
  · simp
  · have hp : Z[n]? = some p := by
      have := congrArg (fun l : List Meta => l[0]?) hd
      simpa using this
    have hsd : Srt (p :: R) := by rw [← hd]; exact List.Pairwise.sublist (List.drop_sublist n Z) hs
    exact srt_head hsd x (h2 p hp)
theorem ins_perm (Z : List Meta) (x : Meta) (n : Nat) : (Z.take n ++ x :: Z.drop n).Perm (Z ++ [x]) := by
  have h1 : (Z.take n ++ x :: Z.drop n).Perm (x :: (Z.take n ++ Z.drop n)) := List.perm_middle
  rw [List.take_append_drop] at h1
  exact h1.trans (List.perm_append_singleton x Z).symm
/-- none is left out just where all are left -/
theorem none_out (k : List Meta) (id : Int) : (k.filter (fun x => x.id != id)).length = k.length ↔ k.any (fun x => x.id == id) = false := by
  rw [List.length_filter_eq_length_iff, List.any_eq_false]
  refine ⟨fun h x hx => ?_, fun h x hx => ?_⟩
  · have := h x hx; simpa using this
  · have := h x hx; simpa using this
theorem srt_filter {l : List Meta} (h : Srt l) (p : Meta → Bool) : Srt (l.filter p) := List.Pairwise.sublist List.filter_sublist h
end Go.Proofs.Ytelnhecpcjoonaa.EditPure
