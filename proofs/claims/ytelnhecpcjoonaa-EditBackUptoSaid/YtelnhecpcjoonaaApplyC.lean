/- edit.Apply, walked. -/
import Derived.Test.YtelnhecpcjoonaaApplyA
import Derived.Test.YtelnhecpcjoonaaApplyB
import Derived.Test.YtelnhecpcjoonaaApplyPure
namespace Go.Proofs.Ytelnhecpcjoonaa.Edit
set_option linter.unusedVariables false
set_option linter.unusedSimpArgs false
open Go.RowKit Go.Proofs.YtelnhecpcjoonaaW.PrintWords Go.Proofs.YtelnhecpcjoonaaW.PrintLast Go.Proofs.Ytelnhecpcjoonaa.Base Go.Proofs.Ytelnhecpcjoonaa.EditPure Go.Proofs.Ytelnhecpcjoonaa.Sets Go.Proofs.Ytelnhecpcjoonaa.Wide Go.Proofs.Ytelnhecpcjoonaa.Cells

theorem reps_flat {w : World} {base : Nat} {ok : Nat → Prop} : ∀ (l : List Meta) (cs : List Value), Reps (kMeta.M w base ok) kMeta.sz l cs → cs = l.flatMap Meta.cs := by
  intro l
  induction l with
  | nil => intro cs h; exact List.eq_nil_of_length_eq_zero (by rw [h.1]; simp)
  | cons m l ih =>
    intro cs h
    have hl : cs.length = (l.length + 1) * 5 := h.1
    have h0 := h.2 0 m rfl
    have h1 : cs.take 5 = m.cs := by
      have := kMeta_openM h0
      rw [Nat.zero_mul, List.drop_zero] at this
      exact this
    have h2 := ih (cs.drop 5) ⟨by rw [List.length_drop, hl]; show _ = l.length * 5; omega, fun j p hj => by
      have := h.2 (j + 1) p (by simpa using hj)
      rw [List.drop_drop]
      rw [show (j + 1) * kMeta.sz = 5 + j * kMeta.sz by show (j + 1) * 5 = 5 + j * 5; omega] at this
      exact this⟩
    rw [List.flatMap_cons, ← h1, ← h2, List.take_append_drop]
theorem RM_cases {w : World} {base : Nat} {v : Value} {l : List Meta} (h : RM 63 w base v l) :
    (v = .slice none 0 0 ∧ l = []) ∨ ∃ g cap, v = .slice (some ⟨g, 0, none⟩) l.length cap ∧ base ≤ g ∧ cap ≤ 9223372036854775807 ∧ MRow w g cap l := by
  obtain ⟨h0, inner, hown, hr⟩ := h
  have hi := reps_flat l inner hr
  rcases hown.2 with ⟨rfl, hn⟩ | ⟨g, cap, cur, rfl, hb, hh, hnc, hcm, hcs, htake⟩
  · exact .inl ⟨rfl, List.eq_nil_of_length_eq_zero hn⟩
  · exact .inr ⟨g, cap, rfl, hb, by simpa [maxLen] using hcm, cur, hh, hcs, hnc, by rw [← hi]; exact htake⟩
theorem RM_mk {w : World} {base g cap : Nat} {l : List Meta} (hb : base ≤ g) (hcm : cap ≤ 9223372036854775807) (h : MRow w g cap l) : RM 63 w base (.slice (some ⟨g, 0, none⟩) l.length cap) l := by
  obtain ⟨cur, h1, h2, h3, h4⟩ := h
  exact ⟨fun k hk => trivial, l.flatMap Meta.cs, ⟨flat_len l, .inr ⟨g, cap, cur, rfl, hb, h1, h3, by simpa [maxLen] using hcm, h2, h4⟩⟩, reps_metas _ _ _ l⟩

set_option maxRecDepth 100000 in
set_option maxHeartbeats 1000000 in
theorem isortNil_any (w : World) : Calls Try.prog 84 #[.slice none 0 0, .int .i64 0, .int .i64 0, cmpV] w fun e w' => e = .returned (.tuple #[]) ∧ w' = w := by
  go_enter Try.func84, Try.ntmps84
  go_wp2
  go_loop [8] (fun v => v = .int .i64 1) (fun _ => 0)
  case atStart => rfl
  case round =>
    obtain rfl := hrel
    go_wp2
    go_end0
    exact ⟨rfl, rfl⟩
set_option maxRecDepth 100000 in
set_option maxHeartbeats 1000000 in
theorem stableNil_any (w : World) : Calls Try.prog 72 #[.slice none 0 0, .int .i64 0, cmpV] w fun e w' => e = .returned (.tuple #[]) ∧ w' = w := by
  go_enter Try.func72, Try.ntmps72
  go_wp2
  go_loop [7, 8] (fun v u => v = .int .i64 0 ∧ u = .int .i64 20) (fun _ _ => 0)
  case atStart => exact ⟨rfl, rfl⟩
  case round =>
    obtain ⟨rfl, rfl⟩ := hrel
    go_wp2_with (go_at_call 84; refine (isortNil_any _).mono ?_; rintro e w1 ⟨rfl, rfl⟩)
    go_loop [6, 7, 8, 9] (fun v a b d => v = .int .i64 20) (fun _ _ _ _ => 0)
    case atStart => rfl
    case round =>
      obtain rfl := hrel
      go_wp2
      go_end0
      exact ⟨rfl, rfl⟩
set_option maxRecDepth 100000 in
set_option maxHeartbeats 1000000 in
theorem sortNil_any (w : World) : Calls Try.prog 51 #[.slice none 0 0, cmpV] w fun e w' => e = .returned (.tuple #[]) ∧ w' = w := by
  go_enter Try.func51, Try.ntmps51
  go_wp2_with (go_at_call 72; refine (stableNil_any _).mono ?_; rintro e w1 ⟨rfl, rfl⟩)
  go_end0
  exact ⟨rfl, rfl⟩
/-- a row of tables of one's own, sorted in place -/
theorem sortRM_any (base : Nat) (v : Value) (L : List Meta) (w : World) (hl : L.length ≤ 1048576) (h : RM 63 w base v L) :
    Calls Try.prog 51 #[v, cmpV] w fun e w' => e = .returned (.tuple #[]) ∧ ∃ Z, Z.Perm L ∧ Srt Z ∧ RM 63 w' base v Z ∧ ∃ g : Option Nat, w.grownBy w' g ∧ ∀ k, g = some k → base ≤ k := by
  rcases RM_cases h with ⟨rfl, rfl⟩ | ⟨g, cap, rfl, hb, hcm, hm⟩
  · exact (sortNil_any w).mono fun e w' ⟨he, hw⟩ => ⟨he, [], List.Perm.refl _, List.Pairwise.nil, by rw [hw]; exact h, none, by rw [hw]; exact grown_refl _ _, fun k hk => by cases hk⟩
  · exact (sort_any g cap L L.length w rfl hl hm).mono fun e w' ⟨he, Z, h1, h2, h3, h4⟩ => ⟨he, Z, h1, h2, by rw [← h1.length_eq]; exact RM_mk hb hcm h3, some g, h4, fun k hk => by injection hk with hk; omega⟩

/-- an edit's result: nothing, and an error's number -/
abbrev noVer (e : Int) : Value := .tuple #[.agg #[.slice none 0 0, .int .i64 0, .int .i64 0], .int .i64 e]
/-- what edit.Apply returns -/
def ApplyPost (E : Int) (L : List Meta) (seq' next' : Int) (w : World) (e : Ending) (w' : World) : Prop :=
  ((E = 0 ∧ ∃ v, e = .returned (.tuple #[.agg #[v, .int .i64 seq', .int .i64 next'], .int .i64 0]) ∧ RM 63 w' w.heap.size v L) ∨ (E ≠ 0 ∧ e = .returned (noVer E))) ∧ Below w.heap.size w w'
end Go.Proofs.Ytelnhecpcjoonaa.Edit
