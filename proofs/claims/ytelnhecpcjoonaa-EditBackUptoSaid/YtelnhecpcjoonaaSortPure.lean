/- The order of tables is a total order of the kind that sorting wants; sorted rows. No program. -/
import Derived.Test.YtelnhecpcjoonaaEditA
namespace Go.Proofs.Ytelnhecpcjoonaa.EditPure
set_option linter.unusedVariables false
set_option linter.unusedSimpArgs false
open Go.RowKit Go.Proofs.YtelnhecpcjoonaaW.PrintWords Go.Proofs.YtelnhecpcjoonaaW.PrintLast Go.Proofs.Ytelnhecpcjoonaa.Base Go.Proofs.Ytelnhecpcjoonaa.Edit

theorem bytesLess_negtrans : ∀ (a b c : List UInt8), Op.bytesLess b a = false → Op.bytesLess c b = false → Op.bytesLess c a = false
  | [], _, [], _, _ => by simp [Op.bytesLess]
  | _ :: _, [], [], h, _ => by simp [Op.bytesLess] at h
  | _ :: _, _ :: _, [], _, h => by simp [Op.bytesLess] at h
  | [], _, _ :: _, _, _ => by simp [Op.bytesLess]
  | _ :: _, [], _ :: _, h, _ => by simp [Op.bytesLess] at h
  | a :: x, b :: y, c :: z, h, k => by
    simp only [Op.bytesLess, Bool.or_eq_false_iff, decide_eq_false_iff_not, Bool.and_eq_false_iff, beq_eq_false_iff_ne] at h k ⊢
    obtain ⟨h1, h2⟩ := h
    obtain ⟨k1, k2⟩ := k
    rw [UInt8.lt_iff_toNat_lt] at h1 k1 ⊢
    refine ⟨by omega, ?_⟩
    by_cases e : c = a
    · subst e
      have e2 : b = c := UInt8.toNat_inj.1 (by omega)
      subst e2
      exact .inr (bytesLess_negtrans x y z (h2.resolve_left (fun h => h rfl)) (k2.resolve_left (fun h => h rfl)))
    · exact .inl e
theorem bytesLess_irrefl (a : List UInt8) : Op.bytesLess a a = false := by
  cases h : Op.bytesLess a a with
  | false => rfl
  | true => have := bytesLess_asymm _ _ h; rw [h] at this; cases this

/-- comes before -/
def ltM (a b : Meta) : Bool := decide (ord a b < 0)
theorem ltM_eq (a b : Meta) : ltM a b = (decide (a.level < b.level) || (decide (a.level = b.level) && (if a.level = 0 then decide (b.id < a.id) else sLt a.low b.low))) := by
  unfold ltM ord cmpI cmpS
  by_cases h1 : a.level < b.level
  · simp [h1]
  · by_cases h2 : b.level < a.level
    · have h3 : ¬ a.level = b.level := by omega
      simp [h1, h2, h3]
    · have h3 : a.level = b.level := by omega
      by_cases h0 : a.level = 0
      · have h0' : b.level = 0 := by omega
        by_cases h4 : b.id < a.id
        · simp [h0, h0', h4]
        · by_cases h5 : a.id < b.id <;> simp [h0, h0', h4, h5]
      · cases h4 : sLt a.low b.low <;> cases h5 : sLt b.low a.low <;> simp [h3, h4, h5, h3 ▸ h0]
theorem ltM_asymm {a b : Meta} (h : ltM a b = true) : ltM b a = false := by
  rw [ltM_eq] at h ⊢
  simp only [Bool.or_eq_true, decide_eq_true_eq, Bool.and_eq_true] at h
  simp only [Bool.or_eq_false_iff, decide_eq_false_iff_not, Bool.and_eq_false_iff]
  rcases h with h | ⟨h1, h2⟩
  · exact ⟨by omega, .inl (by omega)⟩
  · refine ⟨by omega, .inr ?_⟩
    rw [← h1]
    by_cases h0 : a.level = 0
    · rw [if_pos h0] at h2 ⊢
      simp at h2 ⊢
      omega
    · rw [if_neg h0] at h2 ⊢
      exact bytesLess_asymm _ _ h2
theorem ltM_negtrans {a b c : Meta} (h : ltM b a = false) (k : ltM c b = false) : ltM c a = false := by
  rw [ltM_eq] at h k ⊢
  simp only [Bool.or_eq_false_iff, decide_eq_false_iff_not, Bool.and_eq_false_iff] at h k ⊢
  obtain ⟨h1, h2⟩ := h
  obtain ⟨k1, k2⟩ := k
  refine ⟨by omega, ?_⟩
  by_cases e : c.level = a.level
  · have e1 : b.level = a.level := by omega
    have e2 : c.level = b.level := by omega
    have h2 := h2.resolve_left (fun h => h e1)
    have k2 := k2.resolve_left (fun h => h e2)
    refine .inr ?_
    by_cases h0 : a.level = 0
    · rw [if_pos (by omega)] at h2 k2 ⊢
      simp at h2 k2 ⊢
      omega
    · rw [if_neg (by omega)] at h2 k2 ⊢
      exact bytesLess_negtrans _ _ _ h2 k2
  · exact .inl e
/-- comes no later -/
def leM (a b : Meta) : Prop := ltM b a = false
theorem leM_of_lt {a b : Meta} (h : ltM a b = true) : leM a b := ltM_asymm h
theorem leM_trans {a b c : Meta} (h : leM a b) (k : leM b c) : leM a c := ltM_negtrans h k
abbrev Srt (l : List Meta) : Prop := l.Pairwise leM
theorem srt_insert {X Y : List Meta} {x : Meta} (h : Srt (X ++ Y)) (h1 : ∀ y ∈ X, leM y x) (h2 : ∀ y ∈ Y, leM x y) : Srt (X ++ x :: Y) := by
  rw [Srt, List.pairwise_append] at h ⊢
  refine ⟨h.1, List.pairwise_cons.2 ⟨h2, h.2.1⟩, fun a ha b hb => ?_⟩
  rcases List.mem_cons.1 hb with rfl | hb
  · exact h1 a ha
  · exact h.2.2 a ha b hb
/-- the last of a sorted row comes no earlier than any -/
theorem srt_last {X : List Meta} {p : Meta} (h : Srt (X ++ [p])) (z : Meta) (hz : leM p z) : ∀ y ∈ X ++ [p], leM y z := by
  intro y hy
  rcases List.mem_append.1 hy with hy | hy
  · exact leM_trans ((List.pairwise_append.1 h).2.2 y hy p (by simp)) hz
  · rw [List.mem_singleton.1 hy]; exact hz
theorem srt_head {X : List Meta} {p : Meta} (h : Srt (p :: X)) (z : Meta) (hz : leM z p) : ∀ y ∈ p :: X, leM z y := by
  intro y hy
  rcases List.mem_cons.1 hy with rfl | hy
  · exact hz
  · exact leM_trans hz ((List.pairwise_cons.1 h).1 y hy)

/-- what sorting makes of tables -/
def srt (l : List Meta) : List Meta := l.mergeSort (fun a b => !ltM b a)
theorem srt_perm (l : List Meta) : (srt l).Perm l := List.mergeSort_perm l _
theorem srt_sorted (l : List Meta) : Srt (srt l) := by
  have := List.pairwise_mergeSort (le := fun a b => !ltM b a) (fun a b c h k => by simp at h k ⊢; exact ltM_negtrans h k) (fun a b => by cases h : ltM b a with | false => simp | true => simp [ltM_asymm h]) l
  refine List.Pairwise.imp (fun {a b} h => ?_) this
  simpa [leM] using h
/-- tables that stand strictly in order -/
abbrev Strict (l : List Meta) : Prop := l.Pairwise (fun a b => ltM a b = true)
theorem strict_srt {l : List Meta} (h : Strict l) : Srt l := List.Pairwise.imp (fun h => leM_of_lt h) h
theorem strict_antisymm {l : List Meta} (h : Strict l) {a b : Meta} (ha : a ∈ l) (hb : b ∈ l) (h1 : leM a b) (h2 : leM b a) : a = b := by
  by_cases e : a = b
  · exact e
  · exfalso
    obtain ⟨i, hi, rfl⟩ := List.mem_iff_getElem.1 ha
    obtain ⟨j, hj, rfl⟩ := List.mem_iff_getElem.1 hb
    have h := List.pairwise_iff_getElem.1 h
    rcases Nat.lt_trichotomy i j with hij | rfl | hij
    · have := h i j hi hj hij; rw [leM] at h2; rw [this] at h2; cases h2
    · exact e rfl
    · have := h j i hj hi hij; rw [leM] at h1; rw [this] at h1; cases h1
/-- of tables that can stand strictly in order there is one sorted row -/
theorem strict_unique {l k : List Meta} (h : Strict l) (hk : Srt k) (hp : k.Perm l) : k = l :=
  List.Perm.eq_of_pairwise (le := leM) (fun a b ha hb h1 h2 => strict_antisymm h (hp.mem_iff.1 ha) hb h1 h2) hk (strict_srt h) hp
end Go.Proofs.Ytelnhecpcjoonaa.EditPure
