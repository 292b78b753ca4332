/- A part of the proof: (*files.State).do: walked. -/
import Derived.Test.YtfakfgblaakgdaaGreatPkActs5
import Derived.Test.YtfakfgblaakgdaaGreatPkActs2

/- (*files.State).do: walked. -/
namespace Go.Proofs.YtfakfgblaakgdaaGreat.Files
set_option linter.unusedVariables false
set_option linter.unusedSimpArgs false
open Go.RowKit Go.Proofs.YtfakfgblaakgdaaGreatW.PrintWords Go.Proofs.YtfakfgblaakgdaaGreatW.PrintLast Go.Proofs.YtfakfgblaakgdaaGreat.Base Go.Proofs.YtfakfgblaakgdaaGreat.Cells Go.Proofs.YtfakfgblaakgdaaGreat.Ints Go.Proofs.YtfakfgblaakgdaaGreat.Var Go.Proofs.YtfakfgblaakgdaaGreat.EditPure Go.Proofs.YtfakfgblaakgdaaGreat.Edit Go.Proofs.YtfakfgblaakgdaaGreat.Sets Go.Proofs.YtfakfgblaakgdaaGreat.Wide Go.Proofs.YtfakfgblaakgdaaGreat.RowsC

end Go.Proofs.YtfakfgblaakgdaaGreat.Files

/- A state that may be: what it says, plain. No program. -/
namespace Go.Proofs.YtfakfgblaakgdaaGreat.Files
set_option linter.unusedVariables false
set_option linter.unusedSimpArgs false
open Go.RowKit Go.Proofs.YtfakfgblaakgdaaGreatW.PrintWords Go.Proofs.YtfakfgblaakgdaaGreatW.PrintLast Go.Proofs.YtfakfgblaakgdaaGreat.Base Go.Proofs.YtfakfgblaakgdaaGreat.Cells Go.Proofs.YtfakfgblaakgdaaGreat.EditPure Go.Proofs.YtfakfgblaakgdaaGreat.Edit Go.Proofs.YtfakfgblaakgdaaGreat.Sets

theorem take_snoc {α : Type} {l : List α} {n : Nat} (h : n < l.length) : l.take (n + 1) = l.take n ++ [l[n]] := by
  rw [List.take_add_one, List.getElem?_eq_getElem h]; rfl
theorem getD_at {l : List Nm} {n : Nat} (h : n < l.length) : l.getD n zNm = l[n] := by rw [List.getD_eq_getElem?_getD, List.getElem?_eq_getElem h]; rfl
theorem getD_atF {l : List Fl} {n : Nat} (h : n < l.length) : l.getD n zFl = l[n] := by rw [List.getD_eq_getElem?_getD, List.getElem?_eq_getElem h]; rfl
theorem snoc_cases {α : Type} (T : List α) : T = [] ∨ ∃ T' p, T = T' ++ [p] := by
  rcases List.eq_nil_or_concat T with h | ⟨T', p, h⟩
  · exact .inl h
  · exact .inr ⟨T', p, by rw [h, List.concat_eq_append]⟩
/-- a list of names that may be -/
structure NmsOk (files : List Fl) (l : List Nm) : Prop where
  asc : AscN l
  each : ∀ n ∈ l, mayF n.name = true ∧ hasId files n.id = true
  apart : l.Pairwise (fun a b => a.id ≠ b.id)
theorem nmTo_iff {files : List Fl} {l : List Nm} : ∀ n, n ≤ l.length → (nmTo files l n = true ↔ NmsOk files (l.take n))
  | 0, _ => by simp only [nmTo, List.take_zero, true_iff]; exact ⟨by simp [AscN], by simp, by simp⟩
  | n + 1, hn => by
    have hl : n < l.length := by omega
    rw [nmTo, Bool.and_eq_true, nmTo_iff n (by omega), getD_at hl, take_snoc hl]
    generalize l.take n = T
    generalize l[n] = x
    simp only [nmOk, Bool.and_eq_true, Bool.not_eq_true', List.any_eq_false, beq_iff_eq]
    constructor
    · rintro ⟨⟨h1, h2, h3⟩, h4, h5, h6, h7⟩
      refine ⟨List.pairwise_append.2 ⟨h1, by simp, fun a ha b hb => ?_⟩, fun m hm => ?_, List.pairwise_append.2 ⟨h3, by simp, fun a ha b hb => ?_⟩⟩
      · rw [List.mem_singleton.1 hb]
        rcases snoc_cases T with rfl | ⟨T', p, rfl⟩
        · simp at ha
        · rw [List.getLast?_concat] at h5
          rcases List.mem_append.1 ha with ha | ha
          · exact sLt_trans ((List.pairwise_append.1 h1).2.2 a ha p (by simp)) h5
          · rw [List.mem_singleton.1 ha]; exact h5
      · rcases List.mem_append.1 hm with hm | hm
        · exact h2 m hm
        · rw [List.mem_singleton.1 hm]; exact ⟨h4, h6⟩
      · rw [List.mem_singleton.1 hb]; exact h7 a ha
    · rintro ⟨h1, h2, h3⟩
      have g1 := List.pairwise_append.1 h1
      have g3 := List.pairwise_append.1 h3
      have hx := h2 x (by simp)
      refine ⟨⟨g1.1, fun m hm => h2 m (List.mem_append_left _ hm), g3.1⟩, hx.1, ?_, hx.2, fun m hm => g3.2.2 m hm x (by simp)⟩
      rcases snoc_cases T with rfl | ⟨T', p, rfl⟩
      · rfl
      · rw [List.getLast?_concat]; exact g1.2.2 p (by simp) x (by simp)
theorem namesOk_iff {files : List Fl} {l : List Nm} : namesOk files l = true ↔ NmsOk files l := by
  rw [namesOk, nmTo_iff l.length (Nat.le_refl _), List.take_length]
/-- files that may be -/
structure FlsOk (next : Int) (l : List Fl) : Prop where
  asc : Asc l
  each : ∀ f ∈ l, (1 ≤ f.id ∧ f.id < next) ∧ 0 ≤ f.sync ∧ f.sync ≤ (f.data.length : Int)
theorem lastI_nonneg {l : List Fl} (h : ∀ f ∈ l, 1 ≤ f.id) : 0 ≤ lastI l := by
  unfold lastI
  cases hq : l.getLast? with
  | none => exact Int.le_refl _
  | some p => have := h p (List.mem_of_getLast? hq); show 0 ≤ p.id; omega
theorem flTo_iff {next : Int} {l : List Fl} : ∀ n, n ≤ l.length → (flTo next l n = true ↔ FlsOk next (l.take n))
  | 0, _ => by simp only [flTo, List.take_zero, true_iff]; exact ⟨by simp [Asc], by simp⟩
  | n + 1, hn => by
    have hl : n < l.length := by omega
    rw [flTo, Bool.and_eq_true, flTo_iff n (by omega), getD_atF hl, take_snoc hl]
    generalize l.take n = T
    generalize l[n] = x
    simp only [flOk, Bool.and_eq_true, decide_eq_true_eq]
    constructor
    · rintro ⟨⟨h1, h2⟩, h3, h4, h5, h6⟩
      have h0 := lastI_nonneg (fun f hf => (h2 f hf).1.1)
      refine ⟨List.pairwise_append.2 ⟨h1, by simp, fun a ha b hb => ?_⟩, fun m hm => ?_⟩
      · rw [List.mem_singleton.1 hb]
        rcases snoc_cases T with rfl | ⟨T', p, rfl⟩
        · simp at ha
        · rw [lastI, List.getLast?_concat] at h3
          change p.id < x.id at h3
          rcases List.mem_append.1 ha with ha | ha
          · have := (List.pairwise_append.1 h1).2.2 a ha p (by simp); omega
          · rw [List.mem_singleton.1 ha]; exact h3
      · rcases List.mem_append.1 hm with hm | hm
        · exact h2 m hm
        · rw [List.mem_singleton.1 hm]; exact ⟨⟨by omega, h4⟩, h5, h6⟩
    · rintro ⟨h1, h2⟩
      have g1 := List.pairwise_append.1 h1
      have hx := h2 x (by simp)
      refine ⟨⟨g1.1, fun m hm => h2 m (List.mem_append_left _ hm)⟩, ?_, hx.1.2, hx.2.1, hx.2.2⟩
      rcases snoc_cases T with rfl | ⟨T', p, rfl⟩
      · show (0 : Int) < x.id; have := hx.1.1; omega
      · rw [lastI, List.getLast?_concat]; exact g1.2.2 p (by simp) x (by simp)
theorem flTo_all {next : Int} {l : List Fl} : flTo next l l.length = true ↔ FlsOk next l := by
  rw [flTo_iff l.length (Nat.le_refl _), List.take_length]
/-- a state's head -/
structure HdOk (s : St) : Prop where
  c0 : 0 ≤ s.cap
  c1 : s.cap ≤ 16777216
  lf : s.files.length ≤ 256
  n0 : 1 ≤ s.next
  n1 : s.next ≤ 2147483647
  us : usedF s.files ≤ s.cap
  ln : s.names.length ≤ 256
  ls : s.safe.length ≤ 256
theorem hdB_iff {s : St} : hdB s = true ↔ HdOk s := by
  simp only [hdB, Bool.and_eq_true, decide_eq_true_eq]
  constructor
  · rintro ⟨h1, h2, h3, h4, h5, h6, h7, h8⟩
    exact ⟨h1, h2, by omega, h4, h5, h6, by omega, by omega⟩
  · rintro ⟨h1, h2, h3, h4, h5, h6, h7, h8⟩
    exact ⟨h1, h2, by omega, h4, h5, h6, by omega, by omega⟩
theorem id_bound {s : St} (h : FlsOk s.next s.files) (hn : s.next ≤ 2147483647) {x : Int} (hx : hasId s.files x = true) : inI64 x := by
  obtain ⟨f, hf, he⟩ := List.any_eq_true.1 hx
  have h1 := (h.each f hf).1
  have h2 : f.id = x := by simpa using he
  exact ⟨by omega, by omega⟩
end Go.Proofs.YtfakfgblaakgdaaGreat.Files

/- files.Do: walked. -/
namespace Go.Proofs.YtfakfgblaakgdaaGreat.Files
set_option linter.unusedVariables false
set_option linter.unusedSimpArgs false
open Go.RowKit Go.Proofs.YtfakfgblaakgdaaGreatW.PrintWords Go.Proofs.YtfakfgblaakgdaaGreatW.PrintLast Go.Proofs.YtfakfgblaakgdaaGreat.Base Go.Proofs.YtfakfgblaakgdaaGreat.Cells Go.Proofs.YtfakfgblaakgdaaGreat.Ints Go.Proofs.YtfakfgblaakgdaaGreat.Var Go.Proofs.YtfakfgblaakgdaaGreat.EditPure Go.Proofs.YtfakfgblaakgdaaGreat.Edit Go.Proofs.YtfakfgblaakgdaaGreat.Sets Go.Proofs.YtfakfgblaakgdaaGreat.Wide Go.Proofs.YtfakfgblaakgdaaGreat.RowsC

def zSt : St := ⟨0, [], [], [], 0⟩
/-- a state's value of one's own -/
def Rs (w : World) (base : Nat) (v : Value) (s : St) : Prop := ∃ vF vN vS L, v = .agg #[.int .i64 s.cap, vF, vN, vS, .int .i64 s.next] ∧ OF 113 w base vF L ∧ L.map (·.1) = s.files ∧ RN w base vN s.names ∧ RN w base vS s.safe
theorem Rs.below {w w1 : World} {base : Nat} {v : Value} {s : St} (h : Rs w base v s) (hb : Below w.heap.size w w1) : Rs w1 base v s := by
  obtain ⟨vF, vN, vS, L, h1, h2, h3, h4, h5⟩ := h
  exact ⟨vF, vN, vS, L, h1, h2.below hb, h3, Kd.R_below h4 hb, Kd.R_below h5 hb⟩
theorem Rs.lower {w : World} {base base' : Nat} {v : Value} {s : St} (h : Rs w base v s) (hb : base' ≤ base) : Rs w base' v s := by
  obtain ⟨vF, vN, vS, L, h1, h2, h3, h4, h5⟩ := h
  exact ⟨vF, vN, vS, L, h1, h2.lower hb, h3, Kd.R_lower h4 hb, Kd.R_lower h5 hb⟩
theorem Rs.forms {w : World} {base : Nat} {v : Value} {s : St} (h : Rs w base v s) : ∃ F fc N nc S sc, v = .agg #[.int .i64 s.cap, .slice F s.files.length fc, .slice N s.names.length nc, .slice S s.safe.length sc, .int .i64 s.next] ∧ Hd w s F fc N nc S sc := by
  obtain ⟨vF, vN, vS, L, rfl, h2, h3, h4, h5⟩ := h
  obtain ⟨F, fc, rfl, q2, q3⟩ := h2.reads
  obtain ⟨N, nc, rfl, q5, q6⟩ := Kd.R_reads h4
  obtain ⟨S, sc, rfl, q8, q9⟩ := Kd.R_reads h5
  have hl : L.length = s.files.length := by rw [← h3, List.length_map]
  rw [hl] at q2 q3
  rw [h3] at q3
  exact ⟨F, fc, N, nc, S, sc, by rw [hl], ⟨q3, q6, q9, q2, q5, q8⟩⟩
/-- the five stores of a state into a block of states -/
theorem Rs.far5 {w : World} {base g : Nat} {v : Value} {s : St} {cs : Array Value} (h : Rs w base v s) (hg : w.heap[g]? = some (.cells cs 35 (0, 0))) (a b c d f : Value) :
    Rs (((((w.setCell ⟨g, 0, none⟩ a).setCell ⟨g, 1, none⟩ b).setCell ⟨g, 2, none⟩ c).setCell ⟨g, 3, none⟩ d).setCell ⟨g, 4, none⟩ f) base v s := by
  obtain ⟨vF, vN, vS, L, h1, h2, h3, h4, h5⟩ := h
  exact ⟨vF, vN, vS, L, h1, h2.far5 hg (by decide) (by decide) _ _ _ _ _, h3, Rset5 h4 (apart_of hg RN_types) _ _ _ _ _, Rset5 h5 (apart_of hg RN_types) _ _ _ _ _⟩
/-- files.Do: the error's number, and the state -/
def DoP (s : St) (a : Ac) : Int × St := if stB s = false then (9, zSt) else if (doP s a).1 = 0 then (0, (doP s a).2) else ((doP s a).1, zSt)

end Go.Proofs.YtfakfgblaakgdaaGreat.Files

/- How many different numbers; a state that may be, in full; an act leaves one that may be. No program. -/
namespace Go.Proofs.YtfakfgblaakgdaaGreat.Files
set_option linter.unusedVariables false
set_option linter.unusedSimpArgs false
open Go.RowKit Go.Proofs.YtfakfgblaakgdaaGreatW.PrintWords Go.Proofs.YtfakfgblaakgdaaGreatW.PrintLast Go.Proofs.YtfakfgblaakgdaaGreat.Base Go.Proofs.YtfakfgblaakgdaaGreat.Cells Go.Proofs.YtfakfgblaakgdaaGreat.EditPure Go.Proofs.YtfakfgblaakgdaaGreat.Edit Go.Proofs.YtfakfgblaakgdaaGreat.Sets

theorem nodup_len : ∀ (A B : List Int), A.Nodup → (∀ a ∈ A, a ∈ B) → A.length ≤ B.length
  | [], _, _, _ => Nat.zero_le _
  | a :: A, B, h, hs => by
    have ha : a ∈ B := hs a List.mem_cons_self
    have hn := List.nodup_cons.1 h
    have := nodup_len A (B.erase a) hn.2 (fun x hx => (List.mem_erase_of_ne (fun e => hn.1 (by rw [← e]; exact hx))).2 (hs x (List.mem_cons_of_mem _ hx)))
    rw [List.length_erase_of_mem ha] at this
    have hp : 0 < B.length := List.length_pos_of_mem ha
    rw [List.length_cons]
    omega
theorem nodup_all {A B : List Int} (hA : A.Nodup) (hs : ∀ a ∈ A, a ∈ B) (hl : B.length ≤ A.length) : ∀ b ∈ B, b ∈ A := by
  intro b hb
  apply Decidable.byContradiction
  intro hn
  have := nodup_len (b :: A) B (List.nodup_cons.2 ⟨hn, hA⟩) (fun a ha => by
    rcases List.mem_cons.1 ha with rfl | ha
    · exact hb
    · exact hs a ha)
  rw [List.length_cons] at this
  omega
theorem addKey_fold (l : List Int) : ∀ K : List Int, K.Nodup → ∃ K' : List Int, (ilits l).foldl Maps.addKey (ilits K) = ilits K' ∧ K'.Nodup ∧ ∀ x, x ∈ K' ↔ x ∈ K ∨ x ∈ l := by
  induction l with
  | nil => intro K hK; exact ⟨K, rfl, hK, fun x => by simp⟩
  | cons a l ih =>
    intro K hK
    have h1 : Maps.addKey (ilits K) (.int .i64 a) = ilits (if a ∈ K then K else K ++ [a]) := by
      unfold Maps.addKey
      rw [any_ilits]
      by_cases h : a ∈ K
      · rw [if_pos h, if_pos (List.any_eq_true.2 ⟨a, h, by simp⟩)]
      · rw [if_neg h, if_neg (by intro h2; obtain ⟨y, hy, he⟩ := List.any_eq_true.1 h2; exact h (by rw [← (beq_iff_eq.1 he)]; exact hy))]
        simp [ilits]
    obtain ⟨K', e1, e2, e3⟩ := ih (if a ∈ K then K else K ++ [a]) (by
      split
      · exact hK
      · rename_i h
        exact List.nodup_append.2 ⟨hK, by simp, fun x hx y hy => by rw [List.mem_singleton.1 hy]; intro e; exact h (by rw [← e]; exact hx)⟩)
    refine ⟨K', ?_, e2, fun x => ?_⟩
    · show (ilits l).foldl Maps.addKey (Maps.addKey (ilits K) (.int .i64 a)) = _
      rw [h1, e1]
    · rw [e3]
      by_cases h : a ∈ K
      · rw [if_pos h, List.mem_cons]
        constructor
        · rintro (h1 | h1)
          · exact .inl h1
          · exact .inr (.inr h1)
        · rintro (h1 | rfl | h1)
          · exact .inl h1
          · exact .inl h
          · exact .inr h1
      · rw [if_neg h, List.mem_append, List.mem_singleton, List.mem_cons]
        constructor
        · rintro ((h1 | h1) | h1)
          · exact .inl h1
          · exact .inr (.inl h1)
          · exact .inr (.inr h1)
        · rintro (h1 | h1 | h1)
          · exact .inl (.inl h1)
          · exact .inl (.inr h1)
          · exact .inr h1
theorem many_of (l : List Int) : ∃ K : List Int, many l = K.length ∧ K.Nodup ∧ ∀ x, x ∈ K ↔ x ∈ l := by
  obtain ⟨K, e1, e2, e3⟩ := addKey_fold l [] List.nodup_nil
  refine ⟨K, ?_, e2, fun x => by rw [e3]; simp⟩
  show ((ilits l).foldl Maps.addKey []).length = _
  have : (ilits l).foldl Maps.addKey [] = ilits K := e1
  rw [this, ilits, List.length_map]
theorem stands_iff {l : List Nm} {id : Int} : stands l id = true ↔ id ∈ idsN l := by
  rw [stands, List.any_eq_true, idsN, List.mem_map]
  constructor
  · rintro ⟨n, h1, h2⟩; exact ⟨n, h1, by simpa using h2⟩
  · rintro ⟨n, h1, h2⟩; exact ⟨n, h1, by simpa using h2⟩
theorem hasId_iff {l : List Fl} {id : Int} : hasId l id = true ↔ id ∈ l.map (·.id) := by
  rw [hasId, List.any_eq_true, List.mem_map]
  constructor
  · rintro ⟨n, h1, h2⟩; exact ⟨n, h1, by simpa using h2⟩
  · rintro ⟨n, h1, h2⟩; exact ⟨n, h1, by simpa using h2⟩
theorem asc_nodup {l : List Fl} (h : Asc l) : (l.map (·.id)).Nodup := by
  rw [List.Nodup, List.pairwise_map]
  exact h.imp (fun h e => by omega)
/-- a state that may be -/
structure Good (s : St) : Prop where
  hd : HdOk s
  fl : FlsOk s.next s.files
  nm : NmsOk s.files s.names
  sf : NmsOk s.files s.safe
  st : ∀ f ∈ s.files, stands s.names f.id = true ∨ stands s.safe f.id = true
theorem stB_iff {s : St} : stB s = true ↔ Good s := by
  have hcount : FlsOk s.next s.files → NmsOk s.files s.names → NmsOk s.files s.safe → ((many (idsN s.names ++ idsN s.safe) == s.files.length) = true ↔ ∀ f ∈ s.files, stands s.names f.id = true ∨ stands s.safe f.id = true) := by
    intro hf hn hs
    obtain ⟨K, k1, k2, k3⟩ := many_of (idsN s.names ++ idsN s.safe)
    have hsub : ∀ x ∈ K, x ∈ s.files.map (·.id) := fun x hx => by
      rcases List.mem_append.1 ((k3 x).1 hx) with h | h
      · obtain ⟨n, h1, rfl⟩ := List.mem_map.1 h; exact hasId_iff.1 (hn.each n h1).2
      · obtain ⟨n, h1, rfl⟩ := List.mem_map.1 h; exact hasId_iff.1 (hs.each n h1).2
    have hnd := asc_nodup hf.asc
    have hle := nodup_len K _ k2 hsub
    rw [List.length_map] at hle
    rw [k1, beq_iff_eq]
    constructor
    · intro he f hfm
      have := nodup_all k2 hsub (by rw [List.length_map]; omega) f.id (List.mem_map.2 ⟨f, hfm, rfl⟩)
      rcases List.mem_append.1 ((k3 _).1 this) with h | h
      · exact .inl (stands_iff.2 h)
      · exact .inr (stands_iff.2 h)
    · intro h
      have h2 := nodup_len (s.files.map (·.id)) K hnd (fun x hx => by
        obtain ⟨f, hfm, rfl⟩ := List.mem_map.1 hx
        refine (k3 _).2 (List.mem_append.2 ?_)
        rcases h f hfm with h | h
        · exact .inl (stands_iff.1 h)
        · exact .inr (stands_iff.1 h))
      rw [List.length_map] at h2
      omega
  simp only [stB, Bool.and_eq_true]
  constructor
  · rintro ⟨h1, h2, h3, h4, h5⟩
    have g2 := flTo_all.1 h2; have g3 := namesOk_iff.1 h3; have g4 := namesOk_iff.1 h4
    exact ⟨hdB_iff.1 h1, g2, g3, g4, (hcount g2 g3 g4).1 h5⟩
  · rintro ⟨h1, h2, h3, h4, h5⟩
    exact ⟨hdB_iff.2 h1, flTo_all.2 h2, namesOk_iff.2 h3, namesOk_iff.2 h4, (hcount h2 h3 h4).2 h5⟩
end Go.Proofs.YtfakfgblaakgdaaGreat.Files

/- An act leaves a state that may be. No program. -/
namespace Go.Proofs.YtfakfgblaakgdaaGreat.Files
set_option linter.unusedVariables false
set_option linter.unusedSimpArgs false
open Go.RowKit Go.Proofs.YtfakfgblaakgdaaGreatW.PrintWords Go.Proofs.YtfakfgblaakgdaaGreatW.PrintLast Go.Proofs.YtfakfgblaakgdaaGreat.Base Go.Proofs.YtfakfgblaakgdaaGreat.Cells Go.Proofs.YtfakfgblaakgdaaGreat.EditPure Go.Proofs.YtfakfgblaakgdaaGreat.Edit Go.Proofs.YtfakfgblaakgdaaGreat.Sets

theorem stands_of {l : List Nm} {n : Nm} (h : n ∈ l) : stands l n.id = true := List.any_eq_true.2 ⟨n, h, by simp⟩
theorem usedF_cons (a : Fl) (l : List Fl) : usedF (a :: l) = a.data.length + usedF l := by simp [usedF]
theorem usedF_filter (p : Fl → Bool) (l : List Fl) : usedF (l.filter p) ≤ usedF l := by
  induction l with
  | nil => exact Int.le_refl _
  | cons a l ih =>
    rw [List.filter_cons, usedF_cons]
    split
    · rw [usedF_cons]; omega
    · omega
/-- all but that each file is named -/
structure Pre (s : St) : Prop where
  hd : HdOk s
  fl : FlsOk s.next s.files
  nm : NmsOk s.files s.names
  sf : NmsOk s.files s.safe
theorem NmsOk.sweep {files : List Fl} {p : Fl → Bool} {l : List Nm} (h : NmsOk files l) (hp : ∀ f ∈ files, stands l f.id = true → p f = true) : NmsOk (files.filter p) l :=
  ⟨h.asc, fun n hn => ⟨(h.each n hn).1, by
    obtain ⟨f, hf, he⟩ := List.any_eq_true.1 (h.each n hn).2
    have he' : f.id = n.id := by simpa using he
    exact List.any_eq_true.2 ⟨f, List.mem_filter.2 ⟨hf, hp f hf (by rw [he']; exact stands_of hn)⟩, he⟩⟩, h.apart⟩
theorem Pre.sweep {s : St} (h : Pre s) : Good (sweepP s) :=
  ⟨⟨h.hd.c0, h.hd.c1, Nat.le_trans (List.length_filter_le _ _) h.hd.lf, h.hd.n0, h.hd.n1, Int.le_trans (usedF_filter _ _) h.hd.us, h.hd.ln, h.hd.ls⟩,
    ⟨h.fl.asc.sublist List.filter_sublist, fun f hf => h.fl.each f (List.mem_filter.1 hf).1⟩,
    h.nm.sweep (fun f _ hs => by rw [hs]; rfl), h.sf.sweep (fun f _ hs => by rw [hs, Bool.or_true]),
    fun f hf => by
      have := (List.mem_filter.1 hf).2
      show stands s.names f.id = true ∨ stands s.safe f.id = true
      exact (Bool.or_eq_true _ _).mp this⟩
theorem Good.pre {s : St} (h : Good s) : Pre s := ⟨h.hd, h.fl, h.nm, h.sf⟩
theorem find_id {s : St} (h : Pre s) {n : Nm} (hn : n ∈ s.names) : ∃ (k : Nat) (f : Fl), s.files[k]? = some f ∧ f.id = n.id := by
  obtain ⟨k, f, h1, h2, _⟩ := fileP_at (F := none) (h.nm.each n hn).2
  exact ⟨k, f, h1, h2⟩
theorem NmsOk.without {files : List Fl} {l : List Nm} (s : ByteArray) (h : NmsOk files l) : NmsOk files (withoutN l s) :=
  ⟨h.asc.sublist List.filter_sublist, fun n hn => h.each n (List.mem_filter.1 hn).1, h.apart.sublist List.filter_sublist⟩
end Go.Proofs.YtfakfgblaakgdaaGreat.Files

/- files.Run: walked. -/
namespace Go.Proofs.YtfakfgblaakgdaaGreat.Files
set_option linter.unusedVariables false
set_option linter.unusedSimpArgs false
open Go.RowKit Go.Proofs.YtfakfgblaakgdaaGreatW.PrintWords Go.Proofs.YtfakfgblaakgdaaGreatW.PrintLast Go.Proofs.YtfakfgblaakgdaaGreat.Base Go.Proofs.YtfakfgblaakgdaaGreat.Cells Go.Proofs.YtfakfgblaakgdaaGreat.Ints Go.Proofs.YtfakfgblaakgdaaGreat.Var Go.Proofs.YtfakfgblaakgdaaGreat.EditPure Go.Proofs.YtfakfgblaakgdaaGreat.Edit Go.Proofs.YtfakfgblaakgdaaGreat.Sets Go.Proofs.YtfakfgblaakgdaaGreat.Wide Go.Proofs.YtfakfgblaakgdaaGreat.RowsC

instance : Inhabited Ac := ⟨⟨0, ⟨#[]⟩, ⟨#[]⟩, []⟩⟩
def zAc : Ac := ⟨0, ⟨#[]⟩, ⟨#[]⟩, []⟩
def kAc : Kd Ac := Kd.iso (Kd.pair (Kd.int .i64) (Kd.pair Kd.string (Kd.pair Kd.string kOct))) (fun x : Ac => (x.what, x.name, x.dest, x.data))
theorem kAc_open {w : World} {x : Ac} {cs : List Value} (h : kAc.K w x cs) : ∃ A c, cs = [.int .i64 x.what, .string x.name, .string x.dest, .slice A x.data.length c] ∧ x.data.length ≤ c ∧ ReadsInt w .u8 A x.data.length x.data := by
  obtain ⟨_, _, rfl, rfl, ⟨_, _, rfl, rfl, ⟨_, _, rfl, rfl, ⟨A, c, rfl, hl, hr⟩⟩⟩⟩ := h
  exact ⟨A, c, rfl, hl, Kd.reads_of_C (d := (0 : Int)) hr⟩
theorem kAc_mk {w : World} {x : Ac} {A : Option Addr} {c : Nat} (hl : x.data.length ≤ c) (hr : ReadsInt w .u8 A x.data.length x.data) : kAc.K w x [.int .i64 x.what, .string x.name, .string x.dest, .slice A x.data.length c] :=
  ⟨[.int .i64 x.what], [.string x.name, .string x.dest, .slice A x.data.length c], rfl, rfl, ⟨[.string x.name], [.string x.dest, .slice A x.data.length c], rfl, rfl, ⟨[.string x.dest], [.slice A x.data.length c], rfl, rfl, ⟨A, c, rfl, hl, Kd.C_of_reads (d := (0 : Int)) hr⟩⟩⟩⟩
/-- the cells of act i of a row that is read -/
theorem atAc {w : World} {A : Option Addr} {n : Nat} {xs : List Ac} (h : kAc.C w A n xs) (i : Nat) (m : Ac) (hi : xs[i]? = some m) :
    ∃ ad D dc, A = some ad ∧ w.cell? (ad.add (i * 4)) = some (.int .i64 m.what) ∧ w.cell? ⟨(ad.add (i * 4)).block, (ad.add (i * 4)).off + 1, none⟩ = some (.string m.name) ∧ w.cell? ⟨(ad.add (i * 4)).block, (ad.add (i * 4)).off + 2, none⟩ = some (.string m.dest) ∧ w.cell? ⟨(ad.add (i * 4)).block, (ad.add (i * 4)).off + 3, none⟩ = some (.slice D m.data.length dc) ∧ m.data.length ≤ dc ∧ ReadsInt w .u8 D m.data.length m.data := by
  have hlt : i < xs.length := (List.getElem?_eq_some_iff.1 hi).1
  have hn := Kd.C_len h
  obtain ⟨ad, c, e, _, hK, hc0⟩ := Kd.C_get h zAc (i : Int) (by omega) (by omega)
  have hg : xs.getD (i : Int).toNat zAc = m := by rw [Int.toNat_natCast, List.getD_eq_getElem?_getD, hi]; rfl
  rw [hg] at hK
  rw [Int.toNat_natCast] at hc0
  have hc : ∀ j u, c[j]? = some u → w.cell? (ad.add (i * 4 + j)) = some u := hc0
  obtain ⟨D, dc, rfl, hl, hr⟩ := kAc_open hK
  exact ⟨ad, D, dc, e, hc 0 _ rfl, by rw [← add_field _ _ 1 (by omega)]; exact hc 1 _ rfl, by rw [← add_field _ _ 2 (by omega)]; exact hc 2 _ rfl, by rw [← add_field _ _ 3 (by omega)]; exact hc 3 _ rfl, hl, hr⟩

/-- acts done as far as they can be -/
def runL : St → List Ac → Int → St × Int × Int
  | s, [], i => (s, i, 0)
  | s, a :: l, i => if (doP s a).1 = 0 then runL (doP s a).2 l (i + 1) else (s, i, (doP s a).1)
def runP (s : St) (l : List Ac) : St × Int × Int := if stB s = false then (zSt, 0, 9) else runL s l 0
def dataA (l : List Ac) : Nat := (l.map fun a => a.data.length).sum
theorem usedF_nonneg (l : List Fl) : 0 ≤ usedF l := by
  induction l with
  | nil => exact Int.le_refl _
  | cons a l ih => rw [usedF_cons]; omega
theorem used_each {l : List Fl} {f : Fl} (h : f ∈ l) : (f.data.length : Int) ≤ usedF l := by
  induction l with
  | nil => simp at h
  | cons a l ih =>
    rw [usedF_cons]
    have h0 := usedF_nonneg l
    rcases List.mem_cons.1 h with rfl | h
    · omega
    · have := ih h; omega
theorem Good.small {s : St} (h : Good s) (hu : usedF s.files ≤ 1048576) : Small s :=
  ⟨by have := h.hd.lf; omega, by have := h.hd.ln; omega, by have := h.hd.ls; omega, fun f hf => by have := used_each hf; omega⟩
theorem Good.wf {s : St} (h : Good s) : Wf s :=
  ⟨fun n hn => id_bound h.fl h.hd.n1 (h.nm.each n hn).2, fun n hn => id_bound h.fl h.hd.n1 (h.sf.each n hn).2⟩
end Go.Proofs.YtfakfgblaakgdaaGreat.Files

/- What a law's row hands in, read: acts, parts, truths; sizes added up (printed by wip/gen_liftg.py). -/
namespace Go.Proofs.YtfakfgblaakgdaaGreat.Lift
set_option linter.unusedVariables false
set_option linter.unusedSimpArgs false
open Go.ChangeShapes Go.WideShapes Go.ChangeAt Go.RowKit Go.Proofs.YtfakfgblaakgdaaGreatW.PrintWords Go.Proofs.YtfakfgblaakgdaaGreatW.PrintLast Go.Proofs.YtfakfgblaakgdaaGreat.Base Go.Proofs.YtfakfgblaakgdaaGreat.EditPure Go.Proofs.YtfakfgblaakgdaaGreat.Sets Go.Proofs.YtfakfgblaakgdaaGreat.Files

theorem bulk_sum {H α : Type} (mu : α → Nat) : ∀ (l : List α) (ds : List (DataW H)), l.length = ds.length → (∀ (i : Nat) (x : α), l[i]? = some x → ∃ d', ds[i]? = some d' ∧ mu x ≤ Rows.uptoBulk d') → (l.map mu).sum ≤ Rows.uptoBulkAll ds := by
  intro l
  induction l with
  | nil => intro ds _ _; simp
  | cons x l ih =>
    intro ds hl h
    cases ds with
    | nil => simp at hl
    | cons d ds =>
      obtain ⟨d', h1, h2⟩ := h 0 x rfl
      have h1' : d = d' := by simpa using h1
      subst h1'
      have h3 := ih ds (by simpa using hl) (fun i y hy => h (i + 1) y (by simpa using hy))
      rw [Rows.uptoBulkAll, List.map_cons, List.sum_cons]
      omega

theorem sum_mem (f : Fl) : ∀ l : List Fl, f ∈ l → f.data.length ≤ (l.map fun m => m.data.length).sum
  | [], h => by simp at h
  | a :: l, h => by
    rw [List.map_cons, List.sum_cons]
    rcases List.mem_cons.1 h with rfl | h
    · omega
    · have := sum_mem f l h; omega
theorem sum_used (l : List Fl) : (((l.map fun m => m.data.length).sum : Nat) : Int) = usedF l := by
  unfold usedF
  induction l with
  | nil => rfl
  | cons a l ih => rw [List.map_cons, List.map_cons, List.sum_cons, List.sum_cons, ← ih]; push_cast; rfl
set_option maxRecDepth 100000 in
set_option maxHeartbeats 1000000 in
theorem trod_files2 {H : Type} {enc : TypeId × Value → H} {W : World} {base : Nat} {spare : Nat → Bool} {held : Bool} {fuel : Nat} {v : Value} {d : DataW H} {p : List MemPlace}
    (h : DataW.trod enc Tryz.prog W base spare held fuel 22 [v] = some (d, p)) : ∃ A l c, v = .slice A l.length c ∧ l.length ≤ c ∧ kFl.C W A l.length l ∧ (∀ m ∈ l, inI64 m.id ∧ inI64 m.sync) ∧ l.length ≤ Rows.uptoBulk d ∧ (l.map fun (m : Fl) => m.data.length).sum ≤ Rows.uptoBulk d := by
  cases fuel with
  | zero => simp [DataW.trod] at h
  | succ fuel =>
    rcases trod_slice Tryz.underlying22 h with ⟨rfl, rfl⟩ | ⟨a, len, cap, elems, rest, rfl, hlc, hcm, rfl, hm⟩
    · exact ⟨none, [], 0, rfl, Nat.le_refl _, Kd.C_nil kFl W, fun m hm => by simp at hm, by simp, by simp⟩
    · have hc : Tryz.prog.cellsOf 114 = 3 := by kernel_rfl
      rw [hc] at hm
      obtain ⟨e1, e2⟩ := mapM_each _ _ _ hm
      rw [List.length_range] at e1
      obtain ⟨l, hl, hq⟩ := list_of len (fun i (m : Fl) => ∃ cs, (∀ j u, cs[j]? = some u → W.cell? ((a.add (i * 3)).add j) = some u) ∧ kFl.K W m cs ∧ (inI64 m.id ∧ inI64 m.sync) ∧ ∃ d', (elems.map (·.1))[i]? = some d' ∧ m.data.length ≤ Rows.uptoBulk d') (fun i hi => by
        obtain ⟨y, h1, hy⟩ := e2 i i (by rw [List.getElem?_range hi])
        obtain ⟨cs, h3, h4⟩ := Option.bind_eq_some_iff.1 h1
        obtain ⟨d', p'⟩ := y
        obtain ⟨m, hK, h6, h9⟩ := trod_file h4
        obtain ⟨_, _, h7⟩ := World.cells?_some h3
        have h8 := kFl.K_len hK
        exact ⟨m, cs, fun j u hu => by
          have hj : j < 3 := by have := (List.getElem?_eq_some_iff.1 hu).1; rw [h8] at this; exact this
          rw [h7 j hj, hu], hK, h6, d', by rw [List.getElem?_map, hy]; rfl, h9⟩)
      subst hl
      refine ⟨some a, l, cap, rfl, hlc, ?_, fun m hm => ?_, ?_, ?_⟩
      · have hm63 : l.length ≤ 9223372036854775807 := by have : maxLen = 9223372036854775807 := rfl; omega
        exact ⟨rfl, hm63, fun _ => ⟨a, rfl, fun j p hj => by
          obtain ⟨cs, q1, q2, _⟩ := hq j p hj
          exact ⟨cs, kFl.K_len q2, q2, fun i u hu => by
            show W.cell? (a.add (j * 3 + i)) = some u
            rw [← add_add]; exact q1 i u hu⟩⟩⟩
      · obtain ⟨i, hi⟩ := List.mem_iff_getElem?.1 hm
        obtain ⟨cs, _, _, h1, _⟩ := hq i m hi
        exact h1
      · rw [Rows.uptoBulk]
        have := bulk_len (elems.map (·.1))
        rw [List.length_map, e1] at this
        omega
      · rw [Rows.uptoBulk]
        have := bulk_sum (fun (m : Fl) => m.data.length) l (elems.map (·.1)) (by rw [List.length_map]; omega) (fun i x hx => by
          obtain ⟨cs, _, _, _, h2⟩ := hq i x hx
          exact h2)
        omega

set_option maxRecDepth 100000 in
set_option maxHeartbeats 1000000 in
/-- files that are handed in, their octets added up -/
theorem trod_state2 {H : Type} {enc : TypeId × Value → H} {W : World} {base : Nat} {spare : Nat → Bool} {held : Bool} {fuel : Nat} {v : Value} {d : DataW H} {p : List MemPlace} (hv : ∃ cs, v = .agg cs)
    (h : DataW.trod enc Tryz.prog W base spare held fuel 25 v.cells.toList = some (d, p)) : ∃ (s : St) (F N S : Option Addr) (fc nc sc : Nat), v = .agg #[.int .i64 s.cap, .slice F s.files.length fc, .slice N s.names.length nc, .slice S s.safe.length sc, .int .i64 s.next] ∧ Hd W s F fc N nc S sc ∧ Wf s ∧ (inI64 s.cap ∧ inI64 s.next ∧ ∀ f ∈ s.files, inI64 f.id ∧ inI64 f.sync) ∧ usedF s.files ≤ Rows.uptoBulk d ∧ (Rows.uptoBulk d ≤ 1048576 → Small s ∧ s.files.length + s.names.length + s.safe.length ≤ 1048576) := by
  obtain ⟨ca, rfl⟩ := hv
  have hcs : (Value.agg ca).cells.toList = ca.toList := rfl
  rw [hcs] at h
  obtain ⟨cs, hcc⟩ : ∃ cs, ca.toList = cs := ⟨_, rfl⟩
  rw [hcc] at h
  cases fuel with
  | zero => simp [DataW.trod] at h
  | succ fuel =>
    unfold DataW.trod at h
    rw [Tryz.underlying25] at h
    have hc : Tryz.prog.cellsOf 25 = 5 := by kernel_rfl
    have hqfiles : Tryz.prog.cellsOf 22 = 1 := by kernel_rfl
    have hqint : Tryz.prog.cellsOf 3 = 1 := by kernel_rfl
    have hqnames : Tryz.prog.cellsOf 23 = 1 := by kernel_rfl
    simp only [hc] at h
    by_cases hl : cs.length = 5
    · rw [if_pos hl] at h
      obtain ⟨v0, v1, v2, v3, v4, rfl⟩ : ∃ v0 v1 v2 v3 v4, cs = [v0, v1, v2, v3, v4] := by
        rcases cs with _ | ⟨v0, _ | ⟨v1, _ | ⟨v2, _ | ⟨v3, _ | ⟨v4, _ | ⟨v5, r⟩⟩⟩⟩⟩⟩ <;> simp at hl
        exact ⟨v0, v1, v2, v3, v4, rfl⟩
      obtain ⟨xs, h1, h2⟩ := Option.map_eq_some_iff.1 h
      obtain ⟨e1, e2⟩ := mapM_each _ _ _ h1
      obtain ⟨y0, f0, g0⟩ := e2 0 _ rfl
      obtain ⟨y1, f1, g1⟩ := e2 1 _ rfl
      obtain ⟨y2, f2, g2⟩ := e2 2 _ rfl
      obtain ⟨y3, f3, g3⟩ := e2 3 _ rfl
      obtain ⟨y4, f4, g4⟩ := e2 4 _ rfl
      simp only [hqfiles, hqint, hqnames, List.drop_zero, List.drop_succ_cons, List.take_succ_cons, List.take_zero] at f0 f1 f2 f3 f4
      obtain ⟨d0, p0⟩ := y0
      obtain ⟨d1, p1⟩ := y1
      obtain ⟨d2, p2⟩ := y2
      obtain ⟨d3, p3⟩ := y3
      obtain ⟨d4, p4⟩ := y4
      obtain ⟨n0, rfl, rfl, w0⟩ := trod_int Tryz.underlying3 f0
      obtain ⟨A1, x1, c1, rfl, l1, r1, k1, b1, u1⟩ := trod_files2 f1
      obtain ⟨A2, x2, c2, rfl, l2, r2, k2, b2⟩ := trod_names f2
      obtain ⟨A3, x3, c3, rfl, l3, r3, k3, b3⟩ := trod_names f3
      obtain ⟨n4, rfl, rfl, w4⟩ := trod_int Tryz.underlying3 f4
      have hx : xs = [(.lit (.int .i64 n0), p0), (d1, p1), (d2, p2), (d3, p3), (.lit (.int .i64 n4), p4)] := by
        have e1' : xs.length = 5 := e1
        apply List.ext_getElem?
        intro i
        rcases i with _ | _ | _ | _ | _ | i
        · rw [g0]; rfl
        · rw [g1]; rfl
        · rw [g2]; rfl
        · rw [g3]; rfl
        · rw [g4]; rfl
        · rw [List.getElem?_eq_none (by omega)]; simp
      rw [hx] at h2
      have hd := (Prod.mk.inj h2).1
      subst hd
      have hus : usedF x1 ≤ Rows.uptoBulk d1 := by
        have h1 := sum_used x1
        omega
      refine ⟨⟨n0, x1, x2, x3, n4⟩, A1, A2, A3, c1, c2, c3, ?_, ⟨r1, r2, r3, l1, l2, l3⟩, ⟨fun n hn => (k2 n hn).1, fun n hn => (k3 n hn).1⟩, ⟨inI64_of_wf w0, inI64_of_wf w4, fun f hf => k1 f hf⟩, ?_, fun hb => ?_⟩
      · congr 1
        exact Array.toList_inj.1 hcc
      · simp only [Rows.uptoBulk, Rows.uptoBulkAll, List.map_cons, List.map_nil]
        show usedF x1 ≤ _
        push_cast
        omega
      · simp only [Rows.uptoBulk, Rows.uptoBulkAll, List.map_cons, List.map_nil] at hb
        refine ⟨⟨by show x1.length ≤ _; omega, by show x2.length ≤ _; omega, by show x3.length ≤ _; omega, fun f hf => ?_⟩, by show x1.length + x2.length + x3.length ≤ _; omega⟩
        have h3 : f.data.length ≤ (x1.map fun m => m.data.length).sum := sum_mem f x1 hf
        omega
    · rw [if_neg hl] at h; cases h

end Go.Proofs.YtfakfgblaakgdaaGreat.Lift

/- What a law's row hands in, read: an edit of chapter 11. -/
namespace Go.Proofs.YtfakfgblaakgdaaGreat.Lift
set_option linter.unusedVariables false
set_option linter.unusedSimpArgs false
open Go.ChangeShapes Go.WideShapes Go.ChangeAt Go.RowKit Go.Proofs.YtfakfgblaakgdaaGreatW.PrintWords Go.Proofs.YtfakfgblaakgdaaGreatW.PrintLast Go.Proofs.YtfakfgblaakgdaaGreat.Base Go.Proofs.YtfakfgblaakgdaaGreat.EditPure Go.Proofs.YtfakfgblaakgdaaGreat.Sets

set_option maxRecDepth 100000 in
theorem trod_ints {H : Type} {enc : TypeId × Value → H} {W : World} {base : Nat} {spare : Nat → Bool} {held : Bool} {fuel : Nat} {v : Value} {d : DataW H} {p : List MemPlace}
    (h : DataW.trod enc Tryz.prog W base spare held fuel 29 [v] = some (d, p)) : ∃ A l c, v = .slice A l.length c ∧ l.length ≤ c ∧ ReadsInt W .i64 A l.length l ∧ (∀ m ∈ l, inI64 m) ∧ l.length ≤ Rows.uptoBulk d := by
  cases fuel with
  | zero => simp [DataW.trod] at h
  | succ fuel =>
    rcases trod_slice Tryz.underlying29 h with ⟨rfl, rfl⟩ | ⟨a, len, cap, elems, rest, rfl, hlc, hcm, rfl, hm⟩
    · exact ⟨none, [], 0, rfl, Nat.le_refl _, ReadsInt.nil _ _, fun m hm => by simp at hm, by simp⟩
    · have hc : Tryz.prog.cellsOf 3 = 1 := by kernel_rfl
      rw [hc] at hm
      obtain ⟨e1, e2⟩ := mapM_each _ _ _ hm
      rw [List.length_range] at e1
      obtain ⟨l, hl, hq⟩ := list_of len (fun i (n : Int) => W.cell? (a.add i) = some (.int .i64 n) ∧ inI64 n) (fun i hi => by
        obtain ⟨y, h1, h2⟩ := e2 i i (by rw [List.getElem?_range hi])
        obtain ⟨cs, h3, h4⟩ := Option.bind_eq_some_iff.1 h1
        obtain ⟨_, h6, h7⟩ := World.cells?_some h3
        obtain ⟨v, rfl⟩ : ∃ v, cs = [v] := List.length_eq_one_iff.1 h6
        obtain ⟨d', p'⟩ := y
        obtain ⟨n, rfl, _, h5⟩ := trod_int Tryz.underlying3 h4
        refine ⟨n, ?_, inI64_of_wf h5⟩
        have := h7 0 (by omega)
        rw [add_add, Nat.mul_one] at this
        simpa using this)
      subst hl
      refine ⟨some a, l, cap, rfl, hlc, ⟨rfl, by have : maxLen = 9223372036854775807 := rfl; omega, fun _ => ⟨a, rfl, fun j hj => ?_⟩⟩, fun m hm => ?_, ?_⟩
      · have hj2 : l[j]? = some (l.getD j 0) := by rw [List.getD_eq_getElem?_getD, List.getElem?_eq_getElem hj]; rfl
        exact (hq j _ hj2).1
      · obtain ⟨i, hi⟩ := List.mem_iff_getElem?.1 hm
        exact (hq i m hi).2
      · rw [Rows.uptoBulk]
        have := bulk_len (elems.map (·.1))
        rw [List.length_map, e1] at this
        omega

end Go.Proofs.YtfakfgblaakgdaaGreat.Lift

/- What a law's row hands in, read: an edit of chapter 11 with its texts' sizes; octets. -/
namespace Go.Proofs.YtfakfgblaakgdaaGreat.Lift
set_option linter.unusedVariables false
set_option linter.unusedSimpArgs false
open Go.ChangeShapes Go.WideShapes Go.ChangeAt Go.RowKit Go.Proofs.YtfakfgblaakgdaaGreatW.PrintWords Go.Proofs.YtfakfgblaakgdaaGreatW.PrintLast Go.Proofs.YtfakfgblaakgdaaGreat.Base Go.Proofs.YtfakfgblaakgdaaGreat.EditPure Go.Proofs.YtfakfgblaakgdaaGreat.Sets Go.Proofs.YtfakfgblaakgdaaGreat.Var Go.Proofs.YtfakfgblaakgdaaGreat.VarPure

theorem bulk_mem3 {H : Type} : ∀ (l : List (DataW H)) (d : DataW H), d ∈ l → Rows.uptoBulk d ≤ Rows.uptoBulkAll l := by
  intro l
  induction l with
  | nil => intro d h; simp at h
  | cons x l ih =>
    intro d h
    rw [Rows.uptoBulkAll]
    rcases List.mem_cons.1 h with rfl | h
    · omega
    · have := ih d h; omega

set_option maxRecDepth 100000 in
theorem trod_metas2 {H : Type} {enc : TypeId × Value → H} {W : World} {base : Nat} {spare : Nat → Bool} {held : Bool} {fuel : Nat} {v : Value} {d : DataW H} {p : List MemPlace}
    (h : DataW.trod enc Tryz.prog W base spare held fuel 26 [v] = some (d, p)) : ∃ A l c, v = .slice A l.length c ∧ l.length ≤ c ∧ Kd.C kMeta W A l.length l ∧ (∀ m ∈ l, wfMeta m ∧ m.low.size ≤ Rows.uptoBulk d ∧ m.high.size ≤ Rows.uptoBulk d) ∧ l.length ≤ Rows.uptoBulk d := by
  cases fuel with
  | zero => simp [DataW.trod] at h
  | succ fuel =>
    rcases trod_slice Tryz.underlying26 h with ⟨rfl, rfl⟩ | ⟨a, len, cap, elems, rest, rfl, hlc, hcm, rfl, hm⟩
    · exact ⟨none, [], 0, rfl, Nat.le_refl _, ⟨rfl, by simp, fun h => absurd h (Nat.lt_irrefl 0)⟩, fun m hm => by simp at hm, by simp⟩
    · have hc : Tryz.prog.cellsOf 139 = 5 := by kernel_rfl
      rw [hc] at hm
      obtain ⟨e1, e2⟩ := mapM_each _ _ _ hm
      rw [List.length_range] at e1
      obtain ⟨l, hl, hq⟩ := list_of len (fun i (m : Meta) => (∀ j u, m.cs[j]? = some u → W.cell? ((a.add (i * 5)).add j) = some u) ∧ wfMeta m ∧ ∃ p', elems[i]? = some (dMeta m, p')) (fun i hi => by
        obtain ⟨y, h1, hy⟩ := e2 i i (by rw [List.getElem?_range hi])
        obtain ⟨cs, h3, h4⟩ := Option.bind_eq_some_iff.1 h1
        obtain ⟨d', p'⟩ := y
        obtain ⟨m, rfl, rfl, h6⟩ := trod_meta h4
        obtain ⟨_, _, h7⟩ := World.cells?_some h3
        exact ⟨m, fun j u hu => by
          have hj : j < 5 := (List.getElem?_eq_some_iff.1 hu).1
          rw [h7 j hj, hu], h6, p', hy⟩)
      subst hl
      refine ⟨some a, l, cap, rfl, hlc, ?_, fun m hm => ?_, ?_⟩
      · have hm63 : l.length ≤ 9223372036854775807 := by have : maxLen = 9223372036854775807 := rfl; omega
        exact ⟨rfl, hm63, fun _ => ⟨a, rfl, fun j p hj => ⟨p.cs, rfl, kMeta_mk W p, fun i u hu => by
          show W.cell? (a.add (j * 5 + i)) = some u
          rw [← add_add]; exact (hq j p hj).1 i u hu⟩⟩⟩
      · obtain ⟨i, hi⟩ := List.mem_iff_getElem?.1 hm
        obtain ⟨_, h1, p', h2⟩ := hq i m hi
        refine ⟨h1, ?_⟩
        have h3 := bulk_mem3 (elems.map (·.1)) (dMeta m) (List.mem_map.2 ⟨_, List.mem_of_getElem? h2, rfl⟩)
        rw [Rows.uptoBulk]
        have h4 : m.low.size + m.high.size ≤ Rows.uptoBulk (dMeta (H := H) m) := by
          simp only [dMeta, Rows.uptoBulk, Rows.uptoBulkAll]
          have e1 : m.low.data.toList.length = m.low.size := by rw [Array.length_toList]; rfl
          have e2 : m.high.data.toList.length = m.high.size := by rw [Array.length_toList]; rfl
          omega
        omega
      · rw [Rows.uptoBulk]
        have := bulk_len (elems.map (·.1))
        rw [List.length_map, e1] at this
        omega

set_option maxRecDepth 100000 in
set_option maxHeartbeats 1000000 in
/-- an edit that is handed in -/
theorem trod_edit2 {H : Type} {enc : TypeId × Value → H} {W : World} {base : Nat} {spare : Nat → Bool} {held : Bool} {fuel : Nat} {v : Value} {d : DataW H} {p : List MemPlace} (hv : ∃ cs, v = .agg cs)
    (h : DataW.trod enc Tryz.prog W base spare held fuel 31 v.cells.toList = some (d, p)) : ∃ D dl dc A l c seq next, v = .agg #[.slice D dl.length dc, .slice A l.length c, .int .i64 seq, .int .i64 next] ∧ ReadsInt W .i64 D dl.length dl ∧ l.length ≤ c ∧ Kd.C kMeta W A l.length l ∧ (∀ m ∈ l, wfMeta m ∧ m.low.size ≤ Rows.uptoBulk d ∧ m.high.size ≤ Rows.uptoBulk d) ∧ (∀ m ∈ dl, inI64 m) ∧ inI64 seq ∧ inI64 next ∧ dl.length + l.length ≤ Rows.uptoBulk d := by
  obtain ⟨cs, rfl⟩ := hv
  have hcs : (Value.agg cs).cells.toList = cs.toList := rfl
  rw [hcs] at h
  cases fuel with
  | zero => simp [DataW.trod] at h
  | succ fuel =>
    unfold DataW.trod at h
    rw [Tryz.underlying31] at h
    have hc : Tryz.prog.cellsOf 31 = 4 := by kernel_rfl
    have hi : Tryz.prog.cellsOf 3 = 1 := by kernel_rfl
    have hs : Tryz.prog.cellsOf 26 = 1 := by kernel_rfl
    have hd : Tryz.prog.cellsOf 29 = 1 := by kernel_rfl
    simp only [hc] at h
    by_cases hl : cs.toList.length = 4
    · rw [if_pos hl] at h
      obtain ⟨v0, v1, v2, v3, hcl⟩ : ∃ v0 v1 v2 v3, cs.toList = [v0, v1, v2, v3] := by
        generalize cs.toList = L at hl
        rcases L with _ | ⟨v0, _ | ⟨v1, _ | ⟨v2, _ | ⟨v3, _ | ⟨v4, r⟩⟩⟩⟩⟩ <;> simp at hl
        exact ⟨v0, v1, v2, v3, rfl⟩
      rw [hcl] at h
      obtain ⟨xs, h1, h2⟩ := Option.map_eq_some_iff.1 h
      obtain ⟨e1, e2⟩ := mapM_each _ _ _ h1
      obtain ⟨y0, f0, g0⟩ := e2 0 _ rfl
      obtain ⟨y1, f1, g1⟩ := e2 1 _ rfl
      obtain ⟨y2, f2, g2⟩ := e2 2 _ rfl
      obtain ⟨y3, f3, g3⟩ := e2 3 _ rfl
      simp only [hi, hs, hd, List.drop_zero, List.drop_succ_cons, List.take_succ_cons, List.take_zero] at f0 f1 f2 f3
      obtain ⟨d0, p0⟩ := y0
      obtain ⟨d1, p1⟩ := y1
      obtain ⟨d2, p2⟩ := y2
      obtain ⟨d3, p3⟩ := y3
      obtain ⟨D, dl, dc, rfl, _, j2, j3, j4⟩ := trod_ints f0
      obtain ⟨A, l, c, rfl, k1, k2, k3, k4⟩ := trod_metas2 f1
      obtain ⟨n2, rfl, rfl, w2⟩ := trod_int Tryz.underlying3 f2
      obtain ⟨n3, rfl, rfl, w3⟩ := trod_int Tryz.underlying3 f3
      have hx : ∃ r, xs = (d0, p0) :: (d1, p1) :: r := by
        rcases xs with _ | ⟨x, _ | ⟨y, r⟩⟩
        · simp at g0
        · simp at g1
        · exact ⟨r, by simp at g0 g1; rw [g0, g1]⟩
      obtain ⟨r, hx⟩ := hx
      rw [hx] at h2
      have h3 := (Prod.mk.inj h2).1
      have hbd : Rows.uptoBulk d0 + Rows.uptoBulk d1 ≤ Rows.uptoBulk d := by
        rw [← h3, Rows.uptoBulk, List.map_cons, List.map_cons, Rows.uptoBulkAll, Rows.uptoBulkAll]
        dsimp only
        omega
      refine ⟨D, dl, dc, A, l, c, n2, n3, ?_, j2, k1, k2, fun m hm => ⟨(k3 m hm).1, by have := (k3 m hm).2.1; omega, by have := (k3 m hm).2.2; omega⟩, j3, inI64_of_wf w2, inI64_of_wf w3, ?_⟩
      · congr 1
        exact Array.toList_inj.1 hcl
      · omega
    · rw [if_neg hl] at h; cases h
end Go.Proofs.YtfakfgblaakgdaaGreat.Lift

/- What a law's row hands in, read: a version of chapter 11 with its texts' sizes. -/
namespace Go.Proofs.YtfakfgblaakgdaaGreat.Lift
set_option linter.unusedVariables false
set_option linter.unusedSimpArgs false
open Go.ChangeShapes Go.WideShapes Go.ChangeAt Go.RowKit Go.Proofs.YtfakfgblaakgdaaGreatW.PrintWords Go.Proofs.YtfakfgblaakgdaaGreatW.PrintLast Go.Proofs.YtfakfgblaakgdaaGreat.Base Go.Proofs.YtfakfgblaakgdaaGreat.EditPure Go.Proofs.YtfakfgblaakgdaaGreat.Sets Go.Proofs.YtfakfgblaakgdaaGreat.Var Go.Proofs.YtfakfgblaakgdaaGreat.VarPure
set_option maxRecDepth 100000 in
set_option maxHeartbeats 1000000 in
theorem trod_version2 {H : Type} {enc : TypeId × Value → H} {W : World} {base : Nat} {spare : Nat → Bool} {held : Bool} {fuel : Nat} {v : Value} {d : DataW H} {p : List MemPlace} (hv : ∃ cs, v = .agg cs)
    (h : DataW.trod enc Tryz.prog W base spare held fuel 28 v.cells.toList = some (d, p)) : ∃ A l c seq next, v = .agg #[.slice A l.length c, .int .i64 seq, .int .i64 next] ∧ l.length ≤ c ∧ Kd.C kMeta W A l.length l ∧ (∀ m ∈ l, wfMeta m ∧ m.low.size ≤ Rows.uptoBulk d ∧ m.high.size ≤ Rows.uptoBulk d) ∧ inI64 seq ∧ inI64 next ∧ l.length ≤ Rows.uptoBulk d := by
  obtain ⟨cs, rfl⟩ := hv
  have hcs : (Value.agg cs).cells.toList = cs.toList := rfl
  rw [hcs] at h
  cases fuel with
  | zero => simp [DataW.trod] at h
  | succ fuel =>
    unfold DataW.trod at h
    rw [Tryz.underlying28] at h
    have hc : Tryz.prog.cellsOf 28 = 3 := by kernel_rfl
    have hi : Tryz.prog.cellsOf 3 = 1 := by kernel_rfl
    have hs : Tryz.prog.cellsOf 26 = 1 := by kernel_rfl
    simp only [hc] at h
    by_cases hl : cs.toList.length = 3
    · rw [if_pos hl] at h
      obtain ⟨v0, v1, v2, hcl⟩ : ∃ v0 v1 v2, cs.toList = [v0, v1, v2] := by
        generalize cs.toList = L at hl
        rcases L with _ | ⟨v0, _ | ⟨v1, _ | ⟨v2, _ | ⟨v3, r⟩⟩⟩⟩ <;> simp at hl
        exact ⟨v0, v1, v2, rfl⟩
      rw [hcl] at h
      obtain ⟨xs, h1, h2⟩ := Option.map_eq_some_iff.1 h
      obtain ⟨e1, e2⟩ := mapM_each _ _ _ h1
      obtain ⟨y0, f0, g0⟩ := e2 0 _ rfl
      obtain ⟨y1, f1, g1⟩ := e2 1 _ rfl
      obtain ⟨y2, f2, g2⟩ := e2 2 _ rfl
      simp only [hi, hs, List.drop_zero, List.drop_succ_cons, List.take_succ_cons, List.take_zero] at f0 f1 f2
      obtain ⟨d0, p0⟩ := y0
      obtain ⟨d1, p1⟩ := y1
      obtain ⟨d2, p2⟩ := y2
      obtain ⟨A, l, c, rfl, k1, k2, k3, k4⟩ := trod_metas2 f0
      obtain ⟨n1, rfl, rfl, w1⟩ := trod_int Tryz.underlying3 f1
      obtain ⟨n2, rfl, rfl, w2⟩ := trod_int Tryz.underlying3 f2
      have hx : ∃ r, xs = (d0, p0) :: r := by
        rcases xs with _ | ⟨x, r⟩
        · simp at g0
        · exact ⟨r, by simp at g0; rw [g0]⟩
      obtain ⟨r, hx⟩ := hx
      rw [hx] at h2
      have h3 := (Prod.mk.inj h2).1
      have hbd : Rows.uptoBulk d0 ≤ Rows.uptoBulk d := by
        rw [← h3, Rows.uptoBulk, List.map_cons, Rows.uptoBulkAll]
        dsimp only
        omega
      refine ⟨A, l, c, n1, n2, ?_, k1, k2, fun m hm => ⟨(k3 m hm).1, by have := (k3 m hm).2.1; omega, by have := (k3 m hm).2.2; omega⟩, inI64_of_wf w1, inI64_of_wf w2, ?_⟩
      · congr 1
        exact Array.toList_inj.1 hcl
      · omega
    · rw [if_neg hl] at h; cases h
end Go.Proofs.YtfakfgblaakgdaaGreat.Lift

/- Rows of acts of one's own, whose octets lie elsewhere. No program. -/
namespace Go.Proofs.YtfakfgblaakgdaaGreat.Files
set_option linter.unusedVariables false
set_option linter.unusedSimpArgs false
open Go.RowKit Go.Proofs.YtfakfgblaakgdaaGreatW.PrintWords Go.Proofs.YtfakfgblaakgdaaGreatW.PrintLast Go.Proofs.YtfakfgblaakgdaaGreat.Base Go.Proofs.YtfakfgblaakgdaaGreat.Cells Go.Proofs.YtfakfgblaakgdaaGreat.Var

/-- an act's cells, its octets' slice told -/
def rowAc (x : Ac × Value) : List Value := [.int .i64 x.1.what, .string x.1.name, .string x.1.dest, x.2]
/-- an act with its octets' slice: its cells, and no more -/
def kAd : Kd (Ac × Value) where
  sz := 4
  E := []
  K := fun _ x cs => cs = rowAc x ∧ x.2.oneCell' = true
  M := fun _ _ _ x cs => cs = rowAc x ∧ x.2.oneCell' = true
  K_len := fun h => by rw [h.1]; rfl
  K_one := fun h u hu => by
    rw [h.1] at hu
    simp only [rowAc, List.mem_cons, List.not_mem_nil, or_false] at hu
    rcases hu with rfl | rfl | rfl | rfl
    · rfl
    · rfl
    · rfl
    · exact h.2
  K_below := fun _ h => h
  K_of_M := fun h => h
  M_mono := fun _ h => h
  M_bound := fun h => h
  M_move := fun _ h => h
  M_lower := fun _ h => h
def zAd : Ac × Value := (⟨0, ⟨#[]⟩, ⟨#[]⟩, []⟩, .slice none 0 0)
/-- the octets of acts -/
def AD (w : World) (L : List (Ac × Value)) : Prop := ∀ x ∈ L, ∃ A c, x.2 = .slice A x.1.data.length c ∧ x.1.data.length ≤ c ∧ ReadsInt w .u8 A x.1.data.length x.1.data
theorem AD.below {w w1 : World} {L : List (Ac × Value)} (h : AD w L) (hb : Below w.heap.size w w1) : AD w1 L := fun x hx => by
  obtain ⟨A, c, e, hl, hr⟩ := h x hx
  exact ⟨A, c, e, hl, hr.below hb⟩
theorem AD.append {w : World} {L M : List (Ac × Value)} (h : AD w L) (k : AD w M) : AD w (L ++ M) := fun x hx => (List.mem_append.1 hx).elim (h x) (k x)
theorem AD.nil (w : World) : AD w [] := fun x hx => absurd hx (by simp)
theorem AD.bare {w : World} {a : Ac} (h : a.data = []) : AD w [(a, .slice none 0 0)] := fun x hx => by
  obtain rfl : x = (a, .slice none 0 0) := by simpa using hx
  exact ⟨none, 0, by simp [h], by simp [h], by rw [h]; exact ⟨rfl, by simp, fun hn => by simp at hn⟩⟩
theorem AD.full {w : World} {a : Ac} {A : Option Addr} {n c : Nat} (hn : a.data.length = n) (hl : n ≤ c) (h : ReadsInt w .u8 A n a.data) : AD w [(a, .slice A n c)] := fun x hx => by
  obtain rfl : x = (a, .slice A n c) := by simpa using hx
  subst hn
  exact ⟨A, c, rfl, hl, h⟩
/-- acts that are read: cells and octets put together -/
theorem acts_read {w : World} {A : Option Addr} {n : Nat} {L : List (Ac × Value)} (h : kAd.C w A n L) (hd : AD w L) : kAc.C w A n (L.map (·.1)) := by
  obtain ⟨h1, h2, h3⟩ := h
  refine ⟨by rw [List.length_map]; exact h1, h2, fun hn => ?_⟩
  obtain ⟨ad, e, hc⟩ := h3 hn
  refine ⟨ad, e, fun j p hj => ?_⟩
  rw [List.getElem?_map] at hj
  obtain ⟨x, hx, rfl⟩ := Option.map_eq_some_iff.1 hj
  obtain ⟨c, hcl, hK, hcc⟩ := hc j x hx
  obtain ⟨B, bc, e2, hl, hr⟩ := hd x (List.mem_of_getElem? hx)
  obtain ⟨rfl, _⟩ := hK
  refine ⟨_, rfl, ?_, hcc⟩
  have := kAc_mk hl hr
  rw [← e2] at this
  exact this
end Go.Proofs.YtfakfgblaakgdaaGreat.Files
