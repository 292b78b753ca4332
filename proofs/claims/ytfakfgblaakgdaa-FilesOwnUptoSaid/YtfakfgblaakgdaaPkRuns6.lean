/- A part of the proof: How many different numbers; a state that may be, in full; an act leaves one that may be. No program. -/
import Derived.Test.YtfakfgblaakgdaaPkRuns5
import Derived.Test.YtfakfgblaakgdaaPkRuns2
import Derived.BigRegion
import Derived.Laws.Small

/- How many different numbers; a state that may be, in full; an act leaves one that may be. No program. -/
namespace Go.Proofs.Ytfakfgblaakgdaa.Files
set_option linter.unusedVariables false
set_option linter.unusedSimpArgs false
open Go.RowKit Go.Proofs.YtfakfgblaakgdaaW.PrintWords Go.Proofs.YtfakfgblaakgdaaW.PrintLast Go.Proofs.Ytfakfgblaakgdaa.Base Go.Proofs.Ytfakfgblaakgdaa.Cells Go.Proofs.Ytfakfgblaakgdaa.EditPure Go.Proofs.Ytfakfgblaakgdaa.Edit Go.Proofs.Ytfakfgblaakgdaa.Sets

theorem nodup_len : ∀ (A B : List Int), A.Nodup → (∀ a ∈ A, a ∈ B) → A.length ≤ B.length
  | [], _, _, _ => Nat.zero_le _
  | a :: A, B, h, hs => by
    have ha : a ∈ B := hs a List.mem_cons_self
    have hn := List.nodup_cons.1 h
    have := nodup_len A (B.erase a) hn.2 (fun x hx => (List.mem_erase_of_ne (fun e => hn.1 (by rw [← e]; exact hx))).2 (hs x (List.mem_cons_of_mem _ hx)))
    rw [List.length_erase_of_mem ha] at this
    have hp : 0 < B.length := List.length_pos_of_mem ha
    rw [List.length_cons]
    omega
theorem nodup_all {A B : List Int} (hA : A.Nodup) (hs : ∀ a ∈ A, a ∈ B) (hl : B.length ≤ A.length) : ∀ b ∈ B, b ∈ A := by
  intro b hb
  apply Decidable.byContradiction
  intro hn
  have := nodup_len (b :: A) B (List.nodup_cons.2 ⟨hn, hA⟩) (fun a ha => by
    rcases List.mem_cons.1 ha with rfl | ha
    · exact hb
    · exact hs a ha)
  rw [List.length_cons] at this
  omega
theorem addKey_fold (l : List Int) : ∀ K : List Int, K.Nodup → ∃ K' : List Int, (ilits l).foldl Maps.addKey (ilits K) = ilits K' ∧ K'.Nodup ∧ ∀ x, x ∈ K' ↔ x ∈ K ∨ x ∈ l := by
  induction l with
  | nil => intro K hK; exact ⟨K, rfl, hK, fun x => by simp⟩
  | cons a l ih =>
    intro K hK
    have h1 : Maps.addKey (ilits K) (.int .i64 a) = ilits (if a ∈ K then K else K ++ [a]) := by
      unfold Maps.addKey
      rw [any_ilits]
      by_cases h : a ∈ K
      · rw [if_pos h, if_pos (List.any_eq_true.2 ⟨a, h, by simp⟩)]
      · rw [if_neg h, if_neg (by intro h2; obtain ⟨y, hy, he⟩ := List.any_eq_true.1 h2; exact h (by rw [← (beq_iff_eq.1 he)]; exact hy))]
        simp [ilits]
    obtain ⟨K', e1, e2, e3⟩ := ih (if a ∈ K then K else K ++ [a]) (by
      split
      · exact hK
      · rename_i h
        exact List.nodup_append.2 ⟨hK, by simp, fun x hx y hy => by rw [List.mem_singleton.1 hy]; intro e; exact h (by rw [← e]; exact hx)⟩)
    refine ⟨K', ?_, e2, fun x => ?_⟩
    · show (ilits l).foldl Maps.addKey (Maps.addKey (ilits K) (.int .i64 a)) = _
      rw [h1, e1]
    · rw [e3]
      by_cases h : a ∈ K
      · rw [if_pos h, List.mem_cons]
        constructor
        · rintro (h1 | h1)
          · exact .inl h1
          · exact .inr (.inr h1)
        · rintro (h1 | rfl | h1)
          · exact .inl h1
          · exact .inl h
          · exact .inr h1
      · rw [if_neg h, List.mem_append, List.mem_singleton, List.mem_cons]
        constructor
        · rintro ((h1 | h1) | h1)
          · exact .inl h1
          · exact .inr (.inl h1)
          · exact .inr (.inr h1)
        · rintro (h1 | h1 | h1)
          · exact .inl (.inl h1)
          · exact .inl (.inr h1)
          · exact .inr h1
theorem many_of (l : List Int) : ∃ K : List Int, many l = K.length ∧ K.Nodup ∧ ∀ x, x ∈ K ↔ x ∈ l := by
  obtain ⟨K, e1, e2, e3⟩ := addKey_fold l [] List.nodup_nil
  refine ⟨K, ?_, e2, fun x => by rw [e3]; simp⟩
  show ((ilits l).foldl Maps.addKey []).length = _
  have : (ilits l).foldl Maps.addKey [] = ilits K := e1
  rw [this, ilits, List.length_map]
theorem stands_iff {l : List Nm} {id : Int} : stands l id = true ↔ id ∈ idsN l := by
  rw [stands, List.any_eq_true, idsN, List.mem_map]
  constructor
  · rintro ⟨n, h1, h2⟩; exact ⟨n, h1, by simpa using h2⟩
  · rintro ⟨n, h1, h2⟩; exact ⟨n, h1, by simpa using h2⟩
theorem hasId_iff {l : List Fl} {id : Int} : hasId l id = true ↔ id ∈ l.map (·.id) := by
  rw [hasId, List.any_eq_true, List.mem_map]
  constructor
  · rintro ⟨n, h1, h2⟩; exact ⟨n, h1, by simpa using h2⟩
  · rintro ⟨n, h1, h2⟩; exact ⟨n, h1, by simpa using h2⟩
theorem asc_nodup {l : List Fl} (h : Asc l) : (l.map (·.id)).Nodup := by
  rw [List.Nodup, List.pairwise_map]
  exact h.imp (fun h e => by omega)
/-- a state that may be -/
structure Good (s : St) : Prop where
  hd : HdOk s
  fl : FlsOk s.next s.files
  nm : NmsOk s.files s.names
  sf : NmsOk s.files s.safe
  st : ∀ f ∈ s.files, stands s.names f.id = true ∨ stands s.safe f.id = true
theorem stB_iff {s : St} : stB s = true ↔ Good s := by
  have hcount : FlsOk s.next s.files → NmsOk s.files s.names → NmsOk s.files s.safe → ((many (idsN s.names ++ idsN s.safe) == s.files.length) = true ↔ ∀ f ∈ s.files, stands s.names f.id = true ∨ stands s.safe f.id = true) := by
    intro hf hn hs
    obtain ⟨K, k1, k2, k3⟩ := many_of (idsN s.names ++ idsN s.safe)
    have hsub : ∀ x ∈ K, x ∈ s.files.map (·.id) := fun x hx => by
      rcases List.mem_append.1 ((k3 x).1 hx) with h | h
      · obtain ⟨n, h1, rfl⟩ := List.mem_map.1 h; exact hasId_iff.1 (hn.each n h1).2
      · obtain ⟨n, h1, rfl⟩ := List.mem_map.1 h; exact hasId_iff.1 (hs.each n h1).2
    have hnd := asc_nodup hf.asc
    have hle := nodup_len K _ k2 hsub
    rw [List.length_map] at hle
    rw [k1, beq_iff_eq]
    constructor
    · intro he f hfm
      have := nodup_all k2 hsub (by rw [List.length_map]; omega) f.id (List.mem_map.2 ⟨f, hfm, rfl⟩)
      rcases List.mem_append.1 ((k3 _).1 this) with h | h
      · exact .inl (stands_iff.2 h)
      · exact .inr (stands_iff.2 h)
    · intro h
      have h2 := nodup_len (s.files.map (·.id)) K hnd (fun x hx => by
        obtain ⟨f, hfm, rfl⟩ := List.mem_map.1 hx
        refine (k3 _).2 (List.mem_append.2 ?_)
        rcases h f hfm with h | h
        · exact .inl (stands_iff.1 h)
        · exact .inr (stands_iff.1 h))
      rw [List.length_map] at h2
      omega
  simp only [stB, Bool.and_eq_true]
  constructor
  · rintro ⟨h1, h2, h3, h4, h5⟩
    have g2 := flTo_all.1 h2; have g3 := namesOk_iff.1 h3; have g4 := namesOk_iff.1 h4
    exact ⟨hdB_iff.1 h1, g2, g3, g4, (hcount g2 g3 g4).1 h5⟩
  · rintro ⟨h1, h2, h3, h4, h5⟩
    exact ⟨hdB_iff.2 h1, flTo_all.2 h2, namesOk_iff.2 h3, namesOk_iff.2 h4, (hcount h2 h3 h4).2 h5⟩
end Go.Proofs.Ytfakfgblaakgdaa.Files

/- An act leaves a state that may be. No program. -/
namespace Go.Proofs.Ytfakfgblaakgdaa.Files
set_option linter.unusedVariables false
set_option linter.unusedSimpArgs false
open Go.RowKit Go.Proofs.YtfakfgblaakgdaaW.PrintWords Go.Proofs.YtfakfgblaakgdaaW.PrintLast Go.Proofs.Ytfakfgblaakgdaa.Base Go.Proofs.Ytfakfgblaakgdaa.Cells Go.Proofs.Ytfakfgblaakgdaa.EditPure Go.Proofs.Ytfakfgblaakgdaa.Edit Go.Proofs.Ytfakfgblaakgdaa.Sets

theorem two_filters {α : Type} (p q : α → Bool) (h : ∀ a, p a = true → q a = false) (l : List α) : (l.filter p).length + (l.filter q).length ≤ l.length := by
  induction l with
  | nil => simp
  | cons a l ih =>
    rw [List.filter_cons, List.filter_cons, List.length_cons]
    cases hp : p a with
    | true => rw [h a hp]; simp only [if_true, Bool.false_eq_true, if_false, List.length_cons]; omega
    | false =>
      simp only [Bool.false_eq_true, if_false]
      split
      · rw [List.length_cons]; omega
      · omega
theorem giveN_len1 (l : List Nm) (x : Nm) : (giveN l x).length ≤ l.length + 1 := by
  rw [giveN, List.length_append, List.length_cons]
  have := two_filters (fun n : Nm => sLt n.name x.name) (fun n => sLt x.name n.name) (fun a ha => sLt_asymm ha) l
  omega
theorem giveN_iff {l : List Nm} {x n : Nm} : n ∈ giveN l x ↔ n = x ∨ (n ∈ l ∧ n.name ≠ x.name) := by
  rw [giveN, List.mem_append, List.mem_cons, List.mem_filter, List.mem_filter]
  constructor
  · rintro (⟨h1, h2⟩ | h | ⟨h1, h2⟩)
    · exact .inr ⟨h1, sLt_ne h2⟩
    · exact .inl h
    · exact .inr ⟨h1, (sLt_ne h2).symm⟩
  · rintro (h | ⟨h1, h2⟩)
    · exact .inr (.inl h)
    · cases h3 : sLt n.name x.name with
      | true => exact .inl ⟨h1, rfl⟩
      | false =>
        cases h4 : sLt x.name n.name with
        | true => exact .inr (.inr ⟨h1, rfl⟩)
        | false => exact absurd (sLt_total h3 h4) h2
theorem giveN_asc {l : List Nm} (x : Nm) (h : AscN l) : AscN (giveN l x) := by
  refine List.pairwise_append.2 ⟨h.sublist List.filter_sublist, List.pairwise_cons.2 ⟨fun a ha => (List.mem_filter.1 ha).2, h.sublist List.filter_sublist⟩, fun a ha b hb => ?_⟩
  have h1 := (List.mem_filter.1 ha).2
  rcases List.mem_cons.1 hb with rfl | hb
  · exact h1
  · exact sLt_trans h1 (List.mem_filter.1 hb).2
theorem giveN_apart {l : List Nm} {x : Nm} (h : l.Pairwise (fun a b => a.id ≠ b.id)) (ha : AscN l) (hx : ∀ n ∈ l, n.name ≠ x.name → n.id ≠ x.id) : (giveN l x).Pairwise (fun a b => a.id ≠ b.id) := by
  refine List.pairwise_append.2 ⟨h.sublist List.filter_sublist, List.pairwise_cons.2 ⟨fun a hm => ?_, h.sublist List.filter_sublist⟩, fun a hm b hb => ?_⟩
  · obtain ⟨h1, h2⟩ := List.mem_filter.1 hm
    exact (hx a h1 (sLt_ne h2).symm).symm
  · obtain ⟨h1, h2⟩ := List.mem_filter.1 hm
    rcases List.mem_cons.1 hb with rfl | hb
    · exact hx a h1 (sLt_ne h2)
    · obtain ⟨h3, h4⟩ := List.mem_filter.1 hb
      have hne : a.name ≠ b.name := sLt_ne (sLt_trans h2 h4)
      obtain ⟨i, hi⟩ := List.mem_iff_getElem?.1 h1
      obtain ⟨j, hj⟩ := List.mem_iff_getElem?.1 h3
      obtain ⟨hil, rfl⟩ := List.getElem?_eq_some_iff.1 hi
      obtain ⟨hjl, rfl⟩ := List.getElem?_eq_some_iff.1 hj
      have hij : i ≠ j := fun e => hne (by subst e; rfl)
      rcases Nat.lt_or_gt_of_ne hij with e | e
      · exact List.pairwise_iff_getElem.1 h i j hil hjl e
      · exact (List.pairwise_iff_getElem.1 h j i hjl hil e).symm
theorem stands_of {l : List Nm} {n : Nm} (h : n ∈ l) : stands l n.id = true := List.any_eq_true.2 ⟨n, h, by simp⟩
theorem usedF_cons (a : Fl) (l : List Fl) : usedF (a :: l) = a.data.length + usedF l := by simp [usedF]
theorem usedF_filter (p : Fl → Bool) (l : List Fl) : usedF (l.filter p) ≤ usedF l := by
  induction l with
  | nil => exact Int.le_refl _
  | cons a l ih =>
    rw [List.filter_cons, usedF_cons]
    split
    · rw [usedF_cons]; omega
    · omega
/-- all but that each file is named -/
structure Pre (s : St) : Prop where
  hd : HdOk s
  fl : FlsOk s.next s.files
  nm : NmsOk s.files s.names
  sf : NmsOk s.files s.safe
theorem NmsOk.sweep {files : List Fl} {p : Fl → Bool} {l : List Nm} (h : NmsOk files l) (hp : ∀ f ∈ files, stands l f.id = true → p f = true) : NmsOk (files.filter p) l :=
  ⟨h.asc, fun n hn => ⟨(h.each n hn).1, by
    obtain ⟨f, hf, he⟩ := List.any_eq_true.1 (h.each n hn).2
    have he' : f.id = n.id := by simpa using he
    exact List.any_eq_true.2 ⟨f, List.mem_filter.2 ⟨hf, hp f hf (by rw [he']; exact stands_of hn)⟩, he⟩⟩, h.apart⟩
theorem Pre.sweep {s : St} (h : Pre s) : Good (sweepP s) :=
  ⟨⟨h.hd.c0, h.hd.c1, Nat.le_trans (List.length_filter_le _ _) h.hd.lf, h.hd.n0, h.hd.n1, Int.le_trans (usedF_filter _ _) h.hd.us, h.hd.ln, h.hd.ls⟩,
    ⟨h.fl.asc.sublist List.filter_sublist, fun f hf => h.fl.each f (List.mem_filter.1 hf).1⟩,
    h.nm.sweep (fun f _ hs => by rw [hs]; rfl), h.sf.sweep (fun f _ hs => by rw [hs, Bool.or_true]),
    fun f hf => by
      have := (List.mem_filter.1 hf).2
      show stands s.names f.id = true ∨ stands s.safe f.id = true
      exact (Bool.or_eq_true _ _).mp this⟩
theorem Good.pre {s : St} (h : Good s) : Pre s := ⟨h.hd, h.fl, h.nm, h.sf⟩
theorem names_few {files : List Fl} {l : List Nm} (h : NmsOk files l) : l.length ≤ files.length := by
  have h1 : (idsN l).Nodup := by rw [idsN, List.Nodup, List.pairwise_map]; exact h.apart
  have := nodup_len (idsN l) (files.map (·.id)) h1 (fun x hx => by obtain ⟨n, hn, rfl⟩ := List.mem_map.1 hx; exact hasId_iff.1 (h.each n hn).2)
  simpa [idsN] using this
theorem hasId_upd {l : List Fl} {id x : Int} {g : Fl → Fl} (hg : ∀ f, (g f).id = f.id) : hasId (updF l id g) x = hasId l x := by
  rw [Bool.eq_iff_iff, hasId_iff, hasId_iff]
  have : (updF l id g).map (·.id) = l.map (·.id) := by
    rw [updF, List.map_map]
    apply List.map_congr_left
    intro f _
    show (if f.id == id then g f else f).id = f.id
    split
    · exact hg f
    · rfl
  rw [this]
theorem NmsOk.upd {files : List Fl} {l : List Nm} {id : Int} {g : Fl → Fl} (h : NmsOk files l) (hg : ∀ f, (g f).id = f.id) : NmsOk (updF files id g) l :=
  ⟨h.asc, fun n hn => ⟨(h.each n hn).1, by rw [hasId_upd hg]; exact (h.each n hn).2⟩, h.apart⟩
theorem FlsOk.upd {files : List Fl} {next id : Int} {g : Fl → Fl} (h : FlsOk next files) (hg : ∀ f, (g f).id = f.id) (hs : ∀ f ∈ files, 0 ≤ (g f).sync ∧ (g f).sync ≤ ((g f).data.length : Int)) : FlsOk next (updF files id g) :=
  ⟨by
    unfold Asc updF
    rw [List.pairwise_map]
    have e : ∀ f : Fl, (if f.id == id then g f else f).id = f.id := fun f => by
      split
      · exact hg f
      · rfl
    refine List.Pairwise.imp (fun {a b} hab => ?_) h.asc
    show (if a.id == id then g a else a).id < (if b.id == id then g b else b).id
    rw [e, e]; exact hab, fun f hf => by
    obtain ⟨f0, h1, rfl⟩ := List.mem_map.1 hf
    have h2 := h.each f0 h1
    split
    · rw [hg]; exact ⟨h2.1, hs f0 h1⟩
    · exact h2⟩
theorem usedF_set {l : List Fl} {k : Nat} {f f' : Fl} (h : l[k]? = some f) : usedF (l.set k f') = usedF l - f.data.length + f'.data.length := by
  induction l generalizing k with
  | nil => simp at h
  | cons a l ih =>
    cases k with
    | zero => simp at h; subst h; rw [List.set_cons_zero, usedF_cons, usedF_cons]; omega
    | succ k => rw [List.set_cons_succ, usedF_cons, usedF_cons, ih (by simpa using h)]; omega
theorem find_id {s : St} (h : Pre s) {n : Nm} (hn : n ∈ s.names) : ∃ (k : Nat) (f : Fl), s.files[k]? = some f ∧ f.id = n.id := by
  obtain ⟨k, f, h1, h2, _⟩ := fileP_at (F := none) (h.nm.each n hn).2
  exact ⟨k, f, h1, h2⟩
theorem NmsOk.without {files : List Fl} {l : List Nm} (s : ByteArray) (h : NmsOk files l) : NmsOk files (withoutN l s) :=
  ⟨h.asc.sublist List.filter_sublist, fun n hn => h.each n (List.mem_filter.1 hn).1, h.apart.sublist List.filter_sublist⟩
theorem apart_eq {l : List Nm} (h : l.Pairwise (fun a b => a.id ≠ b.id)) {a b : Nm} (ha : a ∈ l) (hb : b ∈ l) (he : a.id = b.id) : a = b := by
  obtain ⟨i, hi⟩ := List.mem_iff_getElem?.1 ha
  obtain ⟨j, hj⟩ := List.mem_iff_getElem?.1 hb
  obtain ⟨hil, rfl⟩ := List.getElem?_eq_some_iff.1 hi
  obtain ⟨hjl, rfl⟩ := List.getElem?_eq_some_iff.1 hj
  by_cases hij : i = j
  · subst hij; rfl
  · rcases Nat.lt_or_gt_of_ne hij with e | e
    · exact absurd he (List.pairwise_iff_getElem.1 h i j hil hjl e)
    · exact absurd he.symm (List.pairwise_iff_getElem.1 h j i hjl hil e)
/-- an act that is done: its state but for the sweep -/
theorem actP_pre {s : St} (h : Pre s) (a : Ac) (h0 : (actP s a).1 = 0) : Pre (actP s a).2 ∧ usedF (actP s a).2.files ≤ usedF s.files + a.data.length := by
  unfold actP at h0 ⊢
  cases hq : findN s.names a.name with
  | none => rw [hq] at h0; simp at h0
  | some n =>
    rw [hq] at h0
    obtain ⟨hn, hnn⟩ := findN_mem hq
    obtain ⟨k, f, hk, hfi⟩ := find_id h hn
    dsimp only at h0 ⊢
    split
    · rename_i hw
      rw [if_pos hw] at h0
      split
      · rename_i hc
        rw [if_pos hc] at h0
        simp at h0
      · rename_i hc
        have hu := usedF_set (f' := { f with data := f.data ++ a.data }) hk
        have he := updF_set (fun f : Fl => { f with data := f.data ++ a.data }) h.fl.asc hk hfi
        have hu2 : usedF (updF s.files n.id fun f => { f with data := f.data ++ a.data }) = usedF s.files + a.data.length := by
          rw [he, hu]
          simp only [List.length_append]
          push_cast
          omega
        refine ⟨⟨⟨h.hd.c0, h.hd.c1, by show (updF _ _ _).length ≤ _; rw [updF, List.length_map]; exact h.hd.lf, h.hd.n0, h.hd.n1, by show usedF (updF _ _ _) ≤ _; rw [hu2]; show _ ≤ s.cap; omega, h.hd.ln, h.hd.ls⟩, h.fl.upd (fun _ => rfl) (fun f hf => ?_), h.nm.upd (fun _ => rfl), h.sf.upd (fun _ => rfl)⟩, by show usedF (updF _ _ _) ≤ _; rw [hu2]; omega⟩
        have := h.fl.each f hf
        simp only [List.length_append]
        push_cast
        omega
    · rename_i hw
      rw [if_neg hw] at h0
      split
      · have hu := usedF_set (f' := { f with sync := f.data.length }) hk
        have he := updF_set (fun f : Fl => { f with sync := f.data.length }) h.fl.asc hk hfi
        have hu2 : usedF (updF s.files n.id fun f => { f with sync := f.data.length }) = usedF s.files := by
          rw [he, hu]
          show usedF s.files - (f.data.length : Int) + (f.data.length : Int) = _
          omega
        exact ⟨⟨⟨h.hd.c0, h.hd.c1, by show (updF _ _ _).length ≤ _; rw [updF, List.length_map]; exact h.hd.lf, h.hd.n0, h.hd.n1, by show usedF (updF _ _ _) ≤ _; rw [hu2]; exact h.hd.us, h.hd.ln, h.hd.ls⟩, h.fl.upd (fun _ => rfl) (fun f hf => ⟨by show (0 : Int) ≤ (f.data.length : Int); omega, Int.le_refl _⟩), h.nm.upd (fun _ => rfl), h.sf.upd (fun _ => rfl)⟩, by show usedF (updF _ _ _) ≤ _; rw [hu2]; omega⟩
      · rename_i hw3
        rw [if_neg hw3] at h0
        split
        · rename_i hw4
          rw [if_pos hw4] at h0
          split
          · rename_i hm
            rw [if_pos hm] at h0
            simp at h0
          · rename_i hm
            have hwo := h.nm.without a.name
            have hnw : n ∉ withoutN s.names a.name := fun hh => by
              have := (List.mem_filter.1 hh).2
              rw [sameB_iff.2 hnn] at this; cases this
            have hlen : (withoutN s.names a.name).length + 1 ≤ s.names.length := by
              have h1 : (withoutN s.names a.name).length < s.names.length := by
                refine List.length_filter_lt_length_iff_exists.2 ⟨n, hn, ?_⟩
                rw [sameB_iff.2 hnn]; decide
              omega
            refine ⟨⟨⟨h.hd.c0, h.hd.c1, h.hd.lf, h.hd.n0, h.hd.n1, h.hd.us, ?_, h.hd.ls⟩, h.fl, ⟨giveN_asc _ hwo.asc, fun m hm2 => ?_, giveN_apart hwo.apart hwo.asc (fun m hm2 hne => ?_)⟩, h.sf⟩, by show usedF s.files ≤ _; omega⟩
            · have := giveN_len1 (withoutN s.names a.name) ⟨a.dest, n.id⟩
              have := h.hd.ln
              show (giveN (withoutN s.names a.name) ⟨a.dest, n.id⟩).length ≤ 256
              omega
            · rcases giveN_iff.1 hm2 with rfl | ⟨hm3, _⟩
              · exact ⟨by simpa using hm, (h.nm.each n hn).2⟩
              · exact hwo.each m hm3
            · intro he
              have := apart_eq h.nm.apart (List.mem_filter.1 hm2).1 hn he
              exact hnw (by rw [← this]; exact hm2)
        · exact ⟨⟨⟨h.hd.c0, h.hd.c1, h.hd.lf, h.hd.n0, h.hd.n1, h.hd.us, Nat.le_trans (List.length_filter_le _ _) h.hd.ln, h.hd.ls⟩, h.fl, h.nm.without a.name, h.sf⟩, by show usedF s.files ≤ _; omega⟩
/-- an act that is done leaves a state that may be -/
theorem doP_good {s : St} (h : Good s) (a : Ac) (h0 : (doP s a).1 = 0) : Good (doP s a).2 ∧ usedF (doP s a).2.files ≤ usedF s.files + a.data.length := by
  unfold doP at h0 ⊢
  split
  · rename_i hw
    rw [if_pos hw] at h0
    simp at h0
  · rename_i hw
    rw [if_neg hw] at h0
    split
    · rename_i hw1
      rw [if_pos hw1] at h0
      unfold createP at h0 ⊢
      split
      · rename_i hm; rw [if_pos hm] at h0; simp at h0
      · rename_i hm
        rw [if_neg hm] at h0
        split
        · rename_i hh; rw [if_pos hh] at h0; simp at h0
        · rename_i hh
          rw [if_neg hh] at h0
          split
          · rename_i hfull; rw [if_pos hfull] at h0; simp at h0
          · rename_i hfull
            have hne : ∀ n ∈ s.names, n.name ≠ a.name := fun n hn he => hh (List.any_eq_true.2 ⟨n, hn, sameB_iff.2 he⟩)
            have hidl : ∀ n ∈ s.names, n.id < s.next := fun n hn => by
              obtain ⟨k, f, hk, hfi⟩ := find_id h.pre hn
              have := (h.fl.each f (List.mem_of_getElem? hk)).1
              omega
            have hfew := names_few h.nm
            have hsup : ∀ (l : List Nm), NmsOk s.files l → NmsOk (s.files ++ [⟨s.next, [], 0⟩]) l := fun l hl => ⟨hl.asc, fun n hn => ⟨(hl.each n hn).1, by rw [hasId, List.any_append]; have := (hl.each n hn).2; rw [hasId] at this; rw [this]; rfl⟩, hl.apart⟩
            have hnn := hsup _ h.nm
            have h6 := giveN_len1 s.names ⟨a.name, s.next⟩
            refine ⟨⟨⟨h.hd.c0, h.hd.c1, by show (s.files ++ [_]).length ≤ 256; simp; omega, by show 1 ≤ s.next + 1; have := h.hd.n0; omega, by show s.next + 1 ≤ _; omega, ?_, by show (giveN s.names ⟨a.name, s.next⟩).length ≤ 256; omega, h.hd.ls⟩, ⟨List.pairwise_append.2 ⟨h.fl.asc, by simp, fun x hx y hy => ?_⟩, fun f hf => ?_⟩, ⟨giveN_asc _ h.nm.asc, fun n hn => ?_, giveN_apart h.nm.apart h.nm.asc (fun n hn _ => by have := hidl n hn; show n.id ≠ s.next; omega)⟩, hsup _ h.sf, fun f hf => ?_⟩, ?_⟩
            · show usedF (s.files ++ [_]) ≤ s.cap
              rw [usedF_snoc]; have := h.hd.us; simp; omega
            · rw [List.mem_singleton.1 hy]; exact (h.fl.each x hx).1.2
            · show (1 ≤ f.id ∧ f.id < s.next + 1) ∧ _
              rcases List.mem_append.1 hf with hf | hf
              · have := h.fl.each f hf; exact ⟨⟨this.1.1, by omega⟩, this.2⟩
              · rw [List.mem_singleton.1 hf]; have := h.hd.n0; exact ⟨⟨by omega, by show s.next < s.next + 1; omega⟩, by simp⟩
            · rcases giveN_iff.1 hn with rfl | ⟨hn, _⟩
              · exact ⟨by simpa using hm, by rw [hasId, List.any_append]; simp⟩
              · exact hnn.each n hn
            · rcases List.mem_append.1 hf with hf | hf
              · rcases h.st f hf with h1 | h1
                · obtain ⟨n, hn, he⟩ := List.any_eq_true.1 h1
                  exact .inl (List.any_eq_true.2 ⟨n, giveN_iff.2 (.inr ⟨hn, hne n hn⟩), he⟩)
                · exact .inr h1
              · rw [List.mem_singleton.1 hf]
                exact .inl (List.any_eq_true.2 ⟨⟨a.name, s.next⟩, giveN_iff.2 (.inl rfl), by simp⟩)
            · show usedF (s.files ++ [_]) ≤ _
              rw [usedF_snoc]; simp; omega
    · rename_i hw1
      rw [if_neg hw1] at h0
      split
      · have hp : Pre { s with safe := s.names } := ⟨⟨h.hd.c0, h.hd.c1, h.hd.lf, h.hd.n0, h.hd.n1, h.hd.us, h.hd.ln, h.hd.ln⟩, h.fl, h.nm, h.nm⟩
        exact ⟨hp.sweep, Int.le_trans (usedF_filter (fun f => stands s.names f.id || stands s.names f.id) s.files) (by omega)⟩
      · rename_i hw6
        rw [if_neg hw6] at h0
        dsimp only at h0 ⊢
        rw [if_pos h0]
        obtain ⟨h1, h2⟩ := actP_pre h.pre a h0
        exact ⟨h1.sweep, Int.le_trans (usedF_filter _ _) h2⟩
end Go.Proofs.Ytfakfgblaakgdaa.Files

/- files.Run: walked. -/
namespace Go.Proofs.Ytfakfgblaakgdaa.Files
set_option linter.unusedVariables false
set_option linter.unusedSimpArgs false
open Go.RowKit Go.Proofs.YtfakfgblaakgdaaW.PrintWords Go.Proofs.YtfakfgblaakgdaaW.PrintLast Go.Proofs.Ytfakfgblaakgdaa.Base Go.Proofs.Ytfakfgblaakgdaa.Cells Go.Proofs.Ytfakfgblaakgdaa.Ints Go.Proofs.Ytfakfgblaakgdaa.Var Go.Proofs.Ytfakfgblaakgdaa.EditPure Go.Proofs.Ytfakfgblaakgdaa.Edit Go.Proofs.Ytfakfgblaakgdaa.Sets Go.Proofs.Ytfakfgblaakgdaa.Wide Go.Proofs.Ytfakfgblaakgdaa.RowsC

instance : Inhabited Ac := ⟨⟨0, ⟨#[]⟩, ⟨#[]⟩, []⟩⟩
def zAc : Ac := ⟨0, ⟨#[]⟩, ⟨#[]⟩, []⟩
def kAc : Kd Ac := Kd.iso (Kd.pair (Kd.int .i64) (Kd.pair Kd.string (Kd.pair Kd.string kOct))) (fun x : Ac => (x.what, x.name, x.dest, x.data))
theorem kAc_open {w : World} {x : Ac} {cs : List Value} (h : kAc.K w x cs) : ∃ A c, cs = [.int .i64 x.what, .string x.name, .string x.dest, .slice A x.data.length c] ∧ x.data.length ≤ c ∧ ReadsInt w .u8 A x.data.length x.data := by
  obtain ⟨_, _, rfl, rfl, ⟨_, _, rfl, rfl, ⟨_, _, rfl, rfl, ⟨A, c, rfl, hl, hr⟩⟩⟩⟩ := h
  exact ⟨A, c, rfl, hl, Kd.reads_of_C (d := (0 : Int)) hr⟩
theorem kAc_mk {w : World} {x : Ac} {A : Option Addr} {c : Nat} (hl : x.data.length ≤ c) (hr : ReadsInt w .u8 A x.data.length x.data) : kAc.K w x [.int .i64 x.what, .string x.name, .string x.dest, .slice A x.data.length c] :=
  ⟨[.int .i64 x.what], [.string x.name, .string x.dest, .slice A x.data.length c], rfl, rfl, ⟨[.string x.name], [.string x.dest, .slice A x.data.length c], rfl, rfl, ⟨[.string x.dest], [.slice A x.data.length c], rfl, rfl, ⟨A, c, rfl, hl, Kd.C_of_reads (d := (0 : Int)) hr⟩⟩⟩⟩
/-- the cells of act i of a row that is read -/
theorem atAc {w : World} {A : Option Addr} {n : Nat} {xs : List Ac} (h : kAc.C w A n xs) (i : Nat) (m : Ac) (hi : xs[i]? = some m) :
    ∃ ad D dc, A = some ad ∧ w.cell? (ad.add (i * 4)) = some (.int .i64 m.what) ∧ w.cell? ⟨(ad.add (i * 4)).block, (ad.add (i * 4)).off + 1, none⟩ = some (.string m.name) ∧ w.cell? ⟨(ad.add (i * 4)).block, (ad.add (i * 4)).off + 2, none⟩ = some (.string m.dest) ∧ w.cell? ⟨(ad.add (i * 4)).block, (ad.add (i * 4)).off + 3, none⟩ = some (.slice D m.data.length dc) ∧ m.data.length ≤ dc ∧ ReadsInt w .u8 D m.data.length m.data := by
  have hlt : i < xs.length := (List.getElem?_eq_some_iff.1 hi).1
  have hn := Kd.C_len h
  obtain ⟨ad, c, e, _, hK, hc0⟩ := Kd.C_get h zAc (i : Int) (by omega) (by omega)
  have hg : xs.getD (i : Int).toNat zAc = m := by rw [Int.toNat_natCast, List.getD_eq_getElem?_getD, hi]; rfl
  rw [hg] at hK
  rw [Int.toNat_natCast] at hc0
  have hc : ∀ j u, c[j]? = some u → w.cell? (ad.add (i * 4 + j)) = some u := hc0
  obtain ⟨D, dc, rfl, hl, hr⟩ := kAc_open hK
  exact ⟨ad, D, dc, e, hc 0 _ rfl, by rw [← add_field _ _ 1 (by omega)]; exact hc 1 _ rfl, by rw [← add_field _ _ 2 (by omega)]; exact hc 2 _ rfl, by rw [← add_field _ _ 3 (by omega)]; exact hc 3 _ rfl, hl, hr⟩

/-- acts done as far as they can be -/
def runL : St → List Ac → Int → St × Int × Int
  | s, [], i => (s, i, 0)
  | s, a :: l, i => if (doP s a).1 = 0 then runL (doP s a).2 l (i + 1) else (s, i, (doP s a).1)
def runP (s : St) (l : List Ac) : St × Int × Int := if stB s = false then (zSt, 0, 9) else runL s l 0
def dataA (l : List Ac) : Nat := (l.map fun a => a.data.length).sum
theorem dataA_cons (a : Ac) (l : List Ac) : dataA (a :: l) = a.data.length + dataA l := by simp [dataA]
theorem actP_err {s : St} {a : Ac} (h : (actP s a).1 ≠ 0) : (actP s a).2 = s := by
  unfold actP at h ⊢
  cases hq : findN s.names a.name with
  | none => rfl
  | some n =>
    rw [hq] at h
    dsimp only at h ⊢
    by_cases h2 : a.what = 2
    · rw [if_pos h2] at h ⊢
      by_cases h3 : s.cap - usedF s.files < a.data.length
      · rw [if_pos h3]
      · rw [if_neg h3] at h; exact absurd rfl h
    · rw [if_neg h2] at h ⊢
      by_cases h3 : a.what = 3
      · rw [if_pos h3] at h; exact absurd rfl h
      · rw [if_neg h3] at h ⊢
        by_cases h4 : a.what = 4
        · rw [if_pos h4] at h ⊢
          by_cases h5 : mayF a.dest = false
          · rw [if_pos h5]
          · rw [if_neg h5] at h; exact absurd rfl h
        · rw [if_neg h4] at h; exact absurd rfl h
/-- an act that is refused changes nothing -/
theorem doP_err {s : St} {a : Ac} (h : (doP s a).1 ≠ 0) : (doP s a).2 = s := by
  unfold doP at h ⊢
  by_cases h1 : a.what < 1 ∨ 6 < a.what
  · rw [if_pos h1]
  · rw [if_neg h1] at h ⊢
    by_cases h2 : a.what = 1
    · rw [if_pos h2] at h ⊢
      unfold createP at h ⊢
      by_cases h3 : mayF a.name = false
      · rw [if_pos h3]
      · rw [if_neg h3] at h ⊢
        by_cases h4 : hasN s.names a.name = true
        · rw [if_pos h4]
        · rw [if_neg h4] at h ⊢
          by_cases h5 : (256 : Int) ≤ s.files.length ∨ 2147483647 ≤ s.next
          · rw [if_pos h5]
          · rw [if_neg h5] at h; exact absurd rfl h
    · rw [if_neg h2] at h ⊢
      by_cases h3 : a.what = 6
      · rw [if_pos h3] at h; exact absurd rfl h
      · rw [if_neg h3] at h ⊢
        have h4 : (actP s a).1 ≠ 0 := h
        show (if (actP s a).1 = 0 then _ else _) = s
        rw [if_neg h4]
        exact actP_err h4
theorem usedF_nonneg (l : List Fl) : 0 ≤ usedF l := by
  induction l with
  | nil => exact Int.le_refl _
  | cons a l ih => rw [usedF_cons]; omega
theorem used_each {l : List Fl} {f : Fl} (h : f ∈ l) : (f.data.length : Int) ≤ usedF l := by
  induction l with
  | nil => simp at h
  | cons a l ih =>
    rw [usedF_cons]
    have h0 := usedF_nonneg l
    rcases List.mem_cons.1 h with rfl | h
    · omega
    · have := ih h; omega
theorem Good.small {s : St} (h : Good s) (hu : usedF s.files ≤ 1048576) : Small s :=
  ⟨by have := h.hd.lf; omega, by have := h.hd.ln; omega, by have := h.hd.ls; omega, fun f hf => by have := used_each hf; omega⟩
theorem Good.wf {s : St} (h : Good s) : Wf s :=
  ⟨fun n hn => id_bound h.fl h.hd.n1 (h.nm.each n hn).2, fun n hn => id_bound h.fl h.hd.n1 (h.sf.each n hn).2⟩
/-- nothing below the state's block has turned -/
theorem Bel.under {g base : Nat} {w0 w w' : World} (h : Below g w0 w) (hB : Bel g base w w') (hg : g ≤ base) : Below g w0 w' :=
  ⟨hB.os.trans h.os, hB.tape.trans h.tape, hB.output.trans h.output, Nat.le_trans h.size hB.size, fun k hk => (hB.block k (by omega) (by omega)).trans (h.block k hk)⟩

set_option maxRecDepth 100000 in
set_option maxHeartbeats 8000000 in
theorem run_any (s : St) (l : List Ac) (F N S A : Option Addr) (fc nc sc ac : Nat) (w : World) (h : Hd w s F fc N nc S sc) (hs : Small s) (hw : Wf s) (hr : kAc.C w A l.length l) (hl : l.length ≤ 1048576) (hu : usedF s.files + dataA l ≤ 1048576) :
    Calls Try.prog 17 #[.agg #[.int .i64 s.cap, .slice F s.files.length fc, .slice N s.names.length nc, .slice S s.safe.length sc, .int .i64 s.next], .slice A l.length ac] w fun e w' => ∃ v, e = .returned (.tuple #[v, .int .i64 (runP s l).2.1, .int .i64 (runP s l).2.2]) ∧ Rs w' w.heap.size v (runP s l).1 ∧ Below w.heap.size w w' := by
  have HH := Aside0.mk h
  have HS := Aside0.mk hs
  have HW := Aside0.mk hw
  have HR := Aside0.mk hr
  obtain ⟨dp, hdp⟩ := named (runP s l)
  rw [← hdp.out]
  obtain ⟨lf, hlf⟩ : ∃ n, s.files.length = n := ⟨_, rfl⟩
  obtain ⟨ln, hln⟩ : ∃ n, s.names.length = n := ⟨_, rfl⟩
  obtain ⟨ls, hls⟩ : ∃ n, s.safe.length = n := ⟨_, rfl⟩
  obtain ⟨la, hla⟩ : ∃ n, l.length = n := ⟨_, rfl⟩
  have LF := Aside0.mk hlf
  have LN := Aside0.mk hln
  have LS := Aside0.mk hls
  have LA := Aside0.mk hla
  have HU := Aside0.mk hu
  rw [hlf, hln, hls, hla]
  rw [hla] at hl
  have CCheck : Aside0 (∀ W, Below w.heap.size w W → Calls Try.prog 28 #[.agg #[.int .i64 s.cap, .slice F lf fc, .slice N ln nc, .slice S ls sc, .int .i64 s.next]] W fun e w' => e = .returned (.int .i64 (stE s)) ∧ Below W.heap.size W w') := ⟨fun W hW => by
    have := check_any s F N S fc nc sc W (HH.out.below hW) HS.out HW.out
    rw [hlf, hln, hls] at this
    exact this⟩
  have CClone : Aside0 (∀ W, Below w.heap.size w W → Calls Try.prog 44 #[.agg #[.int .i64 s.cap, .slice F lf fc, .slice N ln nc, .slice S ls sc, .int .i64 s.next]] W fun e w' => ∃ vF vN vS L, e = .returned (.agg #[.int .i64 s.cap, vF, vN, vS, .int .i64 s.next]) ∧ OF 79 w' W.heap.size vF L ∧ L.map (·.1) = s.files ∧ RN w' W.heap.size vN s.names ∧ RN w' W.heap.size vS s.safe ∧ (∀ k, vN.ownBlock = some k → vS.ownBlock ≠ some k) ∧ Below W.heap.size W w') := ⟨fun W hW => by
    have := clone_any s F N S fc nc sc W (HH.out.below hW) HS.out
    rw [hlf, hln, hls] at this
    exact this⟩
  clear h hs hw hr hlf hln hls hla hu
  go_enter Try.func17, Try.ntmps17
  go_upto_region 1 with (fail)
  obtain ⟨W0, hW0⟩ : ∃ W, W = (w.alloc (.cells #[.int .i64 s.cap, .slice F lf fc, .slice N ln nc, .slice S ls sc, .int .i64 s.next] 33)).alloc (.cells #[.int .i64 0, .slice none 0 0, .slice none 0 0, .slice none 0 0, .int .i64 0] 33) := ⟨_, rfl⟩
  have hk2 : W0.heap[w.heap.size]? = some (.cells #[.int .i64 s.cap, .slice F lf fc, .slice N ln nc, .slice S ls sc, .int .i64 s.next] 33 (0, 0)) := by rw [hW0]; exact blk_alloc (blk_new _ _) _
  have hk4 : W0.heap[w.heap.size + 1]? = some (.cells #[.int .i64 0, .slice none 0 0, .slice none 0 0, .slice none 0 0, .int .i64 0] 33 (0, 0)) := by rw [hW0]; exact blk_new1 _ _ _ _
  have HB0 : Aside0 (Below w.heap.size w W0) := ⟨by rw [hW0]; exact below_alloc (below_alloc (Below.refl _ _) _) _⟩
  have HZ0 : Aside0 (W0.heap.size = w.heap.size + 2) := ⟨by rw [hW0]; simp⟩
  rw [← hW0]
  clear hW0
  have HK2 := Aside0.mk hk2
  have HK4 := Aside0.mk hk4
  obtain ⟨x0, x1, x2, x3, x4, _, _, _, _, _⟩ := all5 hk2
  clear hk2 hk4
  go_wp2_with fail
  refine (CCheck.out _ HB0.out).mono ?_
  obtain ⟨E, hE⟩ := named (stE s)
  rw [← hE.out]
  rintro e w1 ⟨rfl, hb1⟩
  have HB1 := Aside0.mk hb1
  have HB01 := Aside0.mk (bthen HB0.out hb1)
  have HK4' := Aside0.mk (blk_keep HK4.out hb1)
  have HK2' := Aside0.mk (blk_keep HK2.out hb1)
  clear hb1 x0 x1 x2 x3 x4
  cases hst : stB s with
  | false =>
    have HE : Aside0 (E = 9) := ⟨by rw [hE.out, stE, hst]; rfl⟩
    have HDP : Aside0 (dp = (zSt, 0, 9)) := ⟨by rw [hdp.out, runP, if_pos hst]⟩
    rw [HE.out]
    obtain ⟨z0, z1, z2, z3, z4, f0, f1, f2, f3, f4⟩ := all5 HK4'.out
    clear hst
    go_upto_region 3 with (fail)
    go_wp2
    refine bodyPost_ret (results_ctt rfl _ _ (w.heap.size + 1) 33 #[.int .i64 0, .slice none 0 0, .slice none 0 0, .slice none 0 0, .int .i64 0] (0, 0) _ rfl (blk5 HK4'.out) Try.underlying33 rfl (by kernel_rfl)) rfl ?_
    exact ⟨.agg #[.int .i64 0, .slice none 0 0, .slice none 0 0, .slice none 0 0, .int .i64 0], by rw [HDP.out]; rfl, by rw [HDP.out]; exact Rs_zero _ _, below_set5 HB01.out (by omega) _ _ _ _ _⟩
  | true =>
    have HE : Aside0 (E = 0) := ⟨by rw [hE.out, stE, hst]; rfl⟩
    have HDP : Aside0 (dp = runL s l 0) := ⟨by rw [hdp.out, runP, if_neg (by rw [hst]; decide)]⟩
    have HST : Aside0 (Good s) := ⟨stB_iff.1 hst⟩
    rw [HE.out]
    obtain ⟨x0, x1, x2, x3, x4, _, _, _, _, _⟩ := all5 HK2'.out
    clear hst
    go_wp2_with fail
    refine (CClone.out _ HB01.out).mono ?_
    rintro e w2 ⟨vF, vN, vS, L, rfl, hof, hfs, hrn, hrs, hap, hb2⟩
    obtain ⟨F', fc', rfl, _⟩ := hof.reads
    obtain ⟨N', nc', rfl, _⟩ := Kd.R_reads hrn
    obtain ⟨S', sc', rfl, _⟩ := Kd.R_reads hrs
    have hll : L.length = lf := by have := congrArg List.length hfs; rw [List.length_map] at this; rw [this]; exact LF.out
    rw [hll] at hof
    rw [LN.out] at hrn hap
    rw [LS.out] at hrs hap
    rw [hll, LN.out, LS.out]
    have hb0 := HB0.out.size
    have hb1 := HB1.out.size
    have hk2'' := blk_keep HK2'.out hb2
    have hbase : W0.heap.size ≤ w1.heap.size := hb1
    have HO3 : Aside0 (Own (((((w2.setCell ⟨w.heap.size, 0, none⟩ (.int .i64 s.cap)).setCell ⟨w.heap.size, 1, none⟩ (.slice F' lf fc')).setCell ⟨w.heap.size, 2, none⟩ (.slice N' ln nc')).setCell ⟨w.heap.size, 3, none⟩ (.slice S' ls sc')).setCell ⟨w.heap.size, 4, none⟩ (.int .i64 s.next)) W0.heap.size w.heap.size s (.slice F' lf fc') (.slice N' ln nc') (.slice S' ls sc') L) := ⟨⟨blk5 hk2'', (hof.lower hbase).far5 hk2'' (by decide) (by decide) _ _ _ _ _, hfs, Rset5 (Kd.R_lower hrn hbase) (apart_of hk2'' RN_types) _ _ _ _ _, Rset5 (Kd.R_lower hrs hbase) (apart_of hk2'' RN_types) _ _ _ _ _, hap⟩⟩
    have HK4'' := Aside0.mk (blk_keep HK4'.out hb2)
    have HB2 := Aside0.mk (bthen HB01.out hb2)
    obtain ⟨x0', x1', x2', x3', x4', g0, g1, g2, g3, g4⟩ := all5 hk2''
    clear hof hfs hrn hrs hap hb2 hll x0 x1 x2 x3 x4 hk2'' hbase hb0 hb1
    go_upto_region 5 with (fail)
    obtain ⟨W3, hW3⟩ : ∃ W, W = (((((w2.setCell ⟨w.heap.size, 0, none⟩ (.int .i64 s.cap)).setCell ⟨w.heap.size, 1, none⟩ (.slice F' lf fc')).setCell ⟨w.heap.size, 2, none⟩ (.slice N' ln nc')).setCell ⟨w.heap.size, 3, none⟩ (.slice S' ls sc')).setCell ⟨w.heap.size, 4, none⟩ (.int .i64 s.next)) := ⟨_, rfl⟩
    have HB3 : Aside0 (Below w.heap.size w W3) := ⟨by rw [hW3]; exact below_set5 HB2.out (Nat.le_refl _) _ _ _ _ _⟩
    have HK4w : Aside0 (W3.heap[w.heap.size + 1]? = some (.cells #[.int .i64 0, .slice none 0 0, .slice none 0 0, .slice none 0 0, .int .i64 0] 33 (0, 0))) := ⟨by rw [hW3]; exact (keep5 _ _ _ _ _ (by omega)).trans HK4''.out⟩
    have HS3 : Aside0 (W0.heap.size ≤ W3.heap.size) := ⟨by
      have h1 : w2.heap.size = W3.heap.size := by rw [hW3]; simp [World.setCell]
      have h2 := blk_lt HK4''.out
      have h3 := HZ0.out
      omega⟩
    rw [← hW3] at HO3 ⊢
    clear hW3 x0' x1' x2' x3' x4' g0 g1 g2 g3 g4
    go_wp2
    go_loopg [21] la (fun gk v21 wr => ∃ (i : Nat) (si : St), v21 = .int .i64 i ∧ gk + i = la ∧ Aside0 (Good si ∧ usedF si.files + dataA (l.drop i) ≤ 1048576 ∧ runL si (l.drop i) i = dp) ∧ Aside0 (Mine wr W0.heap.size w.heap.size si) ∧ Aside0 (Bel w.heap.size W0.heap.size W3 wr))
    case atStart => exact ⟨0, s, rfl, by omega, ⟨HST.out, HU.out, HDP.out.symm⟩, ⟨⟨_, _, _, L, HO3.out⟩⟩, ⟨bel (Below.refl W3.heap.size _) HS3.out⟩⟩
    case round =>
      obtain ⟨i, si, rfl, hg, HI, HM, HBr⟩ := hrel
      have HBw : Aside0 (Below w.heap.size w wr) := ⟨HBr.out.under HB3.out (by have := HZ0.out; omega)⟩
      by_cases hlt : i < la
      · have hlt' : (i : Int) < (la : Int) := by omega
        obtain ⟨m, hm⟩ : ∃ m, l[i]? = some m := ⟨_, List.getElem?_eq_getElem (by have := LA.out; omega)⟩
        have hdrop : l.drop i = m :: l.drop (i + 1) := by
          have h1 := (List.getElem?_eq_some_iff.1 hm)
          obtain ⟨h2, h3⟩ := h1
          rw [List.drop_eq_getElem_cons h2, h3]
        obtain ⟨ad, D, dc, rfl, c0, c1, c2, c3, hdl, hrd⟩ := atAc (Kd.C_below HR.out HBw.out) i m hm
        obtain ⟨mwh, hmw⟩ : ∃ n, m.what = n := ⟨_, rfl⟩
        obtain ⟨mld, hmd⟩ : ∃ n, m.data.length = n := ⟨_, rfl⟩
        rw [hmw] at c0
        rw [hmd] at c3
        have CA : Aside0 (acV m D dc = .agg #[.int .i64 mwh, .string m.name, .string m.dest, .slice D mld dc]) := ⟨by rw [acV, hmw, hmd]⟩
        have HRD := Aside0.mk hrd
        have HDR := Aside0.mk hdrop
        have HMD := Aside0.mk hmd
        clear hm hdl hrd hdrop hmw hmd
        go_upto_region 8 with (fail)
        obtain ⟨W4, hW4⟩ : ∃ W4, W4 = wr.alloc (.cells #[.int .i64 mwh, .string m.name, .string m.dest, .slice D mld dc] 64) := ⟨_, rfl⟩
        have HB4 : Aside0 (Below wr.heap.size wr W4) := ⟨by rw [hW4]; exact below_alloc (Below.refl _ _) _⟩
        have k0 : W4.heap[wr.heap.size]? = some (.cells #[.int .i64 mwh, .string m.name, .string m.dest, .slice D mld dc] 64 (0, 0)) := by rw [hW4]; exact blk_new _ _
        have HS4 : Aside0 (W0.heap.size ≤ wr.heap.size) := ⟨Nat.le_trans HS3.out HBr.out.size⟩
        rw [← hW4]
        clear hW4 c0 c1 c2 c3
        obtain ⟨y0, y1, y2, y3, _, _, _, _⟩ := all4 k0
        obtain ⟨vF, vN, vS, L', hO⟩ := HM.out
        have hus := HI.out.2.1
        rw [HDR.out, dataA_cons] at hus
        push_cast at hus
        have h0 := usedF_nonneg si.files
        have hfit := stB_fit (stB_iff.2 HI.out.1) (HI.out.1.small (by omega)).ld
        have hdo := do_own si m D dc W0.heap.size w.heap.size _ _ _ L' W4 (hO.below HB4.out) (Nat.le_trans HS4.out HB4.out.size) hfit.1 (HRD.out.below HB4.out) (by omega) hfit.2
        rw [CA.out] at hdo
        have CD := Aside0.mk hdo
        have HUS := Aside0.mk hus
        clear hfit hdo k0 hO hus h0
        go_wp2_with fail
        refine CD.out.mono ?_
        obtain ⟨dq, hdq⟩ := named (doP si m)
        rw [← hdq.out]
        rintro e w4 ⟨rfl, hM, hB⟩
        obtain ⟨ae, hae⟩ := named dq.1
        rw [← hae.out]
        have HM4 := Aside0.mk hM
        have HB4r := Aside0.mk ((HBr.out.trans (bel HB4.out HS4.out)).trans hB)
        clear hM hB y0 y1 y2 y3 CD
        by_cases hz : ae = 0
        · subst hz
          go_wp2
          go_roundg (la - (i + 1))
          case measure => omega
          case rel =>
            have he0 : (doP si m).1 = 0 := by rw [← hdq.out]; exact hae.out.symm
            obtain ⟨g1, g2⟩ := doP_good HI.out.1 m he0
            rw [← hdq.out] at g1 g2
            refine ⟨i + 1, dq.2, by go_num, by omega, ⟨g1, ?_, ?_⟩, HM4, HB4r⟩
            · have := HUS.out; omega
            · have := HI.out.2.2
              rw [HDR.out, runL, if_pos he0] at this
              rw [← this, hdq.out]
              push_cast
              rfl
        · have hz' : (ae != 0) = true := by simp [hz]
          have HD2 : Aside0 (dp = (si, (i : Int), ae)) := ⟨by
            have := HI.out.2.2
            rw [HDR.out, runL, if_neg (by rw [← hdq.out, ← hae.out]; exact hz)] at this
            rw [← this, hae.out, hdq.out]⟩
          have hsame : dq.2 = si := by rw [hdq.out]; exact doP_err (by rw [← hdq.out, ← hae.out]; exact hz)
          rw [hsame] at HM4
          obtain ⟨vF4, vN4, vS4, L4, hO4⟩ := HM4.out
          obtain ⟨F4, fc4, N4, nc4, S4, sc4, rfl, rfl, rfl, _⟩ := hO4.forms
          obtain ⟨x0, x1, x2, x3, x4, _, _, _, _, _⟩ := all5 hO4.blk
          have HK4x := Aside0.mk ((HB4r.out.block (w.heap.size + 1) (by have := HZ0.out; omega) (by omega)).trans HK4w.out)
          obtain ⟨z0, z1, z2, z3, z4, f0, f1, f2, f3, f4⟩ := all5 HK4x.out
          have HO4 := Aside0.mk hO4
          have HBw4 : Aside0 (Below w.heap.size w w4) := ⟨HB4r.out.under HB3.out (by have := HZ0.out; omega)⟩
          clear hO4 hz hsame
          go_wp2
          refine bodyPost_ret (results_ctt rfl _ _ (w.heap.size + 1) 33 #[.int .i64 si.cap, .slice F4 si.files.length fc4, .slice N4 si.names.length nc4, .slice S4 si.safe.length sc4, .int .i64 si.next] (0, 0) _ rfl (blk5 HK4x.out) Try.underlying33 rfl (by kernel_rfl)) rfl ?_
          exact ⟨_, by rw [HD2.out]; rfl, by rw [HD2.out]; exact (HO4.out.rs.far5 HK4x.out _ _ _ _ _).lower (by have := HZ0.out; omega), below_set5 HBw4.out (by omega) _ _ _ _ _⟩
      · have hie : i = la := by omega
        subst hie
        have HD2 : Aside0 (dp = (si, (i : Int), 0)) := ⟨by
          have := HI.out.2.2
          rw [List.drop_of_length_le (by have := LA.out; omega), runL] at this
          exact this.symm⟩
        obtain ⟨vF4, vN4, vS4, L4, hO4⟩ := HM.out
        obtain ⟨F4, fc4, N4, nc4, S4, sc4, rfl, rfl, rfl, _⟩ := hO4.forms
        obtain ⟨x0, x1, x2, x3, x4, _, _, _, _, _⟩ := all5 hO4.blk
        have HK4x := Aside0.mk ((HBr.out.block (w.heap.size + 1) (by have := HZ0.out; omega) (by omega)).trans HK4w.out)
        obtain ⟨z0, z1, z2, z3, z4, f0, f1, f2, f3, f4⟩ := all5 HK4x.out
        have HO4 := Aside0.mk hO4
        clear hO4
        go_wp2
        refine bodyPost_ret (results_ctt rfl _ _ (w.heap.size + 1) 33 #[.int .i64 si.cap, .slice F4 si.files.length fc4, .slice N4 si.names.length nc4, .slice S4 si.safe.length sc4, .int .i64 si.next] (0, 0) _ rfl (blk5 HK4x.out) Try.underlying33 rfl (by kernel_rfl)) rfl ?_
        exact ⟨.agg #[.int .i64 si.cap, .slice F4 si.files.length fc4, .slice N4 si.names.length nc4, .slice S4 si.safe.length sc4, .int .i64 si.next], by rw [HD2.out]; rfl, by rw [HD2.out]; exact (HO4.out.rs.far5 HK4x.out _ _ _ _ _).lower (by have := HZ0.out; omega), below_set5 HBw.out (by omega) _ _ _ _ _⟩
end Go.Proofs.Ytfakfgblaakgdaa.Files

/- What a law's row hands in, read: acts, parts, truths; sizes added up (printed by wip/gen_liftg.py). -/
namespace Go.Proofs.Ytfakfgblaakgdaa.Lift
set_option linter.unusedVariables false
set_option linter.unusedSimpArgs false
open Go.ChangeShapes Go.WideShapes Go.ChangeAt Go.RowKit Go.Proofs.YtfakfgblaakgdaaW.PrintWords Go.Proofs.YtfakfgblaakgdaaW.PrintLast Go.Proofs.Ytfakfgblaakgdaa.Base Go.Proofs.Ytfakfgblaakgdaa.EditPure Go.Proofs.Ytfakfgblaakgdaa.Sets Go.Proofs.Ytfakfgblaakgdaa.Files

theorem bulk_sum {H α : Type} (mu : α → Nat) : ∀ (l : List α) (ds : List (DataW H)), l.length = ds.length → (∀ (i : Nat) (x : α), l[i]? = some x → ∃ d', ds[i]? = some d' ∧ mu x ≤ Rows.uptoBulk d') → (l.map mu).sum ≤ Rows.uptoBulkAll ds := by
  intro l
  induction l with
  | nil => intro ds _ _; simp
  | cons x l ih =>
    intro ds hl h
    cases ds with
    | nil => simp at hl
    | cons d ds =>
      obtain ⟨d', h1, h2⟩ := h 0 x rfl
      have h1' : d = d' := by simpa using h1
      subst h1'
      have h3 := ih ds (by simpa using hl) (fun i y hy => h (i + 1) y (by simpa using hy))
      rw [Rows.uptoBulkAll, List.map_cons, List.sum_cons]
      omega

theorem mem_sum {α : Type} (mu : α → Nat) : ∀ (l : List α) (x : α), x ∈ l → mu x ≤ (l.map mu).sum
  | [], _, h => by simp at h
  | a :: l, x, h => by
    rw [List.map_cons, List.sum_cons]
    rcases List.mem_cons.1 h with rfl | h
    · omega
    · have := mem_sum mu l x h; omega
theorem sum_mem (f : Fl) : ∀ l : List Fl, f ∈ l → f.data.length ≤ (l.map fun m => m.data.length).sum
  | [], h => by simp at h
  | a :: l, h => by
    rw [List.map_cons, List.sum_cons]
    rcases List.mem_cons.1 h with rfl | h
    · omega
    · have := sum_mem f l h; omega
theorem sum_used (l : List Fl) : (((l.map fun m => m.data.length).sum : Nat) : Int) = usedF l := by
  unfold usedF
  induction l with
  | nil => rfl
  | cons a l ih => rw [List.map_cons, List.map_cons, List.sum_cons, List.sum_cons, ← ih]; push_cast; rfl
set_option maxRecDepth 100000 in
set_option maxHeartbeats 1000000 in
theorem trod_file2 {H : Type} {enc : TypeId × Value → H} {W : World} {base : Nat} {spare : Nat → Bool} {held : Bool} {fuel : Nat} {cs : List Value} {d : DataW H} {p : List MemPlace}
    (h : DataW.trod enc Try.prog W base spare held fuel 106 cs = some (d, p)) : ∃ m : Fl, kFl.K W m cs ∧ (inI64 m.id ∧ inI64 m.sync) ∧ m.data.length ≤ Rows.uptoBulk d := trod_file h

set_option maxRecDepth 100000 in
set_option maxHeartbeats 1000000 in
theorem trod_files2 {H : Type} {enc : TypeId × Value → H} {W : World} {base : Nat} {spare : Nat → Bool} {held : Bool} {fuel : Nat} {v : Value} {d : DataW H} {p : List MemPlace}
    (h : DataW.trod enc Try.prog W base spare held fuel 22 [v] = some (d, p)) : ∃ A l c, v = .slice A l.length c ∧ l.length ≤ c ∧ kFl.C W A l.length l ∧ (∀ m ∈ l, inI64 m.id ∧ inI64 m.sync) ∧ l.length ≤ Rows.uptoBulk d ∧ (l.map fun (m : Fl) => m.data.length).sum ≤ Rows.uptoBulk d := by
  cases fuel with
  | zero => simp [DataW.trod] at h
  | succ fuel =>
    rcases trod_slice Try.underlying22 h with ⟨rfl, rfl⟩ | ⟨a, len, cap, elems, rest, rfl, hlc, hcm, rfl, hm⟩
    · exact ⟨none, [], 0, rfl, Nat.le_refl _, Kd.C_nil kFl W, fun m hm => by simp at hm, by simp, by simp⟩
    · have hc : Try.prog.cellsOf 106 = 3 := by kernel_rfl
      rw [hc] at hm
      obtain ⟨e1, e2⟩ := mapM_each _ _ _ hm
      rw [List.length_range] at e1
      obtain ⟨l, hl, hq⟩ := list_of len (fun i (m : Fl) => ∃ cs, (∀ j u, cs[j]? = some u → W.cell? ((a.add (i * 3)).add j) = some u) ∧ kFl.K W m cs ∧ (inI64 m.id ∧ inI64 m.sync) ∧ ∃ d', (elems.map (·.1))[i]? = some d' ∧ m.data.length ≤ Rows.uptoBulk d') (fun i hi => by
        obtain ⟨y, h1, hy⟩ := e2 i i (by rw [List.getElem?_range hi])
        obtain ⟨cs, h3, h4⟩ := Option.bind_eq_some_iff.1 h1
        obtain ⟨d', p'⟩ := y
        obtain ⟨m, hK, h6, h9⟩ := trod_file h4
        obtain ⟨_, _, h7⟩ := World.cells?_some h3
        have h8 := kFl.K_len hK
        exact ⟨m, cs, fun j u hu => by
          have hj : j < 3 := by have := (List.getElem?_eq_some_iff.1 hu).1; rw [h8] at this; exact this
          rw [h7 j hj, hu], hK, h6, d', by rw [List.getElem?_map, hy]; rfl, h9⟩)
      subst hl
      refine ⟨some a, l, cap, rfl, hlc, ?_, fun m hm => ?_, ?_, ?_⟩
      · have hm63 : l.length ≤ 9223372036854775807 := by have : maxLen = 9223372036854775807 := rfl; omega
        exact ⟨rfl, hm63, fun _ => ⟨a, rfl, fun j p hj => by
          obtain ⟨cs, q1, q2, _⟩ := hq j p hj
          exact ⟨cs, kFl.K_len q2, q2, fun i u hu => by
            show W.cell? (a.add (j * 3 + i)) = some u
            rw [← add_add]; exact q1 i u hu⟩⟩⟩
      · obtain ⟨i, hi⟩ := List.mem_iff_getElem?.1 hm
        obtain ⟨cs, _, _, h1, _⟩ := hq i m hi
        exact h1
      · rw [Rows.uptoBulk]
        have := bulk_len (elems.map (·.1))
        rw [List.length_map, e1] at this
        omega
      · rw [Rows.uptoBulk]
        have := bulk_sum (fun (m : Fl) => m.data.length) l (elems.map (·.1)) (by rw [List.length_map]; omega) (fun i x hx => by
          obtain ⟨cs, _, _, _, h2⟩ := hq i x hx
          exact h2)
        omega

set_option maxRecDepth 100000 in
set_option maxHeartbeats 1000000 in
/-- files that are handed in, their octets added up -/
theorem trod_state2 {H : Type} {enc : TypeId × Value → H} {W : World} {base : Nat} {spare : Nat → Bool} {held : Bool} {fuel : Nat} {v : Value} {d : DataW H} {p : List MemPlace} (hv : ∃ cs, v = .agg cs)
    (h : DataW.trod enc Try.prog W base spare held fuel 25 v.cells.toList = some (d, p)) : ∃ (s : St) (F N S : Option Addr) (fc nc sc : Nat), v = .agg #[.int .i64 s.cap, .slice F s.files.length fc, .slice N s.names.length nc, .slice S s.safe.length sc, .int .i64 s.next] ∧ Hd W s F fc N nc S sc ∧ Wf s ∧ (inI64 s.cap ∧ inI64 s.next ∧ ∀ f ∈ s.files, inI64 f.id ∧ inI64 f.sync) ∧ usedF s.files ≤ Rows.uptoBulk d ∧ (Rows.uptoBulk d ≤ 1048576 → Small s ∧ s.files.length + s.names.length + s.safe.length ≤ 1048576) := by
  obtain ⟨ca, rfl⟩ := hv
  have hcs : (Value.agg ca).cells.toList = ca.toList := rfl
  rw [hcs] at h
  obtain ⟨cs, hcc⟩ : ∃ cs, ca.toList = cs := ⟨_, rfl⟩
  rw [hcc] at h
  cases fuel with
  | zero => simp [DataW.trod] at h
  | succ fuel =>
    unfold DataW.trod at h
    rw [Try.underlying25] at h
    have hc : Try.prog.cellsOf 25 = 5 := by kernel_rfl
    have hqfiles : Try.prog.cellsOf 22 = 1 := by kernel_rfl
    have hqint : Try.prog.cellsOf 3 = 1 := by kernel_rfl
    have hqnames : Try.prog.cellsOf 23 = 1 := by kernel_rfl
    simp only [hc] at h
    by_cases hl : cs.length = 5
    · rw [if_pos hl] at h
      obtain ⟨v0, v1, v2, v3, v4, rfl⟩ : ∃ v0 v1 v2 v3 v4, cs = [v0, v1, v2, v3, v4] := by
        rcases cs with _ | ⟨v0, _ | ⟨v1, _ | ⟨v2, _ | ⟨v3, _ | ⟨v4, _ | ⟨v5, r⟩⟩⟩⟩⟩⟩ <;> simp at hl
        exact ⟨v0, v1, v2, v3, v4, rfl⟩
      obtain ⟨xs, h1, h2⟩ := Option.map_eq_some_iff.1 h
      obtain ⟨e1, e2⟩ := mapM_each _ _ _ h1
      obtain ⟨y0, f0, g0⟩ := e2 0 _ rfl
      obtain ⟨y1, f1, g1⟩ := e2 1 _ rfl
      obtain ⟨y2, f2, g2⟩ := e2 2 _ rfl
      obtain ⟨y3, f3, g3⟩ := e2 3 _ rfl
      obtain ⟨y4, f4, g4⟩ := e2 4 _ rfl
      simp only [hqfiles, hqint, hqnames, List.drop_zero, List.drop_succ_cons, List.take_succ_cons, List.take_zero] at f0 f1 f2 f3 f4
      obtain ⟨d0, p0⟩ := y0
      obtain ⟨d1, p1⟩ := y1
      obtain ⟨d2, p2⟩ := y2
      obtain ⟨d3, p3⟩ := y3
      obtain ⟨d4, p4⟩ := y4
      obtain ⟨n0, rfl, rfl, w0⟩ := trod_int Try.underlying3 f0
      obtain ⟨A1, x1, c1, rfl, l1, r1, k1, b1, u1⟩ := trod_files2 f1
      obtain ⟨A2, x2, c2, rfl, l2, r2, k2, b2⟩ := trod_names f2
      obtain ⟨A3, x3, c3, rfl, l3, r3, k3, b3⟩ := trod_names f3
      obtain ⟨n4, rfl, rfl, w4⟩ := trod_int Try.underlying3 f4
      have hx : xs = [(.lit (.int .i64 n0), p0), (d1, p1), (d2, p2), (d3, p3), (.lit (.int .i64 n4), p4)] := by
        have e1' : xs.length = 5 := e1
        apply List.ext_getElem?
        intro i
        rcases i with _ | _ | _ | _ | _ | i
        · rw [g0]; rfl
        · rw [g1]; rfl
        · rw [g2]; rfl
        · rw [g3]; rfl
        · rw [g4]; rfl
        · rw [List.getElem?_eq_none (by omega)]; simp
      rw [hx] at h2
      have hd := (Prod.mk.inj h2).1
      subst hd
      have hus : usedF x1 ≤ Rows.uptoBulk d1 := by
        have h1 := sum_used x1
        omega
      refine ⟨⟨n0, x1, x2, x3, n4⟩, A1, A2, A3, c1, c2, c3, ?_, ⟨r1, r2, r3, l1, l2, l3⟩, ⟨fun n hn => (k2 n hn).1, fun n hn => (k3 n hn).1⟩, ⟨inI64_of_wf w0, inI64_of_wf w4, fun f hf => k1 f hf⟩, ?_, fun hb => ?_⟩
      · congr 1
        exact Array.toList_inj.1 hcc
      · simp only [Rows.uptoBulk, Rows.uptoBulkAll, List.map_cons, List.map_nil]
        show usedF x1 ≤ _
        push_cast
        omega
      · simp only [Rows.uptoBulk, Rows.uptoBulkAll, List.map_cons, List.map_nil] at hb
        refine ⟨⟨by show x1.length ≤ _; omega, by show x2.length ≤ _; omega, by show x3.length ≤ _; omega, fun f hf => ?_⟩, by show x1.length + x2.length + x3.length ≤ _; omega⟩
        have h3 : f.data.length ≤ (x1.map fun m => m.data.length).sum := sum_mem f x1 hf
        omega
    · rw [if_neg hl] at h; cases h

set_option maxRecDepth 100000 in
set_option maxHeartbeats 1000000 in
theorem trod_act {H : Type} {enc : TypeId × Value → H} {W : World} {base : Nat} {spare : Nat → Bool} {held : Bool} {fuel : Nat} {cs : List Value} {d : DataW H} {p : List MemPlace}
    (h : DataW.trod enc Try.prog W base spare held fuel 64 cs = some (d, p)) : ∃ m : Ac, kAc.K W m cs ∧ inI64 m.what ∧ m.data.length ≤ Rows.uptoBulk d := by
  cases fuel with
  | zero => simp [DataW.trod] at h
  | succ fuel =>
    unfold DataW.trod at h
    rw [Try.underlying64] at h
    have hc : Try.prog.cellsOf 64 = 4 := by kernel_rfl
    have hqint : Try.prog.cellsOf 3 = 1 := by kernel_rfl
    have hqoct : Try.prog.cellsOf 62 = 1 := by kernel_rfl
    have hqstr : Try.prog.cellsOf 9 = 1 := by kernel_rfl
    simp only [hc] at h
    by_cases hl : cs.length = 4
    · rw [if_pos hl] at h
      obtain ⟨v0, v1, v2, v3, rfl⟩ : ∃ v0 v1 v2 v3, cs = [v0, v1, v2, v3] := by
        rcases cs with _ | ⟨v0, _ | ⟨v1, _ | ⟨v2, _ | ⟨v3, _ | ⟨v4, r⟩⟩⟩⟩⟩ <;> simp at hl
        exact ⟨v0, v1, v2, v3, rfl⟩
      obtain ⟨xs, h1, h2⟩ := Option.map_eq_some_iff.1 h
      obtain ⟨e1, e2⟩ := mapM_each _ _ _ h1
      obtain ⟨y0, f0, g0⟩ := e2 0 _ rfl
      obtain ⟨y1, f1, g1⟩ := e2 1 _ rfl
      obtain ⟨y2, f2, g2⟩ := e2 2 _ rfl
      obtain ⟨y3, f3, g3⟩ := e2 3 _ rfl
      simp only [hqint, hqoct, hqstr, List.drop_zero, List.drop_succ_cons, List.take_succ_cons, List.take_zero] at f0 f1 f2 f3
      obtain ⟨d0, p0⟩ := y0
      obtain ⟨d1, p1⟩ := y1
      obtain ⟨d2, p2⟩ := y2
      obtain ⟨d3, p3⟩ := y3
      obtain ⟨n0, rfl, rfl, w0⟩ := trod_int Try.underlying3 f0
      obtain ⟨s1, rfl, rfl⟩ := trod_str Try.underlying9 f1
      obtain ⟨s2, rfl, rfl⟩ := trod_str Try.underlying9 f2
      obtain ⟨A3, x3, c3, rfl, l3, r3, b3, o3⟩ := trod_oct f3
      have hx : xs = [(.lit (.int .i64 n0), p0), (.lit (.string s1.data.toList), p1), (.lit (.string s2.data.toList), p2), (d3, p3)] := by
        have e1' : xs.length = 4 := e1
        apply List.ext_getElem?
        intro i
        rcases i with _ | _ | _ | _ | i
        · rw [g0]; rfl
        · rw [g1]; rfl
        · rw [g2]; rfl
        · rw [g3]; rfl
        · rw [List.getElem?_eq_none (by omega)]; simp
      rw [hx] at h2
      have hd := (Prod.mk.inj h2).1
      subst hd
      refine ⟨⟨n0, s1, s2, x3⟩, kAc_mk l3 r3, inI64_of_wf w0, ?_⟩
      simp only [Rows.uptoBulk, Rows.uptoBulkAll, List.map_cons, List.map_nil]
      omega
    · rw [if_neg hl] at h; cases h

/-- an act that is handed in -/
theorem trod_actv {H : Type} {enc : TypeId × Value → H} {W : World} {base : Nat} {spare : Nat → Bool} {held : Bool} {fuel : Nat} {v : Value} {d : DataW H} {p : List MemPlace} (hv : ∃ cs, v = .agg cs)
    (h : DataW.trod enc Try.prog W base spare held fuel 64 v.cells.toList = some (d, p)) : ∃ (m : Ac) (D : Option Addr) (dc : Nat), v = acV m D dc ∧ ReadsInt W .u8 D m.data.length m.data ∧ inI64 m.what ∧ m.data.length ≤ Rows.uptoBulk d := by
  obtain ⟨ca, rfl⟩ := hv
  obtain ⟨m, hK, h1, h2⟩ := trod_act h
  obtain ⟨D, c, he, _, hr⟩ := kAc_open hK
  refine ⟨m, D, c, ?_, hr, h1, h2⟩
  unfold acV
  congr 1
  exact Array.toList_inj.1 he

set_option maxRecDepth 100000 in
set_option maxHeartbeats 1000000 in
theorem trod_acts {H : Type} {enc : TypeId × Value → H} {W : World} {base : Nat} {spare : Nat → Bool} {held : Bool} {fuel : Nat} {v : Value} {d : DataW H} {p : List MemPlace}
    (h : DataW.trod enc Try.prog W base spare held fuel 50 [v] = some (d, p)) : ∃ A l c, v = .slice A l.length c ∧ l.length ≤ c ∧ kAc.C W A l.length l ∧ (∀ m ∈ l, inI64 m.what) ∧ l.length ≤ Rows.uptoBulk d ∧ (l.map fun (m : Ac) => m.data.length).sum ≤ Rows.uptoBulk d := by
  cases fuel with
  | zero => simp [DataW.trod] at h
  | succ fuel =>
    rcases trod_slice Try.underlying50 h with ⟨rfl, rfl⟩ | ⟨a, len, cap, elems, rest, rfl, hlc, hcm, rfl, hm⟩
    · exact ⟨none, [], 0, rfl, Nat.le_refl _, Kd.C_nil kAc W, fun m hm => by simp at hm, by simp, by simp⟩
    · have hc : Try.prog.cellsOf 64 = 4 := by kernel_rfl
      rw [hc] at hm
      obtain ⟨e1, e2⟩ := mapM_each _ _ _ hm
      rw [List.length_range] at e1
      obtain ⟨l, hl, hq⟩ := list_of len (fun i (m : Ac) => ∃ cs, (∀ j u, cs[j]? = some u → W.cell? ((a.add (i * 4)).add j) = some u) ∧ kAc.K W m cs ∧ (inI64 m.what) ∧ ∃ d', (elems.map (·.1))[i]? = some d' ∧ m.data.length ≤ Rows.uptoBulk d') (fun i hi => by
        obtain ⟨y, h1, hy⟩ := e2 i i (by rw [List.getElem?_range hi])
        obtain ⟨cs, h3, h4⟩ := Option.bind_eq_some_iff.1 h1
        obtain ⟨d', p'⟩ := y
        obtain ⟨m, hK, h6, h9⟩ := trod_act h4
        obtain ⟨_, _, h7⟩ := World.cells?_some h3
        have h8 := kAc.K_len hK
        exact ⟨m, cs, fun j u hu => by
          have hj : j < 4 := by have := (List.getElem?_eq_some_iff.1 hu).1; rw [h8] at this; exact this
          rw [h7 j hj, hu], hK, h6, d', by rw [List.getElem?_map, hy]; rfl, h9⟩)
      subst hl
      refine ⟨some a, l, cap, rfl, hlc, ?_, fun m hm => ?_, ?_, ?_⟩
      · have hm63 : l.length ≤ 9223372036854775807 := by have : maxLen = 9223372036854775807 := rfl; omega
        exact ⟨rfl, hm63, fun _ => ⟨a, rfl, fun j p hj => by
          obtain ⟨cs, q1, q2, _⟩ := hq j p hj
          exact ⟨cs, kAc.K_len q2, q2, fun i u hu => by
            show W.cell? (a.add (j * 4 + i)) = some u
            rw [← add_add]; exact q1 i u hu⟩⟩⟩
      · obtain ⟨i, hi⟩ := List.mem_iff_getElem?.1 hm
        obtain ⟨cs, _, _, h1, _⟩ := hq i m hi
        exact h1
      · rw [Rows.uptoBulk]
        have := bulk_len (elems.map (·.1))
        rw [List.length_map, e1] at this
        omega
      · rw [Rows.uptoBulk]
        have := bulk_sum (fun (m : Ac) => m.data.length) l (elems.map (·.1)) (by rw [List.length_map]; omega) (fun i x hx => by
          obtain ⟨cs, _, _, _, h2⟩ := hq i x hx
          exact h2)
        omega

theorem trod_part {H : Type} {enc : TypeId × Value → H} {W : World} {base : Nat} {spare : Nat → Bool} {held : Bool} {fuel : Nat} {cs : List Value} {d : DataW H} {p : List MemPlace} (hc : cs.length = 1)
    (h : DataW.trod enc Try.prog W base spare held fuel 62 cs = some (d, p)) : ∃ m : List Int, kOct.K W m cs ∧ True ∧ m.length ≤ Rows.uptoBulk d := by
  obtain ⟨v, rfl⟩ := List.length_eq_one_iff.1 hc
  obtain ⟨A, l, c, rfl, hl, hr, hb, _⟩ := trod_oct h
  exact ⟨l, ⟨A, c, rfl, hl, Kd.C_of_reads (d := (0 : Int)) hr⟩, trivial, hb⟩

set_option maxRecDepth 100000 in
set_option maxHeartbeats 1000000 in
theorem trod_parts {H : Type} {enc : TypeId × Value → H} {W : World} {base : Nat} {spare : Nat → Bool} {held : Bool} {fuel : Nat} {v : Value} {d : DataW H} {p : List MemPlace}
    (h : DataW.trod enc Try.prog W base spare held fuel 57 [v] = some (d, p)) : ∃ A l c, v = .slice A l.length c ∧ l.length ≤ c ∧ kOct.C W A l.length l ∧ (∀ m ∈ l, True) ∧ l.length ≤ Rows.uptoBulk d ∧ (l.map fun (m : (List Int)) => m.length).sum ≤ Rows.uptoBulk d := by
  cases fuel with
  | zero => simp [DataW.trod] at h
  | succ fuel =>
    rcases trod_slice Try.underlying57 h with ⟨rfl, rfl⟩ | ⟨a, len, cap, elems, rest, rfl, hlc, hcm, rfl, hm⟩
    · exact ⟨none, [], 0, rfl, Nat.le_refl _, Kd.C_nil kOct W, fun m hm => by simp at hm, by simp, by simp⟩
    · have hc : Try.prog.cellsOf 62 = 1 := by kernel_rfl
      rw [hc] at hm
      obtain ⟨e1, e2⟩ := mapM_each _ _ _ hm
      rw [List.length_range] at e1
      obtain ⟨l, hl, hq⟩ := list_of len (fun i (m : (List Int)) => ∃ cs, (∀ j u, cs[j]? = some u → W.cell? ((a.add (i * 1)).add j) = some u) ∧ kOct.K W m cs ∧ (True) ∧ ∃ d', (elems.map (·.1))[i]? = some d' ∧ m.length ≤ Rows.uptoBulk d') (fun i hi => by
        obtain ⟨y, h1, hy⟩ := e2 i i (by rw [List.getElem?_range hi])
        obtain ⟨cs, h3, h4⟩ := Option.bind_eq_some_iff.1 h1
        obtain ⟨d', p'⟩ := y
        obtain ⟨m, hK, h6, h9⟩ := trod_part (World.cells?_some h3).2.1 h4
        obtain ⟨_, _, h7⟩ := World.cells?_some h3
        have h8 := kOct.K_len hK
        exact ⟨m, cs, fun j u hu => by
          have hj : j < 1 := by have := (List.getElem?_eq_some_iff.1 hu).1; rw [h8] at this; exact this
          rw [h7 j hj, hu], hK, h6, d', by rw [List.getElem?_map, hy]; rfl, h9⟩)
      subst hl
      refine ⟨some a, l, cap, rfl, hlc, ?_, fun m hm => ?_, ?_, ?_⟩
      · have hm63 : l.length ≤ 9223372036854775807 := by have : maxLen = 9223372036854775807 := rfl; omega
        exact ⟨rfl, hm63, fun _ => ⟨a, rfl, fun j p hj => by
          obtain ⟨cs, q1, q2, _⟩ := hq j p hj
          exact ⟨cs, kOct.K_len q2, q2, fun i u hu => by
            show W.cell? (a.add (j * 1 + i)) = some u
            rw [← add_add]; exact q1 i u hu⟩⟩⟩
      · obtain ⟨i, hi⟩ := List.mem_iff_getElem?.1 hm
        obtain ⟨cs, _, _, h1, _⟩ := hq i m hi
        exact h1
      · rw [Rows.uptoBulk]
        have := bulk_len (elems.map (·.1))
        rw [List.length_map, e1] at this
        omega
      · rw [Rows.uptoBulk]
        have := bulk_sum (fun (m : (List Int)) => m.length) l (elems.map (·.1)) (by rw [List.length_map]; omega) (fun i x hx => by
          obtain ⟨cs, _, _, _, h2⟩ := hq i x hx
          exact h2)
        omega

theorem trod_bool {H : Type} {enc : TypeId × Value → H} {W : World} {base : Nat} {spare : Nat → Bool} {held : Bool} {fuel : Nat} {t : TypeId} (hu : Try.prog.underlying t = some .bool) {v : Value} {d : DataW H} {p : List MemPlace} (h : DataW.trod enc Try.prog W base spare held fuel t [v] = some (d, p)) : ∃ b, v = .bool b ∧ d = .lit (.bool b) := by
  cases fuel with
  | zero => simp [DataW.trod] at h
  | succ fuel =>
    unfold DataW.trod at h
    rw [hu] at h
    cases v <;> simp at h
    rename_i b
    exact ⟨b, rfl, h.1.symm⟩

set_option maxRecDepth 100000 in
theorem trod_bools {H : Type} {enc : TypeId × Value → H} {W : World} {base : Nat} {spare : Nat → Bool} {held : Bool} {fuel : Nat} {v : Value} {d : DataW H} {p : List MemPlace}
    (h : DataW.trod enc Try.prog W base spare held fuel 58 [v] = some (d, p)) : ∃ A l c, v = .slice A l.length c ∧ ReadsOf Value.bool false W A l.length l ∧ l.length ≤ Rows.uptoBulk d := by
  cases fuel with
  | zero => simp [DataW.trod] at h
  | succ fuel =>
    rcases trod_slice Try.underlying58 h with ⟨rfl, rfl⟩ | ⟨a, len, cap, elems, rest, rfl, hlc, hcm, rfl, hm⟩
    · exact ⟨none, [], 0, rfl, ReadsOf.nil _ _ _, by simp⟩
    · have hc : Try.prog.cellsOf 4 = 1 := by kernel_rfl
      rw [hc] at hm
      obtain ⟨e1, e2⟩ := mapM_each _ _ _ hm
      rw [List.length_range] at e1
      obtain ⟨l, hl, hq⟩ := list_of len (fun i (n : Bool) => W.cell? (a.add i) = some (.bool n)) (fun i hi => by
        obtain ⟨y, h1, h2⟩ := e2 i i (by rw [List.getElem?_range hi])
        obtain ⟨cs, h3, h4⟩ := Option.bind_eq_some_iff.1 h1
        obtain ⟨_, h6, h7⟩ := World.cells?_some h3
        obtain ⟨v, rfl⟩ : ∃ v, cs = [v] := List.length_eq_one_iff.1 h6
        obtain ⟨d', p'⟩ := y
        obtain ⟨n, rfl, _⟩ := trod_bool Try.underlying4 h4
        refine ⟨n, ?_⟩
        have := h7 0 (by omega)
        rw [add_add, Nat.mul_one] at this
        simpa using this)
      subst hl
      refine ⟨some a, l, cap, rfl, ⟨rfl, by have : maxLen = 9223372036854775807 := rfl; omega, fun _ => ⟨a, rfl, fun j hj => ?_⟩⟩, ?_⟩
      · have hj2 : l[j]? = some (l.getD j false) := by rw [List.getD_eq_getElem?_getD, List.getElem?_eq_getElem hj]; rfl
        exact hq j _ hj2
      · rw [Rows.uptoBulk]
        have := bulk_len (elems.map (·.1))
        rw [List.length_map, e1] at this
        omega
end Go.Proofs.Ytfakfgblaakgdaa.Lift

/- What a law's row hands in, read: an edit of chapter 11. -/
namespace Go.Proofs.Ytfakfgblaakgdaa.Lift
set_option linter.unusedVariables false
set_option linter.unusedSimpArgs false
open Go.ChangeShapes Go.WideShapes Go.ChangeAt Go.RowKit Go.Proofs.YtfakfgblaakgdaaW.PrintWords Go.Proofs.YtfakfgblaakgdaaW.PrintLast Go.Proofs.Ytfakfgblaakgdaa.Base Go.Proofs.Ytfakfgblaakgdaa.EditPure Go.Proofs.Ytfakfgblaakgdaa.Sets

set_option maxRecDepth 100000 in
theorem trod_ints {H : Type} {enc : TypeId × Value → H} {W : World} {base : Nat} {spare : Nat → Bool} {held : Bool} {fuel : Nat} {v : Value} {d : DataW H} {p : List MemPlace}
    (h : DataW.trod enc Try.prog W base spare held fuel 69 [v] = some (d, p)) : ∃ A l c, v = .slice A l.length c ∧ l.length ≤ c ∧ ReadsInt W .i64 A l.length l ∧ (∀ m ∈ l, inI64 m) ∧ l.length ≤ Rows.uptoBulk d := by
  cases fuel with
  | zero => simp [DataW.trod] at h
  | succ fuel =>
    rcases trod_slice Try.underlying69 h with ⟨rfl, rfl⟩ | ⟨a, len, cap, elems, rest, rfl, hlc, hcm, rfl, hm⟩
    · exact ⟨none, [], 0, rfl, Nat.le_refl _, ReadsInt.nil _ _, fun m hm => by simp at hm, by simp⟩
    · have hc : Try.prog.cellsOf 3 = 1 := by kernel_rfl
      rw [hc] at hm
      obtain ⟨e1, e2⟩ := mapM_each _ _ _ hm
      rw [List.length_range] at e1
      obtain ⟨l, hl, hq⟩ := list_of len (fun i (n : Int) => W.cell? (a.add i) = some (.int .i64 n) ∧ inI64 n) (fun i hi => by
        obtain ⟨y, h1, h2⟩ := e2 i i (by rw [List.getElem?_range hi])
        obtain ⟨cs, h3, h4⟩ := Option.bind_eq_some_iff.1 h1
        obtain ⟨_, h6, h7⟩ := World.cells?_some h3
        obtain ⟨v, rfl⟩ : ∃ v, cs = [v] := List.length_eq_one_iff.1 h6
        obtain ⟨d', p'⟩ := y
        obtain ⟨n, rfl, _, h5⟩ := trod_int Try.underlying3 h4
        refine ⟨n, ?_, inI64_of_wf h5⟩
        have := h7 0 (by omega)
        rw [add_add, Nat.mul_one] at this
        simpa using this)
      subst hl
      refine ⟨some a, l, cap, rfl, hlc, ⟨rfl, by have : maxLen = 9223372036854775807 := rfl; omega, fun _ => ⟨a, rfl, fun j hj => ?_⟩⟩, fun m hm => ?_, ?_⟩
      · have hj2 : l[j]? = some (l.getD j 0) := by rw [List.getD_eq_getElem?_getD, List.getElem?_eq_getElem hj]; rfl
        exact (hq j _ hj2).1
      · obtain ⟨i, hi⟩ := List.mem_iff_getElem?.1 hm
        exact (hq i m hi).2
      · rw [Rows.uptoBulk]
        have := bulk_len (elems.map (·.1))
        rw [List.length_map, e1] at this
        omega

end Go.Proofs.Ytfakfgblaakgdaa.Lift

/- files.Read: walked. -/
namespace Go.Proofs.Ytfakfgblaakgdaa.Files
set_option linter.unusedVariables false
set_option linter.unusedSimpArgs false
open Go.RowKit Go.Proofs.YtfakfgblaakgdaaW.PrintWords Go.Proofs.YtfakfgblaakgdaaW.PrintLast Go.Proofs.Ytfakfgblaakgdaa.Base Go.Proofs.Ytfakfgblaakgdaa.Cells Go.Proofs.Ytfakfgblaakgdaa.Ints Go.Proofs.Ytfakfgblaakgdaa.Var Go.Proofs.Ytfakfgblaakgdaa.EditPure Go.Proofs.Ytfakfgblaakgdaa.Edit Go.Proofs.Ytfakfgblaakgdaa.Sets Go.Proofs.Ytfakfgblaakgdaa.Wide Go.Proofs.Ytfakfgblaakgdaa.RowsC

def dataOf (s : St) (id : Int) : List Int := match s.files.find? (fun f => f.id == id) with | some f => f.data | none => []
def readP (s : St) (q : ByteArray) : List Int × Int :=
  if stB s = false then ([], 9) else match findN s.names q with | none => ([], 71) | some n => (dataOf s n.id, 0)
theorem dataOf_at {s : St} {id : Int} {k : Nat} {f : Fl} (ha : Asc s.files) (hk : s.files[k]? = some f) (hf : f.id = id) : dataOf s id = f.data := by
  unfold dataOf
  obtain ⟨hl, he⟩ := List.getElem?_eq_some_iff.1 hk
  have h0 : s.files.find? (fun f => f.id == id) = some f := by
    rw [List.find?_eq_some_iff_getElem]
    refine ⟨by simp [hf], k, hl, he, fun j hj => ?_⟩
    have := List.pairwise_iff_getElem.1 ha j k (by omega) hl hj
    rw [he] at this
    have hne : (s.files[j]).id ≠ id := by omega
    simp [hne]
  rw [h0]

set_option maxRecDepth 100000 in
set_option maxHeartbeats 8000000 in
theorem read_any (s : St) (q : ByteArray) (F N S : Option Addr) (fc nc sc : Nat) (w : World) (h : Hd w s F fc N nc S sc) (hs : Small s) (hw : Wf s) :
    Calls Try.prog 24 #[.agg #[.int .i64 s.cap, .slice F s.files.length fc, .slice N s.names.length nc, .slice S s.safe.length sc, .int .i64 s.next], .string q] w fun e w' => ∃ v, e = .returned (.tuple #[v, .int .i64 (readP s q).2]) ∧ RB w' w.heap.size v (readP s q).1 ∧ Below w.heap.size w w' := by
  have HH := Aside0.mk h
  have HS := Aside0.mk hs
  have HW := Aside0.mk hw
  obtain ⟨dp, hdp⟩ := named (readP s q)
  rw [← hdp.out]
  obtain ⟨lf, hlf⟩ : ∃ n, s.files.length = n := ⟨_, rfl⟩
  obtain ⟨ln, hln⟩ : ∃ n, s.names.length = n := ⟨_, rfl⟩
  obtain ⟨ls, hls⟩ : ∃ n, s.safe.length = n := ⟨_, rfl⟩
  have LF := Aside0.mk hlf
  have LN := Aside0.mk hln
  have LS := Aside0.mk hls
  rw [hlf, hln, hls]
  have CCheck : Aside0 (∀ W, Below w.heap.size w W → Calls Try.prog 28 #[.agg #[.int .i64 s.cap, .slice F lf fc, .slice N ln nc, .slice S ls sc, .int .i64 s.next]] W fun e w' => e = .returned (.int .i64 (stE s)) ∧ Below W.heap.size W w') := ⟨fun W hW => by
    have := check_any s F N S fc nc sc W (HH.out.below hW) HS.out HW.out
    rw [hlf, hln, hls] at this
    exact this⟩
  clear h hs hw hlf hln hls
  go_enter Try.func24, Try.ntmps24
  go_upto_region 1 with (fail)
  obtain ⟨W0, hW0⟩ : ∃ W, W = w.alloc (.cells #[.int .i64 s.cap, .slice F lf fc, .slice N ln nc, .slice S ls sc, .int .i64 s.next] 33) := ⟨_, rfl⟩
  have hk2 : W0.heap[w.heap.size]? = some (.cells #[.int .i64 s.cap, .slice F lf fc, .slice N ln nc, .slice S ls sc, .int .i64 s.next] 33 (0, 0)) := by rw [hW0]; exact blk_new _ _
  have HB0 : Aside0 (Below w.heap.size w W0) := ⟨by rw [hW0]; exact below_alloc (Below.refl _ _) _⟩
  rw [← hW0]
  clear hW0
  have HK2 := Aside0.mk hk2
  obtain ⟨x0, x1, x2, x3, x4, _, _, _, _, _⟩ := all5 hk2
  clear hk2
  go_wp2_with fail
  refine (CCheck.out _ HB0.out).mono ?_
  obtain ⟨E, hE⟩ := named (stE s)
  rw [← hE.out]
  rintro e w1 ⟨rfl, hb1⟩
  have HB01 := Aside0.mk (bthen HB0.out hb1)
  have HK2' := Aside0.mk (blk_keep HK2.out hb1)
  clear hb1 x0 x1 x2 x3 x4
  cases hst : stB s with
  | false =>
    have HE : Aside0 (E = 9) := ⟨by rw [hE.out, stE, hst]; rfl⟩
    have HDP : Aside0 (dp = ([], 9)) := ⟨by rw [hdp.out, readP, if_pos hst]⟩
    rw [HE.out]
    clear hst
    go_upto_region 3 with (fail)
    go_wp2
    refine bodyPost_ret (results_tmp2 rfl _ _ _) rfl ?_
    exact ⟨.slice none 0 0, by rw [HDP.out]; rfl, by rw [HDP.out]; exact own_nil _ _ _ _, HB01.out⟩
  | true =>
    have HE : Aside0 (E = 0) := ⟨by rw [hE.out, stE, hst]; rfl⟩
    have HST : Aside0 (Good s) := ⟨stB_iff.1 hst⟩
    have HNF : Aside0 (stB s = true) := ⟨hst⟩
    rw [HE.out]
    obtain ⟨x0, x1, x2, x3, x4, _, _, _, _, _⟩ := all5 HK2'.out
    clear hst
    go_upto_region 4 with (fail)
    go_wp2_with fail
    obtain ⟨has, hhas⟩ := named (hasN s.names q)
    have CC : Aside0 (Calls Try.prog 49 #[.slice N ln nc, .string q] w1 fun e w' => ∃ r : Int, e = .returned (.tuple #[.int .i64 r, .bool has]) ∧ 0 ≤ r ∧ PlaceN s.names q r.toNat ∧ Below w1.heap.size w1 w') := ⟨by
      have := find_any N nc s.names q w1 (Kd.C_below HH.out.hN HB01.out) HS.out.ln HST.out.nm.asc
      rw [LN.out, ← hhas.out] at this
      exact this.mono fun e w' ⟨⟨r, h1, h2, h3⟩, h4⟩ => ⟨r, h1, h2, h3, h4⟩⟩
    refine CC.out.mono ?_
    rintro e w5 ⟨r, rfl, hr0, hP5, hB5⟩
    have HBw := Aside0.mk (bthen HB01.out hB5)
    have HK5 := Aside0.mk (blk_keep HK2'.out hB5)
    have hh := hasN_place HST.out.nm.asc hP5
    rw [← hhas.out] at hh
    have HP5 := Aside0.mk hP5
    clear CC hP5 hB5 x0 x1 x2 x3 x4
    cases hv : has with
    | false =>
      have HDP : Aside0 (dp = ([], 71)) := ⟨by rw [hdp.out, readP, if_neg (by rw [HNF.out]; decide), findN_none (by rw [← hhas.out]; exact hv)]⟩
      clear hv hh
      go_wp2
      refine bodyPost_ret (results_tmp2 rfl _ _ _) rfl ?_
      exact ⟨.slice none 0 0, by rw [HDP.out]; rfl, by rw [HDP.out]; exact own_nil _ _ _ _, HBw.out⟩
    | true =>
      rw [hv] at hh
      obtain ⟨y, hy⟩ : ∃ y, s.names[r.toNat]? = some y := by
        cases hq : s.names[r.toNat]? with
        | none => rw [hq] at hh; simp at hh
        | some y => exact ⟨y, rfl⟩
      rw [hy] at hh
      have hyn : y.name = q := sameB_iff.1 hh.symm
      have hrl := (List.getElem?_eq_some_iff.1 hy).1
      have hrl' : r < ln := by rw [LN.out] at hrl; omega
      have hln2 : ln ≤ 1048576 := by have := HS.out.ln; rw [LN.out] at this; exact this
      obtain ⟨ad, hNs, c0, c1⟩ := atNm (Kd.C_below HH.out.hN HBw.out) r.toNat y hy
      subst hNs
      obtain ⟨k, f, hk, hfi⟩ := find_id HST.out.pre (List.mem_of_getElem? hy)
      have HDP : Aside0 (dp = (f.data, 0)) := ⟨by rw [hdp.out, readP, if_neg (by rw [HNF.out]; decide), findN_at HST.out.nm.asc HP5.out hy hyn]; show (dataOf s y.id, (0 : Int)) = _; rw [dataOf_at HST.out.fl.asc hk hfi]⟩
      obtain ⟨k', f', hk', hfi', hpl⟩ := fileP_at (F := F) (HST.out.nm.each y (List.mem_of_getElem? hy)).2
      have hdat : f'.data = f.data := by rw [← dataOf_at HST.out.fl.asc hk hfi, ← dataOf_at HST.out.fl.asc hk' hfi']
      obtain ⟨adF, D, dc, hFs, d0, d1, d2, hdl, hrd⟩ := atFl (Kd.C_below HH.out.hF HBw.out) k' f' hk'
      subst hFs
      obtain ⟨yid, hyid⟩ : ∃ n, y.id = n := ⟨_, rfl⟩
      rw [hyid] at c1 hpl
      obtain ⟨ld, hld⟩ : ∃ n, f'.data.length = n := ⟨_, rfl⟩
      have HLD : Aside0 (ld ≤ 1048576) := ⟨by rw [← hld]; exact HS.out.ld f' (List.mem_of_getElem? hk')⟩
      rw [hld] at d1
      have CF : Aside0 (Calls Try.prog 51 #[.pointer (some ⟨w.heap.size, 0, none⟩), .int .i64 yid] w5 fun e w' => e = .returned (.pointer (some (adF.add (k' * 3)))) ∧ Below w5.heap.size w5 w') := ⟨by
        have hc1 := (all5 HK5.out).2.1
        have := file_any w.heap.size (some adF) fc s.files yid w5 (by rw [LF.out]; exact hc1) (Kd.C_below HH.out.hF HBw.out) HS.out.lf HST.out.fl.asc
        rw [hpl] at this
        exact this⟩
      have HRD := Aside0.mk hrd
      have HLd := Aside0.mk hld
      have HDt := Aside0.mk hdat
      have e1 : w5.cell? ⟨(adF.add (k' * 3)).block, (adF.add (k' * 3)).off + 1, none⟩ = some (.slice D ld dc) := d1
      obtain ⟨adk, hadk⟩ : ∃ a, a = adF.add (k' * 3) := ⟨_, rfl⟩
      rw [← hadk] at CF e1
      have HE1 := Aside0.mk e1
      obtain ⟨z0, z1, z2, z3, z4, _, _, _, _, _⟩ := all5 HK5.out
      clear hv hh hy hyn hrl hk hfi hk' hfi' hpl hdat hrd hld d0 d1 d2 hadk hyid e1 hdl
      go_wp2_with fail
      refine CF.out.mono ?_
      rintro e w6 ⟨rfl, hb6⟩
      have e1 := pw_cell_below hb6 HE1.out
      have HB6 := Aside0.mk hb6
      clear hb6 c0 c1 z0 z1 z2 z3 z4
      go_wp2_with fail
      have hcl := cloneO_any D dc f'.data w6 (HRD.out.below HB6.out) (by rw [HLd.out]; exact HLD.out)
      rw [HLd.out] at hcl
      refine hcl.mono ?_
      rintro e w7 ⟨v, rfl, hv, hb7⟩
      obtain ⟨Av, cv, rfl, _⟩ := RB_reads hv
      have HV := Aside0.mk (And.intro hv hb7)
      clear hcl hv hb7 e1
      go_wp2
      refine bodyPost_ret (results_tmp2 rfl _ _ _) rfl ?_
      exact ⟨.slice Av f'.data.length cv, by rw [HDP.out]; rfl, by rw [HDP.out, ← HDt.out]; exact own_weaken HV.out.1 (Nat.le_trans HBw.out.size HB6.out.size), bthen HBw.out (bthen HB6.out HV.out.2)⟩
end Go.Proofs.Ytfakfgblaakgdaa.Files

/- files.Crash: walked. -/
namespace Go.Proofs.Ytfakfgblaakgdaa.Files
set_option linter.unusedVariables false
set_option linter.unusedSimpArgs false
open Go.RowKit Go.Proofs.YtfakfgblaakgdaaW.PrintWords Go.Proofs.YtfakfgblaakgdaaW.PrintLast Go.Proofs.Ytfakfgblaakgdaa.Base Go.Proofs.Ytfakfgblaakgdaa.Cells Go.Proofs.Ytfakfgblaakgdaa.Ints Go.Proofs.Ytfakfgblaakgdaa.Var Go.Proofs.Ytfakfgblaakgdaa.EditPure Go.Proofs.Ytfakfgblaakgdaa.Edit Go.Proofs.Ytfakfgblaakgdaa.Sets Go.Proofs.Ytfakfgblaakgdaa.Wide Go.Proofs.Ytfakfgblaakgdaa.RowsC

/-- how much of a file a crash keeps -/
def keptOf (f : Fl) (k : Option Int) : Int :=
  match k with
  | none => f.sync
  | some x => f.sync + (if (f.data.length : Int) - f.sync < (if (0 : Int) > x then 0 else x) then (f.data.length : Int) - f.sync else (if (0 : Int) > x then 0 else x))
def cutF (f : Fl) (k : Option Int) : Fl := { f with data := f.data.take (keptOf f k).toNat, sync := keptOf f k }
def cutAt (keep : List Int) : Nat → List Fl → List Fl
  | _, [] => []
  | i, f :: l => cutF f keep[i]? :: cutAt keep (i + 1) l
def crashP (s : St) (keep : List Int) : St × Int :=
  if stB s = false then (zSt, 9) else (sweepP { s with files := cutAt keep 0 s.files, names := s.safe }, 0)
theorem keptOf_between {f : Fl} (k : Option Int) (h0 : 0 ≤ f.sync) (h1 : f.sync ≤ (f.data.length : Int)) : f.sync ≤ keptOf f k ∧ keptOf f k ≤ (f.data.length : Int) := by
  cases k with
  | none => exact ⟨Int.le_refl _, h1⟩
  | some x =>
    unfold keptOf
    dsimp only
    split <;> split at * <;> omega
theorem cutAt_len (keep : List Int) (l : List Fl) : ∀ i, (cutAt keep i l).length = l.length := by
  induction l with
  | nil => intro i; rfl
  | cons f l ih => intro i; simp [cutAt, ih]
theorem cutAt_get (keep : List Int) (l : List Fl) : ∀ i j, (cutAt keep i l)[j]? = (l[j]?).map fun f => cutF f keep[i + j]? := by
  induction l with
  | nil => intro i j; simp [cutAt]
  | cons f l ih =>
    intro i j
    cases j with
    | zero => simp [cutAt]
    | succ j => simp only [cutAt, List.getElem?_cons_succ, ih]; rw [Nat.add_right_comm, Nat.add_assoc]
/-- the files with the first i cut -/
def cutTo (keep : List Int) (l : List Fl) (i : Nat) : List Fl := (cutAt keep 0 l).take i ++ l.drop i
theorem cutTo_zero (keep : List Int) (l : List Fl) : cutTo keep l 0 = l := by simp [cutTo]
theorem cutTo_all (keep : List Int) (l : List Fl) (i : Nat) (h : l.length ≤ i) : cutTo keep l i = cutAt keep 0 l := by
  rw [cutTo, List.take_of_length_le (by rw [cutAt_len]; exact h), List.drop_of_length_le h, List.append_nil]
theorem cutTo_len (keep : List Int) (l : List Fl) (i : Nat) : (cutTo keep l i).length = l.length := by
  rw [cutTo, List.length_append, List.length_take, cutAt_len, List.length_drop]; omega
theorem cutTo_get (keep : List Int) (l : List Fl) (i : Nat) (f : Fl) (h : l[i]? = some f) : (cutTo keep l i)[i]? = some f := by
  have hl := (List.getElem?_eq_some_iff.1 h).1
  rw [cutTo, List.getElem?_append_right (by rw [List.length_take, cutAt_len]; omega), List.length_take, cutAt_len, Nat.min_eq_left (by omega), Nat.sub_self, List.getElem?_drop, Nat.add_zero, h]
theorem cutTo_succ (keep : List Int) (l : List Fl) (i : Nat) (f : Fl) (h : l[i]? = some f) : cutTo keep l (i + 1) = (cutTo keep l i).set i (cutF f keep[i]?) := by
  have hl := (List.getElem?_eq_some_iff.1 h).1
  have hg : (cutAt keep 0 l)[i]? = some (cutF f keep[i]?) := by rw [cutAt_get, h, Nat.zero_add]; rfl
  have hlt : ((cutAt keep 0 l).take i).length = i := by rw [List.length_take, cutAt_len]; omega
  rw [cutTo, cutTo, List.set_append_right _ _ (by omega), hlt, Nat.sub_self, List.take_add_one, hg, List.append_assoc]
  congr 1
  have hd : l.drop i = f :: l.drop (i + 1) := by
    obtain ⟨h2, h3⟩ := List.getElem?_eq_some_iff.1 h
    rw [List.drop_eq_getElem_cons h2, h3]
  rw [hd]
  rfl
theorem cut_mem {keep : List Int} {l : List Fl} {f : Fl} (h : f ∈ cutAt keep 0 l) : ∃ g k, g ∈ l ∧ f = cutF g k := by
  obtain ⟨j, hj⟩ := List.mem_iff_getElem?.1 h
  rw [cutAt_get] at hj
  obtain ⟨g, hg, rfl⟩ := Option.map_eq_some_iff.1 hj
  exact ⟨g, _, List.mem_of_getElem? hg, rfl⟩
theorem cut_asc {keep : List Int} : ∀ {l : List Fl} {i : Nat}, Asc l → Asc (cutAt keep i l) := by
  intro l
  induction l with
  | nil => intro i h; exact h
  | cons f l ih =>
    intro i h
    have h1 := List.pairwise_cons.1 h
    refine List.pairwise_cons.2 ⟨fun b hb => ?_, ih h1.2⟩
    obtain ⟨j, hj⟩ := List.mem_iff_getElem?.1 hb
    rw [cutAt_get] at hj
    obtain ⟨g, hg, rfl⟩ := Option.map_eq_some_iff.1 hj
    exact h1.1 g (List.mem_of_getElem? hg)
theorem usedF_cut {keep : List Int} : ∀ {l : List Fl} {i : Nat}, usedF (cutAt keep i l) ≤ usedF l := by
  intro l
  induction l with
  | nil => intro i; exact Int.le_refl _
  | cons f l ih =>
    intro i
    rw [cutAt, usedF_cons, usedF_cons]
    have h1 := ih (i := i + 1)
    have h2 : (cutF f keep[i]?).data.length ≤ f.data.length := List.length_take_le' _ _
    omega
theorem cut_hasId {keep : List Int} : ∀ {l : List Fl} {i : Nat} {x : Int}, hasId (cutAt keep i l) x = hasId l x := by
  intro l
  induction l with
  | nil => intro i x; rfl
  | cons f l ih =>
    intro i x
    show ((cutF f keep[i]?).id == x || hasId (cutAt keep (i + 1) l) x) = (f.id == x || hasId l x)
    rw [ih]
    rfl
/-- what a crash leaves ahead of the sweep -/
theorem cut_pre {s : St} (h : Good s) (keep : List Int) : Pre { s with files := cutAt keep 0 s.files, names := s.safe } := by
  have hnm : ∀ l : List Nm, NmsOk s.files l → NmsOk (cutAt keep 0 s.files) l := fun l hl => ⟨hl.asc, fun n hn => ⟨(hl.each n hn).1, by rw [cut_hasId]; exact (hl.each n hn).2⟩, hl.apart⟩
  refine ⟨⟨h.hd.c0, h.hd.c1, by show (cutAt _ _ _).length ≤ 256; rw [cutAt_len]; exact h.hd.lf, h.hd.n0, h.hd.n1, Int.le_trans usedF_cut h.hd.us, h.hd.ls, h.hd.ls⟩, ⟨cut_asc h.fl.asc, fun f hf => ?_⟩, hnm _ h.sf, hnm _ h.sf⟩
  obtain ⟨g, k, hg, rfl⟩ := cut_mem hf
  have h1 := h.fl.each g hg
  have h2 := keptOf_between k h1.2.1 h1.2.2
  refine ⟨h1.1, by show 0 ≤ keptOf g k; omega, ?_⟩
  show keptOf g k ≤ (((g.data.take (keptOf g k).toNat).length : Nat) : Int)
  rw [List.length_take]
  omega
end Go.Proofs.Ytfakfgblaakgdaa.Files

/- The page's example of chapter 4, reckoned. No program. -/
namespace Go.Proofs.Ytfakfgblaakgdaa.Files
set_option linter.unusedVariables false
set_option linter.unusedSimpArgs false
open Go.RowKit Go.Proofs.YtfakfgblaakgdaaW.PrintWords Go.Proofs.YtfakfgblaakgdaaW.PrintLast Go.Proofs.Ytfakfgblaakgdaa.Base Go.Proofs.Ytfakfgblaakgdaa.Cells Go.Proofs.Ytfakfgblaakgdaa.EditPure Go.Proofs.Ytfakfgblaakgdaa.Edit Go.Proofs.Ytfakfgblaakgdaa.Sets

def sA : ByteArray := ⟨#[97]⟩
def xyzL : List Ac := [⟨1, sA, ⟨#[]⟩, []⟩, ⟨2, sA, ⟨#[]⟩, [120, 121, 122]⟩, ⟨3, sA, ⟨#[]⟩, []⟩, ⟨6, ⟨#[]⟩, ⟨#[]⟩, []⟩]
def s1A : St := ⟨99, [⟨1, [120, 121, 122], 3⟩], [⟨sA, 1⟩], [], 2⟩
def s2A : St := ⟨99, [⟨1, [120, 121, 122], 3⟩], [⟨sA, 1⟩], [⟨sA, 1⟩], 2⟩
set_option maxRecDepth 100000
theorem alive_a : runP (⟨99, [], [], [], 1⟩) (xyzL.take 3) = (s1A, 3, 0) := by kernel_rfl
theorem alive_b : crashP s1A [] = (⟨99, [], [], [], 2⟩, 0) := by kernel_rfl
theorem alive_c : readP ⟨99, [], [], [], 2⟩ sA = ([], 71) := by kernel_rfl
theorem alive_d : DoP s1A ⟨6, ⟨#[]⟩, ⟨#[]⟩, []⟩ = (0, s2A) := by kernel_rfl
theorem alive_e : crashP s2A [] = (s2A, 0) := by kernel_rfl
theorem alive_f : readP s2A sA = ([120, 121, 122], 0) := by kernel_rfl
end Go.Proofs.Ytfakfgblaakgdaa.Files

/- files.Crash: walked. -/
namespace Go.Proofs.Ytfakfgblaakgdaa.Files
set_option linter.unusedVariables false
set_option linter.unusedSimpArgs false
open Go.RowKit Go.Proofs.YtfakfgblaakgdaaW.PrintWords Go.Proofs.YtfakfgblaakgdaaW.PrintLast Go.Proofs.Ytfakfgblaakgdaa.Base Go.Proofs.Ytfakfgblaakgdaa.Cells Go.Proofs.Ytfakfgblaakgdaa.Ints Go.Proofs.Ytfakfgblaakgdaa.Var Go.Proofs.Ytfakfgblaakgdaa.EditPure Go.Proofs.Ytfakfgblaakgdaa.Edit Go.Proofs.Ytfakfgblaakgdaa.Sets Go.Proofs.Ytfakfgblaakgdaa.Wide Go.Proofs.Ytfakfgblaakgdaa.RowsC

theorem RB_take {w : World} {base n m c : Nat} {A : Option Addr} {l : List Int} (h : RB w base (.slice A n c) l) (hn : l.length = n) (hm : m ≤ n) : RB w base (.slice A m c) (l.take m) := by
  subst hn
  have h1 := own_take h hm
  unfold RB
  rw [List.length_take, Nat.min_eq_left hm]
  rw [Nat.mul_one] at h1
  unfold nums at h1 ⊢
  rw [List.map_take]
  exact h1

theorem infoBz : ∃ i0, Try.prog.info? 5 = some i0 ∧ i0.size = 1 := by
  have h := infoB
  obtain ⟨i0, h1, h2⟩ := Option.map_eq_some_iff.1 h
  exact ⟨i0, h1, congrArg (fun x => x.2.1) h2⟩
theorem own_cut (D : Option Addr) (n m c : Nat) : (Value.slice D n c).ownBlock = (Value.slice D m c).ownBlock := by cases D <;> rfl
theorem Own.putNames {w : World} {base g : Nat} {s : St} {vF vN vS v' : Value} {L : List (Fl × Value)} {l : List Nm} (h : Own w base g s vF vN vS L) (hr : RN w base v' l) (ha : ∀ k, v'.ownBlock = some k → vS.ownBlock ≠ some k) :
    Own (w.setCell ⟨g, 2, none⟩ v') base g { s with names := l } vF v' vS L :=
  ⟨blk_put h.blk 2 _ rfl, h.oF.step (fun k hk => Below.heap_setCell _ _ _ _ (by obtain ⟨_, _, cs, h3⟩ := h.oF.row.block k hk; exact type_ne h3 h.blk (by decide))) (fun x hx k hk => Below.heap_setCell _ _ _ _ (by obtain ⟨cs, h3⟩ := own_typed (h.oF.own x hx) k hk; exact type_ne h3 h.blk (by decide))), h.fs,
    RN_step hr (fun k hk => Below.heap_setCell _ _ _ _ (by obtain ⟨_, _, cs, h3⟩ := RN_block hr k hk; exact type_ne h3 h.blk (by decide))), RN_step h.rS (fun k hk => Below.heap_setCell _ _ _ _ (by obtain ⟨_, _, cs, h3⟩ := RN_block h.rS k hk; exact type_ne h3 h.blk (by decide))), ha⟩

set_option maxRecDepth 100000 in
set_option maxHeartbeats 8000000 in
theorem crash_any (s : St) (keep : List Int) (F N S A : Option Addr) (fc nc sc ac : Nat) (w : World) (h : Hd w s F fc N nc S sc) (hs : Small s) (hw : Wf s) (hr : ReadsInt w .i64 A keep.length keep) (hkl : keep.length ≤ 1048576) (hki : ∀ x ∈ keep, inI64 x) :
    Calls Try.prog 27 #[.agg #[.int .i64 s.cap, .slice F s.files.length fc, .slice N s.names.length nc, .slice S s.safe.length sc, .int .i64 s.next], .slice A keep.length ac] w fun e w' => ∃ v, e = .returned (.tuple #[v, .int .i64 (crashP s keep).2]) ∧ Rs w' w.heap.size v (crashP s keep).1 ∧ Below w.heap.size w w' := by
  have HH := Aside0.mk h
  have HS := Aside0.mk hs
  have HW := Aside0.mk hw
  have HR := Aside0.mk hr
  have HKI := Aside0.mk hki
  obtain ⟨dp, hdp⟩ := named (crashP s keep)
  rw [← hdp.out]
  obtain ⟨lf, hlf⟩ : ∃ n, s.files.length = n := ⟨_, rfl⟩
  obtain ⟨ln, hln⟩ : ∃ n, s.names.length = n := ⟨_, rfl⟩
  obtain ⟨ls, hls⟩ : ∃ n, s.safe.length = n := ⟨_, rfl⟩
  obtain ⟨la, hla⟩ : ∃ n, keep.length = n := ⟨_, rfl⟩
  have LF := Aside0.mk hlf
  have LN := Aside0.mk hln
  have LS := Aside0.mk hls
  have LA := Aside0.mk hla
  rw [hlf, hln, hls, hla]
  rw [hla] at hkl
  have CCheck : Aside0 (∀ W, Below w.heap.size w W → Calls Try.prog 28 #[.agg #[.int .i64 s.cap, .slice F lf fc, .slice N ln nc, .slice S ls sc, .int .i64 s.next]] W fun e w' => e = .returned (.int .i64 (stE s)) ∧ Below W.heap.size W w') := ⟨fun W hW => by
    have := check_any s F N S fc nc sc W (HH.out.below hW) HS.out HW.out
    rw [hlf, hln, hls] at this
    exact this⟩
  have CClone : Aside0 (∀ W, Below w.heap.size w W → Calls Try.prog 44 #[.agg #[.int .i64 s.cap, .slice F lf fc, .slice N ln nc, .slice S ls sc, .int .i64 s.next]] W fun e w' => ∃ vF vN vS L, e = .returned (.agg #[.int .i64 s.cap, vF, vN, vS, .int .i64 s.next]) ∧ OF 79 w' W.heap.size vF L ∧ L.map (·.1) = s.files ∧ RN w' W.heap.size vN s.names ∧ RN w' W.heap.size vS s.safe ∧ (∀ k, vN.ownBlock = some k → vS.ownBlock ≠ some k) ∧ Below W.heap.size W w') := ⟨fun W hW => by
    have := clone_any s F N S fc nc sc W (HH.out.below hW) HS.out
    rw [hlf, hln, hls] at this
    exact this⟩
  clear h hs hw hr hlf hln hls hla hki
  go_enter Try.func27, Try.ntmps27
  go_upto_region 1 with (fail)
  obtain ⟨W0, hW0⟩ : ∃ W, W = (w.alloc (.cells #[.int .i64 s.cap, .slice F lf fc, .slice N ln nc, .slice S ls sc, .int .i64 s.next] 33)).alloc (.cells #[.int .i64 0, .slice none 0 0, .slice none 0 0, .slice none 0 0, .int .i64 0] 33) := ⟨_, rfl⟩
  have hk2 : W0.heap[w.heap.size]? = some (.cells #[.int .i64 s.cap, .slice F lf fc, .slice N ln nc, .slice S ls sc, .int .i64 s.next] 33 (0, 0)) := by rw [hW0]; exact blk_alloc (blk_new _ _) _
  have hk4 : W0.heap[w.heap.size + 1]? = some (.cells #[.int .i64 0, .slice none 0 0, .slice none 0 0, .slice none 0 0, .int .i64 0] 33 (0, 0)) := by rw [hW0]; exact blk_new1 _ _ _ _
  have HB0 : Aside0 (Below w.heap.size w W0) := ⟨by rw [hW0]; exact below_alloc (below_alloc (Below.refl _ _) _) _⟩
  have HZ0 : Aside0 (W0.heap.size = w.heap.size + 2) := ⟨by rw [hW0]; simp⟩
  rw [← hW0]
  clear hW0
  have HK2 := Aside0.mk hk2
  have HK4 := Aside0.mk hk4
  obtain ⟨x0, x1, x2, x3, x4, _, _, _, _, _⟩ := all5 hk2
  clear hk2 hk4
  go_wp2_with fail
  refine (CCheck.out _ HB0.out).mono ?_
  obtain ⟨E, hE⟩ := named (stE s)
  rw [← hE.out]
  rintro e w1 ⟨rfl, hb1⟩
  have HB1 := Aside0.mk hb1
  have HB01 := Aside0.mk (bthen HB0.out hb1)
  have HK4' := Aside0.mk (blk_keep HK4.out hb1)
  have HK2' := Aside0.mk (blk_keep HK2.out hb1)
  clear hb1 x0 x1 x2 x3 x4
  cases hst : stB s with
  | false =>
    have HE : Aside0 (E = 9) := ⟨by rw [hE.out, stE, hst]; rfl⟩
    have HDP : Aside0 (dp = (zSt, 9)) := ⟨by rw [hdp.out, crashP, if_pos hst]⟩
    rw [HE.out]
    obtain ⟨z0, z1, z2, z3, z4, f0, f1, f2, f3, f4⟩ := all5 HK4'.out
    clear hst
    go_upto_region 3 with (fail)
    go_wp2
    refine bodyPost_ret (results_ct rfl _ _ (w.heap.size + 1) 33 #[.int .i64 0, .slice none 0 0, .slice none 0 0, .slice none 0 0, .int .i64 0] (0, 0) _ rfl (blk5 HK4'.out) Try.underlying33 rfl (by kernel_rfl)) rfl ?_
    exact ⟨.agg #[.int .i64 0, .slice none 0 0, .slice none 0 0, .slice none 0 0, .int .i64 0], by rw [HDP.out]; rfl, by rw [HDP.out]; exact Rs_zero _ _, below_set5 HB01.out (by omega) _ _ _ _ _⟩
  | true =>
    have HE : Aside0 (E = 0) := ⟨by rw [hE.out, stE, hst]; rfl⟩
    have HDP : Aside0 (dp = (sweepP { s with files := cutAt keep 0 s.files, names := s.safe }, 0)) := ⟨by rw [hdp.out, crashP, if_neg (by rw [hst]; decide)]⟩
    have HST : Aside0 (Good s) := ⟨stB_iff.1 hst⟩
    rw [HE.out]
    obtain ⟨x0, x1, x2, x3, x4, _, _, _, _, _⟩ := all5 HK2'.out
    clear hst
    go_wp2_with fail
    refine (CClone.out _ HB01.out).mono ?_
    rintro e w2 ⟨vF, vN, vS, L, rfl, hof, hfs, hrn, hrs, hap, hb2⟩
    obtain ⟨F', fc', rfl, _⟩ := hof.reads
    obtain ⟨N', nc', rfl, _⟩ := Kd.R_reads hrn
    obtain ⟨S', sc', rfl, _⟩ := Kd.R_reads hrs
    have hll : L.length = lf := by have := congrArg List.length hfs; rw [List.length_map] at this; rw [this]; exact LF.out
    rw [hll] at hof
    rw [LN.out] at hrn hap
    rw [LS.out] at hrs hap
    rw [hll, LN.out, LS.out]
    have hb0 := HB0.out.size
    have hb1 := HB1.out.size
    have hk2'' := blk_keep HK2'.out hb2
    have hbase : W0.heap.size ≤ w1.heap.size := hb1
    have HO3 : Aside0 (Own (((((w2.setCell ⟨w.heap.size, 0, none⟩ (.int .i64 s.cap)).setCell ⟨w.heap.size, 1, none⟩ (.slice F' lf fc')).setCell ⟨w.heap.size, 2, none⟩ (.slice N' ln nc')).setCell ⟨w.heap.size, 3, none⟩ (.slice S' ls sc')).setCell ⟨w.heap.size, 4, none⟩ (.int .i64 s.next)) W0.heap.size w.heap.size s (.slice F' lf fc') (.slice N' ln nc') (.slice S' ls sc') L) := ⟨⟨blk5 hk2'', (hof.lower hbase).far5 hk2'' (by decide) (by decide) _ _ _ _ _, hfs, Rset5 (Kd.R_lower hrn hbase) (apart_of hk2'' RN_types) _ _ _ _ _, Rset5 (Kd.R_lower hrs hbase) (apart_of hk2'' RN_types) _ _ _ _ _, hap⟩⟩
    have HK4'' := Aside0.mk (blk_keep HK4'.out hb2)
    have HB2 := Aside0.mk (bthen HB01.out hb2)
    have HLf : Aside0 (lf ≤ 256) := ⟨by have := HST.out.hd.lf; rw [LF.out] at this; exact this⟩
    obtain ⟨x0', x1', x2', x3', x4', g0, g1, g2, g3, g4⟩ := all5 hk2''
    clear hof hfs hrn hrs hap hb2 hll x0 x1 x2 x3 x4 hk2'' hbase hb0 hb1
    go_upto_region 5 with (fail)
    obtain ⟨W3, hW3⟩ : ∃ W, W = (((((w2.setCell ⟨w.heap.size, 0, none⟩ (.int .i64 s.cap)).setCell ⟨w.heap.size, 1, none⟩ (.slice F' lf fc')).setCell ⟨w.heap.size, 2, none⟩ (.slice N' ln nc')).setCell ⟨w.heap.size, 3, none⟩ (.slice S' ls sc')).setCell ⟨w.heap.size, 4, none⟩ (.int .i64 s.next)) := ⟨_, rfl⟩
    have HB3 : Aside0 (Below w.heap.size w W3) := ⟨by rw [hW3]; exact below_set5 HB2.out (Nat.le_refl _) _ _ _ _ _⟩
    have HK4w : Aside0 (W3.heap[w.heap.size + 1]? = some (.cells #[.int .i64 0, .slice none 0 0, .slice none 0 0, .slice none 0 0, .int .i64 0] 33 (0, 0))) := ⟨by rw [hW3]; exact (keep5 _ _ _ _ _ (by omega)).trans HK4''.out⟩
    have HS3 : Aside0 (W0.heap.size ≤ W3.heap.size) := ⟨by
      have h1 : w2.heap.size = W3.heap.size := by rw [hW3]; simp [World.setCell]
      have h2 := blk_lt HK4''.out
      have h3 := HZ0.out
      omega⟩
    rw [← hW3] at HO3 ⊢
    clear hW3 x0' x1' x2' x3' x4' g0 g1 g2 g3 g4
    obtain ⟨_, x1, _, _, _, _, _, _, _, _⟩ := all5 HO3.out.blk
    go_wp2
    go_loopg [20] lf (fun gk v20 wr => ∃ (i : Nat) (L' : List (Fl × Value)), v20 = .int .i64 i ∧ gk + i = lf ∧ Aside0 (Own wr W0.heap.size w.heap.size { s with files := cutTo keep s.files i } (.slice F' lf fc') (.slice N' ln nc') (.slice S' ls sc') L') ∧ Aside0 (Bel w.heap.size W0.heap.size W3 wr))
    case atStart => exact ⟨0, L, rfl, by omega, ⟨by rw [cutTo_zero]; exact HO3.out⟩, ⟨bel (Below.refl W3.heap.size _) HS3.out⟩⟩
    case round =>
      clear x1
      obtain ⟨i, L', rfl, hg, HO, HBr⟩ := hrel
      have HBw : Aside0 (Below w.heap.size w wr) := ⟨HBr.out.under HB3.out (by have := HZ0.out; omega)⟩
      by_cases hlt : i < lf
      · have hlt' : (i : Int) < (lf : Int) := by omega
        obtain ⟨f, hf⟩ : ∃ f, s.files[i]? = some f := ⟨_, List.getElem?_eq_getElem (by have := LF.out; omega)⟩
        have hfl := HST.out.fl.each f (List.mem_of_getElem? hf)
        have hfd := HS.out.ld f (List.mem_of_getElem? hf)
        obtain ⟨x, hx, hxf⟩ : ∃ x, L'[i]? = some x ∧ x.1 = f := by
          have h1 := cutTo_get keep s.files i f hf
          have h2 := HO.out.fs
          change L'.map (·.1) = cutTo keep s.files i at h2
          rw [← h2, List.getElem?_map] at h1
          exact Option.map_eq_some_iff.1 h1
        have hrb := HO.out.oF.own x (List.mem_of_getElem? hx)
        obtain ⟨D, dc, hxv, _⟩ := RB_reads hrb
        have hdl : x.1.data.length ≤ dc := by rw [hxv] at hrb; exact own_le hrb
        rw [hxf] at hxv hdl
        obtain ⟨gF, cap', hA, hbg, hcm, hrow⟩ : ∃ g cap, Value.slice F' lf fc' = .slice (some ⟨g, 0, none⟩) (L'.map rowF).length cap ∧ W0.heap.size ≤ g ∧ cap ≤ 9223372036854775807 ∧ CRow 79 3 wr g cap (L'.map rowF) := by
          rcases HO.out.oF.row with ⟨_, h2⟩ | h
          · rw [List.map_eq_nil_iff] at h2; rw [h2] at hx; simp at hx
          · exact h
        injection hA with hA1 hA2 hA3
        subst hA1 hA3
        have hrx : (L'.map rowF)[i]? = some (rowF x) := by rw [List.getElem?_map, hx]; rfl
        have d1 : wr.cell? ⟨gF, i * 3 + 1, none⟩ = some (.slice D f.data.length dc) := by have := hrow.cell i _ hrx 1 (by omega); rw [rowF, hxv] at this; exact this
        have d2 : wr.cell? ⟨gF, i * 3 + 2, none⟩ = some (.int .i64 f.sync) := by have := hrow.cell i _ hrx 2 (by omega); rw [rowF, hxf] at this; exact this
        have fr2 := hrow.froz (i * 3 + 2)
        obtain ⟨sy, hsy⟩ : ∃ n, f.sync = n := ⟨_, rfl⟩
        obtain ⟨ld, hld⟩ : ∃ n, f.data.length = n := ⟨_, rfl⟩
        rw [hsy, hld] at hfl
        rw [hld] at d1 hfd hxv hdl
        rw [hsy] at d2
        have HF := Aside0.mk (And.intro hf (And.intro hsy hld))
        have HX := Aside0.mk (And.intro hx (And.intro hxf hxv))
        obtain ⟨kp, hkp⟩ := named (keptOf f keep[i]?)
        have hkb := keptOf_between keep[i]? (f := f) (by rw [hsy]; exact hfl.2.1) (by rw [hsy, hld]; exact hfl.2.2)
        rw [← hkp.out, hsy, hld] at hkb
        obtain ⟨kb0, kb1⟩ := hkb
        have hs0 := hfl.2.1
        have hs1 := hfl.2.2
        have HDL := Aside0.mk hdl
        have x1 := (all5 HO.out.blk).2.1
        clear hf hfl hx hxf hxv hrb hA2 hrx hsy hld hrow hdl
        go_upto_if 30 with (fail)
        go_cut [8] (fun v8 wc => v8 = .pointer (some ⟨gF, i * 3, none⟩) ∧ ∃ L1, Aside0 (Own wc W0.heap.size w.heap.size { s with files := (cutTo keep s.files i).set i { f with sync := kp } } (.slice (some ⟨gF, 0, none⟩) lf fc') (.slice N' ln nc') (.slice S' ls sc') L1) ∧ Aside0 (L1[i]? = some ({ f with sync := kp }, x.2)) ∧ Aside0 (Bel w.heap.size W0.heap.size W3 wc))
        case first =>
          by_cases hik : i < la
          · have hik' : (i : Int) < (la : Int) := by omega
            obtain ⟨adk, hAk, ck⟩ := (HR.out.below HBw.out).at_ (i : Int) (by omega) (by rw [LA.out]; omega)
            subst hAk
            rw [Int.toNat_natCast] at ck
            obtain ⟨kx, hkx⟩ : ∃ n, rd keep (i : Int) = n := ⟨_, rfl⟩
            rw [hkx] at ck
            have hki : keep[i]? = some kx := by
              have h1 : i < keep.length := by have := LA.out; omega
              rw [List.getElem?_eq_getElem h1, ← hkx]
              simp [rd, List.getElem?_eq_getElem h1]
            obtain ⟨mx, hmx⟩ : ∃ m, (if (0 : Int) > kx then 0 else kx) = m := ⟨_, rfl⟩
            obtain ⟨ds, hds⟩ : ∃ m, (ld : Int) - sy = m := ⟨_, rfl⟩
            obtain ⟨mn, hmn⟩ : ∃ m, (if ds < mx then ds else mx) = m := ⟨_, rfl⟩
            have hkk : sy + mn = kp := by rw [hkp.out, hki, keptOf, HF.out.2.1, HF.out.2.2, hmx, hds, hmn]
            have e1 : ∀ ts t W, (Builtin.max_ ts t #[.int .i64 kx, .int .i64 0]).run Try.prog W = .ok (.int .i64 mx) W := fun ts t W => by rw [Go.run_max_int2, hmx]
            have e2 : ∀ ts t W, (Builtin.min_ ts t #[.int .i64 mx, .int .i64 ds]).run Try.prog W = .ok (.int .i64 mn) W := fun ts t W => by rw [Go.run_min_int2, hmn]
            have e3 : IntKind.i64.wrap ((ld : Int) - sy) = ds := by rw [hds]; exact Go.wrap_small _ (by omega) (by omega)
            have e4 : IntKind.i64.wrap (sy + mn) = kp := by rw [hkk]; exact Go.wrap_small _ (by omega) (by omega)
            clear hkx hki hmx hds hmn hkk
            go_wp2
            go_region
            all_goals go_wp2_with fail
            all_goals go_meet
            all_goals
              have h1 := HO.out.setSync kp HX.out.1
              rw [HX.out.2.1] at h1
              exact ⟨rfl, L'.set i ({ f with sync := kp }, x.2), ⟨h1.below (below_drew (Below.refl _ _))⟩, ⟨List.getElem?_set_self (List.getElem?_eq_some_iff.1 HX.out.1).1⟩, ⟨(HBr.out.setB (p := ⟨gF, i * 3 + 2, none⟩) hbg _).trans (bel (below_drew (Below.refl (wr.setCell ⟨gF, i * 3 + 2, none⟩ (.int .i64 kp)).heap.size _)) (by have h2 := Nat.le_trans HS3.out HBr.out.size; simpa [World.setCell] using h2))⟩⟩
          · have hik' : ¬ ((i : Int) < (la : Int)) := by omega
            have hki : keep[i]? = none := by rw [List.getElem?_eq_none_iff]; have := LA.out; omega
            have hkk : kp = f.sync := by rw [hkp.out, hki]; rfl
            have hself : (cutTo keep s.files i).set i { f with sync := kp } = cutTo keep s.files i := by
              apply List.ext_getElem? 
              intro j
              rw [List.getElem?_set]
              by_cases e : i = j
              · subst e
                rw [if_pos rfl, if_pos (by rw [cutTo_len]; have := LF.out; omega), cutTo_get keep s.files i f HF.out.1, hkk]
              · rw [if_neg e]
            have HSelf := Aside0.mk hself
            have HKK := Aside0.mk hkk
            clear hki hkk hself
            go_wp2_with fail
            all_goals go_meet
            exact ⟨rfl, L', ⟨by rw [HSelf.out]; exact HO.out⟩, ⟨by rw [HX.out.1, HKK.out, ← HX.out.2.1]⟩, HBr⟩
        case rest =>
          obtain ⟨rfl, L1, HO1, HX1, HB1c⟩ := hcut
          have hrb : RB wc W0.heap.size x.2 f.data := HO1.out.oF.own _ (List.mem_of_getElem? HX1.out)
          rw [HX.out.2.2] at hrb
          obtain ⟨cap1, hc1, hrow⟩ : ∃ cap, cap ≤ 9223372036854775807 ∧ CRow 79 3 wc gF cap (L1.map rowF) := by
            rcases HO1.out.oF.row with ⟨h1, _⟩ | ⟨g, cap, h1, h2, h3, h4⟩
            · cases h1
            · injection h1 with h1
              injection h1 with h1
              injection h1 with h1
              subst h1
              exact ⟨cap, h3, h4⟩
          have hrx : (L1.map rowF)[i]? = some (rowF ({ f with sync := kp }, x.2)) := by rw [List.getElem?_map, HX1.out]; rfl
          have d1 : wc.cell? ⟨gF, i * 3 + 1, none⟩ = some (.slice D ld dc) := by have := hrow.cell i _ hrx 1 (by omega); rw [rowF, HX.out.2.2] at this; exact this
          have d2 : wc.cell? ⟨gF, i * 3 + 2, none⟩ = some (.int .i64 kp) := hrow.cell i _ hrx 2 (by omega)
          have fr1 := hrow.froz (i * 3 + 1)
          obtain ⟨i0, hi0, hz1⟩ := infoBz
          have hct := cut_to (P := Try.prog) 62 5 .i64 Try.underlying62 hi0 D ld dc kp (by omega) kb1 HDL.out
          have HRB := Aside0.mk hrb
          have hlf3 := HLf.out
          clear hrb hrow hrx
          go_wp2
          go_region
          all_goals go_wp2
          all_goals go_roundg (lf - (i + 1))
          all_goals first
            | (guard_target =~ (_ : Nat) < _; omega)
            | skip
          all_goals
            have hbl : (Value.slice D kp.toNat dc).ownBlock = x.2.ownBlock := by rw [HX.out.2.2]; exact own_cut D _ _ dc
            have h1 := HO1.out.setData (v' := .slice D kp.toNat dc) (d' := f.data.take kp.toNat) HX1.out (grown_refl wc _) (RB_take HRB.out HF.out.2.2 (by omega)) (.inl hbl)
            have h2 : ((cutTo keep s.files i).set i { f with sync := kp }).set i { f with data := f.data.take kp.toNat, sync := kp } = cutTo keep s.files (i + 1) := by
              rw [List.set_set, cutTo_succ keep s.files i f HF.out.1, hkp.out]; rfl
            have h3 : Own (wc.setCell ⟨gF, i * 3 + 1, none⟩ (.slice D kp.toNat dc)) W0.heap.size w.heap.size { s with files := cutTo keep s.files (i + 1) } (.slice (some ⟨gF, 0, none⟩) lf fc') (.slice N' ln nc') (.slice S' ls sc') (L1.set i ({ f with data := f.data.take kp.toNat, sync := kp }, .slice D kp.toNat dc)) := by rw [← h2]; exact h1
            exact ⟨i + 1, _, by go_num, by omega, ⟨h3.below (below_drew (Below.refl _ _))⟩, ⟨(HB1c.out.setB (p := ⟨gF, i * 3 + 1, none⟩) hbg _).trans (bel (below_drew (Below.refl (wc.setCell ⟨gF, i * 3 + 1, none⟩ (.slice D kp.toNat dc)).heap.size _)) (by have h2 := Nat.le_trans HS3.out HB1c.out.size; simpa [World.setCell] using h2))⟩⟩
      · have hie : cutTo keep s.files i = cutAt keep 0 s.files := cutTo_all keep s.files i (by have := LF.out; omega)
        have hnf : ¬ ((i : Int) < (lf : Int)) := by omega
        rw [hie] at HO
        obtain ⟨_, _, _, x3, _, _, _, _, _, _⟩ := all5 HO.out.blk
        have hSr : kNm.C wr S' ls s.safe := by
          obtain ⟨S2, c2, e, _, hC⟩ := Kd.R_reads HO.out.rS
          injection e with e1 e2 e3
          subst e1
          have h4 : s.safe.length = ls := LS.out
          rw [h4] at hC
          exact hC
        have hlsb : ls ≤ 256 := by have := HST.out.hd.ls; rw [LS.out] at this; exact this
        have hcc := cloneN_any S' sc' s.safe wr (by rw [LS.out]; exact hSr) (by rw [LS.out]; omega)
        rw [LS.out] at hcc
        have CC := Aside0.mk hcc
        have HPRE := Aside0.mk (cut_pre HST.out keep)
        clear hie hSr hcc
        go_wp2_with fail
        refine CC.out.mono ?_
        rintro e w5 ⟨v5, rfl, hv5, hB5⟩
        obtain ⟨A5, c5, rfl⟩ := Kd.R_slice hv5
        have HV5 := Aside0.mk hv5
        have HB5 := Aside0.mk hB5
        have HO5 := Aside0.mk (HO.out.below hB5)
        obtain ⟨_, _, y2, _, _, _, _, f2, _, _⟩ := all5 HO5.out.blk
        clear CC hv5 hB5 x3
        go_upto_region 14 with (fail)
        obtain ⟨W6, hW6⟩ : ∃ W, W = w5.setCell ⟨w.heap.size, 2, none⟩ (.slice A5 s.safe.length c5) := ⟨_, rfl⟩
        have HO6 := Aside0.mk (HO5.out.putNames (Kd.R_lower HV5.out (Nat.le_trans HS3.out HBr.out.size)) (fun k h1 h2 => by
          have h3 := (RN_block HO.out.rS k h2).2.1
          have h4 := Kd.R_base HV5.out k h1
          omega))
        rw [← hW6] at HO6 ⊢
        have HB6 : Aside0 (Bel w.heap.size W0.heap.size W3 W6) := ⟨by rw [hW6]; exact (HBr.out.trans (bel HB5.out (Nat.le_trans HS3.out HBr.out.size))).setG _⟩
        clear hW6 y2 f2
        go_wp2_with fail
        refine (sweep_own { s with files := cutAt keep 0 s.files, names := s.safe } W0.heap.size w.heap.size _ _ _ L' W6 HO6.out (Nat.le_trans HS3.out HB6.out.size) (by have := HPRE.out.hd.lf; omega) (by have := HPRE.out.hd.ln; omega) (by have := HPRE.out.hd.ls; omega) ⟨fun n hn => id_bound HPRE.out.fl HPRE.out.hd.n1 (HPRE.out.nm.each n hn).2, fun n hn => id_bound HPRE.out.fl HPRE.out.hd.n1 (HPRE.out.sf.each n hn).2⟩ (fun f hf => by have h1 := HPRE.out.fl.each f hf; have h2 := HPRE.out.hd.n1; exact ⟨by omega, by omega⟩)).mono ?_
        obtain ⟨sw, hsw⟩ := named (sweepP { s with files := cutAt keep 0 s.files, names := s.safe })
        rw [← hsw.out]
        rintro e w7 ⟨rfl, hM, hB⟩
        have HB7 := Aside0.mk (HB6.out.trans hB)
        obtain ⟨vF4, vN4, vS4, L4, hO4⟩ := hM
        obtain ⟨F4, fc4, N4, nc4, S4, sc4, rfl, rfl, rfl, _⟩ := hO4.forms
        obtain ⟨x0, x1, x2, x3, x4, _, _, _, _, _⟩ := all5 hO4.blk
        have HK4x := Aside0.mk ((HB7.out.block (w.heap.size + 1) (by have := HZ0.out; omega) (by omega)).trans HK4w.out)
        obtain ⟨z0, z1, z2, z3, z4, f0, f1, f2, f3, f4⟩ := all5 HK4x.out
        have HO4 := Aside0.mk hO4
        have HBw7 : Aside0 (Below w.heap.size w w7) := ⟨HB7.out.under HB3.out (by have := HZ0.out; omega)⟩
        have HD2 : Aside0 (dp = (sw, 0)) := ⟨by rw [HDP.out, hsw.out]⟩
        clear hO4 hB
        go_wp2
        refine bodyPost_ret (results_ct rfl _ _ (w.heap.size + 1) 33 #[.int .i64 sw.cap, .slice F4 sw.files.length fc4, .slice N4 sw.names.length nc4, .slice S4 sw.safe.length sc4, .int .i64 sw.next] (0, 0) _ rfl (blk5 HK4x.out) Try.underlying33 rfl (by kernel_rfl)) rfl ?_
        exact ⟨.agg #[.int .i64 sw.cap, .slice F4 sw.files.length fc4, .slice N4 sw.names.length nc4, .slice S4 sw.safe.length sc4, .int .i64 sw.next], by rw [HD2.out]; rfl, by rw [HD2.out]; exact (HO4.out.rs.far5 HK4x.out _ _ _ _ _).lower (by have := HZ0.out; omega), below_set5 HBw7.out (by omega) _ _ _ _ _⟩
end Go.Proofs.Ytfakfgblaakgdaa.Files
