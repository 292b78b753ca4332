/- A block of elements of so many cells each, that is written in place (cells alone; what they lead to is not said). -/
import Derived.Test.YtfakfgblaakgdaaCells
import Derived.Laws.IdiomCopy
namespace Go.Proofs.Ytfakfgblaakgdaa.RowsC
set_option linter.unusedVariables false
set_option linter.unusedSimpArgs false
open Go.RowKit Go.Proofs.YtfakfgblaakgdaaW.PrintWords Go.Proofs.YtfakfgblaakgdaaW.PrintLast Go.Proofs.Ytfakfgblaakgdaa.Base Go.Proofs.Ytfakfgblaakgdaa.Cells

/-- block g holds the elements L (sz cells each), and room behind them -/
def CRow (e : TypeId) (sz : Nat) (w : World) (g cap : Nat) (L : List (List Value)) : Prop :=
  ∃ cur : Array Value, w.heap[g]? = some (.cells cur e (0, 0)) ∧ cur.size = cap * sz ∧ L.length ≤ cap ∧ cur.toList.take (L.length * sz) = L.flatten ∧ ∀ r ∈ L, r.length = sz

theorem flatten_len {sz : Nat} (L : List (List Value)) (h : ∀ r ∈ L, r.length = sz) : L.flatten.length = L.length * sz := by
  induction L with
  | nil => simp
  | cons m L ih => rw [List.flatten_cons, List.length_append, ih (fun r hr => h r (List.mem_cons_of_mem _ hr)), h m List.mem_cons_self, List.length_cons, Nat.succ_mul, Nat.add_comm]
theorem flatten_get {sz : Nat} (L : List (List Value)) (hs : ∀ r ∈ L, r.length = sz) (i : Nat) (r : List Value) (h : L[i]? = some r) (j : Nat) (hj : j < sz) : L.flatten[i * sz + j]? = r[j]? := by
  induction L generalizing i with
  | nil => simp at h
  | cons a L ih =>
    have ha := hs a List.mem_cons_self
    rw [List.flatten_cons]
    cases i with
    | zero =>
      simp at h
      subst h
      rw [Nat.zero_mul, Nat.zero_add, List.getElem?_append_left (by omega)]
    | succ i =>
      have := ih (fun r hr => hs r (List.mem_cons_of_mem _ hr)) i (by simpa using h)
      rw [← this, Nat.succ_mul, List.getElem?_append_right (by omega)]
      congr 1
      omega
theorem flatten_set {sz : Nat} (L : List (List Value)) (hs : ∀ r ∈ L, r.length = sz) (i : Nat) (r : List Value) (h : i < L.length) (hr : r.length = sz) :
    (L.set i r).flatten = L.flatten.take (i * sz) ++ (r ++ L.flatten.drop (i * sz + sz)) := by
  induction L generalizing i with
  | nil => simp at h
  | cons a L ih =>
    have ha := hs a List.mem_cons_self
    cases i with
    | zero =>
      simp only [List.set_cons_zero, List.flatten_cons, Nat.zero_mul, List.take_zero, List.nil_append, Nat.zero_add]
      rw [List.drop_append_of_le_length (by omega), List.drop_of_length_le (by omega), List.nil_append]
    | succ i =>
      have := ih (fun r hr => hs r (List.mem_cons_of_mem _ hr)) i (by simpa using h)
      have t1 : (a ++ L.flatten).take (i * sz + sz) = a ++ L.flatten.take (i * sz) := by
        rw [List.take_append, List.take_of_length_le (l := a) (by omega), show i * sz + sz - a.length = i * sz by omega]
      have t2 : (a ++ L.flatten).drop (i * sz + sz + sz) = L.flatten.drop (i * sz + sz) := by
        rw [List.drop_append, List.drop_of_length_le (l := a) (by omega), List.nil_append, show i * sz + sz + sz - a.length = i * sz + sz by omega]
      rw [List.set_cons_succ, List.flatten_cons, List.flatten_cons, this, Nat.succ_mul, t1, t2, List.append_assoc]
section
variable {e sz : Nat} {w w1 : World} {g cap : Nat} {L A B : List (List Value)}
theorem CRow.cell (h : CRow e sz w g cap L) (i : Nat) (r : List Value) (hi : L[i]? = some r) (j : Nat) (hj : j < sz) : w.cell? ⟨g, i * sz + j, none⟩ = r[j]? := by
  obtain ⟨cur, h1, h2, h3, h4, h5⟩ := h
  rw [blk_cell h1]
  have hil : i < L.length := (List.getElem?_eq_some_iff.1 hi).1
  have : i * sz + j < L.length * sz := by have := Nat.mul_le_mul_right sz (Nat.succ_le_of_lt hil); rw [Nat.succ_mul] at this; omega
  rw [← flatten_get L h5 i r hi j hj, ← h4, List.getElem?_take, if_pos this, Array.getElem?_toList]
theorem CRow.froz (h : CRow e sz w g cap L) (i : Nat) : w.frozen? ⟨g, i, none⟩ = false := by
  obtain ⟨cur, h1, _⟩ := h
  exact blk_frozen h1 i
theorem CRow.lt (h : CRow e sz w g cap L) : g < w.heap.size := by
  obtain ⟨cur, h1, _⟩ := h
  exact blk_lt h1
theorem CRow.len (h : CRow e sz w g cap L) : L.length ≤ cap := by
  obtain ⟨cur, _, _, h3, _⟩ := h
  exact h3
theorem CRow.keep (h : CRow e sz w g cap L) (hb : Below w.heap.size w w1) : CRow e sz w1 g cap L := by
  obtain ⟨cur, h1, h2⟩ := h
  exact ⟨cur, blk_keep h1 hb, h2⟩
theorem CRow.same (h : CRow e sz w g cap L) (hb : w1.heap[g]? = w.heap[g]?) : CRow e sz w1 g cap L := by
  obtain ⟨cur, h1, h2⟩ := h
  exact ⟨cur, hb.trans h1, h2⟩
theorem CRow.drew (h : CRow e sz w g cap L) : CRow e sz w.drew g cap L := h
theorem CRow.there (h : CRow e sz w g cap L) (o : Nat) (ho : o < cap * sz) : (w.cell? ⟨g, o, none⟩).isSome = true := by
  obtain ⟨cur, h1, h2, h3, h4⟩ := h
  rw [blk_cell h1, Array.getElem?_eq_getElem (by omega)]
  rfl
theorem CRow.set (h : CRow e sz w g cap L) (i : Nat) (r : List Value) (hi : i < L.length) (hr : r.length = sz) : CRow e sz (w.setCells g (i * sz) r) g cap (L.set i r) := by
  obtain ⟨cur, h1, h2, h3, h4, h5⟩ := h
  have hm := Nat.mul_le_mul_right sz (Nat.succ_le_of_lt hi)
  have hc := Nat.mul_le_mul_right sz h3
  rw [Nat.succ_mul] at hm
  have hcl : cur.toList.length = cap * sz := by rw [← h2]; exact Array.length_toList
  obtain ⟨cur', e1, e2, e3⟩ := setCells_row r (i * sz) w cur h1 (by omega)
  refine ⟨cur', e1, by rw [e2]; exact h2, by simpa using h3, ?_, fun x hx => ?_⟩
  · rw [flatten_set L h5 i r hi hr, ← h4, List.length_set, e3, List.append_assoc, List.take_append, List.take_take, List.length_take, hcl, List.take_append, hr, List.take_take]
    rw [Nat.min_eq_left (show i * sz ≤ cap * sz by omega), Nat.min_eq_right (show i * sz ≤ L.length * sz by omega), Nat.min_eq_left (show i * sz ≤ L.length * sz by omega), List.take_of_length_le (l := r) (by omega)]
    congr 2
    rw [List.drop_take]
    congr 1
    omega
  · rcases List.mem_or_eq_of_mem_set hx with hx | hx
    · exact h5 x hx
    · rw [hx]; exact hr
theorem CRow.front (h : CRow e sz w g cap (A ++ B)) : CRow e sz w g cap A := by
  obtain ⟨cur, h1, h2, h3, h4, h5⟩ := h
  have h6 : ∀ r ∈ A, r.length = sz := fun r hr => h5 r (List.mem_append_left _ hr)
  refine ⟨cur, h1, h2, by simp at h3; omega, ?_, h6⟩
  have h7 := congrArg (List.take (A.length * sz)) h4
  rw [List.take_take, List.flatten_append, List.take_left' (flatten_len A h6), Nat.min_eq_left (by rw [List.length_append, Nat.add_mul]; omega)] at h7
  exact h7
theorem CRow.beyond (h : CRow e sz w g cap L) (o : Nat) (vs : List Value) (ho : L.length * sz ≤ o) (hv : o + vs.length ≤ cap * sz) : CRow e sz (w.setCells g o vs) g cap L := by
  obtain ⟨cur, h1, h2, h3, h4, h5⟩ := h
  obtain ⟨cur', e1, e2, e3⟩ := setCells_row vs o w cur h1 (by rw [h2]; exact hv)
  refine ⟨cur', e1, by rw [e2]; exact h2, h3, ?_, h5⟩
  have hle : L.length * sz ≤ (cur.toList.take o).length := by
    have hc : cur.toList.length = cap * sz := by rw [← h2]; exact Array.length_toList
    rw [List.length_take]; omega
  rw [e3, List.append_assoc, List.take_append_of_le_length hle, List.take_take, Nat.min_eq_left ho, h4]
/-- elements written behind the first ones (over what was there) -/
theorem CRow.over (h : CRow e sz w g cap (A ++ B)) (C : List (List Value)) (hC : ∀ r ∈ C, r.length = sz) (hl : A.length + C.length ≤ cap) : CRow e sz (w.setCells g (A.length * sz) C.flatten) g cap (A ++ C) := by
  obtain ⟨cur, h1, h2, h3, h4, h5⟩ := h.front
  have hm := Nat.mul_le_mul_right sz hl
  rw [Nat.add_mul] at hm
  have hcl : cur.toList.length = cap * sz := by rw [← h2]; exact Array.length_toList
  obtain ⟨cur', e1, e2, e3⟩ := setCells_row C.flatten (A.length * sz) w cur h1 (by rw [flatten_len C hC, h2]; omega)
  refine ⟨cur', e1, by rw [e2]; exact h2, by simpa using hl, ?_, fun r hr => (List.mem_append.1 hr).elim (h5 r) (hC r)⟩
  rw [e3, List.flatten_append, h4, List.length_append, Nat.add_mul]
  have hf := flatten_len C hC
  have hfa := flatten_len A h5
  rw [List.take_append_of_le_length (by simp only [List.length_append]; omega), List.take_of_length_le (by simp only [List.length_append]; omega)]
end
theorem setCells_grown (w : World) (g o : Nat) (vs : List Value) : w.grownBy (w.setCells g o vs) (some g) := by
  obtain ⟨h1, h2, h3, h4⟩ := setCells_same g vs o w
  exact ⟨h1, h2, h3, by rw [h4]; exact Nat.le_refl _, fun k _ hk => setCells_far vs o k (fun e => hk (by rw [e]))⟩
theorem grown_cell {w w1 : World} {g : Nat} {a : Addr} {v : Value} (h : w.grownBy w1 (some g)) (hne : a.block ≠ g) (hc : w.cell? a = some v) : w1.cell? a = some v := by
  have := h.block a.block (World.block_lt_of_cell? w a hc) (fun e => hne (by injection e))
  simpa [World.cell?, this] using hc
theorem get_mid {α : Type} (P S : List α) (x : α) (n : Nat) (h : n = P.length) : (P ++ x :: S)[n]? = some x := by subst h; simp
theorem set_mid {α : Type} (P S : List α) (x y : α) (n : Nat) (h : n = P.length) : (P ++ x :: S).set n y = P ++ y :: S := by subst h; simp

section
variable {α : Type} {d : Kd α} {enc : α → List Value} {w : World} {e base : Nat} {ok : Nat → Prop} {v : Value} {xs : List α}
theorem reps_flat (hM : ∀ {x cs}, d.M w base (fun k => ok k ∧ some k ≠ v.ownBlock) x cs → cs = enc x) (hsz : ∀ x, (enc x).length = d.sz) : ∀ (l : List α) (cs : List Value), Reps (d.M w base (fun k => ok k ∧ some k ≠ v.ownBlock)) d.sz l cs → cs = (l.map enc).flatten := by
  intro l
  induction l with
  | nil => intro cs h; exact List.eq_nil_of_length_eq_zero (by rw [h.1]; simp)
  | cons m l ih =>
    intro cs h
    have hl : cs.length = (l.length + 1) * d.sz := h.1
    rw [Nat.succ_mul] at hl
    have h0 := h.2 0 m rfl
    have h1 : cs.take d.sz = enc m := by
      have := hM h0
      rw [Nat.zero_mul, List.drop_zero] at this
      exact this
    have h2 := ih (cs.drop d.sz) ⟨by rw [List.length_drop, hl]; omega, fun j p hj => by
      have := h.2 (j + 1) p (by simpa using hj)
      rw [List.drop_drop]
      rw [Nat.succ_mul, Nat.add_comm] at this
      exact this⟩
    rw [List.map_cons, List.flatten_cons, ← h1, ← h2, List.take_append_drop]
/-- a row of one's own, as cells -/
theorem R_rows (hM : ∀ {ok' : Nat → Prop} {x cs}, d.M w base ok' x cs → cs = enc x) (hsz : ∀ x, (enc x).length = d.sz) (h : d.R e w base ok v xs) :
    (v = .slice none 0 0 ∧ xs = []) ∨ ∃ g cap, v = .slice (some ⟨g, 0, none⟩) xs.length cap ∧ base ≤ g ∧ ok g ∧ cap ≤ 9223372036854775807 ∧ CRow e d.sz w g cap (xs.map enc) := by
  obtain ⟨h0, inner, hown, hr⟩ := h
  have hi := reps_flat (v := v) (ok := ok) hM hsz xs inner hr
  rcases hown.2 with ⟨rfl, hn⟩ | ⟨g, cap, cur, rfl, hb, hh, hnc, hcm, hcs, htake⟩
  · exact .inl ⟨rfl, List.eq_nil_of_length_eq_zero hn⟩
  · exact .inr ⟨g, cap, rfl, hb, h0 g rfl, by simpa [maxLen] using hcm, cur, hh, hcs, by simpa using hnc, by rw [← hi, List.length_map]; exact htake, fun r hr => by obtain ⟨x, _, rfl⟩ := List.mem_map.1 hr; exact hsz x⟩
theorem reps_map {ok' : Nat → Prop} (hM : ∀ x, d.M w base ok' x (enc x)) (hsz : ∀ x, (enc x).length = d.sz) : ∀ l : List α, Reps (d.M w base ok') d.sz l (l.map enc).flatten := by
  intro l
  refine ⟨by rw [flatten_len (l.map enc) (sz := d.sz) (fun r hr => by obtain ⟨x, _, rfl⟩ := List.mem_map.1 hr; exact hsz x), List.length_map], ?_⟩
  induction l with
  | nil => intro j p hj; simp at hj
  | cons a l ih =>
    intro j p hj
    rw [List.map_cons, List.flatten_cons]
    cases j with
    | zero =>
      simp at hj
      subst hj
      rw [Nat.zero_mul, List.drop_zero, List.take_left' (hsz a)]
      exact hM a
    | succ j =>
      have := ih j p (by simpa using hj)
      rw [Nat.succ_mul, Nat.add_comm, List.drop_append, List.drop_of_length_le (l := enc a) (by rw [hsz]; omega), List.nil_append, hsz, Nat.add_sub_cancel_left]
      exact this
theorem R_of_rows (hM : ∀ {ok' : Nat → Prop} x, d.M w base ok' x (enc x)) (hsz : ∀ x, (enc x).length = d.sz) {g cap : Nat} (hb : base ≤ g) (ho : ok g) (hcm : cap ≤ 9223372036854775807) (h : CRow e d.sz w g cap (xs.map enc)) : d.R e w base ok (.slice (some ⟨g, 0, none⟩) xs.length cap) xs := by
  obtain ⟨cur, h1, h2, h3, h4, h5⟩ := h
  rw [List.length_map] at h3 h4
  exact ⟨fun k hk => by simp [Value.ownBlock] at hk; rw [← hk]; exact ho, _, ⟨by rw [flatten_len _ h5, List.length_map], .inr ⟨g, cap, cur, rfl, hb, h1, h3, by simpa [maxLen] using hcm, h2, h4⟩⟩, reps_map hM hsz xs⟩
end
end Go.Proofs.Ytfakfgblaakgdaa.RowsC
