/- An edit's octets (chapter 11), on lists: encode, decode, and that each undoes the other. No program. -/
import Derived.Test.YtelnhecpcjoonaaVarPure
import Derived.Test.YtelnhecpcjoonaaEditPure
namespace Go.Proofs.Ytelnhecpcjoonaa.Codec
open Go.RowKit Go.Proofs.YtelnhecpcjoonaaW.PrintWords Go.Proofs.YtelnhecpcjoonaaW.PrintLast Go.Proofs.Ytelnhecpcjoonaa.Base Go.Proofs.Ytelnhecpcjoonaa.EditPure Go.Proofs.Ytelnhecpcjoonaa.VarPure
set_option linter.unusedVariables false
set_option linter.unusedSimpArgs false

/-- a number's, a text's, a table's, an edit's octets -/
def putI (n : Int) : List Nat := putN n.toNat
def strB (s : ByteArray) : List Nat := s.data.toList.map UInt8.toNat
def putS (s : ByteArray) : List Nat := putI s.size ++ strB s
def putM (m : Meta) : List Nat := putI m.id ++ (putI m.level ++ (putI m.count ++ (putS m.low ++ putS m.high)))
def encB (drop : List Int) (add : List Meta) (seq next : Int) : List Nat := putI seq ++ (putI next ++ (putI drop.length ++ (drop.flatMap putI ++ (putI add.length ++ add.flatMap putM))))
def okN (n : Int) : Bool := within n 0 1099511627776
def okM (m : Meta) : Bool := okN m.id && (okN m.level && (okN m.count && (decide (m.low.size ≤ 96) && decide (m.high.size ≤ 96))))
def encOk (drop : List Int) (add : List Meta) (seq next : Int) : Bool := okN seq && (okN next && (drop.all okN && add.all okM))

/-- what is left, and the first error -/
abbrev St := List Nat × Int
def numS (most code : Int) (s : St) : Int × St :=
  if s.2 ≠ 0 then (0, s)
  else if (getN s.1).2.2 ≠ 0 then (0, (s.1, ((getN s.1).2.2 : Int)))
  else if most < ((getN s.1).1 : Int) then (0, (s.1, code))
  else (((getN s.1).1 : Int), (s.1.drop (getN s.1).2.1, 0))
def ofB (l : List Nat) : ByteArray := ⟨(l.map (fun n => UInt8.ofNat n)).toArray⟩
def textS (s : St) : ByteArray × St :=
  let r := numS 96 1 s
  if r.2.2 ≠ 0 then (⟨#[]⟩, r.2)
  else if (r.2.1.length : Int) < r.1 then (⟨#[]⟩, (r.2.1, 8))
  else (ofB (r.2.1.take r.1.toNat), (r.2.1.drop r.1.toNat, 0))
def metaS (s : St) : Meta × St :=
  let a := numS 1099511627776 1 s
  let b := numS 1099511627776 1 a.2
  let c := numS 1099511627776 1 b.2
  let d := textS c.2
  let e := textS d.2
  (⟨a.1, b.1, c.1, d.1, e.1⟩, e.2)
def manyS {α : Type} (f : St → α × St) : Nat → St → List α × St
  | 0, s => ([], s)
  | k + 1, s => if s.2 ≠ 0 then ([], s) else (((f s).1 :: (manyS f k (f s).2).1), (manyS f k (f s).2).2)
structure Dec where
  err : Int
  drop : List Int
  add : List Meta
  seq : Int
  next : Int
def decS6 (seq next : Int) (drop : List Int) (e : List Meta × St) : Dec := ⟨if e.2.2 = 0 then (if e.2.1.length = 0 then 0 else 23) else e.2.2, drop, e.1, seq, next⟩
def decS5 (seq next : Int) (drop : List Int) (k : Int × St) : Dec := decS6 seq next drop (manyS metaS k.1.toNat k.2)
def decS4 (seq next : Int) (d : List Int × St) : Dec := decS5 seq next d.1 (numS 256 3 d.2)
def decS3 (seq next : Int) (n : Int × St) : Dec := decS4 seq next (manyS (numS 1099511627776 1) n.1.toNat n.2)
def decS2 (seq : Int) (c : Int × St) : Dec := decS3 seq c.1 (numS 256 3 c.2)
def decS1 (a : Int × St) : Dec := decS2 a.1 (numS 1099511627776 1 a.2)
def decS (b : List Nat) : Dec := decS1 (numS 1099511627776 1 (b, 0))

theorem strB_bytes (s : ByteArray) : Bytes (strB s) := fun x hx => by
  obtain ⟨u, _, rfl⟩ := List.mem_map.1 hx
  exact u.toNat_lt
theorem strB_len (s : ByteArray) : (strB s).length = s.size := by simp [strB]
theorem ofB_strB (s : ByteArray) : ofB (strB s) = s := by
  cases s with
  | mk d =>
    have : (List.map (fun n => UInt8.ofNat n) (List.map UInt8.toNat d.toList)) = d.toList := by
      rw [List.map_map]
      conv => rhs; rw [← List.map_id d.toList]
      exact List.map_congr_left (fun u _ => by simp)
    show (⟨(List.map (fun n => UInt8.ofNat n) (List.map UInt8.toNat d.toList)).toArray⟩ : ByteArray) = ⟨d⟩
    rw [this]
theorem strB_ofB {l : List Nat} (h : Bytes l) : strB (ofB l) = l := by
  simp only [strB, ofB, List.map_map]
  conv => rhs; rw [← List.map_id l]
  refine List.map_congr_left (fun n hn => ?_)
  have := h n hn
  simp [UInt8.toNat_ofNat', Nat.mod_eq_of_lt this]
theorem ofB_size (l : List Nat) : (ofB l).size = l.length := by simp [ofB, ByteArray.size]

theorem numS_put {most code n : Int} (h0 : 0 ≤ n) (h1 : n ≤ most) (hm : most ≤ 1099511627776) (r : List Nat) : numS most code (putI n ++ r, 0) = (n, (r, 0)) := by
  have hn : n.toNat < 2 ^ 56 := by have : (2 : Nat) ^ 56 = 72057594037927936 := rfl; omega
  obtain ⟨hg, _, _⟩ := get_put hn r
  have hcast : ((n.toNat : Nat) : Int) = n := by omega
  show numS most code (putN n.toNat ++ r, 0) = _
  simp only [numS, hg, ne_eq, not_true_eq_false, ↓reduceIte, hcast]
  rw [if_neg (by omega), List.drop_left]
theorem numS_err {most code : Int} {s : St} (h : s.2 ≠ 0) : numS most code s = (0, s) := by rw [numS, if_pos h]
theorem numS_back {most code n : Int} {l r : List Nat} {e : Int} (hb : Bytes l) (hm : most ≤ 1099511627776) (hc : code ≠ 0) (h : numS most code (l, e) = (n, (r, 0))) : e = 0 ∧ l = putI n ++ r ∧ 0 ≤ n ∧ n ≤ most := by
  rw [numS] at h
  by_cases he : e ≠ 0
  · rw [if_pos he] at h
    exact absurd (Prod.mk.inj (Prod.mk.inj h).2).2 he
  · rw [if_neg he] at h
    have he : e = 0 := Decidable.not_not.1 he
    refine ⟨he, ?_⟩
    obtain ⟨v, k, er, hg⟩ : ∃ v k er, getN l = (v, k, er) := ⟨_, _, _, rfl⟩
    simp only [hg] at h
    by_cases h1 : er ≠ 0
    · rw [if_pos h1] at h
      have := (Prod.mk.inj (Prod.mk.inj h).2).2
      omega
    · rw [if_neg h1] at h
      have h1 : er = 0 := Decidable.not_not.1 h1
      subst h1
      by_cases h2 : most < (v : Int)
      · rw [if_pos h2] at h
        exact absurd (Prod.mk.inj (Prod.mk.inj h).2).2 hc
      · rw [if_neg h2] at h
        obtain ⟨hn, hr⟩ := Prod.mk.inj h
        have hr := (Prod.mk.inj hr).1
        have hv : v < 2 ^ 56 := by have : (2 : Nat) ^ 56 = 72057594037927936 := rfl; omega
        obtain ⟨p1, p2, p3, p4⟩ := put_get hb hg hv
        have hput : putI n = putN v := by rw [putI, ← hn]; rfl
        exact ⟨by rw [hput, ← hr]; exact p1, by omega, by omega⟩
theorem bytes_right {a b : List Nat} (h : Bytes (a ++ b)) : Bytes b := fun x hx => h x (by simp [hx])
theorem textS_put {s : ByteArray} (h : s.size ≤ 96) (r : List Nat) : textS (putS s ++ r, 0) = (s, (r, 0)) := by
  have h1 := numS_put (most := 96) (code := 1) (n := (s.size : Int)) (by omega) (by omega) (by omega) (strB s ++ r)
  rw [textS, putS, List.append_assoc]
  simp only [h1]
  rw [if_neg (by simp), if_neg (by rw [List.length_append, strB_len]; omega), Int.toNat_natCast, List.take_append_of_le_length (by rw [strB_len]; exact Nat.le_refl _), List.take_of_length_le (by rw [strB_len]; exact Nat.le_refl _), ofB_strB]
  have hl := strB_len s
  rw [← hl, List.drop_left]
theorem textS_back {s : ByteArray} {l r : List Nat} {e : Int} (hb : Bytes l) (h : textS (l, e) = (s, (r, 0))) : e = 0 ∧ l = putS s ++ r ∧ s.size ≤ 96 := by
  rw [textS] at h
  obtain ⟨n, l1, e1, hg⟩ : ∃ n l1 e1, numS 96 1 (l, e) = (n, (l1, e1)) := ⟨_, _, _, rfl⟩
  simp only [hg] at h
  by_cases h1 : e1 ≠ 0
  · rw [if_pos h1] at h
    exact absurd (Prod.mk.inj (Prod.mk.inj h).2).2 h1
  · rw [if_neg h1] at h
    have h1 : e1 = 0 := Decidable.not_not.1 h1
    subst h1
    obtain ⟨he, hl, h0, h96⟩ := numS_back hb (by omega) (by omega) hg
    by_cases h2 : (l1.length : Int) < n
    · rw [if_pos h2] at h
      exact absurd (Prod.mk.inj (Prod.mk.inj h).2).2 (by simp)
    · rw [if_neg h2] at h
      obtain ⟨hs, hr⟩ := Prod.mk.inj h
      have hr := (Prod.mk.inj hr).1
      have hb1 : Bytes l1 := by rw [hl] at hb; exact bytes_right hb
      have hbt : Bytes (l1.take n.toNat) := fun x hx => hb1 x (List.mem_of_mem_take hx)
      have hsz : s.size = n.toNat := by rw [← hs, ofB_size, List.length_take]; omega
      refine ⟨he, ?_, by omega⟩
      rw [putS, hsz, show ((n.toNat : Nat) : Int) = n by omega, ← hs, strB_ofB hbt, ← hr, List.append_assoc, List.take_append_drop]
      exact hl
theorem okN_iff (n : Int) : okN n = true ↔ 0 ≤ n ∧ n ≤ 1099511627776 := by simp [okN, within]
theorem metaS_put {m : Meta} (h : okM m = true) (r : List Nat) : metaS (putM m ++ r, 0) = (m, (r, 0)) := by
  simp only [okM, Bool.and_eq_true, okN_iff, decide_eq_true_eq] at h
  obtain ⟨⟨a0, a1⟩, ⟨b0, b1⟩, ⟨c0, c1⟩, d, e⟩ := h
  simp only [metaS, putM, List.append_assoc]
  rw [numS_put a0 a1 (Int.le_refl _)]
  simp only
  rw [numS_put b0 b1 (Int.le_refl _)]
  simp only
  rw [numS_put c0 c1 (Int.le_refl _)]
  simp only
  rw [textS_put d]
  simp only
  rw [textS_put e]
theorem metaS_back {m : Meta} {l r : List Nat} {e : Int} (hb : Bytes l) (h : metaS (l, e) = (m, (r, 0))) : e = 0 ∧ l = putM m ++ r ∧ okM m = true := by
  simp only [metaS] at h
  obtain ⟨a, l1, e1, h1⟩ : ∃ n l1 e1, numS 1099511627776 1 (l, e) = (n, (l1, e1)) := ⟨_, _, _, rfl⟩
  rw [h1] at h
  simp only at h
  obtain ⟨b, l2, e2, h2⟩ : ∃ n l2 e2, numS 1099511627776 1 (l1, e1) = (n, (l2, e2)) := ⟨_, _, _, rfl⟩
  rw [h2] at h
  simp only at h
  obtain ⟨c, l3, e3, h3⟩ : ∃ n l3 e3, numS 1099511627776 1 (l2, e2) = (n, (l3, e3)) := ⟨_, _, _, rfl⟩
  rw [h3] at h
  simp only at h
  obtain ⟨s, l4, e4, h4⟩ : ∃ s l4 e4, textS (l3, e3) = (s, (l4, e4)) := ⟨_, _, _, rfl⟩
  rw [h4] at h
  simp only at h
  obtain ⟨t, l5, e5, h5⟩ : ∃ s l5 e5, textS (l4, e4) = (s, (l5, e5)) := ⟨_, _, _, rfl⟩
  rw [h5] at h
  simp only at h
  obtain ⟨hm, hr⟩ := Prod.mk.inj h
  obtain ⟨rfl, rfl⟩ := Prod.mk.inj hr
  -- the errors stick: from the last to the first
  have st : ∀ {x : Int} {q q' : List Nat} {y y' : Int}, numS 1099511627776 1 (q, y) = (x, (q', y')) → y' = 0 → y = 0 := by
    intro x q q' y y' hh h0
    by_cases hy : y = 0
    · exact hy
    · rw [numS_err hy] at hh
      have := (Prod.mk.inj (Prod.mk.inj hh).2).2
      omega
  have tt : ∀ {x : ByteArray} {q q' : List Nat} {y y' : Int}, textS (q, y) = (x, (q', y')) → y' = 0 → y = 0 := by
    intro x q q' y y' hh h0
    by_cases hy : y = 0
    · exact hy
    · rw [textS, numS_err hy] at hh
      simp only at hh
      rw [if_pos hy] at hh
      have := (Prod.mk.inj (Prod.mk.inj hh).2).2
      omega
  have z4 := tt h5 rfl
  have z3 := tt h4 z4
  have z2 := st h3 z3
  have z1 := st h2 z2
  subst z4; subst z3; subst z2; subst z1
  obtain ⟨p0, q1, a0, a1⟩ := numS_back hb (Int.le_refl _) (by omega) h1
  have hb1 : Bytes l1 := by rw [q1] at hb; exact bytes_right hb
  obtain ⟨_, q2, b0, b1⟩ := numS_back hb1 (Int.le_refl _) (by omega) h2
  have hb2 : Bytes l2 := by rw [q2] at hb1; exact bytes_right hb1
  obtain ⟨_, q3, c0, c1⟩ := numS_back hb2 (Int.le_refl _) (by omega) h3
  have hb3 : Bytes l3 := by rw [q3] at hb2; exact bytes_right hb2
  obtain ⟨_, q4, d1⟩ := textS_back hb3 h4
  have hb4 : Bytes l4 := by rw [q4] at hb3; exact bytes_right hb3
  obtain ⟨_, q5, d2⟩ := textS_back hb4 h5
  refine ⟨p0, ?_, ?_⟩
  · rw [← hm]
    simp only [putM, List.append_assoc]
    rw [← q5, ← q4, ← q3, ← q2]
    exact q1
  · rw [← hm]
    simp only [okM, Bool.and_eq_true, okN_iff, decide_eq_true_eq]
    exact ⟨⟨a0, a1⟩, ⟨b0, b1⟩, ⟨c0, c1⟩, d1, d2⟩
theorem many_put {α : Type} {f : St → α × St} {p : α → List Nat} (hf : ∀ x r, f (p x ++ r, 0) = (x, (r, 0))) : ∀ (l : List α) (r : List Nat), manyS f l.length (l.flatMap p ++ r, 0) = (l, (r, 0)) := by
  intro l
  induction l with
  | nil => intro r; simp [manyS]
  | cons x l ih =>
    intro r
    rw [List.length_cons, manyS, if_neg (by simp), List.flatMap_cons, List.append_assoc, hf]
    simp only
    rw [ih]
theorem many_put' {α : Type} {f : St → α × St} {p : α → List Nat} (ok : α → Bool) (hf : ∀ x r, ok x = true → f (p x ++ r, 0) = (x, (r, 0))) : ∀ (l : List α) (r : List Nat), l.all ok = true → manyS f l.length (l.flatMap p ++ r, 0) = (l, (r, 0)) := by
  intro l
  induction l with
  | nil => intro r _; simp [manyS]
  | cons x l ih =>
    intro r h
    rw [List.all_cons, Bool.and_eq_true] at h
    rw [List.length_cons, manyS, if_neg (by simp), List.flatMap_cons, List.append_assoc, hf x _ h.1]
    simp only
    rw [ih _ h.2]
theorem many_back {α : Type} {f : St → α × St} {p : α → List Nat} (ok : α → Bool) (hf : ∀ {x l r e}, Bytes l → f (l, e) = (x, (r, 0)) → e = 0 ∧ l = p x ++ r ∧ ok x = true) :
    ∀ (k : Nat) {l r : List Nat} {xs : List α} {e : Int}, Bytes l → manyS f k (l, e) = (xs, (r, 0)) → e = 0 ∧ l = xs.flatMap p ++ r ∧ xs.all ok = true ∧ xs.length = k := by
  intro k
  induction k with
  | zero =>
    intro l r xs e hb h
    rw [manyS] at h
    obtain ⟨rfl, h2⟩ := Prod.mk.inj h
    obtain ⟨rfl, rfl⟩ := Prod.mk.inj h2
    exact ⟨rfl, by simp, rfl, rfl⟩
  | succ k ih =>
    intro l r xs e hb h
    rw [manyS] at h
    by_cases he : e ≠ 0
    · rw [if_pos he] at h
      exact absurd (Prod.mk.inj (Prod.mk.inj h).2).2 he
    · rw [if_neg he] at h
      obtain ⟨x, l1, e1, h1⟩ : ∃ x l1 e1, f (l, e) = (x, (l1, e1)) := ⟨_, _, _, rfl⟩
      rw [h1] at h
      simp only at h
      obtain ⟨ys, l2, e2, h2⟩ : ∃ ys l2 e2, manyS f k (l1, e1) = (ys, (l2, e2)) := ⟨_, _, _, rfl⟩
      rw [h2] at h
      obtain ⟨rfl, h3⟩ := Prod.mk.inj h
      obtain ⟨rfl, rfl⟩ := Prod.mk.inj h3
      have e10 : e1 = 0 := by
        by_cases h0 : e1 = 0
        · exact h0
        · cases k with
          | zero => rw [manyS] at h2; exact (Prod.mk.inj (Prod.mk.inj h2).2).2
          | succ k => rw [manyS, if_pos h0] at h2; exact (Prod.mk.inj (Prod.mk.inj h2).2).2
      subst e10
      obtain ⟨z, q1, o1⟩ := hf hb h1
      have hb1 : Bytes l1 := by rw [q1] at hb; exact bytes_right hb
      obtain ⟨_, q2, o2, q3⟩ := ih hb1 h2
      exact ⟨z, by rw [List.flatMap_cons, List.append_assoc, ← q2]; exact q1, by rw [List.all_cons, o1, o2]; rfl, by rw [List.length_cons, q3]⟩

/-- P11.3: an edit comes back from its octets -/
theorem dec_enc {drop : List Int} {add : List Meta} {seq next : Int} (h : encOk drop add seq next = true) (hd : drop.length ≤ 256) (ha : add.length ≤ 256) : decS (encB drop add seq next) = ⟨0, drop, add, seq, next⟩ := by
  simp only [encOk, Bool.and_eq_true, okN_iff] at h
  obtain ⟨⟨s0, s1⟩, ⟨n0, n1⟩, h3, h4⟩ := h
  rw [decS, encB, numS_put s0 s1 (Int.le_refl _), decS1, numS_put n0 n1 (Int.le_refl _), decS2, numS_put (most := 256) (n := (drop.length : Int)) (by omega) (by omega) (by omega), decS3]
  simp only [Int.toNat_natCast]
  rw [many_put' (f := numS 1099511627776 1) (p := putI) okN (fun x r hx => numS_put ((okN_iff x).1 hx).1 ((okN_iff x).1 hx).2 (Int.le_refl _) r) drop _ h3, decS4, numS_put (most := 256) (n := (add.length : Int)) (by omega) (by omega) (by omega), decS5]
  simp only [Int.toNat_natCast]
  have := many_put' (f := metaS) (p := putM) okM (fun x r hx => metaS_put hx r) add [] h4
  rw [List.append_nil] at this
  rw [this, decS6]
  simp
/-- P11.3: what is read is built again of what was read -/
theorem enc_dec {b : List Nat} (hb : Bytes b) (h : (decS b).err = 0) : b = encB (decS b).drop (decS b).add (decS b).seq (decS b).next ∧ encOk (decS b).drop (decS b).add (decS b).seq (decS b).next = true ∧ (decS b).drop.length ≤ 256 ∧ (decS b).add.length ≤ 256 := by
  obtain ⟨seq, l1, e1, h1⟩ : ∃ n l1 e1, numS 1099511627776 1 (b, 0) = (n, (l1, e1)) := ⟨_, _, _, rfl⟩
  obtain ⟨next, l2, e2, h2⟩ : ∃ n l2 e2, numS 1099511627776 1 (l1, e1) = (n, (l2, e2)) := ⟨_, _, _, rfl⟩
  obtain ⟨n, l3, e3, h3⟩ : ∃ n l3 e3, numS 256 3 (l2, e2) = (n, (l3, e3)) := ⟨_, _, _, rfl⟩
  obtain ⟨drop, l4, e4, h4⟩ : ∃ d l4 e4, manyS (numS 1099511627776 1) n.toNat (l3, e3) = (d, (l4, e4)) := ⟨_, _, _, rfl⟩
  obtain ⟨k, l5, e5, h5⟩ : ∃ n l5 e5, numS 256 3 (l4, e4) = (n, (l5, e5)) := ⟨_, _, _, rfl⟩
  obtain ⟨add, l6, e6, h6⟩ : ∃ d l6 e6, manyS metaS k.toNat (l5, e5) = (d, (l6, e6)) := ⟨_, _, _, rfl⟩
  have hdec : decS b = ⟨if e6 = 0 then (if l6.length = 0 then 0 else 23) else e6, drop, add, seq, next⟩ := by
    rw [decS, h1, decS1]
    simp only
    rw [h2, decS2]
    simp only
    rw [h3, decS3]
    simp only
    rw [h4, decS4]
    simp only
    rw [h5, decS5]
    simp only
    rw [h6, decS6]
  rw [hdec] at h ⊢
  simp only at h ⊢
  have e60 : e6 = 0 := by
    by_cases h0 : e6 = 0
    · exact h0
    · rw [if_neg h0] at h; exact absurd h h0
  subst e60
  rw [if_pos rfl] at h
  have hl6 : l6 = [] := by
    by_cases h0 : l6.length = 0
    · exact List.eq_nil_of_length_eq_zero h0
    · rw [if_neg h0] at h; omega
  subst hl6
  have nn : ∀ {m : Int} {c : Int} {x : Int} {q q' : List Nat} {y y' : Int}, numS m c (q, y) = (x, (q', y')) → y' = 0 → y = 0 := by
    intro m c x q q' y y' hh h0
    by_cases hy : y = 0
    · exact hy
    · rw [numS_err hy] at hh
      have := (Prod.mk.inj (Prod.mk.inj hh).2).2
      omega
  -- errors stick, from the back
  have z5 : e5 = 0 := by
    by_cases h0 : e5 = 0
    · exact h0
    · cases hk : k.toNat with
      | zero => rw [hk, manyS] at h6; exact (Prod.mk.inj (Prod.mk.inj h6).2).2
      | succ j => rw [hk, manyS, if_pos h0] at h6; exact (Prod.mk.inj (Prod.mk.inj h6).2).2
  have z4 := nn h5 z5
  have z3 : e3 = 0 := by
    by_cases h0 : e3 = 0
    · exact h0
    · cases hk : n.toNat with
      | zero => rw [hk, manyS] at h4; have := (Prod.mk.inj (Prod.mk.inj h4).2).2; omega
      | succ j => rw [hk, manyS, if_pos h0] at h4; have := (Prod.mk.inj (Prod.mk.inj h4).2).2; omega
  have z2 := nn h3 z3
  have z1 := nn h2 z2
  subst z5; subst z4; subst z3; subst z2; subst z1
  obtain ⟨_, q1, s0, s1⟩ := numS_back hb (Int.le_refl _) (by omega) h1
  have hb1 : Bytes l1 := by rw [q1] at hb; exact bytes_right hb
  obtain ⟨_, q2, t0, t1⟩ := numS_back hb1 (Int.le_refl _) (by omega) h2
  have hb2 : Bytes l2 := by rw [q2] at hb1; exact bytes_right hb1
  obtain ⟨_, q3, n0, n1⟩ := numS_back hb2 (by omega) (by omega) h3
  have hb3 : Bytes l3 := by rw [q3] at hb2; exact bytes_right hb2
  obtain ⟨_, q4, od, ld⟩ := many_back okN (p := putI) (fun {x l r e} hb hh => by
    obtain ⟨a, b, c, d⟩ := numS_back hb (Int.le_refl _) (by omega) hh
    exact ⟨a, b, (okN_iff x).2 ⟨c, d⟩⟩) n.toNat hb3 h4
  have hb4 : Bytes l4 := by rw [q4] at hb3; exact bytes_right hb3
  obtain ⟨_, q5, k0, k1⟩ := numS_back hb4 (by omega) (by omega) h5
  have hb5 : Bytes l5 := by rw [q5] at hb4; exact bytes_right hb4
  obtain ⟨_, q6, oa, la⟩ := many_back okM (p := putM) (fun {x l r e} hb hh => metaS_back hb hh) k.toNat hb5 h6
  refine ⟨?_, ?_, by omega, by omega⟩
  · rw [encB, ld, la, show ((n.toNat : Nat) : Int) = n by omega, show ((k.toNat : Nat) : Int) = k by omega]
    rw [List.append_nil] at q6
    rw [← q6, ← q5, ← q4, ← q3, ← q2]
    exact q1
  · simp only [encOk, Bool.and_eq_true, okN_iff]
    exact ⟨⟨s0, s1⟩, ⟨t0, t1⟩, od, oa⟩
end Go.Proofs.Ytelnhecpcjoonaa.Codec
