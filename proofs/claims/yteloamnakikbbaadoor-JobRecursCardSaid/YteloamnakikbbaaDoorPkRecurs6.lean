/- A part of the proof: The calendar in plain Lean: the date of the day after; the first of a month, of a year. No program. -/
import Derived.Test.YteloamnakikbbaaDoorPkRecurs3
import Derived.Test.YteloamnakikbbaaDoorPkRecurs2
import Derived.Test.YteloamnakikbbaaDoorPkRecurs1
import Derived.BigQuiet
import Derived.Deep.QuietTactic

/- The calendar in plain Lean: the date of the day after; the first of a month, of a year. No program. -/
namespace Go.Proofs.YteloamnakikbbaaDoor.Cron
set_option linter.unusedVariables false
set_option linter.unusedSimpArgs false
/-- a year that has 366 days -/
def leapP (y : Int) : Bool := decide (y % 4 = 0) && (decide (y % 100 ≠ 0) || decide (y % 400 = 0))
/-- a year from March on ends with the February of a leap year -/
def longP (y : Int) : Int := if (y + 1) % 4 = 0 ∧ ((y + 1) % 100 ≠ 0 ∨ (y + 1) % 400 = 0) then 1 else 0
theorem yrs_long (d c q e y g h : Int) (h0 : 0 ≤ d) (h1 : d ≤ 146096) (hq : d / 1460 = q) (hc : d / 36524 = c) (he : d / 146096 = e) (hy : (d - q + c - e) / 365 = y) (hg : y / 4 = g) (hh : y / 100 = h) : d - (365 * y + g - h) ≤ 364 + longP y := by
  by_cases h2 : d = 146096
  · subst h2; subst hq; subst hc; subst he; subst hy; subst hg; subst hh; decide
  obtain ⟨k1, _, y0, y1, b0, b1⟩ := yrs d c q e y g h h0 h1 hq hc he hy hg hh
  have he0 : e = 0 := by omega
  subst he0
  unfold longP
  split
  · omega
  · rename_i hn
    obtain ⟨u, hu⟩ : ∃ u, u = d - q + c - 0 := ⟨_, rfl⟩
    rw [← hu] at hy
    have c4 : c = 0 ∨ c = 1 ∨ c = 2 ∨ c = 3 := by omega
    have hgq : g = q ∨ g = q - 1 := by
      have h3 : u / 1460 = g := by omega
      omega
    have hj : y = 4 * g ∨ y = 4 * g + 1 ∨ y = 4 * g + 2 ∨ y = 4 * g + 3 := by omega
    rcases hgq with rfl | rfl
    · rcases hj with rfl | rfl | rfl | rfl <;> omega
    · rcases hj with hj | hj | hj | hj
      · omega
      · omega
      · omega
      · by_cases hd : d - (365 * y + (q - 1) - h) = 365
        · exfalso
          apply hn
          have hcent : ¬ ((y + 1) % 100 = 0) := by
            intro hz
            have hq2 : q = 25 * c + 25 := by omega
            omega
          exact ⟨by omega, .inl hcent⟩
        · omega
theorem yd_long (d : Int) (h0 : 0 ≤ d) (h1 : d ≤ 146096) : ydOf d ≤ 364 + longP (yOf d) := yrs_long d _ _ _ _ _ _ h0 h1 rfl rfl rfl rfl rfl rfl
/-- the days ahead of a year -/
def daysTo (y : Int) : Int := 365 * y + y / 4 - y / 100
theorem daysTo_lt {a b : Int} (h0 : 0 ≤ a) (h : a < b) : daysTo a + 365 ≤ daysTo b := by
  unfold daysTo
  have e1 : a / 100 = (a / 4) / 25 := by omega
  have e2 : b / 100 = (b / 4) / 25 := by omega
  rw [e1, e2]
  obtain ⟨p, hp⟩ : ∃ p, p = a / 4 := ⟨_, rfl⟩
  obtain ⟨q, hq⟩ : ∃ q, q = b / 4 := ⟨_, rfl⟩
  rw [← hp, ← hq]
  omega
theorem daysTo_succ (y : Int) (_ : 0 ≤ y) (h1 : y ≤ 398) : daysTo (y + 1) = daysTo y + 365 + longP y := by
  unfold daysTo longP
  split <;> omega
theorem yd_eq (d : Int) : d = daysTo (yOf d) + ydOf d := by unfold ydOf daysTo; omega
/-- the day after, within 400 years -/
theorem yd_next (d : Int) (h0 : 0 ≤ d) (h1 : d < 146096) :
    (ydOf d < 364 + longP (yOf d) → yOf (d + 1) = yOf d ∧ ydOf (d + 1) = ydOf d + 1) ∧ (ydOf d = 364 + longP (yOf d) → yOf (d + 1) = yOf d + 1 ∧ ydOf (d + 1) = 0) := by
  obtain ⟨y0, y1, b0, _⟩ := yd_bounds d h0 (by omega)
  obtain ⟨z0, z1, c0, _⟩ := yd_bounds (d + 1) (by omega) (by omega)
  have b1 := yd_long d h0 (by omega)
  have c1 := yd_long (d + 1) (by omega) (by omega)
  have e := yd_eq d
  have f := yd_eq (d + 1)
  obtain ⟨y, hy⟩ : ∃ y, y = yOf d := ⟨_, rfl⟩
  obtain ⟨z, hz⟩ : ∃ z, z = yOf (d + 1) := ⟨_, rfl⟩
  obtain ⟨r, hr⟩ : ∃ r, r = ydOf d := ⟨_, rfl⟩
  obtain ⟨s, hs⟩ : ∃ s, s = ydOf (d + 1) := ⟨_, rfl⟩
  rw [← hy] at y0 y1 b1 e
  rw [← hz] at z0 z1 c1 f
  rw [← hr] at b0 b1 e
  rw [← hs] at c0 c1 f
  rw [← hy, ← hz, ← hr, ← hs]
  clear hy hz hr hs
  have L0 : 0 ≤ longP y ∧ longP y ≤ 1 := by unfold longP; split <;> omega
  have L1 : 0 ≤ longP z ∧ longP z ≤ 1 := by unfold longP; split <;> omega
  have k1 : ¬ z < y := fun h => by
    have q1 := daysTo_lt z0 h
    have q2 := daysTo_succ z z0 (by omega)
    by_cases hzy : z + 1 = y
    · rw [hzy] at q2
      omega
    · have q3 := daysTo_lt (a := z + 1) (b := y) (by omega) (by omega)
      omega
  have k2 : ¬ y + 1 < z := fun h => by
    have q1 := daysTo_lt (a := y + 1) (b := z) (by omega) h
    have q2 := daysTo_succ y y0 (by omega)
    omega
  by_cases hzy : z = y
  · subst hzy
    refine ⟨fun _ => ⟨rfl, by omega⟩, fun _ => by omega⟩
  · have hz1 : z = y + 1 := by omega
    subst hz1
    have q2 := daysTo_succ y y0 (by omega)
    refine ⟨fun _ => by omega, fun _ => ⟨rfl, by omega⟩⟩
/-- how many days a month has -/
def dimP (y m : Int) : Int := if m = 2 then (if leapP y then 29 else 28) else if m = 4 ∨ m = 6 ∨ m = 9 ∨ m = 11 then 30 else 31
def lenM (m : Int) : Int := if m = 1 ∨ m = 3 ∨ m = 6 ∨ m = 8 then 30 else 31
theorem md_next (e L : Int) (h0 : 0 ≤ e) (h1 : e < 364 + L) (hL : L = 0 ∨ L = 1) :
    (mOf (e + 1) = mOf e ∧ mdOf (e + 1) = mdOf e + 1 ∧ mdOf e + 1 < (if mOf e = 11 then 28 + L else lenM (mOf e))) ∨ (mOf (e + 1) = mOf e + 1 ∧ mOf e ≤ 10 ∧ mdOf (e + 1) = 0 ∧ mdOf e + 1 = lenM (mOf e)) := by
  obtain ⟨a0, a1, a2, a3⟩ := md_bounds e h0 (by omega)
  obtain ⟨b0, b1, b2, b3⟩ := md_bounds (e + 1) (by omega) (by omega)
  unfold mdOf at *
  obtain ⟨m, hm⟩ : ∃ m, m = mOf e := ⟨_, rfl⟩
  obtain ⟨k, hk⟩ : ∃ k, k = mOf (e + 1) := ⟨_, rfl⟩
  have em : (5 * e + 2) / 153 = m := hm.symm
  have ek : (5 * (e + 1) + 2) / 153 = k := hk.symm
  rw [← hm] at a0 a1 a2 a3
  rw [← hk] at b0 b1 b2 b3
  rw [← hm, ← hk]
  clear hm hk
  have hk2 : k = m ∨ k = m + 1 := by omega
  have hc : m = 0 ∨ m = 1 ∨ m = 2 ∨ m = 3 ∨ m = 4 ∨ m = 5 ∨ m = 6 ∨ m = 7 ∨ m = 8 ∨ m = 9 ∨ m = 10 ∨ m = 11 := by omega
  rcases hc with rfl | rfl | rfl | rfl | rfl | rfl | rfl | rfl | rfl | rfl | rfl | rfl <;> rcases hk2 with rfl | rfl <;> simp [lenM] <;> omega
theorem md_last (L : Int) (hL : L = 0 ∨ L = 1) : mOf (364 + L) = 11 ∧ mdOf (364 + L) = 27 + L := by
  rcases hL with rfl | rfl <;> decide
theorem mod400 (E y : Int) : leapP (400 * E + y) = leapP y := by
  unfold leapP
  have e1 : (400 * E + y) % 4 = y % 4 := by omega
  have e2 : (400 * E + y) % 100 = y % 100 := by omega
  have e3 : (400 * E + y) % 400 = y % 400 := by omega
  rw [e1, e2, e3]
theorem long_leap (y : Int) : longP y = if leapP (y + 1) then 1 else 0 := by
  unfold longP leapP
  by_cases h1 : (y + 1) % 4 = 0 <;> by_cases h2 : (y + 1) % 100 = 0 <;> by_cases h3 : (y + 1) % 400 = 0 <;> simp [h1, h2, h3]
/-- the date of the day after -/
theorem date_next (D : Int) (h0 : 0 ≤ D) :
    (domP D + 1 ≤ dimP (yearP D) (monthP D) ∧ yearP (D + 1) = yearP D ∧ monthP (D + 1) = monthP D ∧ domP (D + 1) = domP D + 1) ∨
    (¬ domP D + 1 ≤ dimP (yearP D) (monthP D) ∧ domP D = dimP (yearP D) (monthP D) ∧ domP (D + 1) = 1 ∧ ((monthP D < 12 ∧ monthP (D + 1) = monthP D + 1 ∧ yearP (D + 1) = yearP D) ∨ (monthP D = 12 ∧ monthP (D + 1) = 1 ∧ yearP (D + 1) = yearP D + 1))) := by
  have i0 : 0 ≤ inEra D ∧ inEra D ≤ 146096 := by unfold inEra; omega
  obtain ⟨y0, y1, b0, b2⟩ := yd_bounds (inEra D) i0.1 i0.2
  have b1 := yd_long (inEra D) i0.1 i0.2
  have hN := yd_next (inEra D) i0.1
  have hE : (inEra D < 146096 → inEra (D + 1) = inEra D + 1 ∧ eraOf (D + 1) = eraOf D) ∧ (inEra D = 146096 → inEra (D + 1) = 0 ∧ eraOf (D + 1) = eraOf D + 1) := by unfold inEra eraOf; omega
  have hlast : inEra D = 146096 → yOf (inEra D) = 399 ∧ ydOf (inEra D) = 365 := fun h => by rw [h]; decide
  have hzero : yOf 0 = 0 ∧ ydOf 0 = 0 := by decide
  have h399 : longP 399 = 1 := by decide
  -- the next day's year and day of the year
  have hY : (ydOf (inEra D) < 364 + longP (yOf (inEra D)) ∧ ydOf (inEra (D + 1)) = ydOf (inEra D) + 1 ∧ 400 * eraOf (D + 1) + yOf (inEra (D + 1)) = 400 * eraOf D + yOf (inEra D)) ∨
      (ydOf (inEra D) = 364 + longP (yOf (inEra D)) ∧ ydOf (inEra (D + 1)) = 0 ∧ 400 * eraOf (D + 1) + yOf (inEra (D + 1)) = 400 * eraOf D + yOf (inEra D) + 1) := by
    by_cases h : inEra D = 146096
    · obtain ⟨q1, q2⟩ := hE.2 h
      obtain ⟨q3, q4⟩ := hlast h
      right
      rw [q1, q2, q3, q4, hzero.1, hzero.2, h399]
      omega
    · have h' : inEra D < 146096 := by omega
      obtain ⟨q1, q2⟩ := hE.1 h'
      obtain ⟨q3, q4⟩ := hN h'
      rw [q1, q2]
      by_cases g : ydOf (inEra D) < 364 + longP (yOf (inEra D))
      · obtain ⟨r1, r2⟩ := q3 g
        left
        exact ⟨g, r2, by rw [r1]⟩
      · have g' : ydOf (inEra D) = 364 + longP (yOf (inEra D)) := by omega
        obtain ⟨r1, r2⟩ := q4 g'
        right
        exact ⟨g', r2, by rw [r1]; omega⟩
  have hL : longP (yOf (inEra D)) = 0 ∨ longP (yOf (inEra D)) = 1 := by unfold longP; split <;> omega
  have hLL := long_leap (yOf (inEra D))
  have hML := mod400 (eraOf D) (yOf (inEra D) + 1)
  unfold yearP monthP domP monOf
  obtain ⟨a0, a1, a2, a3⟩ := md_bounds (ydOf (inEra D)) b0 b2
  clear hE hN hlast hzero h399 i0
  obtain ⟨E, hEe⟩ : ∃ E, E = eraOf D := ⟨_, rfl⟩
  obtain ⟨F, hFe⟩ : ∃ F, F = eraOf (D + 1) := ⟨_, rfl⟩
  obtain ⟨y, hy⟩ : ∃ y, y = yOf (inEra D) := ⟨_, rfl⟩
  obtain ⟨z, hz⟩ : ∃ z, z = yOf (inEra (D + 1)) := ⟨_, rfl⟩
  obtain ⟨e, he⟩ : ∃ e, e = ydOf (inEra D) := ⟨_, rfl⟩
  obtain ⟨f, hf⟩ : ∃ f, f = ydOf (inEra (D + 1)) := ⟨_, rfl⟩
  obtain ⟨L, hLe⟩ : ∃ L, L = longP (yOf (inEra D)) := ⟨_, rfl⟩
  rw [← hLe] at hY hL hLL b1
  rw [← hEe, ← hy, ← he, ← hFe, ← hz, ← hf] at hY
  rw [← hEe, ← hFe, ← hy, ← hz, ← he, ← hf]
  rw [← hy] at hLL y0 y1
  rw [← hEe, ← hy] at hML
  rw [← he] at a0 a1 a2 a3 b0 b1 b2
  clear hEe hFe hy hz he hf hLe
  have hYE : ∀ x, (400 * E + y + x : Int) = 400 * E + (y + x) := fun x => by omega
  rcases hY with ⟨g, rfl, hyz⟩ | ⟨rfl, rfl, hyz⟩
  · rcases md_next e L b0 g hL with ⟨n1, n2, n3⟩ | ⟨n1, n4, n2, n3⟩
    · left
      rw [n1, n2, hyz]
      refine ⟨?_, rfl, rfl, rfl⟩
      obtain ⟨m, hm⟩ : ∃ m, m = mOf e := ⟨_, rfl⟩
      obtain ⟨k, hk⟩ : ∃ k, k = mdOf e := ⟨_, rfl⟩
      rw [← hm] at n3 a0 a1 ⊢
      rw [← hk] at n3 a2 a3 ⊢
      clear hm hk n1 n2
      have hc : m = 0 ∨ m = 1 ∨ m = 2 ∨ m = 3 ∨ m = 4 ∨ m = 5 ∨ m = 6 ∨ m = 7 ∨ m = 8 ∨ m = 9 ∨ m = 10 ∨ m = 11 := by omega
      rcases hc with rfl | rfl | rfl | rfl | rfl | rfl | rfl | rfl | rfl | rfl | rfl | rfl
      all_goals simp [dimP, lenM] at n3 ⊢
      all_goals first | omega | (rw [hYE, hML]; split <;> simp_all <;> omega)
    · right
      rw [n1, n2, hyz]
      obtain ⟨m, hm⟩ : ∃ m, m = mOf e := ⟨_, rfl⟩
      obtain ⟨k, hk⟩ : ∃ k, k = mdOf e := ⟨_, rfl⟩
      rw [← hm] at n3 n4 a0 a1 ⊢
      rw [← hk] at n3 a2 a3 ⊢
      clear hm hk n1 n2
      have hc : m = 0 ∨ m = 1 ∨ m = 2 ∨ m = 3 ∨ m = 4 ∨ m = 5 ∨ m = 6 ∨ m = 7 ∨ m = 8 ∨ m = 9 ∨ m = 10 := by omega
      rcases hc with rfl | rfl | rfl | rfl | rfl | rfl | rfl | rfl | rfl | rfl | rfl
      all_goals simp [dimP, lenM] at n3 ⊢
      all_goals omega
  · obtain ⟨q1, q2⟩ := md_last L hL
    right
    have q3 : mOf 0 = 0 ∧ mdOf 0 = 0 := by decide
    rw [q1, q2, q3.1, q3.2, hyz]
    simp [dimP]
    rw [hYE, hML]
    rcases hL with rfl | rfl
    · have : leapP (y + 1) = false := by cases h : leapP (y + 1) with
        | false => rfl
        | true => rw [h] at hLL; simp at hLL
      rw [this]
      simp
    · have : leapP (y + 1) = true := by cases h : leapP (y + 1) with
        | true => rfl
        | false => rw [h] at hLL; simp at hLL
      rw [this]
      simp
/-- a day's date -/
def DateIs (D y m d : Int) : Prop := yearP D = y ∧ monthP D = m ∧ domP D = d
theorem date_in {D y m : Int} (h0 : 0 ≤ D) (h : DateIs D y m 1) : ∀ k : Nat, (k : Int) < dimP y m → DateIs (D + k) y m (1 + k)
  | 0, _ => by simpa using h
  | k + 1, hk => by
    obtain ⟨i1, i2, i3⟩ := date_in h0 h k (by omega)
    have hn := date_next (D + k) (by omega)
    rw [i1, i2, i3] at hn
    rcases hn with ⟨_, q1, q2, q3⟩ | ⟨q0, _⟩
    · have e : D + ((k + 1 : Nat) : Int) = D + k + 1 := by omega
      rw [e]
      exact ⟨q1, q2, by rw [q3]; omega⟩
    · exact absurd (show 1 + (k : Int) + 1 ≤ dimP y m by omega) q0
theorem dim_pos (y m : Int) : 28 ≤ dimP y m ∧ dimP y m ≤ 31 := by unfold dimP; split <;> (try split) <;> omega
/-- the first of the next month -/
theorem date_month {D y m : Int} (h0 : 0 ≤ D) (h : DateIs D y m 1) : DateIs (D + dimP y m) (if m < 12 then y else y + 1) (if m < 12 then m + 1 else 1) 1 := by
  obtain ⟨p1, p2⟩ := dim_pos y m
  obtain ⟨k, hk⟩ : ∃ k : Nat, (k : Int) = dimP y m - 1 := ⟨(dimP y m - 1).toNat, by omega⟩
  obtain ⟨i1, i2, i3⟩ := date_in h0 h k (by omega)
  have hn := date_next (D + k) (by omega)
  rw [i1, i2, i3] at hn
  have e : D + dimP y m = D + k + 1 := by omega
  rw [e]
  rcases hn with ⟨q0, _⟩ | ⟨_, _, q1, q2⟩
  · omega
  · rcases q2 with ⟨r1, r2, r3⟩ | ⟨r1, r2, r3⟩
    · rw [if_pos r1, if_pos r1]; exact ⟨r3, r2, q1⟩
    · rw [if_neg (by omega), if_neg (by omega)]; exact ⟨r3, r2, q1⟩
/-- how many days a year has from a month on -/
def restP (y m : Int) : Int := (if m ≤ 1 then 31 else 0) + (if m ≤ 2 then (if leapP y then 29 else 28) else 0) + (if m ≤ 3 then 31 else 0) + (if m ≤ 4 then 30 else 0) + (if m ≤ 5 then 31 else 0) + (if m ≤ 6 then 30 else 0) + (if m ≤ 7 then 31 else 0) + (if m ≤ 8 then 31 else 0) + (if m ≤ 9 then 30 else 0) + (if m ≤ 10 then 31 else 0) + (if m ≤ 11 then 30 else 0) + (if m ≤ 12 then 31 else 0)
def yearDays (y : Int) : Int := if leapP y then 366 else 365
theorem rest_one (y : Int) : restP y 1 = yearDays y := by unfold restP yearDays; cases leapP y <;> rfl
theorem rest_succ {y m : Int} (m1 : 1 ≤ m) (m2 : m ≤ 12) : restP y m = dimP y m + restP y (m + 1) := by
  have hc : m = 1 ∨ m = 2 ∨ m = 3 ∨ m = 4 ∨ m = 5 ∨ m = 6 ∨ m = 7 ∨ m = 8 ∨ m = 9 ∨ m = 10 ∨ m = 11 ∨ m = 12 := by omega
  rcases hc with rfl | rfl | rfl | rfl | rfl | rfl | rfl | rfl | rfl | rfl | rfl | rfl <;> cases h : leapP y <;> simp [restP, dimP, h]
theorem rest_last (y : Int) : restP y 13 = 0 := by simp [restP]
/-- the first of the next year, from the first of a month on -/
theorem date_year {D y : Int} : ∀ (n : Nat) (m : Int), 0 ≤ D → m + n = 12 → 1 ≤ m → DateIs D y m 1 → DateIs (D + restP y m) (y + 1) 1 1
  | 0, m, h0, hm, m1, h => by
    have e : m = 12 := by omega
    subst e
    have := date_month h0 h
    simp only [show ¬ ((12 : Int) < 12) by omega, if_false] at this
    rw [rest_succ (by omega) (by omega), show (12 : Int) + 1 = 13 from rfl, rest_last, Int.add_zero]
    exact this
  | n + 1, m, h0, hm, m1, h => by
    have hd := date_month h0 h
    rw [if_pos (by omega), if_pos (by omega)] at hd
    have hp := (dim_pos y m).1
    have := date_year (D := D + dimP y m) n (m + 1) (by omega) (by omega) (by omega) hd
    rw [rest_succ m1 (by omega)]
    rw [Int.add_assoc] at this
    exact this
theorem date_zero : DateIs 0 1970 1 1 := by unfold DateIs; decide
theorem year_range (D : Int) (h0 : 0 ≤ D) (h1 : D < 376200) : 1970 ≤ yearP D ∧ yearP D ≤ 2999 := by
  have i0 : 0 ≤ inEra D ∧ inEra D ≤ 146096 := by unfold inEra; omega
  obtain ⟨y0, y1, b0, b2⟩ := yd_bounds (inEra D) i0.1 i0.2
  have e := yd_eq (inEra D)
  have hi : D + 719468 = 146097 * eraOf D + inEra D := by unfold inEra eraOf; omega
  unfold yearP monOf mOf
  unfold daysTo at e
  obtain ⟨E, hE⟩ : ∃ E, E = eraOf D := ⟨_, rfl⟩
  obtain ⟨y, hy⟩ : ∃ y, y = yOf (inEra D) := ⟨_, rfl⟩
  obtain ⟨r, hr⟩ : ∃ r, r = ydOf (inEra D) := ⟨_, rfl⟩
  rw [← hy] at y0 y1
  rw [← hy, ← hr] at e
  rw [← hr] at b0 b2
  rw [← hE] at hi
  rw [← hE, ← hy, ← hr]
  clear hE hy hr
  obtain ⟨d, hd⟩ : ∃ d, d = inEra D := ⟨_, rfl⟩
  rw [← hd] at i0 e hi
  clear hd
  have hE4 : 4 ≤ E ∧ E ≤ 7 := by omega
  constructor
  · by_cases q : E = 4
    · subst q
      have : 369 ≤ y := by omega
      by_cases q2 : y = 369
      · subst q2
        have : 306 ≤ r := by omega
        rw [if_pos (by omega)]
        omega
      · split <;> omega
    · split <;> omega
  · by_cases q : E = 7
    · subst q
      have : y ≤ 199 := by omega
      by_cases q2 : y = 199
      · subst q2
        have : r ≤ 305 := by omega
        rw [if_neg (by omega)]
        omega
      · split <;> omega
    · split <;> omega
end Go.Proofs.YteloamnakikbbaaDoor.Cron

/- The document's calendar: Leap, aYear, Days, walked. -/
namespace Go.Proofs.YteloamnakikbbaaDoor.Cron
set_option linter.unusedVariables false
set_option linter.unusedSimpArgs false
open Go.RowKit Go.Proofs.YteloamnakikbbaaDoorW.PrintWords Go.Proofs.YteloamnakikbbaaDoorW.PrintLast Go.Proofs.YteloamnakikbbaaDoor.Base Go.Proofs.YteloamnakikbbaaDoor.Cells

set_option maxRecDepth 100000 in
theorem rleap_any (y : Int) (w : World) (h0 : 0 ≤ y) (h1 : y ≤ 10000) : Calls Tryd.prog 57 #[.int .i64 y] w fun e w' => e = .returned (.bool (leapP y)) ∧ w' = w := by
  by_cases h4 : y % 4 = 0
  · by_cases h100 : y % 100 = 0
    · by_cases h400 : y % 400 = 0
      · have e : leapP y = true := by simp [leapP, h4, h100, h400]
        have b4 : (y % 4 == 0) = true := by simpa using h4
        have b100 : (y % 100 != 0) = false := by simpa using h100
        have b400 : (y % 400 == 0) = true := by simpa using h400
        rw [e]
        clear h4 h100 h400 e
        go_enter Tryd.func57, Tryd.ntmps57
        go_wp2
        go_ret
        exact ⟨rfl, rfl⟩
      · have e : leapP y = false := by simp [leapP, h4, h100, h400]
        have b4 : (y % 4 == 0) = true := by simpa using h4
        have b100 : (y % 100 != 0) = false := by simpa using h100
        have b400 : (y % 400 == 0) = false := by simpa using h400
        rw [e]
        clear h4 h100 h400 e
        go_enter Tryd.func57, Tryd.ntmps57
        go_wp2
        go_ret
        exact ⟨rfl, rfl⟩
    · have e : leapP y = true := by simp [leapP, h4, h100]
      have b4 : (y % 4 == 0) = true := by simpa using h4
      have b100 : (y % 100 != 0) = true := by simpa using h100
      rw [e]
      clear h4 h100 e
      go_enter Tryd.func57, Tryd.ntmps57
      go_wp2
      go_ret
      exact ⟨rfl, rfl⟩
  · have e : leapP y = false := by simp [leapP, h4]
    have b4 : (y % 4 == 0) = false := by simpa using h4
    rw [e]
    clear h4 e
    go_enter Tryd.func57, Tryd.ntmps57
    go_wp2
    go_ret
    exact ⟨rfl, rfl⟩
theorem ryear_any (y : Int) (w : World) (h0 : 0 ≤ y) (h1 : y ≤ 10000) : Calls Tryd.prog 56 #[.int .i64 y] w fun e w' => e = .returned (.int .i64 (yearDays y)) ∧ w' = w := by
  have CL := Aside0.mk (fun W => rleap_any y W h0 h1)
  unfold yearDays
  cases hl : leapP y with
  | false =>
    rw [hl] at CL
    rw [if_neg (by simp)]
    clear hl
    go_enter Tryd.func56, Tryd.ntmps56
    go_wp2_with (go_at_call 57; with_reducible refine (CL.out _).mono ?_; rintro e w4 ⟨rfl, rfl⟩)
    go_ret
    exact ⟨rfl, rfl⟩
  | true =>
    rw [hl] at CL
    rw [if_pos rfl]
    clear hl
    go_enter Tryd.func56, Tryd.ntmps56
    go_wp2_with (go_at_call 57; with_reducible refine (CL.out _).mono ?_; rintro e w4 ⟨rfl, rfl⟩)
    go_ret
    exact ⟨rfl, rfl⟩
set_option maxRecDepth 100000 in
set_option maxHeartbeats 2000000 in
theorem rdays_any (y m : Int) (w : World) (h0 : 1970 ≤ y) (h1 : y ≤ 2999) (m0 : 1 ≤ m) (m1 : m ≤ 12) : Calls Tryd.prog 45 #[.int .i64 y, .int .i64 m] w fun e w' => e = .returned (.tuple #[.int .i64 (dimP y m), .int .i64 0]) ∧ w' = w := by
  have CL := Aside0.mk (fun W => rleap_any y W (by omega) (by omega))
  have hc : m = 1 ∨ m = 2 ∨ m = 3 ∨ m = 4 ∨ m = 5 ∨ m = 6 ∨ m = 7 ∨ m = 8 ∨ m = 9 ∨ m = 10 ∨ m = 11 ∨ m = 12 := by omega
  have n0 : ¬ y < 1970 := by omega
  have n1 : ¬ 2999 < y := by omega
  clear m0 m1
  unfold dimP
  rcases hc with rfl | rfl | rfl | rfl | rfl | rfl | rfl | rfl | rfl | rfl | rfl | rfl
  case inr.inl =>
    cases hl : leapP y with
    | false =>
      rw [hl] at CL
      clear hl
      go_enter Tryd.func45, Tryd.ntmps45
      go_wp2_with (go_at_call 57; with_reducible refine (CL.out _).mono ?_; rintro e w4 ⟨rfl, rfl⟩)
      refine bodyPost_ret (results_tmp2 rfl _ _ _) rfl ?_
      exact ⟨rfl, rfl⟩
    | true =>
      rw [hl] at CL
      clear hl
      go_enter Tryd.func45, Tryd.ntmps45
      go_wp2_with (go_at_call 57; with_reducible refine (CL.out _).mono ?_; rintro e w4 ⟨rfl, rfl⟩)
      refine bodyPost_ret (results_tmp2 rfl _ _ _) rfl ?_
      exact ⟨rfl, rfl⟩
  all_goals
    go_enter Tryd.func45, Tryd.ntmps45
    go_wp2
    refine bodyPost_ret (results_tmp2 rfl _ _ _) rfl ?_
    exact ⟨rfl, rfl⟩
end Go.Proofs.YteloamnakikbbaaDoor.Cron

/- The document's Date, walked. -/
namespace Go.Proofs.YteloamnakikbbaaDoor.Cron
set_option linter.unusedVariables false
set_option linter.unusedSimpArgs false
open Go.RowKit Go.Proofs.YteloamnakikbbaaDoorW.PrintWords Go.Proofs.YteloamnakikbbaaDoorW.PrintLast Go.Proofs.YteloamnakikbbaaDoor.Base Go.Proofs.YteloamnakikbbaaDoor.Cells

theorem yearDays_bd (y : Int) : 365 ≤ yearDays y ∧ yearDays y ≤ 366 := by unfold yearDays; split <;> omega
theorem dateIs_range {D y m d : Int} (h : DateIs D y m d) (h0 : 0 ≤ D) (h1 : D < 376200) : 1970 ≤ y ∧ y ≤ 2999 := by
  have := year_range D h0 h1
  rw [h.1] at this
  exact this
theorem year_step {D r y : Int} (h : DateIs (D - r) y 1 1) (h0 : 0 ≤ D - r) : DateIs (D - (r - yearDays y)) (y + 1) 1 1 := by
  have := date_year 11 1 h0 (by omega) (by omega) h
  rw [rest_one] at this
  rw [show D - (r - yearDays y) = D - r + yearDays y by omega]
  exact this
theorem month_step {D s y m : Int} (h : DateIs (D - s) y m 1) (h0 : 0 ≤ D - s) (m1 : 1 ≤ m) (m2 : m ≤ 12) (hs : s < restP y m) (hn : dimP y m ≤ s) : m + 1 ≤ 12 ∧ DateIs (D - (s - dimP y m)) y (m + 1) 1 ∧ s - dimP y m < restP y (m + 1) := by
  have hr := rest_succ (y := y) m1 m2
  have h12 : m < 12 := by
    by_cases q : m = 12
    · subst q
      rw [show (12 : Int) + 1 = 13 from rfl, rest_last] at hr
      omega
    · omega
  have hd := date_month h0 h
  rw [if_pos h12, if_pos h12] at hd
  refine ⟨by omega, ?_, by omega⟩
  rw [show D - (s - dimP y m) = D - s + dimP y m by omega]
  exact hd
theorem day_here {D s y m : Int} (h : DateIs (D - s) y m 1) (h0 : 0 ≤ D - s) (s0 : 0 ≤ s) (hn : s < dimP y m) : yearP D = y ∧ monthP D = m ∧ domP D = s + 1 := by
  have := date_in h0 h s.toNat (by omega)
  rw [show D - s + (s.toNat : Int) = D by omega] at this
  exact ⟨this.1, this.2.1, by rw [this.2.2]; omega⟩
set_option maxRecDepth 100000 in
set_option maxHeartbeats 4000000 in
theorem rdate_any (D : Int) (w : World) (h0 : 0 ≤ D) (h1 : D < 376200) :
    Calls Tryd.prog 44 #[.int .i64 D] w fun e w' => e = .returned (.tuple #[.int .i64 (yearP D), .int .i64 (monthP D), .int .i64 (domP D), .int .i64 0]) ∧ w' = w := by
  obtain ⟨Y, hY⟩ := named (yearP D)
  obtain ⟨M, hM⟩ := named (monthP D)
  obtain ⟨K, hK⟩ := named (domP D)
  rw [← hY.out, ← hM.out, ← hK.out]
  have n0 : ¬ D < 0 := by omega
  have n1 : ¬ 376200 ≤ D := by omega
  go_enter Tryd.func44, Tryd.ntmps44
  go_wp2
  go_loopg [0, 6] D.toNat (fun g v0 v6 wr => ∃ r y : Int, v0 = .int .i64 r ∧ v6 = .int .i64 y ∧ g = r.toNat ∧ 0 ≤ r ∧ r ≤ D ∧ Aside0 (DateIs (D - r) y 1 1) ∧ Aside0 (wr = w))
  case atStart => exact ⟨D, 1970, rfl, rfl, rfl, h0, by omega, ⟨by rw [show D - D = 0 by omega]; exact date_zero⟩, ⟨rfl⟩⟩
  case round =>
    obtain ⟨r, y, rfl, rfl, hg, r0, r1, HD, HW⟩ := hrel
    have hw := HW.out
    subst hw
    obtain ⟨y0, y1⟩ := dateIs_range HD.out (by omega) (by omega)
    have CY := Aside0.mk (fun W => ryear_any y W (by omega) (by omega))
    obtain ⟨n, hn⟩ := named (yearDays y)
    have HS := Aside0.mk (year_step HD.out (by omega))
    have hb : 365 ≤ n ∧ n ≤ 366 := by rw [hn.out]; exact yearDays_bd y
    obtain ⟨b0, b1⟩ := hb
    rw [← hn.out] at CY HS
    by_cases q : n ≤ r
    · have e1 : IntKind.i64.wrap (r - n) = r - n := by rw [IntKind.wrap_i64]; omega
      have e2 : IntKind.i64.wrap (y + 1) = y + 1 := by rw [IntKind.wrap_i64]; omega
      have q2 := q
      go_wp2_with (go_at_call 56; with_reducible refine (CY.out _).mono ?_; rintro e w4 ⟨rfl, rfl⟩)
      go_roundg (r - n).toNat
      case measure => omega
      case rel => exact ⟨r - n, y + 1, rfl, rfl, rfl, by omega, by omega, ⟨HS.out⟩, ⟨rfl⟩⟩
    · have q2 : ¬ n ≤ r := q
      have HR : Aside0 (r < restP y 1) := ⟨by rw [rest_one, ← hn.out]; omega⟩
      clear HS
      go_wp2_with (go_at_call 56; with_reducible refine (CY.out _).mono ?_; rintro e w4 ⟨rfl, rfl⟩)
      go_loopg [0, 7] r.toNat (fun g v0 v7 wx => ∃ s m : Int, v0 = .int .i64 s ∧ v7 = .int .i64 m ∧ g = s.toNat ∧ 0 ≤ s ∧ s ≤ D ∧ 1 ≤ m ∧ m ≤ 12 ∧ Aside0 (DateIs (D - s) y m 1) ∧ Aside0 (s < restP y m) ∧ Aside0 (wx = w4))
      case atStart => exact ⟨r, 1, rfl, rfl, rfl, r0, r1, by omega, by omega, ⟨HD.out⟩, ⟨HR.out⟩, ⟨rfl⟩⟩
      case round =>
        obtain ⟨s, m, rfl, rfl, hg, s0, s1, m0, m1, HD2, HR2, HW2⟩ := hrel
        have hw2 := HW2.out
        subst hw2
        have CD := Aside0.mk (fun W => rdays_any y m W y0 y1 m0 m1)
        obtain ⟨k, hk⟩ := named (dimP y m)
        have hkb : 28 ≤ k ∧ k ≤ 31 := by rw [hk.out]; exact dim_pos y m
        obtain ⟨k0, k1⟩ := hkb
        rw [← hk.out] at CD
        by_cases q : s < k
        · have HE := Aside0.mk (day_here HD2.out (by omega) s0 (by rw [← hk.out]; exact q))
          have e1 : IntKind.i64.wrap (s + 1) = s + 1 := by rw [IntKind.wrap_i64]; omega
          have HE2 : Aside0 (Y = y ∧ M = m ∧ K = s + 1) := ⟨by rw [hY.out, hM.out, hK.out]; exact HE.out⟩
          clear HE hY hM hK
          obtain ⟨rfl, rfl, rfl⟩ := HE2.out
          go_wp2_with (go_at_call 45; with_reducible refine (CD.out _).mono ?_; rintro e w5 ⟨rfl, rfl⟩)
          refine bodyPost_ret (results_tmp4 rfl _ _ _) rfl ?_
          exact ⟨rfl, rfl⟩
        · have HS := Aside0.mk (month_step HD2.out (by omega) m0 m1 HR2.out (by rw [← hk.out]; omega))
          rw [← hk.out] at HS
          have e1 : IntKind.i64.wrap (s - k) = s - k := by rw [IntKind.wrap_i64]; omega
          have e2 : IntKind.i64.wrap (m + 1) = m + 1 := by rw [IntKind.wrap_i64]; omega
          go_wp2_with (go_at_call 45; with_reducible refine (CD.out _).mono ?_; rintro e w5 ⟨rfl, rfl⟩)
          go_roundg (s - k).toNat
          case measure => omega
          case rel => exact ⟨s - k, m + 1, rfl, rfl, rfl, by omega, by omega, by omega, HS.out.1, ⟨HS.out.2.1⟩, ⟨HS.out.2.2⟩, ⟨rfl⟩⟩
end Go.Proofs.YteloamnakikbbaaDoor.Cron

/- The document's Split (at a day's begin) and tomorrow, walked. -/
namespace Go.Proofs.YteloamnakikbbaaDoor.Cron
set_option linter.unusedVariables false
set_option linter.unusedSimpArgs false
open Go.RowKit Go.Proofs.YteloamnakikbbaaDoorW.PrintWords Go.Proofs.YteloamnakikbbaaDoorW.PrintLast Go.Proofs.YteloamnakikbbaaDoor.Base Go.Proofs.YteloamnakikbbaaDoor.Cells

/-- the moment of a day's begin -/
def dayV (D : Int) : Array Value := #[.int .i64 (yearP D), .int .i64 (monthP D), .int .i64 (domP D), .int .i64 0, .int .i64 0, .int .i64 0, .int .i64 (weekP D)]
set_option maxRecDepth 100000 in
set_option maxHeartbeats 2000000 in
theorem rsplit_any (D t : Int) (w : World) (ht : t = 86400 * D) (h0 : 0 ≤ D) (h1 : D < 376200) :
    Calls Tryd.prog 27 #[.int .i64 t] w fun e w' => e = .returned (.tuple #[.agg (dayV D), .int .i64 0]) ∧ Below w.heap.size w w' := by
  have t0 : 0 ≤ t := by omega
  have t1 : t < 32503680000 := by omega
  have CD := Aside0.mk (fun W => rdate_any D W h0 h1)
  obtain ⟨Y, hY⟩ := named (yearP D)
  obtain ⟨M, hM⟩ := named (monthP D)
  obtain ⟨K, hK⟩ := named (domP D)
  obtain ⟨V, hV⟩ := named (weekP D)
  rw [← hY.out, ← hM.out, ← hK.out] at CD
  unfold dayV
  rw [← hY.out, ← hM.out, ← hK.out, ← hV.out]
  have HE : Aside0 (t / 86400 = D ∧ t % 86400 = 0) := ⟨by omega⟩
  have HV : Aside0 ((D + 4) % 7 = V) := ⟨by rw [hV.out]; rfl⟩
  have n0 : ¬ (t < 0) := by omega
  have n1 : ¬ (32503680000 ≤ t) := by omega
  clear hY hM hK hV ht
  go_enter Tryd.func27, Tryd.ntmps27
  go_upto_region 3 with (fail)
  have CD2 : Aside0 (∀ W, Calls Tryd.prog 44 #[.int .i64 (t / 86400)] W fun e w' => e = .returned (.tuple #[.int .i64 Y, .int .i64 M, .int .i64 K, .int .i64 0]) ∧ w' = W) := ⟨by rw [HE.out.1]; exact CD.out⟩
  go_upto_region 5 with (go_at_call 44; with_reducible refine (CD2.out _).mono ?_; rintro e w4 ⟨rfl, rfl⟩)
  rw [HE.out.2]
  obtain ⟨W, hW⟩ : ∃ W, W = w.alloc (.cells #[.int .i64 0, .int .i64 0, .int .i64 0, .int .i64 0, .int .i64 0, .int .i64 0, .int .i64 0] 68) := ⟨_, rfl⟩
  have HB := Aside0.mk (below_alloc (Below.refl _ w) (.cells #[.int .i64 0, .int .i64 0, .int .i64 0, .int .i64 0, .int .i64 0, .int .i64 0, .int .i64 0] 68))
  have HK := Aside0.mk (blk_new w (.cells #[.int .i64 0, .int .i64 0, .int .i64 0, .int .i64 0, .int .i64 0, .int .i64 0, .int .i64 0] 68))
  rw [← hW] at HB HK ⊢
  clear hW
  obtain ⟨_, f0, f1, f2, f3, f4, f5, f6⟩ := all7 HK.out
  have e3 : (t / 86400 + 4) % 7 = V := by rw [HE.out.1]; exact HV.out
  go_wp2
  refine bodyPost_ret (results_ct rfl _ _ w.heap.size 68 #[.int .i64 Y, .int .i64 M, .int .i64 K, .int .i64 0, .int .i64 0, .int .i64 0, .int .i64 V] (0, 0) _ rfl (blk7 HK.out) Tryd.underlying68 rfl (by kernel_rfl)) rfl ?_
  exact ⟨rfl, below_set7 HB.out (Nat.le_refl _) _ _ _ _ _ _ _⟩
/-- what tomorrow makes of a date -/
def nextDate (y m d : Int) : Int × Int × Int := if d + 1 ≤ dimP y m then (y, m, d + 1) else if m < 12 then (y, m + 1, 1) else (y + 1, 1, 1)
theorem next_date (D : Int) (h0 : 0 ≤ D) : nextDate (yearP D) (monthP D) (domP D) = (yearP (D + 1), monthP (D + 1), domP (D + 1)) := by
  unfold nextDate
  rcases date_next D h0 with ⟨q0, q1, q2, q3⟩ | ⟨q0, _, q1, q2⟩
  · rw [if_pos q0, q1, q2, q3]
  · rw [if_neg q0]
    rcases q2 with ⟨r1, r2, r3⟩ | ⟨r1, r2, r3⟩
    · rw [if_pos r1, q1, r2, r3]
    · rw [if_neg (by omega), q1, r2, r3]
theorem week_next (D : Int) : (weekP D + 1) % 7 = weekP (D + 1) := by unfold weekP; omega
theorem dom_le (D : Int) (h0 : 0 ≤ D) : domP D ≤ dimP (yearP D) (monthP D) := by
  rcases date_next D h0 with ⟨q0, _⟩ | ⟨_, q0, _⟩ <;> omega
end Go.Proofs.YteloamnakikbbaaDoor.Cron

/- The document's tomorrow, walked. -/
namespace Go.Proofs.YteloamnakikbbaaDoor.Cron
set_option linter.unusedVariables false
set_option linter.unusedSimpArgs false
open Go.RowKit Go.Proofs.YteloamnakikbbaaDoorW.PrintWords Go.Proofs.YteloamnakikbbaaDoorW.PrintLast Go.Proofs.YteloamnakikbbaaDoor.Base Go.Proofs.YteloamnakikbbaaDoor.Cells

set_option maxRecDepth 100000 in
set_option maxHeartbeats 2000000 in
theorem tomorrow_0 (y m d v u n : Int) (w : World) (y0 : 1970 ≤ y) (y1 : y ≤ 2999) (m0 : 1 ≤ m) (m1 : m ≤ 12) (d0 : 1 ≤ d) (d1 : d ≤ 31) (v0 : 0 ≤ v) (v1 : v ≤ 6) (hu : (v + 1) % 7 = u) (hn : d + 1 ≤ n)
    (CD : Aside0 (∀ W, Calls Tryd.prog 45 #[.int .i64 y, .int .i64 m] W fun e w' => e = .returned (.tuple #[.int .i64 n, .int .i64 0]) ∧ w' = W)) :
    Calls Tryd.prog 28 #[.agg #[.int .i64 y, .int .i64 m, .int .i64 d, .int .i64 0, .int .i64 0, .int .i64 0, .int .i64 v]] w fun e w' => e = .returned (.agg #[.int .i64 y, .int .i64 m, .int .i64 (d + 1), .int .i64 0, .int .i64 0, .int .i64 0, .int .i64 u]) ∧ Below w.heap.size w w' := by
  have e1 : IntKind.i64.wrap (d + 1) = d + 1 := by rw [IntKind.wrap_i64]; omega
  have e2 : IntKind.i64.wrap (m + 1) = m + 1 := by rw [IntKind.wrap_i64]; omega
  have e3 : IntKind.i64.wrap (y + 1) = y + 1 := by rw [IntKind.wrap_i64]; omega
  obtain ⟨W, hW⟩ : ∃ W, W = (w.alloc (.cells #[.int .i64 y, .int .i64 m, .int .i64 d, .int .i64 0, .int .i64 0, .int .i64 0, .int .i64 v] 68)).alloc (.cells #[.int .i64 0, .int .i64 0, .int .i64 0, .int .i64 0, .int .i64 0, .int .i64 0, .int .i64 0] 68) := ⟨_, rfl⟩
  have HB := Aside0.mk (below_alloc (below_alloc (Below.refl _ w) (.cells #[.int .i64 y, .int .i64 m, .int .i64 d, .int .i64 0, .int .i64 0, .int .i64 0, .int .i64 v] 68)) (.cells #[.int .i64 0, .int .i64 0, .int .i64 0, .int .i64 0, .int .i64 0, .int .i64 0, .int .i64 0] 68))
  have HK := Aside0.mk (blk_alloc (blk_new w (.cells #[.int .i64 y, .int .i64 m, .int .i64 d, .int .i64 0, .int .i64 0, .int .i64 0, .int .i64 v] 68)) (.cells #[.int .i64 0, .int .i64 0, .int .i64 0, .int .i64 0, .int .i64 0, .int .i64 0, .int .i64 0] 68))
  have HR := Aside0.mk (blk_new1 w (.cells #[.int .i64 y, .int .i64 m, .int .i64 d, .int .i64 0, .int .i64 0, .int .i64 0, .int .i64 v] 68) #[.int .i64 0, .int .i64 0, .int .i64 0, .int .i64 0, .int .i64 0, .int .i64 0, .int .i64 0] 68)
  go_enter Tryd.func28, Tryd.ntmps28
  go_upto_region 1 with (fail)
  rw [← hW] at HB HK HR ⊢
  clear hW
  obtain ⟨⟨k0, k1, k2, k3, k4, k5, k6⟩, f0, f1, f2, f3, f4, f5, f6⟩ := all7 HK.out
  obtain ⟨⟨r0, r1, r2, r3, r4, r5, r6⟩, g0, g1, g2, g3, g4, g5, g6⟩ := all7 HR.out
  go_upto_region 10 with (go_at_call 45; with_reducible refine (CD.out _).mono ?_; rintro e w4 ⟨rfl, rfl⟩)
  clear k0 k1 k2 k3 k4 k5 k6 f0 f1 f2 f3 f4 f5 f6 r0 r1 r2 r3 r4 r5 r6 g0 g1 g2 g3 g4 g5 g6
  obtain ⟨W2, hW2⟩ : ∃ W2, W2 = (w4.setCell ⟨w.heap.size, 6, none⟩ (.int .i64 u)).setCell ⟨w.heap.size, 2, none⟩ (.int .i64 (d + 1)) := ⟨_, rfl⟩
  have HK2 : Aside0 (W2.heap[w.heap.size]? = some (.cells #[.int .i64 y, .int .i64 m, .int .i64 (d + 1), .int .i64 0, .int .i64 0, .int .i64 0, .int .i64 u] 68 (0, 0))) := ⟨by rw [hW2]; exact (blk_put (cs := #[.int .i64 y, .int .i64 m, .int .i64 d, .int .i64 0, .int .i64 0, .int .i64 0, .int .i64 u]) (blk_put (cs := #[.int .i64 y, .int .i64 m, .int .i64 d, .int .i64 0, .int .i64 0, .int .i64 0, .int .i64 v]) HK.out 6 (.int .i64 u) rfl) 2 (.int .i64 (d + 1)) rfl)⟩
  have HR2 : Aside0 (W2.heap[w.heap.size + 1]? = some (.cells #[.int .i64 0, .int .i64 0, .int .i64 0, .int .i64 0, .int .i64 0, .int .i64 0, .int .i64 0] 68 (0, 0))) := ⟨by rw [hW2]; exact (Below.heap_setCell _ ⟨w.heap.size, 2, none⟩ _ _ (by show _ ≠ w.heap.size; omega)).trans ((Below.heap_setCell _ ⟨w.heap.size, 6, none⟩ _ _ (by show _ ≠ w.heap.size; omega)).trans (HR.out))⟩
  have HB2 : Aside0 (Below w.heap.size w W2) := ⟨by rw [hW2]; exact ((HB.out).setCell (p := ⟨w.heap.size, 6, none⟩) (Nat.le_refl _) _).setCell (p := ⟨w.heap.size, 2, none⟩) (Nat.le_refl _) _⟩
  rw [← hW2]
  clear hW2
  obtain ⟨⟨k0, k1, k2, k3, k4, k5, k6⟩, f0, f1, f2, f3, f4, f5, f6⟩ := all7 HK2.out
  obtain ⟨⟨r0, r1, r2, r3, r4, r5, r6⟩, g0, g1, g2, g3, g4, g5, g6⟩ := all7 HR2.out
  go_wp2
  refine bodyPost_ret (results_cell_row rfl _ _ (w.heap.size + 1) 68 #[.int .i64 y, .int .i64 m, .int .i64 (d + 1), .int .i64 0, .int .i64 0, .int .i64 0, .int .i64 u] (0, 0) _ rfl (blk7 HR2.out) Tryd.underlying68 rfl (by kernel_rfl)) rfl ?_
  exact ⟨rfl, below_set7 HB2.out (Nat.le_succ _) _ _ _ _ _ _ _⟩
set_option maxRecDepth 100000 in
set_option maxHeartbeats 2000000 in
theorem tomorrow_1 (y m d v u n : Int) (w : World) (y0 : 1970 ≤ y) (y1 : y ≤ 2999) (m0 : 1 ≤ m) (m1 : m ≤ 12) (d0 : 1 ≤ d) (d1 : d ≤ 31) (v0 : 0 ≤ v) (v1 : v ≤ 6) (hu : (v + 1) % 7 = u) (hn : n < d + 1) (hm : m + 1 ≤ 12)
    (CD : Aside0 (∀ W, Calls Tryd.prog 45 #[.int .i64 y, .int .i64 m] W fun e w' => e = .returned (.tuple #[.int .i64 n, .int .i64 0]) ∧ w' = W)) :
    Calls Tryd.prog 28 #[.agg #[.int .i64 y, .int .i64 m, .int .i64 d, .int .i64 0, .int .i64 0, .int .i64 0, .int .i64 v]] w fun e w' => e = .returned (.agg #[.int .i64 y, .int .i64 (m + 1), .int .i64 1, .int .i64 0, .int .i64 0, .int .i64 0, .int .i64 u]) ∧ Below w.heap.size w w' := by
  have e1 : IntKind.i64.wrap (d + 1) = d + 1 := by rw [IntKind.wrap_i64]; omega
  have e2 : IntKind.i64.wrap (m + 1) = m + 1 := by rw [IntKind.wrap_i64]; omega
  have e3 : IntKind.i64.wrap (y + 1) = y + 1 := by rw [IntKind.wrap_i64]; omega
  obtain ⟨W, hW⟩ : ∃ W, W = (w.alloc (.cells #[.int .i64 y, .int .i64 m, .int .i64 d, .int .i64 0, .int .i64 0, .int .i64 0, .int .i64 v] 68)).alloc (.cells #[.int .i64 0, .int .i64 0, .int .i64 0, .int .i64 0, .int .i64 0, .int .i64 0, .int .i64 0] 68) := ⟨_, rfl⟩
  have HB := Aside0.mk (below_alloc (below_alloc (Below.refl _ w) (.cells #[.int .i64 y, .int .i64 m, .int .i64 d, .int .i64 0, .int .i64 0, .int .i64 0, .int .i64 v] 68)) (.cells #[.int .i64 0, .int .i64 0, .int .i64 0, .int .i64 0, .int .i64 0, .int .i64 0, .int .i64 0] 68))
  have HK := Aside0.mk (blk_alloc (blk_new w (.cells #[.int .i64 y, .int .i64 m, .int .i64 d, .int .i64 0, .int .i64 0, .int .i64 0, .int .i64 v] 68)) (.cells #[.int .i64 0, .int .i64 0, .int .i64 0, .int .i64 0, .int .i64 0, .int .i64 0, .int .i64 0] 68))
  have HR := Aside0.mk (blk_new1 w (.cells #[.int .i64 y, .int .i64 m, .int .i64 d, .int .i64 0, .int .i64 0, .int .i64 0, .int .i64 v] 68) #[.int .i64 0, .int .i64 0, .int .i64 0, .int .i64 0, .int .i64 0, .int .i64 0, .int .i64 0] 68)
  go_enter Tryd.func28, Tryd.ntmps28
  go_upto_region 1 with (fail)
  rw [← hW] at HB HK HR ⊢
  clear hW
  obtain ⟨⟨k0, k1, k2, k3, k4, k5, k6⟩, f0, f1, f2, f3, f4, f5, f6⟩ := all7 HK.out
  obtain ⟨⟨r0, r1, r2, r3, r4, r5, r6⟩, g0, g1, g2, g3, g4, g5, g6⟩ := all7 HR.out
  go_upto_region 10 with (go_at_call 45; with_reducible refine (CD.out _).mono ?_; rintro e w4 ⟨rfl, rfl⟩)
  clear k0 k1 k2 k3 k4 k5 k6 f0 f1 f2 f3 f4 f5 f6 r0 r1 r2 r3 r4 r5 r6 g0 g1 g2 g3 g4 g5 g6
  obtain ⟨W2, hW2⟩ : ∃ W2, W2 = (((w4.setCell ⟨w.heap.size, 6, none⟩ (.int .i64 u)).setCell ⟨w.heap.size, 2, none⟩ (.int .i64 (d + 1))).setCell ⟨w.heap.size, 2, none⟩ (.int .i64 1)).setCell ⟨w.heap.size, 1, none⟩ (.int .i64 (m + 1)) := ⟨_, rfl⟩
  have HK2 : Aside0 (W2.heap[w.heap.size]? = some (.cells #[.int .i64 y, .int .i64 (m + 1), .int .i64 1, .int .i64 0, .int .i64 0, .int .i64 0, .int .i64 u] 68 (0, 0))) := ⟨by rw [hW2]; exact (blk_put (cs := #[.int .i64 y, .int .i64 m, .int .i64 1, .int .i64 0, .int .i64 0, .int .i64 0, .int .i64 u]) (blk_put (cs := #[.int .i64 y, .int .i64 m, .int .i64 (d + 1), .int .i64 0, .int .i64 0, .int .i64 0, .int .i64 u]) (blk_put (cs := #[.int .i64 y, .int .i64 m, .int .i64 d, .int .i64 0, .int .i64 0, .int .i64 0, .int .i64 u]) (blk_put (cs := #[.int .i64 y, .int .i64 m, .int .i64 d, .int .i64 0, .int .i64 0, .int .i64 0, .int .i64 v]) HK.out 6 (.int .i64 u) rfl) 2 (.int .i64 (d + 1)) rfl) 2 (.int .i64 1) rfl) 1 (.int .i64 (m + 1)) rfl)⟩
  have HR2 : Aside0 (W2.heap[w.heap.size + 1]? = some (.cells #[.int .i64 0, .int .i64 0, .int .i64 0, .int .i64 0, .int .i64 0, .int .i64 0, .int .i64 0] 68 (0, 0))) := ⟨by rw [hW2]; exact (Below.heap_setCell _ ⟨w.heap.size, 1, none⟩ _ _ (by show _ ≠ w.heap.size; omega)).trans ((Below.heap_setCell _ ⟨w.heap.size, 2, none⟩ _ _ (by show _ ≠ w.heap.size; omega)).trans ((Below.heap_setCell _ ⟨w.heap.size, 2, none⟩ _ _ (by show _ ≠ w.heap.size; omega)).trans ((Below.heap_setCell _ ⟨w.heap.size, 6, none⟩ _ _ (by show _ ≠ w.heap.size; omega)).trans (HR.out))))⟩
  have HB2 : Aside0 (Below w.heap.size w W2) := ⟨by rw [hW2]; exact ((((HB.out).setCell (p := ⟨w.heap.size, 6, none⟩) (Nat.le_refl _) _).setCell (p := ⟨w.heap.size, 2, none⟩) (Nat.le_refl _) _).setCell (p := ⟨w.heap.size, 2, none⟩) (Nat.le_refl _) _).setCell (p := ⟨w.heap.size, 1, none⟩) (Nat.le_refl _) _⟩
  rw [← hW2]
  clear hW2
  obtain ⟨⟨k0, k1, k2, k3, k4, k5, k6⟩, f0, f1, f2, f3, f4, f5, f6⟩ := all7 HK2.out
  obtain ⟨⟨r0, r1, r2, r3, r4, r5, r6⟩, g0, g1, g2, g3, g4, g5, g6⟩ := all7 HR2.out
  go_wp2
  refine bodyPost_ret (results_cell_row rfl _ _ (w.heap.size + 1) 68 #[.int .i64 y, .int .i64 (m + 1), .int .i64 1, .int .i64 0, .int .i64 0, .int .i64 0, .int .i64 u] (0, 0) _ rfl (blk7 HR2.out) Tryd.underlying68 rfl (by kernel_rfl)) rfl ?_
  exact ⟨rfl, below_set7 HB2.out (Nat.le_succ _) _ _ _ _ _ _ _⟩
set_option maxRecDepth 100000 in
set_option maxHeartbeats 2000000 in
theorem tomorrow_2 (y m d v u n : Int) (w : World) (y0 : 1970 ≤ y) (y1 : y ≤ 2999) (m0 : 1 ≤ m) (m1 : m ≤ 12) (d0 : 1 ≤ d) (d1 : d ≤ 31) (v0 : 0 ≤ v) (v1 : v ≤ 6) (hu : (v + 1) % 7 = u) (hn : n < d + 1) (hm : 12 < m + 1)
    (CD : Aside0 (∀ W, Calls Tryd.prog 45 #[.int .i64 y, .int .i64 m] W fun e w' => e = .returned (.tuple #[.int .i64 n, .int .i64 0]) ∧ w' = W)) :
    Calls Tryd.prog 28 #[.agg #[.int .i64 y, .int .i64 m, .int .i64 d, .int .i64 0, .int .i64 0, .int .i64 0, .int .i64 v]] w fun e w' => e = .returned (.agg #[.int .i64 (y + 1), .int .i64 1, .int .i64 1, .int .i64 0, .int .i64 0, .int .i64 0, .int .i64 u]) ∧ Below w.heap.size w w' := by
  have e1 : IntKind.i64.wrap (d + 1) = d + 1 := by rw [IntKind.wrap_i64]; omega
  have e2 : IntKind.i64.wrap (m + 1) = m + 1 := by rw [IntKind.wrap_i64]; omega
  have e3 : IntKind.i64.wrap (y + 1) = y + 1 := by rw [IntKind.wrap_i64]; omega
  obtain ⟨W, hW⟩ : ∃ W, W = (w.alloc (.cells #[.int .i64 y, .int .i64 m, .int .i64 d, .int .i64 0, .int .i64 0, .int .i64 0, .int .i64 v] 68)).alloc (.cells #[.int .i64 0, .int .i64 0, .int .i64 0, .int .i64 0, .int .i64 0, .int .i64 0, .int .i64 0] 68) := ⟨_, rfl⟩
  have HB := Aside0.mk (below_alloc (below_alloc (Below.refl _ w) (.cells #[.int .i64 y, .int .i64 m, .int .i64 d, .int .i64 0, .int .i64 0, .int .i64 0, .int .i64 v] 68)) (.cells #[.int .i64 0, .int .i64 0, .int .i64 0, .int .i64 0, .int .i64 0, .int .i64 0, .int .i64 0] 68))
  have HK := Aside0.mk (blk_alloc (blk_new w (.cells #[.int .i64 y, .int .i64 m, .int .i64 d, .int .i64 0, .int .i64 0, .int .i64 0, .int .i64 v] 68)) (.cells #[.int .i64 0, .int .i64 0, .int .i64 0, .int .i64 0, .int .i64 0, .int .i64 0, .int .i64 0] 68))
  have HR := Aside0.mk (blk_new1 w (.cells #[.int .i64 y, .int .i64 m, .int .i64 d, .int .i64 0, .int .i64 0, .int .i64 0, .int .i64 v] 68) #[.int .i64 0, .int .i64 0, .int .i64 0, .int .i64 0, .int .i64 0, .int .i64 0, .int .i64 0] 68)
  go_enter Tryd.func28, Tryd.ntmps28
  go_upto_region 1 with (fail)
  rw [← hW] at HB HK HR ⊢
  clear hW
  obtain ⟨⟨k0, k1, k2, k3, k4, k5, k6⟩, f0, f1, f2, f3, f4, f5, f6⟩ := all7 HK.out
  obtain ⟨⟨r0, r1, r2, r3, r4, r5, r6⟩, g0, g1, g2, g3, g4, g5, g6⟩ := all7 HR.out
  go_upto_region 10 with (go_at_call 45; with_reducible refine (CD.out _).mono ?_; rintro e w4 ⟨rfl, rfl⟩)
  clear k0 k1 k2 k3 k4 k5 k6 f0 f1 f2 f3 f4 f5 f6 r0 r1 r2 r3 r4 r5 r6 g0 g1 g2 g3 g4 g5 g6
  obtain ⟨W2, hW2⟩ : ∃ W2, W2 = (((((w4.setCell ⟨w.heap.size, 6, none⟩ (.int .i64 u)).setCell ⟨w.heap.size, 2, none⟩ (.int .i64 (d + 1))).setCell ⟨w.heap.size, 2, none⟩ (.int .i64 1)).setCell ⟨w.heap.size, 1, none⟩ (.int .i64 (m + 1))).setCell ⟨w.heap.size, 1, none⟩ (.int .i64 1)).setCell ⟨w.heap.size, 0, none⟩ (.int .i64 (y + 1)) := ⟨_, rfl⟩
  have HK2 : Aside0 (W2.heap[w.heap.size]? = some (.cells #[.int .i64 (y + 1), .int .i64 1, .int .i64 1, .int .i64 0, .int .i64 0, .int .i64 0, .int .i64 u] 68 (0, 0))) := ⟨by rw [hW2]; exact (blk_put (cs := #[.int .i64 y, .int .i64 1, .int .i64 1, .int .i64 0, .int .i64 0, .int .i64 0, .int .i64 u]) (blk_put (cs := #[.int .i64 y, .int .i64 (m + 1), .int .i64 1, .int .i64 0, .int .i64 0, .int .i64 0, .int .i64 u]) (blk_put (cs := #[.int .i64 y, .int .i64 m, .int .i64 1, .int .i64 0, .int .i64 0, .int .i64 0, .int .i64 u]) (blk_put (cs := #[.int .i64 y, .int .i64 m, .int .i64 (d + 1), .int .i64 0, .int .i64 0, .int .i64 0, .int .i64 u]) (blk_put (cs := #[.int .i64 y, .int .i64 m, .int .i64 d, .int .i64 0, .int .i64 0, .int .i64 0, .int .i64 u]) (blk_put (cs := #[.int .i64 y, .int .i64 m, .int .i64 d, .int .i64 0, .int .i64 0, .int .i64 0, .int .i64 v]) HK.out 6 (.int .i64 u) rfl) 2 (.int .i64 (d + 1)) rfl) 2 (.int .i64 1) rfl) 1 (.int .i64 (m + 1)) rfl) 1 (.int .i64 1) rfl) 0 (.int .i64 (y + 1)) rfl)⟩
  have HR2 : Aside0 (W2.heap[w.heap.size + 1]? = some (.cells #[.int .i64 0, .int .i64 0, .int .i64 0, .int .i64 0, .int .i64 0, .int .i64 0, .int .i64 0] 68 (0, 0))) := ⟨by rw [hW2]; exact (Below.heap_setCell _ ⟨w.heap.size, 0, none⟩ _ _ (by show _ ≠ w.heap.size; omega)).trans ((Below.heap_setCell _ ⟨w.heap.size, 1, none⟩ _ _ (by show _ ≠ w.heap.size; omega)).trans ((Below.heap_setCell _ ⟨w.heap.size, 1, none⟩ _ _ (by show _ ≠ w.heap.size; omega)).trans ((Below.heap_setCell _ ⟨w.heap.size, 2, none⟩ _ _ (by show _ ≠ w.heap.size; omega)).trans ((Below.heap_setCell _ ⟨w.heap.size, 2, none⟩ _ _ (by show _ ≠ w.heap.size; omega)).trans ((Below.heap_setCell _ ⟨w.heap.size, 6, none⟩ _ _ (by show _ ≠ w.heap.size; omega)).trans (HR.out))))))⟩
  have HB2 : Aside0 (Below w.heap.size w W2) := ⟨by rw [hW2]; exact ((((((HB.out).setCell (p := ⟨w.heap.size, 6, none⟩) (Nat.le_refl _) _).setCell (p := ⟨w.heap.size, 2, none⟩) (Nat.le_refl _) _).setCell (p := ⟨w.heap.size, 2, none⟩) (Nat.le_refl _) _).setCell (p := ⟨w.heap.size, 1, none⟩) (Nat.le_refl _) _).setCell (p := ⟨w.heap.size, 1, none⟩) (Nat.le_refl _) _).setCell (p := ⟨w.heap.size, 0, none⟩) (Nat.le_refl _) _⟩
  rw [← hW2]
  clear hW2
  obtain ⟨⟨k0, k1, k2, k3, k4, k5, k6⟩, f0, f1, f2, f3, f4, f5, f6⟩ := all7 HK2.out
  obtain ⟨⟨r0, r1, r2, r3, r4, r5, r6⟩, g0, g1, g2, g3, g4, g5, g6⟩ := all7 HR2.out
  go_wp2
  refine bodyPost_ret (results_cell_row rfl _ _ (w.heap.size + 1) 68 #[.int .i64 (y + 1), .int .i64 1, .int .i64 1, .int .i64 0, .int .i64 0, .int .i64 0, .int .i64 u] (0, 0) _ rfl (blk7 HR2.out) Tryd.underlying68 rfl (by kernel_rfl)) rfl ?_
  exact ⟨rfl, below_set7 HB2.out (Nat.le_succ _) _ _ _ _ _ _ _⟩
theorem rtomorrow_any (D : Int) (w : World) (h0 : 0 ≤ D) (h1 : D < 376200) :
    Calls Tryd.prog 28 #[.agg (dayV D)] w fun e w' => e = .returned (.agg (dayV (D + 1))) ∧ Below w.heap.size w w' := by
  obtain ⟨y0, y1⟩ := year_range D h0 h1
  obtain ⟨m0, m1, d0, d1⟩ := month_bounds D
  obtain ⟨v0, v1⟩ := week_bounds D
  have hu := week_next D
  have CD := Aside0.mk (fun W => rdays_any (yearP D) (monthP D) W y0 y1 m0 m1)
  unfold dayV
  rcases date_next D h0 with ⟨q0, q1, q2, q3⟩ | ⟨q0, _, q1, q2⟩
  · rw [q1, q2, q3]
    exact tomorrow_0 _ _ _ _ _ _ w y0 y1 m0 m1 d0 d1 v0 v1 hu q0 CD
  · rcases q2 with ⟨r1, r2, r3⟩ | ⟨r1, r2, r3⟩
    · rw [q1, r2, r3]
      exact tomorrow_1 _ _ _ _ _ _ w y0 y1 m0 m1 d0 d1 v0 v1 hu (Int.not_le.1 q0) r1 CD
    · rw [q1, r2, r3]
      exact tomorrow_2 _ _ _ _ _ _ w y0 y1 m0 m1 d0 d1 v0 v1 hu (Int.not_le.1 q0) (by rw [r1]; decide) CD
end Go.Proofs.YteloamnakikbbaaDoor.Cron

/- The document's has and day, walked. -/
namespace Go.Proofs.YteloamnakikbbaaDoor.Cron
set_option linter.unusedVariables false
set_option linter.unusedSimpArgs false
open Go.RowKit Go.Proofs.YteloamnakikbbaaDoorW.PrintWords Go.Proofs.YteloamnakikbbaaDoorW.PrintLast Go.Proofs.YteloamnakikbbaaDoor.Base Go.Proofs.YteloamnakikbbaaDoor.Cells

theorem bit_one (s n : Nat) (hs : s < 18446744073709551616) : (bits .and .u64 ((s >>> n : Nat) : Int) 1 == 1) = s.testBit n := by
  have h1 : s >>> n < 18446744073709551616 := by rw [Nat.shiftRight_eq_div_pow]; exact Nat.lt_of_le_of_lt (Nat.div_le_self _ _) hs
  have h2 := bits_and_u64_nat (s >>> n) 1 h1 (by decide)
  rw [show ((1 : Nat) : Int) = 1 from rfl] at h2
  rw [h2, Nat.testBit, Nat.and_one_is_mod, Nat.one_and_eq_mod_two]
  rcases Nat.mod_two_eq_zero_or_one (s >>> n) with h | h <;> rw [h] <;> rfl
set_option maxRecDepth 100000 in
theorem rhas_any (s : Nat) (n : Int) (w : World) (h0 : 0 ≤ n) (h1 : n ≤ 63) (hs : s < 18446744073709551616) : Calls Tryd.prog 30 #[.int .u64 s, .int .i64 n] w fun e w' => e = .returned (.bool (s.testBit n.toNat)) ∧ w' = w := by
  obtain ⟨q, hq⟩ : ∃ q, q = s >>> n.toNat := ⟨_, rfl⟩
  have hq2 : (s : Int) / 2 ^ n.toNat = (q : Int) := by rw [hq, Nat.shiftRight_eq_div_pow]; simp
  have hb := bit_one s n.toNat hs
  rw [← hq] at hb
  obtain ⟨o, ho⟩ := named (s.testBit n.toNat)
  rw [← ho.out] at hb ⊢
  obtain ⟨q', hq'⟩ : ∃ q' : Int, q' = q := ⟨_, rfl⟩
  rw [← hq'] at hq2 hb
  clear ho hq hq'
  go_enter Tryd.func30, Tryd.ntmps30
  go_wp2
  go_ret
  exact ⟨rfl, rfl⟩
/-- does a rule come on a day, by the document? -/
def onDayR (c d f : Nat) (x y : Bool) (D : Int) : Bool :=
  d.testBit (monthP D).toNat && (if x && y then true else if x then f.testBit (weekP D).toNat else if y then c.testBit (domP D).toNat else c.testBit (domP D).toNat || f.testBit (weekP D).toNat)
set_option maxRecDepth 100000 in
set_option maxHeartbeats 4000000 in
theorem rday_core (a b c d f : Int) (x y : Bool) (y0 mo dy wk : Int) (p q o r : Bool) (w : World) (hr : r = (o && (if x && y then true else if x then q else if y then p else p || q)))
    (CP : Aside0 (∀ W, Calls Tryd.prog 30 #[.int .u64 c, .int .i64 dy] W fun e w' => e = .returned (.bool p) ∧ w' = W))
    (CQ : Aside0 (∀ W, Calls Tryd.prog 30 #[.int .u64 f, .int .i64 wk] W fun e w' => e = .returned (.bool q) ∧ w' = W))
    (CO : Aside0 (∀ W, Calls Tryd.prog 30 #[.int .u64 d, .int .i64 mo] W fun e w' => e = .returned (.bool o) ∧ w' = W)) :
    Calls Tryd.prog 29 #[.agg #[.int .u64 a, .int .u64 b, .int .u64 c, .int .u64 d, .int .u64 f, .bool x, .bool y], .agg #[.int .i64 y0, .int .i64 mo, .int .i64 dy, .int .i64 0, .int .i64 0, .int .i64 0, .int .i64 wk]] w
      fun e w' => e = .returned (.bool r) ∧ Below w.heap.size w w' := by
  have HK0 := Aside0.mk (blk_alloc (blk_new w (.cells #[.int .u64 a, .int .u64 b, .int .u64 c, .int .u64 d, .int .u64 f, .bool x, .bool y] 27)) (.cells #[.int .i64 y0, .int .i64 mo, .int .i64 dy, .int .i64 0, .int .i64 0, .int .i64 0, .int .i64 wk] 68))
  have HM0 := Aside0.mk (blk_new1 w (.cells #[.int .u64 a, .int .u64 b, .int .u64 c, .int .u64 d, .int .u64 f, .bool x, .bool y] 27) #[.int .i64 y0, .int .i64 mo, .int .i64 dy, .int .i64 0, .int .i64 0, .int .i64 0, .int .i64 wk] 68)
  have HB0 := Aside0.mk (below_alloc (below_alloc (Below.refl _ w) (.cells #[.int .u64 a, .int .u64 b, .int .u64 c, .int .u64 d, .int .u64 f, .bool x, .bool y] 27)) (.cells #[.int .i64 y0, .int .i64 mo, .int .i64 dy, .int .i64 0, .int .i64 0, .int .i64 0, .int .i64 wk] 68))
  obtain ⟨W, hW⟩ : ∃ W, W = (w.alloc (.cells #[.int .u64 a, .int .u64 b, .int .u64 c, .int .u64 d, .int .u64 f, .bool x, .bool y] 27)).alloc (.cells #[.int .i64 y0, .int .i64 mo, .int .i64 dy, .int .i64 0, .int .i64 0, .int .i64 0, .int .i64 wk] 68) := ⟨_, rfl⟩
  have HR := Aside0.mk hr
  clear hr
  go_enter Tryd.func29, Tryd.ntmps29
  go_upto_region 1 with (fail)
  rw [← hW] at HK0 HM0 HB0 ⊢
  clear hW
  obtain ⟨⟨k0, k1, k2, k3, k4, k5, k6⟩, _⟩ := all7 HK0.out
  obtain ⟨⟨m0, m1, m2, m3, m4, m5, m6⟩, _⟩ := all7 HM0.out
  cases o <;> cases x <;> cases y <;> cases p <;> cases q <;> (have HR2 := HR.out; simp at HR2; subst HR2; clear HR; go_wp2_with (first | (go_at_call 30; with_reducible refine (CO.out _).mono ?_; rintro e w4 ⟨rfl, rfl⟩) | (go_at_call 30; with_reducible refine (CP.out _).mono ?_; rintro e w4 ⟨rfl, rfl⟩) | (go_at_call 30; with_reducible refine (CQ.out _).mono ?_; rintro e w4 ⟨rfl, rfl⟩)); go_ret; exact ⟨rfl, HB0.out⟩)
theorem rday_any (a b c d f : Nat) (x y : Bool) (D : Int) (w : World) (hc : c < 18446744073709551616) (hd : d < 18446744073709551616) (hf : f < 18446744073709551616) :
    Calls Tryd.prog 29 #[.agg #[.int .u64 a, .int .u64 b, .int .u64 c, .int .u64 d, .int .u64 f, .bool x, .bool y], .agg (dayV D)] w fun e w' => e = .returned (.bool (onDayR c d f x y D)) ∧ Below w.heap.size w w' := by
  obtain ⟨⟨a1, a2⟩, ⟨a3, a4⟩, ⟨a5, a6⟩⟩ := moment63 D _ _ _ rfl rfl rfl
  exact rday_core a b c d f x y _ _ _ _ _ _ _ _ w rfl ⟨fun W => rhas_any c _ W a3 a4 hc⟩ ⟨fun W => rhas_any f _ W a5 a6 hf⟩ ⟨fun W => rhas_any d _ W a1 a2 hd⟩
end Go.Proofs.YteloamnakikbbaaDoor.Cron

/- The document's all, walked. -/
namespace Go.Proofs.YteloamnakikbbaaDoor.Cron
set_option linter.unusedVariables false
set_option linter.unusedSimpArgs false
open Go.RowKit Go.Proofs.YteloamnakikbbaaDoorW.PrintWords Go.Proofs.YteloamnakikbbaaDoorW.PrintLast Go.Proofs.YteloamnakikbbaaDoor.Base Go.Proofs.YteloamnakikbbaaDoor.Cells Go.Proofs.YteloamnakikbbaaDoor.CronPure

set_option maxRecDepth 100000 in
set_option maxHeartbeats 2000000 in
theorem rall_any (a b : Nat) (w : World) (hab : a ≤ b) (hb : b ≤ 63) : Calls Tryd.prog 43 #[.int .i64 a, .int .i64 b] w fun e w' => e = .returned (.int .u64 (setOf a b 1 : Nat)) ∧ w' = w := by
  have st1 : 0 < 1 := by omega
  go_enter Tryd.func43, Tryd.ntmps43
  go_wp2
  go_loopg [5, 6] (many a b 1) (fun g v5 v6 wr => ∃ k x S : Nat, Aside0 (x = a + k * 1 ∧ S = setTo a 1 k) ∧ v6 = .int .i64 x ∧ g + k = many a b 1 ∧ v5 = .int .u64 S ∧ wr = w)
  case atStart => exact ⟨0, a, 0, ⟨by simp, rfl⟩, rfl, by omega, rfl, rfl⟩
  case round =>
    obtain ⟨k, x, S, HX, rfl, hg, rfl, rfl⟩ := hrel
    by_cases hx : x ≤ b
    · have HK : Aside0 (k < many a b 1) := ⟨(many_iff st1).2 (by rw [← HX.out.1]; exact hx)⟩
      have hkm := HK.out
      have xi : (x : Int) ≤ (b : Int) := by omega
      have x63 : (x : Int) ≤ 63 := by omega
      go_wp2
      go_roundg (many a b 1 - k - 1)
      case measure => omega
      case rel =>
        have hS : S < 2 ^ 64 := by
          rw [HX.out.2]
          exact setTo_lt _ _ _ _ fun j hj => by
            have := (many_iff (low := a) (high := b) (k := j) st1).1 (by omega)
            omega
        exact ⟨k + 1, x + 1, S ||| 2 ^ x, ⟨by rw [HX.out.1, Nat.add_mul]; omega, by rw [setTo_succ, ← HX.out.1, HX.out.2]⟩, by push_cast; rfl, by omega, by rw [or_bit hS (by omega)], rfl⟩
    · have xi : ¬ (x : Int) ≤ (b : Int) := by omega
      have HK : Aside0 (k = many a b 1) := ⟨by
        have : ¬ k < many a b 1 := fun h => hx (by rw [HX.out.1]; exact (many_iff st1).1 h)
        omega⟩
      have HSS : Aside0 (S = setOf a b 1) := ⟨by rw [HX.out.2, HK.out]; rfl⟩
      obtain rfl := HSS.out
      go_wp2
      go_ret
      exact ⟨rfl, rfl⟩
theorem rall_0 (w : World) : Calls Tryd.prog 43 #[.int .i64 0, .int .i64 59] w fun e w' => e = .returned (.int .u64 1152921504606846975) ∧ w' = w := rall_any 0 59 w (by omega) (by omega)
theorem rall_1 (w : World) : Calls Tryd.prog 43 #[.int .i64 0, .int .i64 23] w fun e w' => e = .returned (.int .u64 16777215) ∧ w' = w := rall_any 0 23 w (by omega) (by omega)
theorem rall_2 (w : World) : Calls Tryd.prog 43 #[.int .i64 1, .int .i64 31] w fun e w' => e = .returned (.int .u64 4294967294) ∧ w' = w := rall_any 1 31 w (by omega) (by omega)
theorem rall_3 (w : World) : Calls Tryd.prog 43 #[.int .i64 1, .int .i64 12] w fun e w' => e = .returned (.int .u64 8190) ∧ w' = w := rall_any 1 12 w (by omega) (by omega)
theorem rall_4 (w : World) : Calls Tryd.prog 43 #[.int .i64 0, .int .i64 6] w fun e w' => e = .returned (.int .u64 127) ∧ w' = w := rall_any 0 6 w (by omega) (by omega)
end Go.Proofs.YteloamnakikbbaaDoor.Cron

/- The document's Check of a rule, walked. -/
namespace Go.Proofs.YteloamnakikbbaaDoor.Cron
set_option linter.unusedVariables false
set_option linter.unusedSimpArgs false
open Go.RowKit Go.Proofs.YteloamnakikbbaaDoorW.PrintWords Go.Proofs.YteloamnakikbbaaDoorW.PrintLast Go.Proofs.YteloamnakikbbaaDoor.Base Go.Proofs.YteloamnakikbbaaDoor.Cells Go.Proofs.YteloamnakikbbaaDoor.CronPure

set_option maxRecDepth 100000 in
set_option maxHeartbeats 8000000 in
theorem rcheck_any (a b c d f : Int) (x y : Bool) (w : World) : Calls Tryd.prog 26 #[.agg #[.int .u64 a, .int .u64 b, .int .u64 c, .int .u64 d, .int .u64 f, .bool x, .bool y]] w fun e w' => e = .returned (.int .i64 (if chkR a b c d f x y then 0 else 9)) ∧ Below w.heap.size w w' := by
  obtain ⟨RE, hRE⟩ := named (if chkR a b c d f x y then (0 : Int) else 9)
  rw [← hRE.out]
  have HBD : Aside0 (∀ k, (k = badS a 1152921504606846975 ∨ k = badS b 16777215 ∨ k = badS c 4294967294 ∨ k = badS d 8190 ∨ k = badS f 127) → k = true → RE = 9) := ⟨fun k hk h => by
    rw [hRE.out]
    have : chkR a b c d f x y = false := by
      subst h
      unfold chkR setOk
      rcases hk with hk | hk | hk | hk | hk <;> rw [← hk] <;> simp
    rw [this]; rfl⟩
  have HB0 := Aside0.mk (below_alloc (Below.refl _ w) (.cells #[.int .u64 a, .int .u64 b, .int .u64 c, .int .u64 d, .int .u64 f, .bool x, .bool y] 27))
  have HK0 := Aside0.mk (blk_new w (.cells #[.int .u64 a, .int .u64 b, .int .u64 c, .int .u64 d, .int .u64 f, .bool x, .bool y] 27))
  obtain ⟨V, hV⟩ : ∃ V, V = (w.alloc (.cells #[.int .u64 a, .int .u64 b, .int .u64 c, .int .u64 d, .int .u64 f, .bool x, .bool y] 27)) := ⟨_, rfl⟩
  have hVs : V.heap.size = w.heap.size + 1 := by rw [hV]; simp
  go_enter Tryd.func26, Tryd.ntmps26
  go_upto_region 1 with (fail)
  rw [← hV] at HB0 HK0 ⊢
  clear hV
  obtain ⟨⟨k0, k1, k2, k3, k4, k5, k6⟩, _⟩ := all7 HK0.out
  go_upto_region 3 with (first | (go_at_call 43; with_reducible refine (rall_0 _).mono ?_; rintro e w4 ⟨rfl, rfl⟩) | (go_at_call 43; with_reducible refine (rall_1 _).mono ?_; rintro e w4 ⟨rfl, rfl⟩) | (go_at_call 43; with_reducible refine (rall_2 _).mono ?_; rintro e w4 ⟨rfl, rfl⟩) | (go_at_call 43; with_reducible refine (rall_3 _).mono ?_; rintro e w4 ⟨rfl, rfl⟩) | (go_at_call 43; with_reducible refine (rall_4 _).mono ?_; rintro e w4 ⟨rfl, rfl⟩))
  obtain ⟨X, hX⟩ : ∃ X, X = (V.alloc (.cells #[.int .u64 a, .int .u64 b, .int .u64 c, .int .u64 d, .int .u64 f] 25)).alloc (.cells #[.int .u64 1152921504606846975, .int .u64 16777215, .int .u64 4294967294, .int .u64 8190, .int .u64 127] 25) := ⟨_, rfl⟩
  have HKX : Aside0 (X.heap[w.heap.size]? = some (.cells #[.int .u64 a, .int .u64 b, .int .u64 c, .int .u64 d, .int .u64 f, .bool x, .bool y] 27 (0, 0))) := ⟨by rw [hX]; exact blk_alloc (blk_alloc HK0.out _) _⟩
  have HRX : Aside0 (X.heap[w.heap.size + 1]? = some (.cells #[.int .u64 a, .int .u64 b, .int .u64 c, .int .u64 d, .int .u64 f] 25 (0, 0))) := ⟨by rw [hX, ← hVs]; exact blk_alloc (blk_new V _) _⟩
  have HSX : Aside0 (X.heap[w.heap.size + 1 + 1]? = some (.cells #[.int .u64 1152921504606846975, .int .u64 16777215, .int .u64 4294967294, .int .u64 8190, .int .u64 127] 25 (0, 0))) := ⟨by rw [hX, ← hVs]; exact blk_new1 V _ _ _⟩
  have HBX : Aside0 (Below w.heap.size w X) := ⟨by rw [hX]; exact below_alloc (below_alloc HB0.out _) _⟩
  rw [← hX]
  clear hX hVs HB0 HK0 k0 k1 k2 k3 k4 k5 k6
  go_wp2
  go_loopg [5] 5 (fun g v5 wr => ∃ i : Nat, v5 = .int .i64 i ∧ g + i = 5 ∧ Aside0 (Below X.heap.size X wr) ∧ Aside0 ((0 < i → badS a 1152921504606846975 = false) ∧ (1 < i → badS b 16777215 = false) ∧ (2 < i → badS c 4294967294 = false) ∧ (3 < i → badS d 8190 = false) ∧ (4 < i → badS f 127 = false)))
  case atStart => exact ⟨0, rfl, by omega, ⟨Below.refl _ _⟩, ⟨by omega, by omega, by omega, by omega, by omega⟩⟩
  case round =>
    obtain ⟨i, rfl, hg, HW, HSM⟩ := hrel
    have HRW := Aside0.mk (blk_keep HRX.out HW.out)
    have HSW := Aside0.mk (blk_keep HSX.out HW.out)
    have HKW := Aside0.mk (blk_keep HKX.out HW.out)
    have HBW := Aside0.mk (bthen HBX.out HW.out)
    rcases (show i = 0 ∨ i = 1 ∨ i = 2 ∨ i = 3 ∨ i = 4 ∨ i = 5 by omega) with rfl | rfl | rfl | rfl | rfl | rfl
    · have g0 : wr.cell? ⟨w.heap.size + 1, 0, none⟩ = some (.int .u64 a) := blk_cell HRW.out 0
      have g1 : wr.cell? ⟨w.heap.size + 1 + 1, 0, none⟩ = some (.int .u64 1152921504606846975) := blk_cell HSW.out 0
      by_cases z : a = 0
      · have z1 : (a == 0) = true := by simp [z]
        obtain rfl := HBD.out _ (.inl rfl) (by rw [badS, z1]; rfl)
        clear z1
        subst z
        go_wp2_with fail
        go_quiet (fail)
        go_wp2
        go_ret
        exact ⟨rfl, pw_below_drewN HBW.out _⟩
      have z1 : (a == 0) = false := by simp [z]
      cases z2 : (bits .andNot .u64 a 1152921504606846975 != 0) with
      | true =>
        obtain rfl := HBD.out _ (.inl rfl) (by rw [badS, z1, z2]; rfl)
        go_wp2_with fail
        go_quiet (fail)
        go_wp2
        go_ret
        exact ⟨rfl, pw_below_drewN HBW.out _⟩
      | false =>
        have HZ : Aside0 (badS a 1152921504606846975 = false) := ⟨by rw [badS, z1, z2]; rfl⟩
        go_wp2_with fail
        go_quiet (fail)
        go_wp2
        go_roundg 4
        case measure => omega
        case rel => exact ⟨1, rfl, by omega, ⟨pw_below_drewN HW.out _⟩, ⟨fun _ => HZ.out, fun _ => absurd ‹_› (by omega), fun _ => absurd ‹_› (by omega), fun _ => absurd ‹_› (by omega), fun _ => absurd ‹_› (by omega)⟩⟩
    · have g0 : wr.cell? ⟨w.heap.size + 1, 1, none⟩ = some (.int .u64 b) := blk_cell HRW.out 1
      have g1 : wr.cell? ⟨w.heap.size + 1 + 1, 1, none⟩ = some (.int .u64 16777215) := blk_cell HSW.out 1
      by_cases z : b = 0
      · have z1 : (b == 0) = true := by simp [z]
        obtain rfl := HBD.out _ (.inr (.inl rfl)) (by rw [badS, z1]; rfl)
        clear z1
        subst z
        go_wp2_with fail
        go_quiet (fail)
        go_wp2
        go_ret
        exact ⟨rfl, pw_below_drewN HBW.out _⟩
      have z1 : (b == 0) = false := by simp [z]
      cases z2 : (bits .andNot .u64 b 16777215 != 0) with
      | true =>
        obtain rfl := HBD.out _ (.inr (.inl rfl)) (by rw [badS, z1, z2]; rfl)
        go_wp2_with fail
        go_quiet (fail)
        go_wp2
        go_ret
        exact ⟨rfl, pw_below_drewN HBW.out _⟩
      | false =>
        have HZ : Aside0 (badS b 16777215 = false) := ⟨by rw [badS, z1, z2]; rfl⟩
        go_wp2_with fail
        go_quiet (fail)
        go_wp2
        go_roundg 3
        case measure => omega
        case rel => exact ⟨2, rfl, by omega, ⟨pw_below_drewN HW.out _⟩, ⟨fun _ => HSM.out.1 (by omega), fun _ => HZ.out, fun _ => absurd ‹_› (by omega), fun _ => absurd ‹_› (by omega), fun _ => absurd ‹_› (by omega)⟩⟩
    · have g0 : wr.cell? ⟨w.heap.size + 1, 2, none⟩ = some (.int .u64 c) := blk_cell HRW.out 2
      have g1 : wr.cell? ⟨w.heap.size + 1 + 1, 2, none⟩ = some (.int .u64 4294967294) := blk_cell HSW.out 2
      by_cases z : c = 0
      · have z1 : (c == 0) = true := by simp [z]
        obtain rfl := HBD.out _ (.inr (.inr (.inl rfl))) (by rw [badS, z1]; rfl)
        clear z1
        subst z
        go_wp2_with fail
        go_quiet (fail)
        go_wp2
        go_ret
        exact ⟨rfl, pw_below_drewN HBW.out _⟩
      have z1 : (c == 0) = false := by simp [z]
      cases z2 : (bits .andNot .u64 c 4294967294 != 0) with
      | true =>
        obtain rfl := HBD.out _ (.inr (.inr (.inl rfl))) (by rw [badS, z1, z2]; rfl)
        go_wp2_with fail
        go_quiet (fail)
        go_wp2
        go_ret
        exact ⟨rfl, pw_below_drewN HBW.out _⟩
      | false =>
        have HZ : Aside0 (badS c 4294967294 = false) := ⟨by rw [badS, z1, z2]; rfl⟩
        go_wp2_with fail
        go_quiet (fail)
        go_wp2
        go_roundg 2
        case measure => omega
        case rel => exact ⟨3, rfl, by omega, ⟨pw_below_drewN HW.out _⟩, ⟨fun _ => HSM.out.1 (by omega), fun _ => HSM.out.2.1 (by omega), fun _ => HZ.out, fun _ => absurd ‹_› (by omega), fun _ => absurd ‹_› (by omega)⟩⟩
    · have g0 : wr.cell? ⟨w.heap.size + 1, 3, none⟩ = some (.int .u64 d) := blk_cell HRW.out 3
      have g1 : wr.cell? ⟨w.heap.size + 1 + 1, 3, none⟩ = some (.int .u64 8190) := blk_cell HSW.out 3
      by_cases z : d = 0
      · have z1 : (d == 0) = true := by simp [z]
        obtain rfl := HBD.out _ (.inr (.inr (.inr (.inl rfl)))) (by rw [badS, z1]; rfl)
        clear z1
        subst z
        go_wp2_with fail
        go_quiet (fail)
        go_wp2
        go_ret
        exact ⟨rfl, pw_below_drewN HBW.out _⟩
      have z1 : (d == 0) = false := by simp [z]
      cases z2 : (bits .andNot .u64 d 8190 != 0) with
      | true =>
        obtain rfl := HBD.out _ (.inr (.inr (.inr (.inl rfl)))) (by rw [badS, z1, z2]; rfl)
        go_wp2_with fail
        go_quiet (fail)
        go_wp2
        go_ret
        exact ⟨rfl, pw_below_drewN HBW.out _⟩
      | false =>
        have HZ : Aside0 (badS d 8190 = false) := ⟨by rw [badS, z1, z2]; rfl⟩
        go_wp2_with fail
        go_quiet (fail)
        go_wp2
        go_roundg 1
        case measure => omega
        case rel => exact ⟨4, rfl, by omega, ⟨pw_below_drewN HW.out _⟩, ⟨fun _ => HSM.out.1 (by omega), fun _ => HSM.out.2.1 (by omega), fun _ => HSM.out.2.2.1 (by omega), fun _ => HZ.out, fun _ => absurd ‹_› (by omega)⟩⟩
    · have g0 : wr.cell? ⟨w.heap.size + 1, 4, none⟩ = some (.int .u64 f) := blk_cell HRW.out 4
      have g1 : wr.cell? ⟨w.heap.size + 1 + 1, 4, none⟩ = some (.int .u64 127) := blk_cell HSW.out 4
      by_cases z : f = 0
      · have z1 : (f == 0) = true := by simp [z]
        obtain rfl := HBD.out _ (.inr (.inr (.inr (.inr rfl)))) (by rw [badS, z1]; rfl)
        clear z1
        subst z
        go_wp2_with fail
        go_quiet (fail)
        go_wp2
        go_ret
        exact ⟨rfl, pw_below_drewN HBW.out _⟩
      have z1 : (f == 0) = false := by simp [z]
      cases z2 : (bits .andNot .u64 f 127 != 0) with
      | true =>
        obtain rfl := HBD.out _ (.inr (.inr (.inr (.inr rfl)))) (by rw [badS, z1, z2]; rfl)
        go_wp2_with fail
        go_quiet (fail)
        go_wp2
        go_ret
        exact ⟨rfl, pw_below_drewN HBW.out _⟩
      | false =>
        have HZ : Aside0 (badS f 127 = false) := ⟨by rw [badS, z1, z2]; rfl⟩
        go_wp2_with fail
        go_quiet (fail)
        go_wp2
        go_roundg 0
        case measure => omega
        case rel => exact ⟨5, rfl, by omega, ⟨pw_below_drewN HW.out _⟩, ⟨fun _ => HSM.out.1 (by omega), fun _ => HSM.out.2.1 (by omega), fun _ => HSM.out.2.2.1 (by omega), fun _ => HSM.out.2.2.2.1 (by omega), fun _ => HZ.out⟩⟩
    · have HSO : Aside0 (setOk a b c d f = true) := ⟨by rw [setOk, HSM.out.1 (by omega), HSM.out.2.1 (by omega), HSM.out.2.2.1 (by omega), HSM.out.2.2.2.1 (by omega), HSM.out.2.2.2.2 (by omega)]; rfl⟩
      have HN : Aside0 (RE = if starOk c f x y then 0 else 9) := ⟨by rw [hRE.out, chkR, HSO.out, Bool.true_and]⟩
      obtain ⟨⟨k0, k1, k2, k3, k4, k5, k6⟩, _⟩ := all7 HKW.out
      have g2 : wr.cell? ⟨w.heap.size + 1 + 1, 2, none⟩ = some (.int .u64 4294967294) := blk_cell HSW.out 2
      have g4 : wr.cell? ⟨w.heap.size + 1 + 1, 4, none⟩ = some (.int .u64 127) := blk_cell HSW.out 4
      cases x <;> cases y <;> cases z1 : (c != 4294967294) <;> cases z2 : (f != 127) <;> (have HN2 := HN.out; simp only [starOk, z1, z2, Bool.false_and, Bool.true_and, Bool.not_false, Bool.not_true, Bool.and_true, Bool.and_false, if_true, if_false, Bool.false_eq_true] at HN2; subst HN2; clear HN; go_wp2_with fail; go_quiet (fail); go_wp2; go_ret; exact ⟨rfl, pw_below_drewN HBW.out _⟩)
end Go.Proofs.YteloamnakikbbaaDoor.Cron

/- The least minute; the document's next day by day, minute by minute, is the program's. No program. -/
namespace Go.Proofs.YteloamnakikbbaaDoor.Cron
set_option linter.unusedVariables false
set_option linter.unusedSimpArgs false
open Go.RowKit Go.Proofs.YteloamnakikbbaaDoorW.PrintWords Go.Proofs.YteloamnakikbbaaDoor.Base

/-- the least number from one on, within so many, of which something holds -/
def findK (p : Nat → Bool) : Nat → Nat → Option Nat
  | 0, _ => none
  | g + 1, k => if p k then some k else findK p g (k + 1)
/-- what it is to be the least -/
def Least (p : Nat → Bool) (lo hi : Nat) : Option Nat → Prop
  | none => ∀ j, lo ≤ j → j < hi → p j = false
  | some v => lo ≤ v ∧ v < hi ∧ p v = true ∧ ∀ j, lo ≤ j → j < v → p j = false
theorem findK_least (p : Nat → Bool) : ∀ g k, Least p k (k + g) (findK p g k)
  | 0, k => fun j h1 h2 => by omega
  | g + 1, k => by
    rw [findK]
    cases hp : p k with
    | true => exact ⟨Nat.le_refl _, by omega, hp, fun j h1 h2 => by omega⟩
    | false =>
      have ih := findK_least p g (k + 1)
      rw [if_neg (by simp)]
      have hj : ∀ j, k ≤ j → ¬ k + 1 ≤ j → p j = false := fun j h1 h2 => by
        have : j = k := by omega
        rw [this]; exact hp
      cases hf : findK p g (k + 1) with
      | none =>
        rw [hf] at ih
        exact fun j h1 h2 => if h : k + 1 ≤ j then ih j h (by omega) else hj j h1 h
      | some v =>
        rw [hf] at ih
        obtain ⟨q1, q2, q3, q4⟩ := ih
        exact ⟨by omega, by omega, q3, fun j h1 h2 => if h : k + 1 ≤ j then q4 j h h2 else hj j h1 h⟩
theorem Least.unique {p : Nat → Bool} {lo hi : Nat} {x y : Option Nat} (h1 : Least p lo hi x) (h2 : Least p lo hi y) : x = y := by
  cases x with
  | none =>
    cases y with
    | none => rfl
    | some v =>
      have := h1 v h2.1 h2.2.1
      rw [h2.2.2.1] at this
      cases this
  | some u =>
    cases y with
    | none =>
      have := h2 u h1.1 h1.2.1
      rw [h1.2.2.1] at this
      cases this
    | some v =>
      obtain ⟨a1, a2, a3, a4⟩ := h1
      obtain ⟨b1, b2, b3, b4⟩ := h2
      by_cases h : u < v
      · have := b4 u a1 h; rw [a3] at this; cases this
      · by_cases h' : v < u
        · have := a4 v b1 h'; rw [b3] at this; cases this
        · have : u = v := by omega
          rw [this]
/-- it holds of none ahead -/
theorem Least.lower {p : Nat → Bool} {lo lo' hi : Nat} {x : Option Nat} (h : Least p lo' hi x) (hl : lo ≤ lo') (hn : ∀ j, lo ≤ j → j < lo' → p j = false) : Least p lo hi x := by
  cases x with
  | none => exact fun j h1 h2 => if g : lo' ≤ j then h j g h2 else hn j h1 (by omega)
  | some v => exact ⟨by have := h.1; omega, h.2.1, h.2.2.1, fun j h1 h2 => if g : lo' ≤ j then h.2.2.2 j g h2 else hn j h1 (by omega)⟩
theorem Least.congr {p q : Nat → Bool} {lo hi : Nat} {x : Option Nat} (h : Least p lo hi x) (he : ∀ j, lo ≤ j → j < hi → p j = q j) : Least q lo hi x := by
  cases x with
  | none => exact fun j h1 h2 => by rw [← he j h1 h2]; exact h j h1 h2
  | some v => exact ⟨h.1, h.2.1, by rw [← he v h.1 h.2.1]; exact h.2.2.1, fun j h1 h2 => by rw [← he j h1 (by have := h.2.1; omega)]; exact h.2.2.2 j h1 h2⟩
theorem bit_high {s K j : Nat} (hs : s < 2 ^ K) (h : K ≤ j) : s.testBit j = false := Nat.testBit_lt_two_pow (Nat.lt_of_lt_of_le hs (Nat.pow_le_pow_right (by omega) h))
theorem ctz_least {x : Nat} (hx : x ≠ 0) (h64 : x < 2 ^ 64) : x.testBit (Lib.ctz 64 x) = true ∧ ∀ j, j < Lib.ctz 64 x → x.testBit j = false := by
  rw [Lib.ctz, if_neg hx]
  obtain ⟨m, hm, _⟩ := Lib.ctzFrom_spec 64 x (by omega) h64
  obtain ⟨c, hc⟩ : ∃ c, c = Lib.ctzFrom 64 x := ⟨_, rfl⟩
  rw [← hc] at hm ⊢
  subst hm
  constructor
  · rw [Nat.testBit_two_pow_mul]
    simp
  · intro j hj
    rw [Nat.testBit_two_pow_mul]
    simp; omega
theorem fromP_least {s n K : Nat} (hs : s < 2 ^ K) (hK : K ≤ 64) : Least (fun j => s.testBit j) n K (fromP s n) := by
  have hs64 : s < 2 ^ 64 := Nat.lt_of_lt_of_le hs (Nat.pow_le_pow_right (by omega) hK)
  unfold fromP
  split
  · exact fun j h1 h2 => by omega
  · split
    · rename_i h1 h2
      intro j h3 h4
      have : (s >>> n).testBit (j - n) = s.testBit j := by rw [Nat.testBit_shiftRight]; congr 1; omega
      show s.testBit j = false
      rw [← this, h2, Nat.zero_testBit]
    · rename_i h1 h2
      have hq64 : s >>> n < 2 ^ 64 := by rw [Nat.shiftRight_eq_div_pow]; exact Nat.lt_of_le_of_lt (Nat.div_le_self _ _) hs64
      obtain ⟨b1, b2⟩ := ctz_least h2 hq64
      obtain ⟨c, hc⟩ : ∃ c, c = Lib.ctz 64 (s >>> n) := ⟨_, rfl⟩
      rw [← hc] at b1 b2 ⊢
      rw [Nat.testBit_shiftRight] at b1
      refine ⟨by omega, ?_, b1, fun j h3 h4 => ?_⟩
      · by_cases h : n + c < K
        · exact h
        · rw [bit_high hs (by omega)] at b1; cases b1
      · have := b2 (j - n) (by omega)
        rw [Nat.testBit_shiftRight] at this
        rw [show n + (j - n) = j by omega] at this
        exact this
/-- a rule comes at a minute of a day -/
def okMin (a b : Nat) (k : Nat) : Bool := a.testBit (k % 60) && b.testBit (k / 60)
theorem later_least {a b h : Nat} (ha : a < 2 ^ 60) (hb : b < 2 ^ 24) (ha0 : a ≠ 0) : Least (okMin a b) (60 * (h + 1)) 1440 (laterP a b h) := by
  have h1 := fromP_least (n := h + 1) hb (by omega)
  have h2 := fromP_least (n := 0) ha (by omega)
  unfold laterP
  cases e1 : fromP b (h + 1) with
  | none =>
    rw [e1] at h1
    intro j j1 j2
    have := h1 (j / 60) (by omega) (by omega)
    simp only at this
    rw [okMin, this, Bool.and_false]
  | some v =>
    rw [e1] at h1
    obtain ⟨q1, q2, q3, q4⟩ := h1
    cases e2 : fromP a 0 with
    | none =>
      rw [e2] at h2
      exfalso
      apply ha0
      apply Nat.eq_of_testBit_eq
      intro i
      rw [Nat.zero_testBit]
      by_cases hi : i < 60
      · exact h2 i (by omega) hi
      · exact bit_high ha (by omega)
    | some u =>
      rw [e2] at h2
      obtain ⟨r1, r2, r3, r4⟩ := h2
      simp only at q3 q4 r3 r4
      show 60 * (h + 1) ≤ 60 * v + u ∧ _
      refine ⟨by omega, by show 60 * v + u < 1440; omega, ?_, fun j j1 j2 => ?_⟩
      · show okMin a b (60 * v + u) = true
        rw [okMin, show (60 * v + u) % 60 = u by omega, show (60 * v + u) / 60 = v by omega, r3, q3]; rfl
      · replace j2 : j < 60 * v + u := j2
        by_cases hj : j / 60 < v
        · rw [okMin, q4 (j / 60) (by omega) hj, Bool.and_false]
        · rw [okMin, r4 (j % 60) (by omega) (by omega), Bool.false_and]
theorem hasB_bit (s n : Nat) (hs : s < 18446744073709551616) (hn : n ≤ 63) : hasB s (n : Int) = s.testBit n := by
  have h1 : (2 : Nat) ^ n < 18446744073709551616 := Nat.lt_of_le_of_lt (Nat.pow_le_pow_right (by omega) hn) (by decide)
  have h2 : IntKind.u64.wrap (2 ^ n) = ((2 ^ n : Nat) : Int) := by
    rw [show ((2 : Int) ^ n) = ((2 ^ n : Nat) : Int) by push_cast; rfl, IntKind.wrap_u64]
    generalize 2 ^ n = p at h1
    omega
  rw [hasB, Int.toNat_natCast, h2, bits_and_u64_nat s (2 ^ n) hs h1]
  cases hb : s.testBit n with
  | true =>
    have h3 : s &&& 2 ^ n ≠ 0 := fun h => by
      have := congrArg (fun x => x.testBit n) h
      simp [Nat.testBit_and, hb] at this
    simp [h3]
  | false =>
    have h3 : s &&& 2 ^ n = 0 := by
      apply Nat.eq_of_testBit_eq
      intro i
      rw [Nat.testBit_and, Nat.testBit_two_pow, Nat.zero_testBit]
      by_cases hi : n = i
      · rw [← hi, hb]; rfl
      · simp [hi]
    simp [h3]
theorem within_least {a b m : Nat} (ha : a < 2 ^ 60) (hb : b < 2 ^ 24) (ha0 : a ≠ 0) (hm : m < 1440) : Least (okMin a b) m 1440 (withinP a b m) := by
  have hL := later_least (h := m / 60) ha hb ha0
  have hbit := hasB_bit b (m / 60) (by omega) (by omega)
  unfold withinP
  rw [hbit]
  cases hh : b.testBit (m / 60) with
  | false =>
    rw [if_neg (by simp)]
    refine hL.lower (by omega) fun j j1 j2 => ?_
    have : b.testBit (m / 60) = false := hh
    rw [okMin, show j / 60 = m / 60 by omega, this, Bool.and_false]
  | true =>
    rw [if_pos rfl]
    have hh' : b.testBit (m / 60) = true := hh
    have h2 := fromP_least (n := m % 60) ha (by omega)
    cases e2 : fromP a (m % 60) with
    | none =>
      rw [e2] at h2
      refine hL.lower (by omega) fun j j1 j2 => ?_
      have := h2 (j % 60) (by omega) (by omega)
      simp only at this
      rw [okMin, this, Bool.false_and]
    | some u =>
      rw [e2] at h2
      obtain ⟨r1, r2, r3, r4⟩ := h2
      simp only at r3 r4
      refine ⟨by show m ≤ 60 * (m / 60) + u; omega, by show 60 * (m / 60) + u < 1440; omega, ?_, fun j j1 j2 => ?_⟩
      · show okMin a b (60 * (m / 60) + u) = true
        rw [okMin, show (60 * (m / 60) + u) % 60 = u by omega, show (60 * (m / 60) + u) / 60 = m / 60 by omega, r3, hh']; rfl
      · replace j2 : j < 60 * (m / 60) + u := j2
        rw [okMin, r4 (j % 60) (by omega) (by omega), Bool.false_and]
section
variable (onD : Nat → Bool) (a b : Nat)
def nextQ : Nat → Nat → Nat → Option Nat
  | 0, _, _ => none
  | g + 1, D, m => if onD D then (match withinP a b m with | some k => some (86400 * D + 60 * k) | none => nextQ g (D + 1) 0) else nextQ g (D + 1) 0
/-- the document's: day by day, minute by minute -/
def docQ (t : Int) : Nat → Nat → Option Nat
  | 0, _ => none
  | g + 1, D => if onD D then (match findK (fun k => decide (t < 86400 * (D : Int) + 60 * k) && okMin a b k) 1440 0 with | some k => some (86400 * D + 60 * k) | none => docQ t g (D + 1)) else docQ t g (D + 1)
variable {onD a b}
/-- a day's minutes from one on are those above t -/
theorem minutes_eq {t : Int} {D m : Nat} (ha : a < 2 ^ 60) (hb : b < 2 ^ 24) (ha0 : a ≠ 0) (hm : m < 1440) (h : ∀ k : Nat, k < 1440 → (t < 86400 * (D : Int) + 60 * k ↔ m ≤ k)) : findK (fun k => decide (t < 86400 * (D : Int) + 60 * k) && okMin a b k) 1440 0 = withinP a b m := by
  have h1 := findK_least (fun k => decide (t < 86400 * (D : Int) + 60 * k) && okMin a b k) 1440 0
  have h2 := within_least ha hb ha0 hm
  refine h1.unique ((h2.congr fun j j1 j2 => ?_).lower (Nat.zero_le _) fun j _ j2 => ?_)
  · have : decide (t < 86400 * (D : Int) + 60 * j) = true := decide_eq_true ((h j j2).2 j1)
    show okMin a b j = (decide (t < 86400 * (D : Int) + 60 * j) && okMin a b j)
    rw [this, Bool.true_and]
  · have : decide (t < 86400 * (D : Int) + 60 * j) = false := decide_eq_false fun hh => by have := (h j (by omega)).1 hh; omega
    show (decide (t < 86400 * (D : Int) + 60 * j) && okMin a b j) = false
    rw [this, Bool.false_and]
theorem minutes_none {t : Int} {D : Nat} (h : ∀ k : Nat, k < 1440 → ¬ t < 86400 * (D : Int) + 60 * k) : findK (fun k => decide (t < 86400 * (D : Int) + 60 * k) && okMin a b k) 1440 0 = none := by
  have h1 := findK_least (fun k => decide (t < 86400 * (D : Int) + 60 * k) && okMin a b k) 1440 0
  refine h1.unique (y := none) fun j _ j2 => ?_
  have : decide (t < 86400 * (D : Int) + 60 * j) = false := decide_eq_false (h j (by omega))
  show (decide (t < 86400 * (D : Int) + 60 * j) && okMin a b j) = false
  rw [this, Bool.false_and]
theorem doc_later {t : Int} (ha : a < 2 ^ 60) (hb : b < 2 ^ 24) (ha0 : a ≠ 0) : ∀ (g D m : Nat), m < 1440 → (∀ k : Nat, k < 1440 → (t < 86400 * (D : Int) + 60 * k ↔ m ≤ k)) → docQ onD a b t g D = nextQ onD a b g D m
  | 0, D, m, _, _ => rfl
  | g + 1, D, m, hm, h => by
    have h3 := (h 1439 (by omega)).2 (by omega)
    have e : ((D + 1 : Nat) : Int) = (D : Int) + 1 := by omega
    have ih := @doc_later t ha hb ha0 g (D + 1) 0 (by omega) fun k hk => by
      rw [e]
      constructor
      · intro _; omega
      · intro _; omega
    rw [docQ, nextQ, minutes_eq ha hb ha0 hm h, ih]
theorem doc_next {t : Int} (ha : a < 2 ^ 60) (hb : b < 2 ^ 24) (ha0 : a ≠ 0) (t0 : -1 ≤ t) (t1 : t < 32503680000) :
    docQ onD a b t (376200 - (t + 1).toNat / 86400) ((t + 1).toNat / 86400) = nextQ onD a b (376200 - startP t / 86400) (startP t / 86400) (startP t % 86400 / 60) := by
  obtain ⟨s, hs⟩ : ∃ s, s = startP t := ⟨_, rfl⟩
  have e1 : (s : Int) = (t + 60) / 60 * 60 := by rw [hs, startP]; omega
  rw [← hs]
  obtain ⟨u, hu⟩ : ∃ u, u = (t + 1).toNat := ⟨_, rfl⟩
  have e2 : (u : Int) = t + 1 := by omega
  rw [← hu]
  have hk : ∀ k : Nat, k < 1440 → (t < 86400 * ((s / 86400 : Nat) : Int) + 60 * k ↔ s % 86400 / 60 ≤ k) := fun k hk => by omega
  by_cases h : u / 86400 = s / 86400
  · rw [h]
    exact doc_later ha hb ha0 _ _ _ (by omega) hk
  · have h2 : s / 86400 = u / 86400 + 1 := by omega
    have h3 : 376200 - u / 86400 = (376200 - s / 86400) + 1 := by omega
    rw [h3, docQ, minutes_none (fun k hk2 => by omega), ← h2]
    have := @doc_later onD a b t ha hb ha0 (376200 - s / 86400) (s / 86400) (s % 86400 / 60) (by omega) hk
    rw [this]
    split <;> rfl
end
theorem nextP_Q (a b c d f : Nat) (x y : Bool) : ∀ g D m, nextP a b c d f x y g D m = nextQ (fun D => onDay c d f x y (D : Int)) a b g D m
  | 0, _, _ => rfl
  | g + 1, D, m => by
    rw [nextP, nextQ, nextP_Q a b c d f x y g (D + 1) 0]
    rfl
end Go.Proofs.YteloamnakikbbaaDoor.Cron

/- The document's Next, walked. -/
namespace Go.Proofs.YteloamnakikbbaaDoor.Cron
set_option linter.unusedVariables false
set_option linter.unusedSimpArgs false
open Go.RowKit Go.Proofs.YteloamnakikbbaaDoorW.PrintWords Go.Proofs.YteloamnakikbbaaDoorW.PrintLast Go.Proofs.YteloamnakikbbaaDoor.Base Go.Proofs.YteloamnakikbbaaDoor.Cells Go.Proofs.YteloamnakikbbaaDoor.CronPure

/-- a minute of a day, above t, at which a rule comes -/
def minP (a b : Nat) (t : Int) (D : Nat) (k : Nat) : Bool := decide (t < 86400 * (D : Int) + 60 * k) && okMin a b k
/-- the document's next -/
def docT (a b c d f : Nat) (x y : Bool) (t : Int) : Option Nat := docQ (fun D : Nat => onDayR c d f x y (D : Int)) a b t (376200 - (t + 1).toNat / 86400) ((t + 1).toNat / 86400)
set_option maxRecDepth 100000 in
theorem rsplit_out (t : Int) (w : World) (h : 32503680000 ≤ t) : Calls Tryd.prog 27 #[.int .i64 t] w fun e w' => e = .returned (.tuple #[.agg #[.int .i64 0, .int .i64 0, .int .i64 0, .int .i64 0, .int .i64 0, .int .i64 0, .int .i64 0], .int .i64 4]) ∧ Below w.heap.size w w' := by
  obtain ⟨W, hW⟩ : ∃ W, W = w.alloc (.cells #[.int .i64 0, .int .i64 0, .int .i64 0, .int .i64 0, .int .i64 0, .int .i64 0, .int .i64 0] 68) := ⟨_, rfl⟩
  have HB := Aside0.mk (below_alloc (Below.refl _ w) (.cells #[.int .i64 0, .int .i64 0, .int .i64 0, .int .i64 0, .int .i64 0, .int .i64 0, .int .i64 0] 68))
  have HK := Aside0.mk (blk_new w (.cells #[.int .i64 0, .int .i64 0, .int .i64 0, .int .i64 0, .int .i64 0, .int .i64 0, .int .i64 0] 68))
  go_enter Tryd.func27, Tryd.ntmps27
  go_upto_region 1 with (fail)
  rw [← hW] at HB HK ⊢
  clear hW
  obtain ⟨_, f0, f1, f2, f3, f4, f5, f6⟩ := all7 HK.out
  go_wp2
  refine bodyPost_ret (results_ct rfl _ _ w.heap.size 68 #[.int .i64 0, .int .i64 0, .int .i64 0, .int .i64 0, .int .i64 0, .int .i64 0, .int .i64 0] (0, 0) _ rfl (blk7 HK.out) Tryd.underlying68 rfl (by kernel_rfl)) rfl ?_
  exact ⟨rfl, below_set7 HB.out (Nat.le_refl _) _ _ _ _ _ _ _⟩
theorem far7 {w : World} {g k : Nat} {cs : Array Value} {t2 : TypeId} (hk : w.heap[k]? = some (.cells cs t2 (0, 0))) (hne : k ≠ g) (x0 x1 x2 x3 x4 x5 x6 : Value) : (((((((w.setCell ⟨g, 0, none⟩ x0).setCell ⟨g, 1, none⟩ x1).setCell ⟨g, 2, none⟩ x2).setCell ⟨g, 3, none⟩ x3).setCell ⟨g, 4, none⟩ x4).setCell ⟨g, 5, none⟩ x5).setCell ⟨g, 6, none⟩ x6).heap[k]? = some (.cells cs t2 (0, 0)) := by
  rw [Below.heap_setCell _ ⟨g, 6, none⟩ _ _ hne, Below.heap_setCell _ ⟨g, 5, none⟩ _ _ hne, Below.heap_setCell _ ⟨g, 4, none⟩ _ _ hne, Below.heap_setCell _ ⟨g, 3, none⟩ _ _ hne, Below.heap_setCell _ ⟨g, 2, none⟩ _ _ hne, Below.heap_setCell _ ⟨g, 1, none⟩ _ _ hne, Below.heap_setCell _ ⟨g, 0, none⟩ _ _ hne]
  exact hk
theorem findK_lt {p : Nat → Bool} {g k v : Nat} (h : findK p g k = some v) : v < k + g := by
  have := findK_least p g k
  rw [h] at this
  exact this.2.1
set_option maxRecDepth 100000 in
set_option maxHeartbeats 8000000 in
theorem rnext_bad (a b c d f : Nat) (x y : Bool) (t : Int) (w : World) (hk : chkR a b c d f x y = false) :
    Calls Tryd.prog 12 #[.agg #[.int .u64 a, .int .u64 b, .int .u64 c, .int .u64 d, .int .u64 f, .bool x, .bool y], .int .i64 t] w fun e w' => e = .returned (.tuple #[.int .i64 0, .bool false, .int .i64 9]) ∧ Below w.heap.size w w' := by
  have HB0 := Aside0.mk (below_alloc (Below.refl _ w) (.cells #[.int .u64 a, .int .u64 b, .int .u64 c, .int .u64 d, .int .u64 f, .bool x, .bool y] 27))
  have HK0 := Aside0.mk (blk_new w (.cells #[.int .u64 a, .int .u64 b, .int .u64 c, .int .u64 d, .int .u64 f, .bool x, .bool y] 27))
  have CC := Aside0.mk (fun W => rcheck_any a b c d f x y W)
  rw [hk] at CC
  clear hk
  obtain ⟨W, hW⟩ : ∃ W, W = w.alloc (.cells #[.int .u64 a, .int .u64 b, .int .u64 c, .int .u64 d, .int .u64 f, .bool x, .bool y] 27) := ⟨_, rfl⟩
  go_enter Tryd.func12, Tryd.ntmps12
  go_upto_region 1 with (fail)
  rw [← hW] at HB0 HK0 ⊢
  clear hW
  obtain ⟨⟨k0, k1, k2, k3, k4, k5, k6⟩, _⟩ := all7 HK0.out
  go_wp2_with (go_at_call 26; with_reducible refine (CC.out _).mono ?_; rintro e w4 ⟨rfl, hb⟩; (have HB := Aside0.mk (bthen HB0.out hb)); clear hb)
  refine bodyPost_ret (results_tmp3 rfl _ _ _) rfl ?_
  exact ⟨rfl, HB.out⟩
set_option maxRecDepth 100000 in
set_option maxHeartbeats 8000000 in
theorem rnext_good (a b c d f : Nat) (x y : Bool) (t : Int) (w : World) (hk : chkR a b c d f x y = true) (t0 : -1 ≤ t) (t1 : t < 32503680000) (ha : a < 18446744073709551616) (hb : b < 18446744073709551616) (hc : c < 18446744073709551616) (hd : d < 18446744073709551616) (hf : f < 18446744073709551616) :
    Calls Tryd.prog 12 #[.agg #[.int .u64 a, .int .u64 b, .int .u64 c, .int .u64 d, .int .u64 f, .bool x, .bool y], .int .i64 t] w fun e w' => e = .returned (.tuple #[.int .i64 ((docT a b c d f x y t).getD 0 : Nat), .bool (docT a b c d f x y t).isSome, .int .i64 0]) ∧ Below w.heap.size w w' := by
  have HB0 := Aside0.mk (below_alloc (Below.refl _ w) (.cells #[.int .u64 a, .int .u64 b, .int .u64 c, .int .u64 d, .int .u64 f, .bool x, .bool y] 27))
  have HK0 := Aside0.mk (blk_new w (.cells #[.int .u64 a, .int .u64 b, .int .u64 c, .int .u64 d, .int .u64 f, .bool x, .bool y] 27))
  have CC := Aside0.mk (fun W => rcheck_any a b c d f x y W)
  rw [hk] at CC
  obtain ⟨R, hR⟩ := named (docT a b c d f x y t)
  rw [← hR.out]
  obtain ⟨D0, hD0⟩ : ∃ D : Nat, D = (t + 1).toNat / 86400 := ⟨_, rfl⟩
  have HN : Aside0 (docQ (fun D : Nat => onDayR c d f x y (D : Int)) a b t (376200 - D0) D0 = R) := ⟨by rw [hR.out, docT, ← hD0]⟩
  have D1 : D0 ≤ 376200 := by omega
  have HDZ : Aside0 ((t + 1) / 86400 = (D0 : Int)) := ⟨by omega⟩
  have HST : Aside0 (t + 1 - (t + 1) % 86400 = 86400 * (D0 : Int)) := ⟨by omega⟩
  have n0 : ¬ (t < -1) := by omega
  have n1 : ¬ (32503680000 ≤ t) := by omega
  clear hD0 hR
  clear hk
  obtain ⟨W, hW⟩ : ∃ W, W = w.alloc (.cells #[.int .u64 a, .int .u64 b, .int .u64 c, .int .u64 d, .int .u64 f, .bool x, .bool y] 27) := ⟨_, rfl⟩
  go_enter Tryd.func12, Tryd.ntmps12
  go_upto_region 1 with (fail)
  rw [← hW] at HB0 HK0 ⊢
  clear hW
  obtain ⟨⟨k0, k1, k2, k3, k4, k5, k6⟩, _⟩ := all7 HK0.out
  go_upto_region 5 with (go_at_call 26; with_reducible refine (CC.out _).mono ?_; rintro e w4 ⟨rfl, hb⟩; (have HB := Aside0.mk (bthen HB0.out hb)); (have HK := Aside0.mk (blk_keep HK0.out hb)); clear hb k0 k1 k2 k3 k4 k5 k6)
  have HDZ2 := HDZ.out
  by_cases hz : D0 = 376200
  · have CS : Aside0 (∀ W, Calls Tryd.prog 27 #[.int .i64 (t + 1 - (t + 1) % 86400)] W fun e w' => e = .returned (.tuple #[.agg #[.int .i64 0, .int .i64 0, .int .i64 0, .int .i64 0, .int .i64 0, .int .i64 0, .int .i64 0], .int .i64 4]) ∧ Below W.heap.size W w') := ⟨fun W => rsplit_out _ W (by rw [HST.out]; omega)⟩
    have HRN : Aside0 (R = none) := ⟨by rw [← HN.out, hz]; rfl⟩
    have HE : Aside0 ((t + 1) / 86400 = 376200) := ⟨by omega⟩
    clear HN hz HDZ2
    obtain rfl := HRN.out
    go_wp2_with (go_at_call 27; with_reducible refine (CS.out _).mono ?_; rintro e w5 ⟨rfl, hb⟩; (have HB5 := Aside0.mk (below_alloc (bthen HB.out hb) (.cells #[.int .i64 0, .int .i64 0, .int .i64 0, .int .i64 0, .int .i64 0, .int .i64 0, .int .i64 0] 68))); clear hb)
    go_loopg [9] 0 (fun g v9 wr => ∃ A : Int, v9 = .int .i64 A ∧ g = 0 ∧ Aside0 (A = 376200) ∧ Aside0 (Below w.heap.size w wr))
    case atStart => exact ⟨_, rfl, rfl, HE, HB5⟩
    case round =>
      obtain ⟨A, rfl, hg, HA, HBW⟩ := hrel
      have hA := HA.out
      have aw : IntKind.i64.wrap (86400 * A) = 86400 * A := by rw [IntKind.wrap_i64]; omega
      have a1 : ¬ (86400 * A < 32503680000) := by omega
      clear hA
      go_wp2
      refine bodyPost_ret (results_tmp3 rfl _ _ _) rfl ?_
      exact ⟨rfl, HBW.out⟩
  have hz2 : D0 < 376200 := by omega
  have CS : Aside0 (∀ W, Calls Tryd.prog 27 #[.int .i64 (t + 1 - (t + 1) % 86400)] W fun e w' => e = .returned (.tuple #[.agg (dayV D0), .int .i64 0]) ∧ Below W.heap.size W w') := ⟨fun W => rsplit_any D0 _ W HST.out (by omega) (by omega)⟩
  clear hz HDZ2
  obtain ⟨m0, m1, m2, m3, HDV⟩ : ∃ m0 m1 m2 m3, Aside0 (dayV D0 = #[.int .i64 m0, .int .i64 m1, .int .i64 m2, .int .i64 0, .int .i64 0, .int .i64 0, .int .i64 m3]) := ⟨_, _, _, _, ⟨rfl⟩⟩
  rw [HDV.out] at CS
  go_wp2_with (go_at_call 27; with_reducible refine (CS.out _).mono ?_; rintro e w5 ⟨rfl, hb⟩; (have HB5 := Aside0.mk (bthen HB.out hb)); (have HK5 := Aside0.mk (blk_keep HK.out hb)); (have HM5 := Aside0.mk (blk_new w5 (.cells #[.int .i64 m0, .int .i64 m1, .int .i64 m2, .int .i64 0, .int .i64 0, .int .i64 0, .int .i64 m3] 68))); clear hb)
  go_loopg [9] (376200 - D0) (fun g v9 wr => ∃ (D : Nat) (E : Int), v9 = .int .i64 E ∧ g + D = 376200 ∧ Aside0 (E = (D : Int)) ∧ Aside0 (docQ (fun D : Nat => onDayR c d f x y (D : Int)) a b t (376200 - D) D = R) ∧ Aside0 (wr.heap[w5.heap.size]? = some (.cells (dayV D) 68 (0, 0))) ∧ Aside0 (Below w5.heap.size w5 wr))
  case atStart => exact ⟨D0, _, rfl, by omega, HDZ, HN, ⟨by rw [HDV.out]; exact HM5.out⟩, ⟨below_alloc (Below.refl _ w5) _⟩⟩
  case round =>
    obtain ⟨D, E, rfl, hg, HE, HNr, HMr, HBr⟩ := hrel
    have hE := HE.out
    have HKr := Aside0.mk (blk_keep HK5.out HBr.out)
    rcases (show D = 376200 ∨ D < 376200 by omega) with hD | hD
    · obtain rfl : R = none := by have := HNr.out; subst hD; exact this.symm
      have aw : IntKind.i64.wrap (86400 * E) = 86400 * E := by rw [IntKind.wrap_i64]; omega
      have a1 : ¬ (86400 * E < 32503680000) := by omega
      clear hE hD
      go_wp2
      refine bodyPost_ret (results_tmp3 rfl _ _ _) rfl ?_
      exact ⟨rfl, bthen HB5.out HBr.out⟩
    · have aw : IntKind.i64.wrap (86400 * E) = 86400 * E := by rw [IntKind.wrap_i64]; omega
      have a1 : 86400 * E < 32503680000 := by omega
      have E0 : 0 ≤ E := by omega
      have ew : IntKind.i64.wrap (E + 1) = E + 1 := by rw [IntKind.wrap_i64]; omega
      obtain ⟨gn, hgn⟩ : ∃ gn, 376200 - D = gn + 1 := ⟨376200 - D - 1, by omega⟩
      have hgn2 : 376200 - (D + 1) = gn := by omega
      have CT := Aside0.mk (fun W => rtomorrow_any (D : Int) W (by omega) (by omega))
      have CDY := Aside0.mk (fun W => rday_any a b c d f x y (D : Int) W hc hd hf)
      have HR2 := HNr.out
      rw [hgn, docQ] at HR2
      obtain ⟨q, hq⟩ := named (onDayR c d f x y (D : Int))
      obtain ⟨FK, hFK⟩ := named (findK (minP a b t D) 1440 0)
      have hFK2 : findK (fun k : Nat => decide (t < 86400 * (D : Int) + 60 * k) && okMin a b k) 1440 0 = FK := by rw [hFK.out]; rfl
      rw [hFK2] at HR2
      rw [← hq.out] at HR2
      have HR3 := Aside0.mk HR2
      rw [← hq.out] at CDY
      have HMr2 := HMr.out
      obtain ⟨d0, d1, d2, d3, hdv⟩ : ∃ d0 d1 d2 d3, dayV (D : Int) = #[.int .i64 d0, .int .i64 d1, .int .i64 d2, .int .i64 0, .int .i64 0, .int .i64 0, .int .i64 d3] := ⟨_, _, _, _, rfl⟩
      obtain ⟨u0, u1, u2, u3, huv⟩ : ∃ u0 u1 u2 u3, dayV ((D : Int) + 1) = #[.int .i64 u0, .int .i64 u1, .int .i64 u2, .int .i64 0, .int .i64 0, .int .i64 0, .int .i64 u3] := ⟨_, _, _, _, rfl⟩
      rw [hdv] at CT CDY HMr2
      rw [huv] at CT
      have HUV : Aside0 (dayV ((D + 1 : Nat) : Int) = #[.int .i64 u0, .int .i64 u1, .int .i64 u2, .int .i64 0, .int .i64 0, .int .i64 0, .int .i64 u3]) := ⟨by rw [← huv]; rfl⟩
      have HM6 := Aside0.mk HMr2
      have hlt := blk_lt HMr2
      have HGN := Aside0.mk (And.intro hgn hgn2)
      clear HR2 hFK2 hdv huv hq HMr2 hgn hgn2 hE
      obtain ⟨⟨j0, j1, j2, j3, j4, j5, j6⟩, g0, g1, g2, g3, g4, g5, g6⟩ := all7 HM6.out
      go_upto_region 11 with (go_at_call 28; with_reducible refine (CT.out _).mono ?_; rintro e w7 ⟨rfl, hb7⟩; (have HM7 := Aside0.mk (blk_keep (blk_alloc HM6.out (.cells #[.int .i64 d0, .int .i64 d1, .int .i64 d2, .int .i64 0, .int .i64 0, .int .i64 0, .int .i64 d3] 68)) hb7)); (have HK7 := Aside0.mk (blk_keep (blk_alloc HKr.out (.cells #[.int .i64 d0, .int .i64 d1, .int .i64 d2, .int .i64 0, .int .i64 0, .int .i64 0, .int .i64 d3] 68)) hb7)); (have HN7 := Aside0.mk (blk_keep (blk_new wr (.cells #[.int .i64 d0, .int .i64 d1, .int .i64 d2, .int .i64 0, .int .i64 0, .int .i64 0, .int .i64 d3] 68)) hb7)); (have HB7 := Aside0.mk (bthen (below_alloc HBr.out (.cells #[.int .i64 d0, .int .i64 d1, .int .i64 d2, .int .i64 0, .int .i64 0, .int .i64 0, .int .i64 d3] 68)) hb7)); clear hb7 j0 j1 j2 j3 j4 j5 j6 g0 g1 g2 g3 g4 g5 g6; obtain ⟨⟨j0, j1, j2, j3, j4, j5, j6⟩, g0, g1, g2, g3, g4, g5, g6⟩ := all7 HM7.out)
      obtain ⟨W8, hW8⟩ : ∃ W8, W8 = (((((((w7.setCell ⟨w5.heap.size, 0, none⟩ (.int .i64 u0)).setCell ⟨w5.heap.size, 1, none⟩ (.int .i64 u1)).setCell ⟨w5.heap.size, 2, none⟩ (.int .i64 u2)).setCell ⟨w5.heap.size, 3, none⟩ (.int .i64 0)).setCell ⟨w5.heap.size, 4, none⟩ (.int .i64 0)).setCell ⟨w5.heap.size, 5, none⟩ (.int .i64 0)).setCell ⟨w5.heap.size, 6, none⟩ (.int .i64 u3)) := ⟨_, rfl⟩
      have hlk := blk_lt HK5.out
      have HM8 : Aside0 (W8.heap[w5.heap.size]? = some (.cells #[.int .i64 u0, .int .i64 u1, .int .i64 u2, .int .i64 0, .int .i64 0, .int .i64 0, .int .i64 u3] 68 (0, 0))) := ⟨by rw [hW8]; exact blk7 HM7.out⟩
      have HK8 : Aside0 (W8.heap[w.heap.size]? = some (.cells #[.int .u64 a, .int .u64 b, .int .u64 c, .int .u64 d, .int .u64 f, .bool x, .bool y] 27 (0, 0))) := ⟨by rw [hW8]; exact far7 HK7.out (by omega) _ _ _ _ _ _ _⟩
      have HN8 : Aside0 (W8.heap[wr.heap.size]? = some (.cells #[.int .i64 d0, .int .i64 d1, .int .i64 d2, .int .i64 0, .int .i64 0, .int .i64 0, .int .i64 d3] 68 (0, 0))) := ⟨by rw [hW8]; exact far7 HN7.out (by omega) _ _ _ _ _ _ _⟩
      have HB8 : Aside0 (Below w5.heap.size w5 W8) := ⟨by rw [hW8]; exact below_set7 HB7.out (Nat.le_refl _) _ _ _ _ _ _ _⟩
      rw [← hW8]
      clear hW8 hlk j0 j1 j2 j3 j4 j5 j6 g0 g1 g2 g3 g4 g5 g6
      obtain ⟨⟨k0, k1, k2, k3, k4, k5, k6⟩, _⟩ := all7 HK8.out
      obtain ⟨⟨j0, j1, j2, j3, j4, j5, j6⟩, _⟩ := all7 HN8.out
      cases q with
      | false =>
        have HR4 : Aside0 (docQ (fun D : Nat => onDayR c d f x y (D : Int)) a b t gn (D + 1) = R) := ⟨HR3.out⟩
        go_wp2_with (go_at_call 29; with_reducible refine (CDY.out _).mono ?_; rintro e w9 ⟨rfl, hb9⟩; (have HB9 := Aside0.mk (bthen HB8.out hb9)); (have HM9 := Aside0.mk (blk_keep HM8.out hb9)); clear hb9)
        go_roundg (376200 - (D + 1))
        case measure => omega
        case rel => exact ⟨D + 1, E + 1, rfl, by omega, ⟨by have := HE.out; omega⟩, ⟨by rw [HGN.out.2]; exact HR4.out⟩, ⟨by rw [HUV.out]; exact HM9.out⟩, ⟨HB9.out⟩⟩
      | true =>
        go_wp2_with (go_at_call 29; with_reducible refine (CDY.out _).mono ?_; rintro e w9 ⟨rfl, hb9⟩; (have HB9 := Aside0.mk (bthen HB8.out hb9)); (have HM9 := Aside0.mk (blk_keep HM8.out hb9)); (have HK9 := Aside0.mk (blk_keep HK8.out hb9)); clear hb9)
        clear k0 k1 k2 k3 k4 k5 k6 j0 j1 j2 j3 j4 j5 j6
        go_loopg [11] 1440 (fun g v11 wx => ∃ (k : Nat) (K : Int), v11 = .int .i64 K ∧ g + k = 1440 ∧ Aside0 (K = (k : Int)) ∧ Aside0 (findK (minP a b t D) (1440 - k) k = FK) ∧ Aside0 (wx = w9))
        case atStart => exact ⟨0, 0, rfl, by omega, ⟨rfl⟩, ⟨hFK.out.symm⟩, ⟨rfl⟩⟩
        case round =>
          obtain ⟨k, K, rfl, hg2, HKK, HF, HWX⟩ := hrel
          have hw := HWX.out
          subst hw
          have hkk := HKK.out
          rcases (show k = 1440 ∨ k < 1440 by omega) with hk | hk
          · have b1 : ¬ K < 1440 := by omega
            have HFN : Aside0 (FK = none) := ⟨by rw [← HF.out, hk]; rfl⟩
            clear hFK hkk hk HF
            obtain rfl := HFN.out
            have HR4 : Aside0 (docQ (fun D : Nat => onDayR c d f x y (D : Int)) a b t gn (D + 1) = R) := ⟨HR3.out⟩
            go_wp2
            go_roundg (376200 - (D + 1))
            case measure => omega
            case rel => exact ⟨D + 1, E + 1, rfl, by omega, ⟨by have := HE.out; omega⟩, ⟨by rw [HGN.out.2]; exact HR4.out⟩, ⟨by rw [HUV.out]; exact HM9.out⟩, ⟨HB9.out⟩⟩
          · have K0 : 0 ≤ K := by omega
            have K1 : K < 1440 := by omega
            have kw : IntKind.i64.wrap (60 * K) = 60 * K := by rw [IntKind.wrap_i64]; omega
            have kx : IntKind.i64.wrap (86400 * E + 60 * K) = 86400 * E + 60 * K := by rw [IntKind.wrap_i64]; omega
            have ky : IntKind.i64.wrap (K + 1) = K + 1 := by rw [IntKind.wrap_i64]; omega
            have CH1 := Aside0.mk (fun W => rhas_any a (K % 60) W (by omega) (by omega) ha)
            have CH2 := Aside0.mk (fun W => rhas_any b (K / 60) W (by omega) (by omega) hb)
            have e1 : (K % 60).toNat = k % 60 := by omega
            have e2 : (K / 60).toNat = k / 60 := by omega
            rw [e1] at CH1
            rw [e2] at CH2
            have HF2 := HF.out
            obtain ⟨g3, hg3⟩ : ∃ g3, 1440 - k = g3 + 1 := ⟨1440 - k - 1, by omega⟩
            have hg4 : 1440 - (k + 1) = g3 := by omega
            rw [hg3, findK, minP, okMin] at HF2
            obtain ⟨o2, ho2⟩ := named (a.testBit (k % 60))
            obtain ⟨o3, ho3⟩ := named (b.testBit (k / 60))
            rw [← ho2.out] at CH1
            rw [← ho3.out] at CH2
            rw [← ho2.out, ← ho3.out] at HF2
            have HE2 := HE.out
            have hat : t < 86400 * E + 60 * K ↔ t < 86400 * (D : Int) + 60 * (k : Int) := by rw [HE2, hkk]
            have HG4 := Aside0.mk hg4
            have HF3 := Aside0.mk HF2
            have HAT := Aside0.mk hat
            clear hg3 hg4 HF2 ho2 ho3 e1 e2 hkk HE2 hat hFK
            obtain ⟨⟨k0, k1, k2, k3, k4, k5, k6⟩, _⟩ := all7 HK9.out
            by_cases ht : t < 86400 * E + 60 * K
            · have hd1 : decide (t < 86400 * E + 60 * K) = true := decide_eq_true ht
              have HD2 : Aside0 (decide (t < 86400 * (D : Int) + 60 * (k : Int)) = true) := ⟨decide_eq_true (HAT.out.1 ht)⟩
              cases o2 with
              | false =>
                have HF4 : Aside0 (findK (minP a b t D) g3 (k + 1) = FK) := ⟨by have h := HF3.out; rw [HD2.out] at h; exact h⟩
                go_wp2_with (first | (go_at_call 30; with_reducible refine (CH1.out _).mono ?_; rintro e wz ⟨rfl, rfl⟩) | (go_at_call 30; with_reducible refine (CH2.out _).mono ?_; rintro e wz ⟨rfl, rfl⟩))
                go_roundg (1440 - (k + 1))
                case measure => omega
                case rel => exact ⟨k + 1, K + 1, rfl, by omega, ⟨by have := HKK.out; omega⟩, ⟨by rw [HG4.out]; exact HF4.out⟩, ⟨rfl⟩⟩
              | true =>
                cases o3 with
                | false =>
                  have HF4 : Aside0 (findK (minP a b t D) g3 (k + 1) = FK) := ⟨by have h := HF3.out; rw [HD2.out] at h; exact h⟩
                  go_wp2_with (first | (go_at_call 30; with_reducible refine (CH1.out _).mono ?_; rintro e wz ⟨rfl, rfl⟩) | (go_at_call 30; with_reducible refine (CH2.out _).mono ?_; rintro e wz ⟨rfl, rfl⟩))
                  go_roundg (1440 - (k + 1))
                  case measure => omega
                  case rel => exact ⟨k + 1, K + 1, rfl, by omega, ⟨by have := HKK.out; omega⟩, ⟨by rw [HG4.out]; exact HF4.out⟩, ⟨rfl⟩⟩
                | true =>
                  have HF4 : Aside0 (FK = some k) := ⟨by have h := HF3.out; rw [HD2.out] at h; exact h.symm⟩
                  have HR5 : Aside0 (R = some (86400 * D + 60 * k)) := ⟨by have h := HR3.out; rw [HF4.out] at h; exact h.symm⟩
                  have HV : Aside0 (86400 * E + 60 * K = ((86400 * D + 60 * k : Nat) : Int)) := ⟨by have h1 := HE.out; have h2 := HKK.out; omega⟩
                  obtain rfl := HR5.out
                  go_wp2_with (first | (go_at_call 30; with_reducible refine (CH1.out _).mono ?_; rintro e wz ⟨rfl, rfl⟩) | (go_at_call 30; with_reducible refine (CH2.out _).mono ?_; rintro e wz ⟨rfl, rfl⟩))
                  refine bodyPost_ret (results_tmp3 rfl _ _ _) rfl ?_
                  exact ⟨by rw [HV.out]; rfl, bthen HB5.out HB9.out⟩
            · have hd1 : decide (t < 86400 * E + 60 * K) = false := decide_eq_false ht
              have HD2 : Aside0 (decide (t < 86400 * (D : Int) + 60 * (k : Int)) = false) := ⟨decide_eq_false fun h => ht (HAT.out.2 h)⟩
              have HF4 : Aside0 (findK (minP a b t D) g3 (k + 1) = FK) := ⟨by have h := HF3.out; rw [HD2.out] at h; exact h⟩
              go_wp2_with (first | (go_at_call 30; with_reducible refine (CH1.out _).mono ?_; rintro e wz ⟨rfl, rfl⟩) | (go_at_call 30; with_reducible refine (CH2.out _).mono ?_; rintro e wz ⟨rfl, rfl⟩))
              go_roundg (1440 - (k + 1))
              case measure => omega
              case rel => exact ⟨k + 1, K + 1, rfl, by omega, ⟨by have := HKK.out; omega⟩, ⟨by rw [HG4.out]; exact HF4.out⟩, ⟨rfl⟩⟩
end Go.Proofs.YteloamnakikbbaaDoor.Cron
