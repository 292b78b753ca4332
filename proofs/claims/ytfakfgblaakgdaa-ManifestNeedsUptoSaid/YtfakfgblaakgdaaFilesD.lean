/- files: used, file (a binary search among files): walked. -/
import Derived.Test.YtfakfgblaakgdaaFilesB
import Derived.Test.YtfakfgblaakgdaaEditB
namespace Go.Proofs.Ytfakfgblaakgdaa.Files
set_option linter.unusedVariables false
set_option linter.unusedSimpArgs false
open Go.RowKit Go.Proofs.YtfakfgblaakgdaaW.PrintWords Go.Proofs.YtfakfgblaakgdaaW.PrintLast Go.Proofs.Ytfakfgblaakgdaa.Base Go.Proofs.Ytfakfgblaakgdaa.Cells Go.Proofs.Ytfakfgblaakgdaa.Ints Go.Proofs.Ytfakfgblaakgdaa.Var Go.Proofs.Ytfakfgblaakgdaa.EditPure Go.Proofs.Ytfakfgblaakgdaa.Edit

/-- octets of all files -/
def usedF (l : List Fl) : Int := (l.map fun f => (f.data.length : Int)).sum
theorem usedF_snoc (l : List Fl) (f : Fl) : usedF (l ++ [f]) = usedF l + f.data.length := by simp [usedF]

set_option maxRecDepth 100000 in
set_option maxHeartbeats 1000000 in
theorem used_any (g : Nat) (F : Option Addr) (fc : Nat) (l : List Fl) (w : World) (hx : w.cell? ⟨g, 1, none⟩ = some (.slice F l.length fc)) (hr : kFl.C w F l.length l) (hb : l.length ≤ 1048576) (hd : ∀ f ∈ l, f.data.length ≤ 1048576) :
    Calls Try.prog 57 #[.pointer (some ⟨g, 0, none⟩)] w fun e w' => e = .returned (.int .i64 (usedF l)) ∧ Below w.heap.size w w' := by
  have HR := Aside0.mk hr
  have HD := Aside0.mk hd
  clear hr hd
  go_enter Try.func57, Try.ntmps57
  go_wp2
  go_loopg [3, 11] l.length (fun gk v3 v11 wr => ∃ (i : Nat) (n : Int), v11 = .int .i64 i ∧ v3 = .int .i64 n ∧ gk + i = l.length ∧ 0 ≤ n ∧ n ≤ (i : Int) * 1048576 ∧ Aside0 (n = usedF (l.take i)) ∧ Aside0 (Below w.heap.size w wr))
  case atStart => exact ⟨0, 0, rfl, rfl, by omega, by omega, by omega, ⟨rfl⟩, ⟨Below.refl _ _⟩⟩
  case round =>
    obtain ⟨i, n, rfl, rfl, hg, hn0, hn1, HN, HB⟩ := hrel
    by_cases hlt : i < l.length
    · have HC := Aside0.mk (Kd.C_below HR.out HB.out)
      obtain ⟨m, hm⟩ : ∃ m, l[i]? = some m := ⟨_, List.getElem?_eq_getElem hlt⟩
      obtain ⟨ad, D, dc, rfl, c0, c1, c2, hdc, hrd⟩ := atFl HC.out i m hm
      have ht : Aside0 (usedF (l.take (i + 1)) = n + m.data.length) := ⟨by rw [List.take_add_one, hm, Option.toList_some, usedF_snoc, HN.out]⟩
      have hmd : m.data.length ≤ 1048576 := HD.out m (List.mem_of_getElem? hm)
      have hlt' : (i : Int) < l.length := by omega
      clear hm hrd hdc HN
      go_wp2
      go_roundg (l.length - (i + 1))
      case measure => omega
      case rel => exact ⟨i + 1, _, by go_num, rfl, by omega, by omega, by push_cast; omega, ⟨ht.out.symm⟩, ⟨by refine bthen HB.out ?_; repeat (first | exact Below.refl _ _ | apply below_alloc)⟩⟩
    · have hi : Aside0 (l.take i = l) := ⟨List.take_of_length_le (by omega)⟩
      go_wp2
      go_ret
      exact ⟨by rw [HN.out, hi.out]; rfl, HB.out⟩

theorem fileFn_any (id x s : Int) (D : Option Addr) (n dc : Nat) (w : World) :
    Calls Try.prog 77 #[.agg #[.int .i64 id, .slice D n dc, .int .i64 s], .int .i64 x] w fun e w' => e = .returned (.int .i64 (cmpI id x)) ∧ Below w.heap.size w w' := by
  go_enter Try.func77, Try.ntmps77
  go_wp2_with (go_at_call 78; refine (cmpI_any _ _ _).mono ?_; rintro e w' ⟨rfl, rfl⟩)
  go_ret
  exact ⟨rfl, below_alloc (Below.refl _ _) _⟩

/-- files in order of their numbers -/
def Asc (l : List Fl) : Prop := l.Pairwise (fun a b => a.id < b.id)
theorem Asc.lt {l : List Fl} (h : Asc l) {i j : Nat} {a b : Fl} (hij : i < j) (ha : l[i]? = some a) (hb : l[j]? = some b) : a.id < b.id := by
  obtain ⟨h1, rfl⟩ := List.getElem?_eq_some_iff.1 ha
  obtain ⟨h2, rfl⟩ := List.getElem?_eq_some_iff.1 hb
  exact List.pairwise_iff_getElem.1 h i j h1 h2 hij

/-- place r of number x: what lies ahead is less, what lies behind is no less -/
def Place (l : List Fl) (x : Int) (r : Nat) : Prop := r ≤ l.length ∧ (∀ k f, l[k]? = some f → k < r → f.id < x) ∧ (∀ k f, l[k]? = some f → r ≤ k → x ≤ f.id)
/-- is a file of that number there -/
def hasId (l : List Fl) (x : Int) : Bool := l.any (fun f => f.id == x)
theorem hasId_place {l : List Fl} {x : Int} {r : Nat} (ha : Asc l) (h : Place l x r) : hasId l x = (match l[r]? with | none => false | some f => f.id == x) := by
  rw [Bool.eq_iff_iff]
  constructor
  · intro h1
    obtain ⟨f, hf, hx⟩ := List.any_eq_true.1 h1
    have hx' : f.id = x := by simpa using hx
    obtain ⟨k, hk⟩ := List.mem_iff_getElem?.1 hf
    have hkr : r ≤ k := by
      rcases Nat.lt_or_ge k r with hlt | hge
      · have := h.2.1 k f hk hlt; omega
      · exact hge
    rcases Nat.eq_or_lt_of_le hkr with rfl | hlt
    · rw [hk]; exact hx
    · have hkl := (List.getElem?_eq_some_iff.1 hk).1
      have hr : l[r]? = some (l[r]'(by omega)) := List.getElem?_eq_getElem (by omega)
      have h2 := ha.lt hlt hr hk
      have h3 := h.2.2 r _ hr (Nat.le_refl _)
      omega
  · intro h1
    cases hr : l[r]? with
    | none => rw [hr] at h1; simp at h1
    | some f =>
      rw [hr] at h1
      exact List.any_eq_true.2 ⟨f, List.mem_of_getElem? hr, h1⟩

def fileV : Value := .func (.func 77) #[] #[]

set_option maxRecDepth 100000 in
set_option maxHeartbeats 2000000 in
theorem bsearch_any (F : Option Addr) (fc : Nat) (l : List Fl) (x : Int) (w : World) (hr : kFl.C w F l.length l) (hb : l.length ≤ 1048576) (ha : Asc l) :
    Calls Try.prog 76 #[.slice F l.length fc, .int .i64 x, fileV] w fun e w' => (∃ r : Int, e = .returned (.tuple #[.int .i64 r, .bool (hasId l x)]) ∧ 0 ≤ r ∧ Place l x r.toNat) ∧ Below w.heap.size w w' := by
  have HR := Aside0.mk hr
  have HA := Aside0.mk ha
  obtain ⟨b, HBv⟩ := named (hasId l x)
  rw [← HBv.out]
  obtain ⟨fv, hfv⟩ : ∃ fv, fv = fileV := ⟨_, rfl⟩
  have HF := Aside0.mk hfv
  rw [← hfv]
  have CF : Aside0 (∀ (m : Fl) (D : Option Addr) (dc : Nat) (W : World), Calls Try.prog 77 #[.agg #[.int .i64 m.id, .slice D m.data.length dc, .int .i64 m.sync], .int .i64 x] W fun e w' => e = .returned (.int .i64 (cmpI m.id x)) ∧ Below W.heap.size W w') := ⟨fun m D dc W => fileFn_any _ _ _ _ _ _ _⟩
  clear hr ha hfv
  go_enter Try.func76, Try.ntmps76
  rw [HF.out, fileV]
  go_wp2
  go_loopg [9, 10] l.length (fun gk v9 v10 wr => ∃ i j : Nat, v9 = .int .i64 i ∧ v10 = .int .i64 j ∧ gk + i = j ∧ j ≤ l.length ∧ Aside0 ((∀ k f, l[k]? = some f → k < i → f.id < x) ∧ (∀ k f, l[k]? = some f → j ≤ k → x ≤ f.id)) ∧ Aside0 (Below w.heap.size w wr))
  case atStart => exact ⟨0, l.length, rfl, rfl, by omega, Nat.le_refl _, ⟨fun k f _ h => by omega, fun k f h1 h2 => by have := (List.getElem?_eq_some_iff.1 h1).1; omega⟩, ⟨Below.refl _ _⟩⟩
  case round =>
    obtain ⟨i, j, rfl, rfl, hg, hjl, HP, HB⟩ := hrel
    by_cases hij : i < j
    · have hij' : (i : Int) < j := by omega
      obtain ⟨c, hc⟩ : ∃ c : Nat, c = (i + j) / 2 := ⟨_, rfl⟩
      have hcc : ((i : Int) + j) / 2 = c := by omega
      have hcl : (c : Int) < l.length := by omega
      have hic : i ≤ c := by omega
      have hcj : c < j := by omega
      have hij2 : (i : Int) + j ≤ 3000000 := by omega
      have HC := Aside0.mk (Kd.C_below HR.out HB.out)
      obtain ⟨m, hm⟩ : ∃ m, l[c]? = some m := ⟨_, List.getElem?_eq_getElem (by omega)⟩
      obtain ⟨ad, D, dc, rfl, c0, c1, c2, hdc, hrd⟩ := atFl HC.out c m hm
      have HM := Aside0.mk hm
      clear hm hrd hdc hc
      by_cases hlt : m.id < x
      · have hcm : Aside0 (cmpI m.id x = -1) := ⟨by simp [cmpI, hlt]⟩
        have HL := Aside0.mk hlt
        clear hlt
        go_wp2_with fail
        refine (CF.out m D dc _).mono ?_
        rw [hcm.out]
        rintro e w1 ⟨rfl, hb1⟩
        have HB1 := Aside0.mk (bthen HB.out hb1)
        clear hb1
        go_wp2
        go_roundg (j - (c + 1))
        case measure => omega
        case rel =>
          refine ⟨c + 1, j, by go_num, rfl, by omega, hjl, ⟨fun k f hk hkc => ?_, HP.out.2⟩, HB1⟩
          rcases Nat.lt_or_ge k c with h1 | h1
          · exact Int.lt_trans (HA.out.lt h1 hk HM.out) HL.out
          · obtain rfl : k = c := by omega
            rw [HM.out] at hk; injection hk with hk; rw [← hk]; exact HL.out
      · have HL := Aside0.mk (show x ≤ m.id by omega)
        obtain ⟨o, ho⟩ : ∃ o, cmpI m.id x = o := ⟨_, rfl⟩
        have ho0 : ¬ (o < 0) := by rw [← ho]; unfold cmpI; rw [if_neg hlt]; split <;> decide
        clear hlt
        go_wp2_with fail
        refine (CF.out m D dc _).mono ?_
        rw [ho]
        rintro e w1 ⟨rfl, hb1⟩
        have HB1 := Aside0.mk (bthen HB.out hb1)
        clear hb1
        go_wp2
        go_roundg (c - i)
        case measure => omega
        case rel =>
          refine ⟨i, c, rfl, rfl, by omega, by omega, ⟨HP.out.1, fun k f hk hkc => ?_⟩, HB1⟩
          rcases Nat.eq_or_lt_of_le hkc with rfl | h1
          · rw [HM.out] at hk; injection hk with hk; rw [← hk]; exact HL.out
          · exact Int.le_of_lt (Int.lt_of_le_of_lt HL.out (HA.out.lt h1 HM.out hk))
    · obtain rfl : i = j := by omega
      have HPl : Aside0 (Place l x i) := ⟨⟨hjl, HP.out.1, HP.out.2⟩⟩
      have hh := hasId_place HA.out HPl.out
      rw [← HBv.out] at hh
      clear HP
      by_cases hil : i < l.length
      · have hil' : (i : Int) < l.length := by omega
        have HC := Aside0.mk (Kd.C_below HR.out HB.out)
        obtain ⟨m, hm⟩ : ∃ m, l[i]? = some m := ⟨_, List.getElem?_eq_getElem hil⟩
        obtain ⟨ad, D, dc, rfl, c0, c1, c2, hdc, hrd⟩ := atFl HC.out i m hm
        rw [hm] at hh
        obtain ⟨o, ho⟩ : ∃ o, cmpI m.id x = o := ⟨_, rfl⟩
        have HO : Aside0 (b = (o == 0)) := ⟨by
          rw [hh, ← ho]; unfold cmpI
          by_cases h1 : m.id < x
          · have : (m.id == x) = false := by simp; omega
            simp only [this, h1, if_true]; rfl
          · by_cases h2 : x < m.id
            · have : (m.id == x) = false := by simp; omega
              simp only [this, h1, h2, if_true, if_false]; rfl
            · have : (m.id == x) = true := by simp; omega
              simp only [this, h1, h2, if_false]; rfl⟩
        clear hm hrd hdc hh
        go_wp2_with fail
        refine (CF.out m D dc _).mono ?_
        rw [ho]
        rintro e w1 ⟨rfl, hb1⟩
        have HB1 := Aside0.mk (bthen HB.out hb1)
        clear hb1
        go_wp2
        refine bodyPost_ret (results_tmp2 rfl _ _ _) rfl ?_
        exact ⟨⟨i, by rw [HO.out]; rfl, by omega, by simpa using HPl.out⟩, HB1.out⟩
      · have hil' : ¬ ((i : Int) < l.length) := by omega
        have hb0 : b = false := by rw [hh, List.getElem?_eq_none (by omega)]
        subst hb0
        clear hh
        go_wp2
        refine bodyPost_ret (results_tmp2 rfl _ _ _) rfl ?_
        exact ⟨⟨i, rfl, by omega, by simpa using HPl.out⟩, HB.out⟩

/-- where a file lies -/
def fileP (F : Option Addr) (l : List Fl) (x : Int) : Option Addr := (l.findIdx? (fun f => f.id == x)).bind fun r => F.map (fun a => a.add (r * 3))
theorem find_place {l : List Fl} {x : Int} {r : Nat} (ha : Asc l) (h : Place l x r) : l.findIdx? (fun f => f.id == x) = if hasId l x then some r else none := by
  have hid := hasId_place ha h
  cases hb : hasId l x with
  | false =>
    rw [if_neg (by decide), List.findIdx?_eq_none_iff]
    intro f hf
    cases hq : (f.id == x) with
    | false => rfl
    | true => exact absurd (List.any_eq_true.2 ⟨f, hf, hq⟩) (by unfold hasId at hb; rw [hb]; decide)
  | true =>
    rw [hb] at hid
    rw [if_pos rfl, List.findIdx?_eq_some_iff_getElem]
    cases hq : l[r]? with
    | none => rw [hq] at hid; simp at hid
    | some f =>
      rw [hq] at hid
      obtain ⟨hr, rfl⟩ := List.getElem?_eq_some_iff.1 hq
      refine ⟨hr, hid.symm, fun j hj => ?_⟩
      have := h.2.1 j l[j] (List.getElem?_eq_getElem (by omega)) hj
      simp; omega
theorem fileP_none {F : Option Addr} {l : List Fl} {x : Int} (h : hasId l x = false) : fileP F l x = none := by
  have : l.findIdx? (fun f => f.id == x) = none := by
    rw [List.findIdx?_eq_none_iff]
    intro f hf
    cases hq : (f.id == x) with
    | false => rfl
    | true => exact absurd (List.any_eq_true.2 ⟨f, hf, hq⟩) (by unfold hasId at h; rw [h]; decide)
  rw [fileP, this]; rfl

set_option maxRecDepth 100000 in
set_option maxHeartbeats 1000000 in
theorem file_any (g : Nat) (F : Option Addr) (fc : Nat) (l : List Fl) (x : Int) (w : World) (hx : w.cell? ⟨g, 1, none⟩ = some (.slice F l.length fc)) (hr : kFl.C w F l.length l) (hb : l.length ≤ 1048576) (ha : Asc l) :
    Calls Try.prog 51 #[.pointer (some ⟨g, 0, none⟩), .int .i64 x] w fun e w' => e = .returned (.pointer (fileP F l x)) ∧ Below w.heap.size w w' := by
  have HR := Aside0.mk hr
  have HA := Aside0.mk ha
  clear hr ha
  obtain ⟨b, hbb⟩ := named (hasId l x)
  obtain ⟨q, hq⟩ := named (fileP F l x)
  rw [← hq.out]
  go_enter Try.func51, Try.ntmps51
  go_wp2_with fail
  refine (bsearch_any F fc l x _ HR.out hb HA.out).mono ?_
  rw [← hbb.out]
  rintro e w1 ⟨⟨r, rfl, hr0, hpl⟩, hb1⟩
  have HB1 := Aside0.mk hb1
  have hx1 := pw_cell_below hb1 hx
  have hid := hasId_place HA.out hpl
  have hfp := find_place HA.out hpl
  rw [← hbb.out] at hid hfp
  cases b with
  | false =>
    have HQ : Aside0 (q = none) := ⟨by rw [hq.out]; exact fileP_none hbb.out.symm⟩
    clear hid hb1 hpl hfp
    go_wp2
    go_ret
    exact ⟨by rw [HQ.out]; rfl, HB1.out⟩
  | true =>
    obtain ⟨f, hf⟩ : ∃ f, l[r.toNat]? = some f := by
      cases hq : l[r.toNat]? with
      | none => rw [hq] at hid; simp at hid
      | some f => exact ⟨f, rfl⟩
    have hrl := (List.getElem?_eq_some_iff.1 hf).1
    have hrl' : r < l.length := by omega
    obtain ⟨ad, D, dc, rfl, _⟩ := atFl HR.out r.toNat f hf
    have HQ : Aside0 (q = some (ad.add (r.toNat * 3))) := ⟨by rw [hq.out, fileP, hfp]; rfl⟩
    clear hid hb1 hpl hf hfp
    go_wp2
    go_ret
    exact ⟨by rw [HQ.out]; rfl, HB1.out⟩
end Go.Proofs.Ytfakfgblaakgdaa.Files
