/- A part of the proof: Numbers as decimal digits and the names of chapter 14, in plain Lean: no program. -/
import Derived.Test.YtfakfgblaakgdaaGreatPkActs11
import Derived.Test.YtfakfgblaakgdaaGreatPkActs10
import Derived.Test.YtfakfgblaakgdaaGreatPkActs8
import Derived.Test.YtfakfgblaakgdaaGreatPkActs2
import Derived.Shelf.Small.Strs
import Derived.Shelf.Strings.Search1
import Derived.Test.YtfakfgblaakgdaaGreatProg
import Derived.Test.YtfakfgblaakgdaaGreatWLast
import Derived.WalkKit
import Derived.WalkLawsBesides
import Derived.KernelRfl
import Derived.Deep.QuietTactic
import Derived.BigQuiet
import Derived.Laws.BytesArg
import Derived.Lib.ConvBytes
import Derived.Deep.RegionWith

/- Numbers as decimal digits and the names of chapter 14, in plain Lean: no program. -/
namespace Go.Proofs.YtfakfgblaakgdaaGreat.NamesPure
open Go.RowKit Go.Proofs.YtfakfgblaakgdaaGreatW.PrintWords Go.Proofs.YtfakfgblaakgdaaGreat.Base

/-- decimal digits as octets, the least first -/
def digs (n : Nat) : List Int := if _h : n = 0 then [] else (48 + (n % 10 : Nat) : Int) :: digs (n / 10)
decreasing_by omega

theorem digs_zero : digs 0 = [] := by rw [digs]; simp
theorem digs_pos {n : Nat} (h : 0 < n) : digs n = (48 + (n % 10 : Nat) : Int) :: digs (n / 10) := by rw [digs]; rw [dif_neg (by omega)]

/-- the value of digits, the least first -/
def valR : List Int → Int
  | [] => 0
  | c :: l => 10 * valR l + (c - 48)

/-- the value of digits, the greatest first, as a loop goes -/
def valF (l : List Int) : Int := l.foldl (fun a c => 10 * a + (c - 48)) 0

theorem valF_snoc (l : List Int) (c : Int) : valF (l ++ [c]) = 10 * valF l + (c - 48) := by simp [valF]
theorem valF_bound (l : List Int) (h : ∀ c ∈ l, 48 ≤ c ∧ c ≤ 57) : 0 ≤ valF l ∧ valF l < 10 ^ l.length := by
  induction l using snocInd with
  | h0 => simp [valF]
  | h1 l c ih =>
    have ih := ih (fun x hx => h x (by simp [hx]))
    have hc := h c (by simp)
    rw [valF_snoc, List.length_append, List.length_singleton, Int.pow_succ]
    omega

/-- is it an octet that begins a name -/
def isKind (k : Int) : Bool := k == 109 || k == 108 || k == 116

/-- a name's octets -/
def nameL (k : Int) (n : Nat) : List Int := k :: (digs n).reverse

def nameOk (k id : Int) : Bool := isKind k && decide (1 ≤ id) && decide (id ≤ 2147483647)
def nameS (k id : Int) : ByteArray := if nameOk k id then strOfNums (nameL k id.toNat) else ⟨#[]⟩
def nameE (k id : Int) : Int := if !isKind k then 22 else if id < 1 ∨ 2147483647 < id then 4 else 0

/-- do octets make a name -/
def parseOk (l : List Int) : Bool :=
  decide (2 ≤ l.length) && decide (l.length ≤ 11) && isKind (l.getD 0 0) && (l.getD 1 0 != 48) && (l.drop 1).all (fun c => decide (48 ≤ c) && decide (c ≤ 57)) && decide (valF (l.drop 1) ≤ 2147483647)
def parseK (l : List Int) : Int := if parseOk l then l.getD 0 0 else 0
def parseN (l : List Int) : Int := if parseOk l then valF (l.drop 1) else 0

theorem digs_len_le : ∀ (k n : Nat), n < 10 ^ k → (digs n).length ≤ k := by
  intro k
  induction k with
  | zero => intro n h; obtain rfl : n = 0 := by omega
            simp [digs_zero]
  | succ k ih =>
    intro n h
    by_cases h0 : n = 0
    · subst h0; simp [digs_zero]
    · rw [digs_pos (by omega), List.length_cons]
      have := ih (n / 10) (by rw [Nat.pow_succ] at h; omega)
      omega

/-- a list turned round by i exchanges from both ends -/
def revTo (l : List Int) (i : Nat) : List Int := (List.range l.length).map fun j => if j < i ∨ l.length - i ≤ j then l.getD (l.length - 1 - j) 0 else l.getD j 0
theorem revTo_length (l : List Int) (i : Nat) : (revTo l i).length = l.length := by simp [revTo]
theorem revTo_get (l : List Int) (i j : Nat) (h : j < l.length) : (revTo l i)[j]? = some (if j < i ∨ l.length - i ≤ j then l.getD (l.length - 1 - j) 0 else l.getD j 0) := by
  simp [revTo, List.getElem?_map, List.getElem?_range h]
theorem revTo_zero (l : List Int) : revTo l 0 = l := by
  refine List.ext_getElem? fun j => ?_
  by_cases h : j < l.length
  · rw [revTo_get l 0 j h, if_neg (by omega)]
    simp [List.getD_eq_getElem?_getD, List.getElem?_eq_getElem h]
  · rw [List.getElem?_eq_none (by rw [revTo_length]; omega), List.getElem?_eq_none (by omega)]
theorem revTo_end (l : List Int) (i : Nat) (h : l.length ≤ 2 * i + 1) : revTo l i = l.reverse := by
  refine List.ext_getElem? fun j => ?_
  by_cases hj : j < l.length
  · rw [revTo_get l i j hj, List.getElem?_reverse hj]
    have e : (if j < i ∨ l.length - i ≤ j then l.getD (l.length - 1 - j) 0 else l.getD j 0) = l.getD (l.length - 1 - j) 0 := by
      split
      · rfl
      · congr 1; omega
    rw [e, List.getD_eq_getElem?_getD, List.getElem?_eq_getElem (show l.length - 1 - j < l.length by omega)]
    rfl
  · rw [List.getElem?_eq_none (by rw [revTo_length]; omega), List.getElem?_eq_none (by simp; omega)]
theorem revTo_step (l : List Int) (i : Nat) (h : 2 * i + 1 < l.length) :
    ((revTo l i).set i (rd (revTo l i) ((l.length - 1 - i : Nat) : Int))).set (l.length - 1 - i) (rd (revTo l i) (i : Int)) = revTo l (i + 1) := by
  have r1 : rd (revTo l i) ((l.length - 1 - i : Nat) : Int) = l.getD (l.length - 1 - i) 0 := by
    rw [rd, Int.toNat_natCast, List.getD_eq_getElem?_getD, revTo_get l i _ (by omega), if_neg (by omega)]; rfl
  have r2 : rd (revTo l i) (i : Int) = l.getD i 0 := by
    rw [rd, Int.toNat_natCast, List.getD_eq_getElem?_getD, revTo_get l i _ (by omega), if_neg (by omega)]; rfl
  rw [r1, r2]
  refine List.ext_getElem? fun j => ?_
  by_cases hj : j < l.length
  · rw [revTo_get l (i + 1) j hj, List.getElem?_set, List.getElem?_set, List.length_set, revTo_length, revTo_get l i j hj]
    by_cases h1 : l.length - 1 - i = j
    · rw [if_pos h1, if_pos (by omega), if_pos (by omega)]
      congr 2; omega
    · rw [if_neg h1]
      by_cases h2 : i = j
      · rw [if_pos h2, if_pos (by omega), if_pos (by omega)]
        congr 2; omega
      · rw [if_neg h2]
        by_cases h3 : j < i ∨ l.length - i ≤ j
        · rw [if_pos h3, if_pos (by omega)]
        · rw [if_neg h3, if_neg (by omega)]
  · rw [List.getElem?_eq_none (by rw [List.length_set, List.length_set, revTo_length]; omega), List.getElem?_eq_none (by rw [revTo_length]; omega)]

end Go.Proofs.YtfakfgblaakgdaaGreat.NamesPure

/- The shelf's contract of strings.IndexByte at this translation (written by the kit's lay-plain.mjs, the numbers by name). -/
namespace Go.Proofs
open Go.Shelf
def Tryz.lays137_ren : Go.Shelf.Ren := ⟨fun | 137 => 76 | 217 => 118 | 266 => 154 | n => n, fun | 9 => 9 | 5 => 5 | 3 => 3 | n => n, fun | n => n⟩
theorem Tryz.lays137 : Go.Proofs.Lays.n137 Tryz.prog Tryz.lays137_ren := {
  mixed := by kernel_rfl
  f137 := Tryz.func76.trans (congrArg some (by kernel_rfl))
  f217 := Tryz.func118.trans (congrArg some (by kernel_rfl))
  f266 := Tryz.func154.trans (congrArg some (by kernel_rfl))
  t3 := Tryz.underlying3
  a3 := Tryz.isAgg3
  z3 := Tryz.sizeOf3
  v3 := Tryz.zeroValue3
  t5 := Tryz.underlying5
  a5 := Tryz.isAgg5
  z5 := Tryz.sizeOf5
  v5 := Tryz.zeroValue5
  t9 := Tryz.underlying9
  a9 := Tryz.isAgg9
  z9 := Tryz.sizeOf9
  v9 := Tryz.zeroValue9 }
theorem Tryz.strings_IndexByte (s : ByteArray) (c : Int) (w : World) :
    Calls Tryz.prog 76 #[.string s, .int .u8 c] w fun e w' => e = .returned (.int .i64 (Lib.indexByte s.data.toList c.toNat.toUInt8)) ∧ w' = w := Any.strings_IndexByte Tryz.lays137 s c w
end Go.Proofs

/- The names of chapter 14: each function that makes or reads one, walked. -/
namespace Go.Proofs.YtfakfgblaakgdaaGreat.Names
open Go.RowKit Go.Proofs.YtfakfgblaakgdaaGreatW.PrintWords Go.Proofs.YtfakfgblaakgdaaGreatW.PrintLast Go.Proofs.YtfakfgblaakgdaaGreat.NamesPure Go.Proofs.YtfakfgblaakgdaaGreat.Base

theorem infoU8 : (Tryz.prog.info? 5).map (fun i => (i.zero, i.size, i.bytes)) = some (some (.int .u8 0), 1, 1) := by kernel_rfl

theorem idx_range (k : Int) (h0 : 0 ≤ k) (h1 : k ≤ 255) : (0 ≤ Lib.indexByte [109, 108, 116] (UInt8.ofNat k.toNat)) ↔ isKind k = true := by
  obtain ⟨n, rfl⟩ := Int.eq_ofNat_of_zero_le h0
  have hn : n < 256 := by omega
  clear h0 h1
  rw [Int.toNat_natCast]
  revert n
  decide +kernel

/-- slices.Reverse of a row of octets of the call's own. -/
theorem reverse_any (base : Nat) (v : Value) (xs : List Int) (w : World) (HO : w.ownsRow base 5 1 v xs.length (nums .u8 xs)) (hm : xs.length ≤ 140737488355328) :
    Calls Tryz.prog 77 #[v] w fun e w' => e = .returned (.tuple #[]) ∧ w'.ownsRow base 5 1 v xs.length (nums .u8 xs.reverse) ∧ w.grownBy w' v.ownBlock := by
  obtain ⟨A, c, rfl⟩ := own_slice HO
  have HO := Aside0.mk HO
  go_enter Tryz.func77, Tryz.ntmps77
  go_wp2
  go_loopw [2, 3] (fun i j wr => ∃ (k : Nat) (z : Int), i = .int .i64 k ∧ j = .int .i64 z ∧ Aside0 (z = (xs.length : Int) - 1 - k) ∧ 2 * k ≤ xs.length + 1 ∧ Aside0 (wr.ownsRow base 5 1 (.slice A xs.length c) xs.length (nums .u8 (revTo xs k))) ∧ Aside0 (w.grownBy wr (Value.slice A xs.length c).ownBlock)) (fun i j _ => (intOf j - intOf i + 1).toNat)
  case atStart => exact ⟨0, _, by go_num, rfl, ⟨by omega⟩, by omega, ⟨by rw [revTo_zero]; exact HO.out⟩, ⟨⟨rfl, rfl, rfl, Nat.le_refl _, fun _ _ _ => rfl⟩⟩⟩
  case round =>
    obtain ⟨k, z, rfl, rfl, hz, hk, HR, HG⟩ := hrel
    have hz1 := hz.out
    by_cases hlt : 2 * k + 1 < xs.length
    · obtain ⟨m, rfl⟩ : ∃ m : Nat, z = m := ⟨xs.length - 1 - k, by omega⟩
      have hm1 : m + k + 1 ≤ xs.length := by omega
      have hm2 : xs.length ≤ m + k + 1 := by omega
      clear hz1
      have h1 : k < m := by omega
      obtain ⟨g, cap, he, hgb, hgl⟩ := HR.out.form (by omega)
      injection he with he1 he2 he3
      subst he1
      subst he3
      have hlen := HR.out.1
      have hl2 : (revTo xs k).length = xs.length := revTo_length xs k
      obtain ⟨hc1, hf1⟩ := own_at HR.out (k : Int) (by omega) (by omega)
      obtain ⟨hc2, hf2⟩ := own_at HR.out (m : Int) (by omega) (by omega)
      rw [Int.toNat_natCast] at hc1 hf1 hc2 hf2
      have hs1 := own_store (HR.out.drew) (k : Int) (rd (revTo xs k) m)
      have hs2 := own_store hs1.1 (m : Int) (rd (revTo xs k) k)
      have e := revTo_step xs k hlt
      have em : xs.length - 1 - k = m := by omega
      rw [em] at e
      simp only [Int.toNat_natCast] at hs2 hs1
      rw [e] at hs2
      have HS := Aside0.mk hs2
      have HG1 := Aside0.mk hs1.2
      clear hs1 hs2 e em hlen hl2
      go_wp2
      go_region
      all_goals go_wp2
      go_roundw
      case rel => exact ⟨k + 1, _, by go_num, rfl, ⟨by omega⟩, by omega, ⟨HS.out.1⟩, ⟨grown_trans (grown_trans (grown_drew HG.out) HG1.out) HS.out.2⟩⟩
      case measure => simp [intOf]; omega
    · have h1 : ¬ (z > (k : Int)) := by omega
      go_wp2
      go_end0
      exact ⟨rfl, by rw [← revTo_end xs k (by omega)]; exact HR.out, HG.out⟩

set_option maxHeartbeats 1000000 in
/-- manifest.Name of a kind and a number that may be. -/
theorem name_yes (k : Int) (n : Nat) (w : World) (h1 : 1 ≤ n) (h2 : n ≤ 2147483647) (hk : isKind k = true) (k0 : 0 ≤ k) (k1 : k ≤ 255) :
    Calls Tryz.prog 35 #[.int .u8 k, .int .i64 n] w fun e w' => e = .returned (.tuple #[.string (strOfNums (nameL k n)), .int .i64 0]) ∧ Below w.heap.size w w' := by
  have hx : 0 ≤ Lib.indexByte [109, 108, 116] (UInt8.ofNat k.toNat) := (idx_range k k0 k1).2 hk
  have HK := Aside0.mk hk; clear hk
  go_enter Tryz.func35, Tryz.ntmps35
  go_wp2_with (go_at_call 76; refine (Tryz.strings_IndexByte _ _ _).mono ?_; rintro e w' ⟨rfl, hw⟩; obtain rfl := hw.symm)
  go_loopw [6, 7] (fun v i wr => ∃ (m : Nat) (xs : List Int), i = .int .i64 m ∧ m ≤ n ∧ Aside0 (digs n = xs ++ digs m) ∧ wr.ownsRow w.heap.size 5 1 v xs.length (nums .u8 xs) ∧ Below w.heap.size w wr ∧ xs.length + m ≤ n) (fun _ i _ => (intOf i).toNat)
  case atStart => exact ⟨n, [], rfl, Nat.le_refl _, ⟨rfl⟩, own_nil _ _ _ _, Below.refl _ _, by simp⟩
  case round =>
    obtain ⟨m, xs, rfl, hm, HD, HO, HB, hl⟩ := hrel
    by_cases h0 : m = 0
    · have hz : ¬ (0 < m) := by omega
      have HD0 := Aside0.mk h0
      clear h0
      go_wp2_with (first | (at_builtin; refine print_append_num (w0 := w) w.heap.size (by rfl) _ _ 88 5 .u8 1 (by rfl) Tryz.underlying88 infoU8 (by decide) u6 xs _ (by rfl) (by rfl) HO HB HB.size ?c1 ?_; (case c1 => omega); intro v1 w1 hown hB hg hat) | (go_at_call 77; refine (reverse_any w.heap.size _ _ _ hown ?_).mono ?_; (simp only [List.length_append, List.length_singleton]; omega); rintro e w2 ⟨rfl, hown2, hg2⟩; have hcv := own_string (P := Tryz.prog) (src := 88) (dst := 9) Tryz.underlying88 Tryz.underlying5 Tryz.underlying9 hown2; clear hown2))
      go_ret2
      have e : strOfNums (k :: xs.reverse) = strOfNums (nameL k n) := by
        rw [nameL, HD.out, HD0.out, digs_zero, List.append_nil]
      exact ⟨by rw [← e]; rfl, below_of_grown hB hg2 (fun j hj => own_base hown j hj)⟩
    · have hp : 0 < m := by omega
      go_wp2_with (at_builtin; refine print_append_num (w0 := w) w.heap.size (by rfl) _ _ 88 5 .u8 1 (by rfl) Tryz.underlying88 infoU8 (by decide) u6 xs _ (by rfl) (by rfl) HO HB HB.size ?c1 ?_; (case c1 => omega); intro v1 w1 hown hB hg hat)
      go_roundw
      case rel => exact ⟨m / 10, xs ++ [48 + (m : Int) % 10], by go_num, by omega, ⟨by rw [HD.out, digs_pos hp]; simp⟩, hown, hB, by simp only [List.length_append, List.length_singleton]; omega⟩
      case measure => simp [intOf]; omega

/-- manifest.Name of a kind or a number that may not be. -/
theorem name_no (k id : Int) (w : World) (k0 : 0 ≤ k) (k1 : k ≤ 255) (hn : nameOk k id = false) :
    Calls Tryz.prog 35 #[.int .u8 k, .int .i64 id] w fun e w' => e = .returned (.tuple #[.string ⟨#[]⟩, .int .i64 (nameE k id)]) ∧ w' = w := by
  by_cases hk : isKind k = true
  · have hx : 0 ≤ Lib.indexByte [109, 108, 116] (UInt8.ofNat k.toNat) := (idx_range k k0 k1).2 hk
    have hid : id < 1 ∨ 2147483647 < id := by
      simp only [nameOk, hk, Bool.true_and, Bool.and_eq_false_iff, decide_eq_false_iff_not] at hn; omega
    have he : Aside0 (nameE k id = 4) := ⟨by simp [nameE, hk, hid]⟩
    clear hk hn
    rcases hid with h | h
    · go_enter Tryz.func35, Tryz.ntmps35
      go_wp2_with (go_at_call 76; refine (Tryz.strings_IndexByte _ _ _).mono ?_; rintro e w' ⟨rfl, hw⟩; obtain rfl := hw.symm)
      go_ret2
      exact ⟨by rw [he.out]; rfl, rfl⟩
    · have h' : ¬ id < 1 := by omega
      go_enter Tryz.func35, Tryz.ntmps35
      go_wp2_with (go_at_call 76; refine (Tryz.strings_IndexByte _ _ _).mono ?_; rintro e w' ⟨rfl, hw⟩; obtain rfl := hw.symm)
      go_ret2
      exact ⟨by rw [he.out]; rfl, rfl⟩
  · have hx : ¬ (0 ≤ Lib.indexByte [109, 108, 116] (UInt8.ofNat k.toNat)) := fun h => hk ((idx_range k k0 k1).1 h)
    have he : Aside0 (nameE k id = 22) := ⟨by simp [nameE, hk]⟩
    have hx' : Lib.indexByte [109, 108, 116] (UInt8.ofNat k.toNat) < 0 := by omega
    clear hk hn hx
    go_enter Tryz.func35, Tryz.ntmps35
    go_wp2_with (go_at_call 76; refine (Tryz.strings_IndexByte _ _ _).mono ?_; rintro e w' ⟨rfl, hw⟩; obtain rfl := hw.symm)
    go_ret2
    exact ⟨by rw [he.out]; rfl, rfl⟩

/-- manifest.Name, whatever it is given. -/
theorem name_any (k id : Int) (w : World) (k0 : 0 ≤ k) (k1 : k ≤ 255) :
    Calls Tryz.prog 35 #[.int .u8 k, .int .i64 id] w fun e w' => e = .returned (.tuple #[.string (nameS k id), .int .i64 (nameE k id)]) ∧ Below w.heap.size w w' := by
  by_cases h : nameOk k id = true
  · have h' := h
    simp only [nameOk, Bool.and_eq_true, decide_eq_true_eq] at h'
    obtain ⟨⟨hk, h1⟩, h2⟩ := h'
    obtain ⟨n, rfl⟩ := Int.eq_ofNat_of_zero_le (show 0 ≤ id by omega)
    refine (name_yes k n w (by omega) (by omega) hk k0 k1).mono fun e w' ⟨he, hb⟩ => ⟨?_, hb⟩
    rw [he, nameS, if_pos h, nameE, Int.toNat_natCast]
    simp [hk, show ¬ ((n : Int) < 1 ∨ 2147483647 < (n : Int)) by omega]
  · have h := Bool.eq_false_iff.2 h
    refine (name_no k id w k0 k1 h).mono fun e w' ⟨he, hb⟩ => ⟨?_, by rw [hb]; exact Below.refl _ _⟩
    rw [he, nameS, if_neg (by simp [h])]

theorem strOf_size (xs : List Int) : (strOfNums xs).size = xs.length := by
  unfold strOfNums
  simp [ByteArray.size]
theorem strOf_append (xs ys : List Int) : strOfNums xs ++ strOfNums ys = strOfNums (xs ++ ys) := by
  unfold strOfNums
  rw [ByteArray.ext_iff]
  simp [ByteArray.data_append]

theorem one_str (W : World) (c : Int) : (convert 88 9 (.slice (some ⟨W.heap.size, 0, none⟩) 1 1)).run Tryz.prog (W.alloc (.cells #[.int .u8 c] 5)) = .ok (.string (strOfNums [c])) (W.alloc (.cells #[.int .u8 c] 5)) := by
  have h := own_lit W 0 5 .u8 [c] (Nat.zero_le _) (by simp)
  exact own_string (P := Tryz.prog) (src := 88) (dst := 9) Tryz.underlying88 Tryz.underlying5 Tryz.underlying9 h

theorem one_str_drew (W : World) (c : Int) : (convert 88 9 (.slice (some ⟨W.heap.size, 0, none⟩) 1 1)).run Tryz.prog (W.alloc (.cells #[.int .u8 c] 5)).drew = .ok (.string (strOfNums [c])) (W.alloc (.cells #[.int .u8 c] 5)).drew := by
  have h := (own_lit W 0 5 .u8 [c] (Nat.zero_le _) (by simp)).drew
  exact own_string (P := Tryz.prog) (src := 88) (dst := 9) Tryz.underlying88 Tryz.underlying5 Tryz.underlying9 h

set_option maxHeartbeats 1000000 in
/-- the document's decimal. -/
theorem decimal_any (n : Nat) (w : World) (h2 : n ≤ 2147483647) :
    Calls Tryz.prog 89 #[.int .i64 n] w fun e w' => e = .returned (.string (strOfNums (digs n).reverse)) ∧ Below w.heap.size w w' := by
  have hone := one_str
  go_enter Tryz.func89, Tryz.ntmps89
  go_wp2
  go_loopw [0, 3] (fun i v wr => ∃ (m : Nat) (xs : List Int), i = .int .i64 m ∧ v = .string (strOfNums xs.reverse) ∧ m ≤ n ∧ Aside0 (digs n = xs ++ digs m) ∧ Below w.heap.size w wr ∧ xs.length + m ≤ n) (fun i _ _ => (intOf i).toNat)
  case atStart => exact ⟨n, [], rfl, rfl, Nat.le_refl _, ⟨rfl⟩, Below.refl _ _, by simp⟩
  case round =>
    obtain ⟨m, xs, rfl, rfl, hm, HD, HB, hl⟩ := hrel
    by_cases h0 : m = 0
    · have hz : ¬ (0 < m) := by omega
      have HD0 := Aside0.mk h0
      clear h0
      go_wp2
      go_ret
      exact ⟨by rw [HD.out, HD0.out, digs_zero, List.append_nil]; rfl, HB⟩
    · have hp : 0 < m := by omega
      have hsz : (strOfNums xs.reverse).size ≤ 2147483647 := by rw [strOf_size]; simp; omega
      have hsz1 : (strOfNums [48 + (m : Int) % 10]).size ≤ 1 := by rw [strOf_size]; simp
      go_wp2
      go_roundw
      case rel => exact ⟨m / 10, xs ++ [48 + (m : Int) % 10], by go_num, by rw [strOf_append, List.reverse_append]; rfl, by omega, ⟨by rw [HD.out, digs_pos hp]; simp⟩, below_alloc HB _, by simp only [List.length_append, List.length_singleton]; omega⟩
      case measure => simp [intOf]; omega

theorem isKind_iff (k : Int) : isKind k = true ↔ k = 109 ∨ k = 108 ∨ k = 116 := by simp [isKind, or_assoc]

theorem name_app (k : Int) (n : Nat) : strOfNums (nameL k n) = strOfNums [k] ++ strOfNums (digs n).reverse := (strOf_append [k] _).symm

theorem one_str_later (w w1 : World) (c : Int) (hb : Below (w.alloc (.cells #[.int .u8 c] 5)).drew.heap.size (w.alloc (.cells #[.int .u8 c] 5)).drew w1) :
    (convert 88 9 (.slice (some ⟨w.heap.size, 0, none⟩) 1 1)).run Tryz.prog w1 = .ok (.string (strOfNums [c])) w1 := by
  have h := pw_own_below (own_lit w 0 5 .u8 [c] (Nat.zero_le _) (by simp)).drew hb
  exact own_string (P := Tryz.prog) (src := 88) (dst := 9) Tryz.underlying88 Tryz.underlying5 Tryz.underlying9 h

set_option maxRecDepth 100000 in
set_option maxHeartbeats 1000000 in
/-- the document's Name, of a kind and a number that may be. -/
theorem refName_yes (k : Int) (n : Nat) (w : World) (h1 : 1 ≤ n) (h2 : n ≤ 2147483647) (hk : k = 109 ∨ k = 108 ∨ k = 116) :
    Calls Tryz.prog 43 #[.int .u8 k, .int .i64 n] w fun e w' => e = .returned (.tuple #[.string (strOfNums (nameL k n)), .int .i64 0]) ∧ Below w.heap.size w w' := by
  have hone := one_str
  have hone2 := one_str_drew
  rcases hk with rfl | rfl | rfl
  all_goals
    have hsz1 := fun c : Int => show (strOfNums [c]).size ≤ 1 by rw [strOf_size]; simp
    have h109 := hsz1 109
    have h108 := hsz1 108
    have h116 := hsz1 116
    clear hsz1
    go_enter Tryz.func43, Tryz.ntmps43
    go_wp2
    have hsz : (strOfNums (digs n).reverse).size ≤ 10 := by rw [strOf_size, List.length_reverse]; exact digs_len_le 10 n (by omega)
    go_region_with (go_at_call 89; refine (decimal_any n _ h2).mono ?_; rintro e w1 ⟨rfl, hb1⟩; (first | have hcv := one_str_later w w1 _ hb1 | have _tok := 0))
    all_goals go_wp2
    all_goals go_ret2
    all_goals refine ⟨by rw [name_app]; rfl, ?_⟩
    all_goals repeat (first | exact Below.refl _ _ | exact (below_drew (below_drew (Below.refl _ _))) | apply below_alloc | apply below_drew | refine bthen ?_ hb1)
end Go.Proofs.YtfakfgblaakgdaaGreat.Names

/- Names read: manifest.Parse and the document's Parse, walked. -/
namespace Go.Proofs.YtfakfgblaakgdaaGreat.Names
open Go.RowKit Go.Proofs.YtfakfgblaakgdaaGreatW.PrintWords Go.Proofs.YtfakfgblaakgdaaGreatW.PrintLast Go.Proofs.YtfakfgblaakgdaaGreat.NamesPure Go.Proofs.YtfakfgblaakgdaaGreat.Base

theorem byte_get (s : ByteArray) (i : Nat) (h : i < s.size) : ((s[i]'h).toNat : Int) = (bytesOf s).getD i 0 := by
  have h' : i < s.data.toList.length := by rw [data_length]; exact h
  simp [bytesOf, List.getD_eq_getElem?_getD, List.getElem?_eq_getElem h']
  rfl
theorem byte_range (s : ByteArray) : ∀ c ∈ bytesOf s, 0 ≤ c ∧ c ≤ 255 := by
  intro c hc
  simp only [bytesOf, List.mem_map] at hc
  obtain ⟨b, _, rfl⟩ := hc
  have := b.toNat_lt
  omega
theorem bytes_extract (s : ByteArray) : bytesOf (s.extract 1 s.size) = (bytesOf s).drop 1 := by
  simp [bytesOf]
  exact List.take_of_length_le (by rw [List.length_tail, List.length_map, data_length]; omega)

/-- the first tests of Parse -/
def headOk (l : List Int) : Bool := isKind (l.getD 0 0) && (l.getD 1 0 != 48)
def isDigit (c : Int) : Bool := decide (48 ≤ c) && decide (c ≤ 57)
theorem parseOk_eq (l : List Int) (h1 : 2 ≤ l.length) (h2 : l.length ≤ 11) : parseOk l = (headOk l && ((l.drop 1).all isDigit && decide (valF (l.drop 1) ≤ 2147483647))) := by
  unfold parseOk headOk isDigit
  simp [h1, h2, Bool.and_assoc]

theorem idx_range' (b : UInt8) : (0 ≤ Lib.indexByte [109, 108, 116] b) ↔ isKind (b.toNat : Int) = true := by
  have h := idx_range (b.toNat : Int) (by omega) (by have := b.toNat_lt; omega)
  rw [Int.toNat_natCast, UInt8.ofNat_toNat] at h
  exact h

set_option maxRecDepth 100000 in
set_option maxHeartbeats 1000000 in
theorem parse_bad (s : ByteArray) (w : World) (h : s.size < 2 ∨ 11 < s.size ∨ headOk (bytesOf s) = false) :
    Calls Tryz.prog 51 #[.string s] w fun e w' => e = .returned (.tuple #[.int .u8 0, .int .i64 0, .bool false]) ∧ Below w.heap.size w w' := by
  by_cases h1 : s.size < 2
  · clear h
    go_enter Tryz.func51, Tryz.ntmps51
    go_wp2
    go_ret3
    exact ⟨rfl, Below.refl _ _⟩
  · by_cases h2 : 11 < s.size
    · clear h
      go_enter Tryz.func51, Tryz.ntmps51
      go_wp2
      go_ret3
      exact ⟨rfl, Below.refl _ _⟩
    · have h := h.resolve_left h1 |>.resolve_left h2
      have i0 : 0 < s.size := by omega
      have i1 : 1 < s.size := by omega
      have e0 := byte_get s 0 i0
      have e1 := byte_get s 1 i1
      have hi := idx_range' s[0]
      by_cases hk : 0 ≤ Lib.indexByte [109, 108, 116] s[0]
      · have hz : ((s[1].toNat : Int) == 48) = true := by
          have hk' := hi.1 hk
          rw [e0] at hk'
          simp only [headOk, hk', Bool.true_and, bne_eq_false_iff_eq] at h
          rw [e1, h]; rfl
        clear h e0 e1 hi
        go_enter Tryz.func51, Tryz.ntmps51
        go_wp2_with (go_at_call 76; refine (Tryz.strings_IndexByte _ _ _).mono ?_; rintro e w' ⟨rfl, hw⟩; obtain rfl := hw.symm)
        go_ret3
        exact ⟨rfl, Below.refl _ _⟩
      · have hk : Lib.indexByte [109, 108, 116] s[0] < 0 := by omega
        clear h e0 e1 hi
        go_enter Tryz.func51, Tryz.ntmps51
        go_wp2_with (go_at_call 76; refine (Tryz.strings_IndexByte _ _ _).mono ?_; rintro e w' ⟨rfl, hw⟩; obtain rfl := hw.symm)
        go_ret3
        exact ⟨rfl, Below.refl _ _⟩

set_option maxRecDepth 100000 in
set_option maxHeartbeats 1000000 in
theorem parse_walk (s : ByteArray) (w : World) (h1 : 2 ≤ s.size) (h2 : s.size ≤ 11) (hh : headOk (bytesOf s) = true) :
    Calls Tryz.prog 51 #[.string s] w fun e w' => e = .returned (.tuple #[.int .u8 (parseK (bytesOf s)), .int .i64 (parseN (bytesOf s)), .bool (parseOk (bytesOf s))]) ∧ Below w.heap.size w w' := by
  have kb := fun (x : ByteArray) (W : World) => print_bytes (P := Tryz.prog) 9 88 5 Tryz.underlying9 Tryz.underlying88 Tryz.underlying5 x W
  have i0 : 0 < s.size := by omega
  have i1 : 1 < s.size := by omega
  have e0 := byte_get s 0 i0
  have e1 := byte_get s 1 i1
  have hP := parseOk_eq (bytesOf s) (by rw [bytesOf_length]; omega) (by rw [bytesOf_length]; omega)
  rw [hh, Bool.true_and] at hP
  simp only [headOk, Bool.and_eq_true, bne_iff_ne, ne_eq] at hh
  have hk : 0 ≤ Lib.indexByte [109, 108, 116] s[0] := (idx_range' s[0]).2 (by rw [e0]; exact hh.1)
  have hz : ((s[1].toNat : Int) == 48) = false := by rw [e1]; simpa using hh.2
  have E0 := Aside0.mk e0
  have HP := Aside0.mk hP
  clear hh e0 e1 hP
  obtain ⟨l, hl⟩ := named ((bytesOf s).drop 1)
  have hlen : l.length = s.size - 1 := by rw [hl.out, List.length_drop, bytesOf_length]
  have hlr : ∀ c ∈ l, 0 ≤ c ∧ c ≤ 255 := fun c hc => byte_range s c (List.mem_of_mem_drop (hl.out ▸ hc))
  have HC := Aside0.mk (bytes_reads w 5 (s.extract 1 s.size) (by simp; omega))
  have HL := Aside0.mk hlen
  have HR := Aside0.mk hlr
  clear hlen hlr
  go_enter Tryz.func51, Tryz.ntmps51
  go_wp2_with (go_at_call 76; refine (Tryz.strings_IndexByte _ _ _).mono ?_; rintro e w' ⟨rfl, hw⟩; obtain rfl := hw.symm)
  go_loop [5, 31] (fun v i => ∃ j : Nat, i = .int .i64 j ∧ j ≤ s.size - 1 ∧ v = .int .i64 (valF (l.take j)) ∧ Aside0 ((l.take j).all isDigit = true)) (fun _ i => s.size - (intOf i).toNat)
  case atStart => exact ⟨0, rfl, Nat.zero_le _, rfl, ⟨rfl⟩⟩
  case round =>
    obtain ⟨j, rfl, hj, rfl, hD⟩ := hrel
    by_cases hlt : j < s.size - 1
    · obtain ⟨ad, ead, hcell⟩ := HC.out.at_ (j : Int) (by omega) (by simp; omega)
      obtain rfl : (⟨w.heap.size, 0, none⟩ : Addr) = ad := by injection ead
      rw [Int.toNat_natCast, add_plain] at hcell
      obtain ⟨c, hc⟩ := named (rd (bytesOf (s.extract 1 s.size)) j)
      rw [← hc.out] at hcell
      have hcl : l[j]? = some c := by
        rw [hc.out, bytes_extract, ← hl.out, rd, Int.toNat_natCast, List.getD_eq_getElem?_getD, List.getElem?_eq_getElem (by rw [HL.out]; exact hlt)]; rfl
      have hcr := HR.out c (List.mem_of_getElem? hcl)
      have hc0 : 0 ≤ c := hcr.1
      have hc255 : c ≤ 255 := hcr.2
      have HCL := Aside0.mk hcl
      clear hcl hcr ead
      have hvb := valF_bound (l.take j) (fun x hx => by
        have := List.all_eq_true.1 hD.out x hx
        simpa [isDigit] using this)
      have hv0 : 0 ≤ valF (l.take j) := hvb.1
      have hv1 : valF (l.take j) < 10000000000 := by
        have h3 : (10 : Int) ^ (l.take j).length ≤ 10 ^ 10 := by
          have : (l.take j).length ≤ 10 := by rw [List.length_take]; omega
          exact_mod_cast Nat.pow_le_pow_right (by decide : 0 < 10) this
        have := hvb.2
        omega
      clear hvb
      have hsn : Aside0 (l.take (j + 1) = l.take j ++ [c]) := ⟨by rw [List.take_add_one, HCL.out]; rfl⟩
      by_cases hd : isDigit c = true
      · have hd' := hd
        simp only [isDigit, Bool.and_eq_true, decide_eq_true_eq] at hd'
        have hd1 : 48 ≤ c := hd'.1
        have hd2 : c ≤ 57 := hd'.2
        have HDc := Aside0.mk hd
        clear hd hd'
        go_wp2
        go_round
        case rel => exact ⟨j + 1, by go_num, by omega, by rw [hsn.out, valF_snoc], ⟨by rw [hsn.out, List.all_append, hD.out]; simp [HDc.out]⟩⟩
        case measure => simp [intOf]; omega
      · have hbad : Aside0 (parseOk (bytesOf s) = false) := ⟨by
          rw [HP.out, ← hl.out]
          have : l.all isDigit = false := by
            rw [List.all_eq_false]
            exact ⟨c, List.mem_of_getElem? HCL.out, hd⟩
          rw [this]; rfl⟩
        have hd' : c < 48 ∨ 57 < c := by simp only [isDigit, Bool.and_eq_true, decide_eq_true_eq] at hd; omega
        clear hd
        rcases hd' with hd1 | hd1
        · go_wp2
          go_ret3
          exact ⟨by rw [parseK, parseN, hbad.out]; rfl, bytes_below (Below.refl _ _) (Nat.le_refl _) _ _⟩
        · have hd2 : 48 ≤ c := by omega
          go_wp2
          go_ret3
          exact ⟨by rw [parseK, parseN, hbad.out]; rfl, bytes_below (Below.refl _ _) (Nat.le_refl _) _ _⟩
    · have hje : Aside0 (l.take j = l) := ⟨List.take_of_length_le (by rw [HL.out]; omega)⟩
      rw [hje.out] at hD ⊢
      have hvb := valF_bound l (fun x hx => by
        have := List.all_eq_true.1 hD.out x hx
        simpa [isDigit] using this)
      have hv0 : 0 ≤ valF l := hvb.1
      clear hvb
      by_cases hv : valF l ≤ 2147483647
      · have hok : Aside0 (parseOk (bytesOf s) = true) := ⟨by rw [HP.out, ← hl.out, hD.out]; simp [hv]⟩
        go_wp2
        go_ret3
        exact ⟨by rw [parseK, parseN, hok.out, if_pos rfl, if_pos rfl, ← E0.out, ← hl.out]; rfl, bytes_below (Below.refl _ _) (Nat.le_refl _) _ _⟩
      · have hbad : Aside0 (parseOk (bytesOf s) = false) := ⟨by rw [HP.out, ← hl.out, hD.out]; simp [hv]⟩
        go_wp2
        go_ret3
        exact ⟨by rw [parseK, parseN, hbad.out]; rfl, bytes_below (Below.refl _ _) (Nat.le_refl _) _ _⟩

/-- manifest.Parse, whatever it is given. -/
theorem parse_any (s : ByteArray) (w : World) :
    Calls Tryz.prog 51 #[.string s] w fun e w' => e = .returned (.tuple #[.int .u8 (parseK (bytesOf s)), .int .i64 (parseN (bytesOf s)), .bool (parseOk (bytesOf s))]) ∧ Below w.heap.size w w' := by
  by_cases h : s.size < 2 ∨ 11 < s.size ∨ headOk (bytesOf s) = false
  · refine (parse_bad s w h).mono fun e w' ⟨he, hb⟩ => ⟨?_, hb⟩
    have hno : parseOk (bytesOf s) = false := by
      by_cases h12 : 2 ≤ s.size ∧ s.size ≤ 11
      · rw [parseOk_eq _ (by rw [bytesOf_length]; exact h12.1) (by rw [bytesOf_length]; exact h12.2), h.resolve_left (by omega) |>.resolve_left (by omega)]; rfl
      · unfold parseOk
        rw [bytesOf_length]
        by_cases h2 : 2 ≤ s.size
        · simp [show ¬ s.size ≤ 11 by omega]
        · simp [h2]
    rw [he, parseK, parseN, hno]; rfl
  · exact parse_walk s w (by omega) (by omega) (by simp only [not_or, Bool.not_eq_false] at h; exact h.2.2)

set_option maxRecDepth 100000 in
/-- the document's Name, of a kind or a number that may not be. -/
theorem refName_no (k id : Int) (w : World) (hn : nameOk k id = false) :
    Calls Tryz.prog 43 #[.int .u8 k, .int .i64 id] w fun e w' => e = .returned (.tuple #[.string ⟨#[]⟩, .int .i64 (nameE k id)]) ∧ w' = w := by
  by_cases hk : isKind k = true
  · have hid : id < 1 ∨ 2147483647 < id := by
      simp only [nameOk, hk, Bool.true_and, Bool.and_eq_false_iff, decide_eq_false_iff_not] at hn; omega
    have he : Aside0 (nameE k id = 4) := ⟨by simp [nameE, hk, hid]⟩
    have hk' := (isKind_iff k).1 hk
    clear hk hn
    rcases hid with h | h
    · rcases hk' with rfl | rfl | rfl
      all_goals
        go_enter Tryz.func43, Tryz.ntmps43
        go_wp2
        go_ret2
        exact ⟨by rw [he.out]; rfl, rfl⟩
    · have h' : ¬ id < 1 := by omega
      rcases hk' with rfl | rfl | rfl
      all_goals
        go_enter Tryz.func43, Tryz.ntmps43
        go_wp2
        go_ret2
        exact ⟨by rw [he.out]; rfl, rfl⟩
  · have he : Aside0 (nameE k id = 22) := ⟨by simp [nameE, hk]⟩
    have hk1 : (k == 109) = false := by simp [isKind] at hk; simp [hk]
    have hk2 : (k == 108) = false := by simp [isKind] at hk; simp [hk]
    have hk3 : (k == 116) = false := by simp [isKind] at hk; simp [hk]
    have hb1 : (k != 109) = true := by simp [bne, hk1]
    have hb2 : (k != 108) = true := by simp [bne, hk2]
    have hb3 : (k != 116) = true := by simp [bne, hk3]
    clear hk hn
    go_enter Tryz.func43, Tryz.ntmps43
    go_wp2
    go_ret2
    exact ⟨by rw [he.out]; rfl, rfl⟩

/-- the document's Name, whatever it is given. -/
theorem refName_any (k id : Int) (w : World) :
    Calls Tryz.prog 43 #[.int .u8 k, .int .i64 id] w fun e w' => e = .returned (.tuple #[.string (nameS k id), .int .i64 (nameE k id)]) ∧ Below w.heap.size w w' := by
  by_cases h : nameOk k id = true
  · have h' := h
    simp only [nameOk, Bool.and_eq_true, decide_eq_true_eq] at h'
    obtain ⟨⟨hk, h1⟩, h2⟩ := h'
    obtain ⟨n, rfl⟩ := Int.eq_ofNat_of_zero_le (show 0 ≤ id by omega)
    refine (refName_yes k n w (by omega) (by omega) ((isKind_iff k).1 hk)).mono fun e w' ⟨he, hb⟩ => ⟨?_, hb⟩
    rw [he, nameS, if_pos h, nameE, Int.toNat_natCast]
    simp [hk, show ¬ ((n : Int) < 1 ∨ 2147483647 < (n : Int)) by omega]
  · have h := Bool.eq_false_iff.2 h
    refine (refName_no k id w h).mono fun e w' ⟨he, hb⟩ => ⟨?_, by rw [hb]; exact Below.refl _ _⟩
    rw [he, nameS, if_neg (by simp [h])]

end Go.Proofs.YtfakfgblaakgdaaGreat.Names

/- The document's Parse, walked; what is alive; the law ManifestNames. -/
namespace Go.Proofs.YtfakfgblaakgdaaGreat.Names
set_option linter.unusedVariables false
open Go.RowKit Go.Proofs.YtfakfgblaakgdaaGreatW.PrintWords Go.Proofs.YtfakfgblaakgdaaGreatW.PrintLast Go.Proofs.YtfakfgblaakgdaaGreat.NamesPure Go.Proofs.YtfakfgblaakgdaaGreat.Base

theorem toList_inj {a b : ByteArray} (h : a.toList = b.toList) : a = b := by
  rw [ByteArray.toList_eq, ByteArray.toList_eq] at h
  rw [ByteArray.ext_iff]
  exact Array.toList_inj.1 h
theorem num_any (n : Int) (w : World) : Calls Tryz.prog 15 #[.int .i64 n] w fun e w' => e = .returned (.int .i64 n) ∧ w' = w := by
  go_enter Tryz.func15, Tryz.ntmps15
  go_wp2
  go_ret
  exact ⟨rfl, rfl⟩

/-- the page's example is alive. -/
theorem alive_any (w : World) : Calls Tryz.prog 18 #[] w fun e w' => e = .returned (.bool true) ∧ Below w.heap.size w w' := by
  have n1 : Aside0 (nameS 116 12 = ⟨#[116, 49, 50]⟩) := ⟨by decide +kernel⟩
  have n2 : Aside0 (nameE 116 12 = 0) := ⟨by decide +kernel⟩
  have p1 : Aside0 (parseOk (bytesOf ⟨#[116, 48, 49, 50]⟩) = false) := ⟨by decide +kernel⟩
  have p2 : Aside0 (parseOk (bytesOf ⟨#[116, 49, 50]⟩) = true) := ⟨by decide +kernel⟩
  have p3 : Aside0 (parseK (bytesOf ⟨#[116, 49, 50]⟩) = 116) := ⟨by decide +kernel⟩
  have p4 : Aside0 (parseN (bytesOf ⟨#[116, 49, 50]⟩) = 12) := ⟨by decide +kernel⟩
  go_enter Tryz.func18, Tryz.ntmps18
  go_wp2_with fail
  refine (name_any 116 12 _ (by omega) (by omega)).mono ?_
  rw [n1.out, n2.out]
  rintro e w1 ⟨rfl, hb1⟩
  go_wp2_with fail
  refine (parse_any _ _).mono ?_
  rw [p1.out]
  rintro e w2 ⟨rfl, hb2⟩
  go_wp2_with fail
  refine (parse_any _ _).mono ?_
  rw [p2.out, p3.out, p4.out]
  rintro e w3 ⟨rfl, hb3⟩
  go_wp2_with (go_at_call 15; refine (num_any _ _).mono ?_; rintro e w4 ⟨rfl, rfl⟩)
  go_ret
  exact ⟨rfl, bthen (bthen hb1 hb2) hb3⟩
end Go.Proofs.YtfakfgblaakgdaaGreat.Names

/- An edit's octets are octets. No program. -/
namespace Go.Proofs.YtfakfgblaakgdaaGreat.CodecB
set_option linter.unusedVariables false
set_option linter.unusedSimpArgs false
open Go.Proofs.YtfakfgblaakgdaaGreat.Var Go.Proofs.YtfakfgblaakgdaaGreat.VarPure Go.Proofs.YtfakfgblaakgdaaGreat.Codec Go.Proofs.YtfakfgblaakgdaaGreat.EditPure

theorem putI_bytes {n : Int} (h : okN n = true) : Bytes (putI n) ∧ (putI n).length ≤ 9 := by
  have h1 := (okN_iff n).1 h
  have h2 : n.toNat < 2 ^ 56 := by have : (2 : Nat) ^ 56 = 72057594037927936 := rfl; omega
  obtain ⟨_, h3, h4⟩ := get_put h2 []
  exact ⟨h3, by rw [putI, h4]; exact (sizeN_pos _).2⟩
theorem bytes_app {a b : List Nat} (ha : Bytes a) (hb : Bytes b) : Bytes (a ++ b) := fun x hx => by
  rcases List.mem_append.1 hx with h | h
  · exact ha x h
  · exact hb x h
theorem bytes_flat {α : Type} {p : α → List Nat} {N : Nat} : ∀ (l : List α), (∀ x ∈ l, Bytes (p x) ∧ (p x).length ≤ N) → Bytes (l.flatMap p) ∧ (l.flatMap p).length ≤ N * l.length := by
  intro l
  induction l with
  | nil => intro _; exact ⟨fun x hx => by simp at hx, by simp⟩
  | cons x l ih =>
    intro h
    obtain ⟨h1, h2⟩ := h x (by simp)
    obtain ⟨h3, h4⟩ := ih (fun y hy => h y (by simp [hy]))
    rw [List.flatMap_cons]
    refine ⟨bytes_app h1 h3, ?_⟩
    rw [List.length_append, List.length_cons, Nat.mul_succ]
    omega
theorem putS_bytes {s : ByteArray} (h : s.size ≤ 96) : Bytes (putS s) ∧ (putS s).length ≤ 105 := by
  obtain ⟨h1, h2⟩ := putI_bytes (okN_nat (k := s.size) (by omega))
  refine ⟨bytes_app h1 (strB_bytes s), ?_⟩
  rw [putS, List.length_append, strB_len]; omega
theorem putM_bytes {m : Meta} (h : okM m = true) : Bytes (putM m) ∧ (putM m).length ≤ 237 := by
  simp only [okM, Bool.and_eq_true, decide_eq_true_eq] at h
  obtain ⟨a, b, c, d, e⟩ := h
  obtain ⟨a1, a2⟩ := putI_bytes a
  obtain ⟨b1, b2⟩ := putI_bytes b
  obtain ⟨c1, c2⟩ := putI_bytes c
  obtain ⟨d1, d2⟩ := putS_bytes d
  obtain ⟨e1, e2⟩ := putS_bytes e
  refine ⟨bytes_app a1 (bytes_app b1 (bytes_app c1 (bytes_app d1 e1))), ?_⟩
  simp only [putM, List.length_append]
  omega
theorem encB_bytes {drop : List Int} {add : List Meta} {seq next : Int} (h : encOk drop add seq next = true) (hd : drop.length ≤ 256) (ha : add.length ≤ 256) : Bytes (encB drop add seq next) ∧ (encB drop add seq next).length ≤ 1048576 := by
  simp only [encOk, Bool.and_eq_true] at h
  obtain ⟨a, b, c, d⟩ := h
  obtain ⟨a1, a2⟩ := putI_bytes a
  obtain ⟨b1, b2⟩ := putI_bytes b
  obtain ⟨c1, c2⟩ := putI_bytes (okN_nat (k := drop.length) (by omega))
  obtain ⟨d1, d2⟩ := putI_bytes (okN_nat (k := add.length) (by omega))
  obtain ⟨e1, e2⟩ := bytes_flat (p := putI) (N := 9) drop (fun x hx => putI_bytes (List.all_eq_true.1 c x hx))
  obtain ⟨f1, f2⟩ := bytes_flat (p := putM) (N := 237) add (fun x hx => putM_bytes (List.all_eq_true.1 d x hx))
  refine ⟨bytes_app a1 (bytes_app b1 (bytes_app c1 (bytes_app e1 (bytes_app d1 f1)))), ?_⟩
  simp only [encB, List.length_append]
  omega
end Go.Proofs.YtfakfgblaakgdaaGreat.CodecB

/- The acts that begin a manifest, and that note an edit: plain; and contracts in short. -/
namespace Go.Proofs.YtfakfgblaakgdaaGreat.Files
set_option linter.unusedVariables false
set_option linter.unusedSimpArgs false
open Go.RowKit Go.Proofs.YtfakfgblaakgdaaGreatW.PrintWords Go.Proofs.YtfakfgblaakgdaaGreatW.PrintLast Go.Proofs.YtfakfgblaakgdaaGreat.Base Go.Proofs.YtfakfgblaakgdaaGreat.Cells Go.Proofs.YtfakfgblaakgdaaGreat.Ints Go.Proofs.YtfakfgblaakgdaaGreat.Var Go.Proofs.YtfakfgblaakgdaaGreat.EditPure Go.Proofs.YtfakfgblaakgdaaGreat.Edit Go.Proofs.YtfakfgblaakgdaaGreat.Sets Go.Proofs.YtfakfgblaakgdaaGreat.Wide Go.Proofs.YtfakfgblaakgdaaGreat.RowsC Go.Proofs.YtfakfgblaakgdaaGreat.Crc Go.Proofs.YtfakfgblaakgdaaGreat.Codec Go.Proofs.YtfakfgblaakgdaaGreat.VarPure Go.Proofs.YtfakfgblaakgdaaGreat.NamesPure

def layA (b : Bool) (name : ByteArray) (data : List Int) : List Ac := (if b then [⟨5, name, ⟨#[]⟩, []⟩] else []) ++ [⟨1, name, ⟨#[]⟩, []⟩, ⟨2, name, ⟨#[]⟩, data⟩, ⟨3, name, ⟨#[]⟩, []⟩]
theorem layL_map (b : Bool) (name : ByteArray) (data : List Int) (D : Value) : (layL b name data D).map (·.1) = layA b name data := by cases b <;> rfl
theorem layL_len (b : Bool) (name : ByteArray) (data : List Int) (D : Value) : (layL b name data D).length ≤ 4 := by cases b <;> simp [layL, lay3]
def turnA : List Ac := [⟨6, ⟨#[]⟩, ⟨#[]⟩, []⟩, ⟨4, ⟨#[110, 101, 120, 116]⟩, ⟨#[67, 85, 82, 82, 69, 78, 84]⟩, []⟩, ⟨6, ⟨#[]⟩, ⟨#[]⟩, []⟩]
def turnL : List (Ac × Value) := turnA.map fun a => (a, .slice none 0 0)
theorem turnL_map : turnL.map (·.1) = turnA := rfl
theorem turnL_AD (w : World) : AD w turnL := fun x hx => by
  simp only [turnL, turnA, List.map_cons, List.map_nil, List.mem_cons, List.not_mem_nil, or_false] at hx
  rcases hx with rfl | rfl | rfl <;> exact ⟨none, 0, rfl, Nat.le_refl _, ⟨rfl, by simp, fun hn => by simp at hn⟩⟩
/-- the acts that begin a manifest -/
def beginA (s : St) (l : List Meta) (seq next id : Int) : List Ac :=
  layA (hasP s (nameS 109 id)) (nameS 109 id) (frameP 5 (encO [] l seq next)) ++ layA (hasP s ⟨#[110, 101, 120, 116]⟩) ⟨#[110, 101, 120, 116]⟩ (pointP id) ++ turnA
def beginE (s : St) (l : List Meta) (seq next id : Int) : Int := if stE s ≠ 0 then stE s else if verE l seq next ≠ 0 then verE l seq next else nameE 109 id
def beginL (s : St) (l : List Meta) (seq next id : Int) : List Ac := if beginE s l seq next id = 0 then beginA s l seq next id else []
/-- the acts that note an edit -/
def noteA (id : Int) (drop : List Int) (add : List Meta) (seq next : Int) : List Ac := [⟨2, nameS 109 id, ⟨#[]⟩, frameP 5 (encO drop add seq next)⟩, ⟨3, nameS 109 id, ⟨#[]⟩, []⟩]
def noteE (id : Int) (drop : List Int) (add : List Meta) (seq next : Int) : Int := if nameE 109 id ≠ 0 then nameE 109 id else encE drop add seq next
def noteL (id : Int) (drop : List Int) (add : List Meta) (seq next : Int) : List Ac := if noteE id drop add seq next = 0 then noteA id drop add seq next else []

theorem kAc_nil (w : World) : kAc.C w none 0 [] := Kd.C_nil kAc w
/-- acts in new cells -/
theorem acts_cells (w : World) (g : Nat) (cs : Array Value) (L : List (Ac × Value)) (hcs : cs = (L.map rowAc).flatten.toArray) (hd : AD w L) (hl : L.length ≤ 9223372036854775807) (h : w.heap[g]? = some (.cells cs 92 (0, 0))) : kAd.C w (some ⟨g, 0, none⟩) L.length L := by
  have hc : CRow 92 4 w g L.length (L.map rowAc) := by
    subst hcs
    refine ⟨_, h, ?_, by simp, ?_, fun r hr => by obtain ⟨x, _, rfl⟩ := List.mem_map.1 hr; rfl⟩
    · rw [List.size_toArray, flatA_len]
    · simp only [List.length_map]
      rw [← flatA_len L]
      exact List.take_length
  have h2 : kAd.R 92 w 0 (fun _ => True) (.slice (some ⟨g, 0, none⟩) L.length L.length) L := R_of_CR (d := kAd) (fun x hx => ⟨rfl, hd.one x hx⟩) (fun _ => rfl) (.inr ⟨g, L.length, by rw [List.length_map], Nat.zero_le _, hl, hc⟩)
  exact (Kd.R_reads' h2).2.2
theorem encO_oct {drop : List Int} {add : List Meta} {seq next : Int} : OctL (encO drop add seq next) := by
  unfold encO
  split
  · rename_i h
    have hb : Bytes (encB drop add seq next) := by
      have hok : encOk drop add seq next = true := by
        unfold encE at h
        split at h
        · cases h
        · split at h
          · assumption
          · cases h
      have hsh : ¬ (256 < drop.length ∨ 256 < add.length) := fun hl => by rw [encE, if_pos hl] at h; cases h
      exact (CodecB.encB_bytes hok (by omega) (by omega)).1
    intro b hb'
    obtain ⟨x, hx, rfl⟩ := List.mem_map.1 hb'
    have := hb x hx
    omega
  · exact fun b hb => absurd hb (by simp)

theorem encO_len {drop : List Int} {add : List Meta} {seq next : Int} : (encO drop add seq next).length ≤ 1048576 := by
  unfold encO
  split
  · rename_i h
    have hok : encOk drop add seq next = true := by
      unfold encE at h
      split at h
      · cases h
      · split at h
        · assumption
        · cases h
    have hsh : ¬ (256 < drop.length ∨ 256 < add.length) := fun hl => by rw [encE, if_pos hl] at h; cases h
    have := (CodecB.encB_bytes hok (by omega) (by omega)).2
    rw [nb_len]
    omega
  · exact Nat.zero_le _
theorem putN_len2 (n : Nat) (hn : n < 72057594037927936) : (nb (putN n)).length ≤ 9 := by
  rw [nb_len]; exact putN_len9 _ (by have : (2 : Nat) ^ 56 = 72057594037927936 := rfl; omega)

theorem encode_v (D B : Option Addr) (dc bc ld la : Nat) (drop : List Int) (add : List Meta) (seq next : Int) (w : World) (hd : ReadsInt w .i64 D ld drop) (hr : Kd.C kMeta w B la add) (hsq : inI64 seq) (hnx : inI64 next) (hdw : ∀ x ∈ drop, inI64 x) (hmw : ∀ m ∈ add, inI64 m.id ∧ inI64 m.level ∧ inI64 m.count) (hms : ∀ m ∈ add, m.low.size ≤ 1048576 ∧ m.high.size ≤ 1048576) (hdl : ld ≤ 1048576) (hal : la ≤ 1048576) :
    Calls Tryz.prog 36 #[.agg #[.slice D ld dc, .slice B la bc, .int .i64 seq, .int .i64 next]] w fun e w' => ∃ v, e = .returned (.tuple #[v, .int .i64 (encE drop add seq next)]) ∧ RB w' w.heap.size v (encO drop add seq next) ∧ Below w.heap.size w w' := by
  have LD : drop.length = ld := hd.1
  have LA : add.length = la := Kd.C_len hr
  subst LD LA
  refine (encode_any D B dc bc drop add seq next w hd hr hsq hnx hdw hmw hms hdl hal).mono ?_
  rintro e w' ⟨A, n, c, rfl, ⟨h1, h2, hb⟩⟩
  refine ⟨_, rfl, ?_, hb⟩
  by_cases h : encE drop add seq next = 0
  · obtain ⟨hn, hv⟩ := h1 h
    rw [encO, if_pos h]
    exact hv
  · obtain ⟨rfl, rfl, rfl⟩ := h2 h
    rw [encO, if_neg h]
    exact own_nil _ _ _ _
end Go.Proofs.YtfakfgblaakgdaaGreat.Files

/- manifest.Begin: walked. -/
namespace Go.Proofs.YtfakfgblaakgdaaGreat.Files
set_option linter.unusedVariables false
set_option linter.unusedSimpArgs false
open Go.RowKit Go.Proofs.YtfakfgblaakgdaaGreatW.PrintWords Go.Proofs.YtfakfgblaakgdaaGreatW.PrintLast Go.Proofs.YtfakfgblaakgdaaGreat.Base Go.Proofs.YtfakfgblaakgdaaGreat.Cells Go.Proofs.YtfakfgblaakgdaaGreat.Ints Go.Proofs.YtfakfgblaakgdaaGreat.Var Go.Proofs.YtfakfgblaakgdaaGreat.EditPure Go.Proofs.YtfakfgblaakgdaaGreat.Edit Go.Proofs.YtfakfgblaakgdaaGreat.Sets Go.Proofs.YtfakfgblaakgdaaGreat.Wide Go.Proofs.YtfakfgblaakgdaaGreat.RowsC Go.Proofs.YtfakfgblaakgdaaGreat.Crc Go.Proofs.YtfakfgblaakgdaaGreat.Codec Go.Proofs.YtfakfgblaakgdaaGreat.VarPure Go.Proofs.YtfakfgblaakgdaaGreat.NamesPure

set_option maxRecDepth 100000 in
set_option maxHeartbeats 8000000 in
theorem begin_any (s : St) (v : Value) (B : Option Addr) (lb bc : Nat) (l : List Meta) (seq next id : Int) (w : World) (h : At w v s) (hs : Small s) (hw : Wf s) (hr : Kd.C kMeta w B lb l) (hbc : lb ≤ bc) (hlb : lb ≤ 1048576)
    (hsq : inI64 seq) (hnx : inI64 next) (hmw : ∀ m ∈ l, inI64 m.id ∧ inI64 m.level ∧ inI64 m.count) (hms : ∀ m ∈ l, m.low.size ≤ 1048576 ∧ m.high.size ≤ 1048576) :
    Calls Tryz.prog 10 #[v, .agg #[.slice B lb bc, .int .i64 seq, .int .i64 next], .int .i64 id] w fun e w' => ∃ A n c, e = .returned (.tuple #[.slice A n c, .int .i64 (beginE s l seq next id)]) ∧ kAc.C w' A n (beginL s l seq next id) ∧ n ≤ 16 ∧ Below w.heap.size w w' := by
  have HA := Aside0.mk h
  have HS := Aside0.mk hs
  have HW := Aside0.mk hw
  have HR := Aside0.mk hr
  have HI := Aside0.mk (And.intro hsq (And.intro hnx (And.intro hmw hms)))
  have LB : Aside0 (l.length = lb) := ⟨Kd.C_len hr⟩
  obtain ⟨n0, F0, lf0, fc0, N0, ln0, nc0, S0, ls0, sc0, m0, hv0⟩ := HA.out.show_
  subst hv0
  obtain ⟨BE, hBE⟩ := named (beginE s l seq next id)
  obtain ⟨BL, hBL⟩ := named (beginL s l seq next id)
  rw [← hBE.out, ← hBL.out]
  clear h hs hw hr hsq hnx hmw hms
  go_enter Tryz.func10, Tryz.ntmps10
  go_upto_region 1 with (fail)
  obtain ⟨W, hW⟩ : ∃ W, W = (w.alloc (.cells #[.int .i64 n0, .slice F0 lf0 fc0, .slice N0 ln0 nc0, .slice S0 ls0 sc0, .int .i64 m0] 35)).alloc (.cells #[.slice B lb bc, .int .i64 seq, .int .i64 next] 39) := ⟨_, rfl⟩
  have HJ : Aside0 (W.heap[w.heap.size]? = some (.cells #[.int .i64 n0, .slice F0 lf0 fc0, .slice N0 ln0 nc0, .slice S0 ls0 sc0, .int .i64 m0] 35 (0, 0))) := ⟨by rw [hW]; exact blk_alloc (blk_new _ _) _⟩
  have HV : Aside0 (W.heap[w.heap.size + 1]? = some (.cells #[.slice B lb bc, .int .i64 seq, .int .i64 next] 39 (0, 0))) := ⟨by rw [hW]; exact blk_new1 _ _ _ _⟩
  have HB : Aside0 (Below w.heap.size w W) := ⟨by rw [hW]; exact below_alloc (below_alloc (Below.refl _ _) _) _⟩
  rw [← hW]
  clear hW
  obtain ⟨x0, x1, x2, x3, x4, _, _, _, _, _⟩ := all5 HJ.out
  obtain ⟨se, hse⟩ := named (stE s)
  go_wp2_with fail
  refine (check_at (HA.out.below HB.out) HS.out HW.out).mono ?_
  rw [← hse.out]
  rintro e w1 ⟨rfl, hb1⟩
  have HB1 := Aside0.mk (bthen HB.out hb1)
  have HJ1 := Aside0.mk (blk_keep HJ.out hb1)
  have HV1 := Aside0.mk (blk_keep HV.out hb1)
  clear hb1 x0 x1 x2 x3 x4
  by_cases hs0 : se = 0
  · subst hs0
    obtain ⟨y0, y1, y2, _, _, _⟩ := all3 HV1.out
    cases hv : verOk l seq next with
    | false =>
      have HE : Aside0 (BE = 9 ∧ BL = []) := ⟨by
        have h1 : BE = 9 := by rw [hBE.out, beginE, ← hse.out, if_neg (by decide), verE, hv]; rfl
        exact ⟨h1, by rw [hBL.out, beginL, ← hBE.out, h1]; rfl⟩⟩
      obtain ⟨rfl, rfl⟩ := HE.out
      have CW : Aside0 (Calls Tryz.prog 34 #[.agg #[.slice B lb bc, .int .i64 seq, .int .i64 next]] w1 fun e w' => e = .returned (.tuple #[.agg #[.slice none 0 0, .slice none 0 0, .int .i64 0, .int .i64 0], .int .i64 9]) ∧ Below w1.heap.size w1 w') := ⟨by
        have h := whole_no B bc l seq next w1 (by rw [LB.out]; exact Kd.C_below HR.out HB1.out) (by rw [LB.out]; exact hbc) (fun m hm => (HI.out.2.2.1 m hm).1) hv
        rwa [LB.out] at h⟩
      clear hv
      go_wp2_with fail
      refine CW.out.mono ?_
      rintro e w2 ⟨rfl, hb2⟩
      have HB2 := Aside0.mk (bthen HB1.out hb2)
      clear hb2 y0 y1 y2
      go_wp2
      refine bodyPost_ret (results_tmp2 rfl _ _ _) rfl ?_
      exact ⟨none, 0, 0, rfl, kAc_nil _, by omega, below_alloc HB2.out _⟩
    | true =>
      have HVE : Aside0 (verE l seq next = 0) := ⟨by rw [verE, hv]; rfl⟩
      have CW : Aside0 (Calls Tryz.prog 34 #[.agg #[.slice B lb bc, .int .i64 seq, .int .i64 next]] w1 fun e w' => ∃ A c, e = .returned (.tuple #[.agg #[.slice none 0 0, .slice A lb c, .int .i64 seq, .int .i64 next], .int .i64 0]) ∧ Kd.C kMeta w' A lb l ∧ Below w1.heap.size w1 w') := ⟨by
        have h := whole_yes B bc l seq next w1 (by rw [LB.out]; exact Kd.C_below HR.out HB1.out) (by rw [LB.out]; exact hbc) (fun m hm => (HI.out.2.2.1 m hm).1) (by rw [LB.out]; exact hlb) hv
        rw [LB.out] at h
        refine h.mono ?_
        rintro e w' ⟨v, rfl, hv, hb⟩
        obtain ⟨A, c, rfl, _, hC⟩ := RM_reads hv
        rw [LB.out] at hC ⊢
        exact ⟨A, c, rfl, hC, hb⟩⟩
      clear hv
      go_wp2_with fail
      refine CW.out.mono ?_
      rintro e w2 ⟨A2, c2, rfl, hC2, hb2⟩
      have HB2 := Aside0.mk (bthen HB1.out hb2)
      have HJ2 := Aside0.mk (blk_keep HJ1.out hb2)
      have HC2 := Aside0.mk hC2
      clear hb2 hC2 y0 y1 y2
      go_upto_region 5 with (fail)
      obtain ⟨w3, hw3⟩ : ∃ w3, w3 = w2.alloc (.cells #[.slice none 0 0, .slice A2 lb c2, .int .i64 seq, .int .i64 next] 42) := ⟨_, rfl⟩
      obtain ⟨g3, hg3⟩ : ∃ g, g = w2.heap.size := ⟨_, rfl⟩
      have HE3 : Aside0 (w3.heap[g3]? = some (.cells #[.slice none 0 0, .slice A2 lb c2, .int .i64 seq, .int .i64 next] 42 (0, 0))) := ⟨by rw [hw3, hg3]; exact blk_new _ _⟩
      have hD3 : Below w2.heap.size w2 w3 := by rw [hw3]; exact below_alloc (Below.refl _ _) _
      have HB3 := Aside0.mk (bthen HB2.out hD3)
      have HJ3 := Aside0.mk (blk_keep HJ2.out hD3)
      have HC3 := Aside0.mk (Kd.C_below HC2.out hD3)
      rw [← hw3, ← hg3]
      clear hw3 hg3 hD3
      obtain ⟨ne, hne⟩ := named (nameE 109 id)
      obtain ⟨nm, hnm⟩ := named (nameS 109 id)
      go_wp2_with fail
      refine (Names.name_any 109 id w3 (by decide) (by decide)).mono ?_
      rw [← hne.out, ← hnm.out]
      rintro e w4 ⟨rfl, hb4⟩
      have HB4 := Aside0.mk (bthen HB3.out hb4)
      have HJ4 := Aside0.mk (blk_keep HJ3.out hb4)
      have HE4 := Aside0.mk (blk_keep HE3.out hb4)
      have HC4 := Aside0.mk (Kd.C_below HC3.out hb4)
      clear hb4
      have HBE : Aside0 (BE = ne) := ⟨by rw [hBE.out, beginE, ← hse.out, if_neg (by decide), HVE.out, if_neg (by decide), hne.out]⟩
      by_cases hn0 : ne = 0
      · subst hn0
        have HID : Aside0 (1 ≤ id ∧ id ≤ 2147483647) := ⟨by
          have h := hne.out
          unfold nameE at h
          split at h
          · cases h
          · split at h
            · cases h
            · omega⟩
        obtain ⟨id1, id2⟩ := HID.out
        obtain rfl := HBE.out
        have HBL : Aside0 (BL = beginA s l seq next id) := ⟨by rw [hBL.out, beginL, ← hBE.out]; rfl⟩
        obtain ⟨e0, e1, e2, e3, _, _, _, _⟩ := all4 HE4.out
        obtain ⟨EE, hEE⟩ := named (encE [] l seq next)
        obtain ⟨X, hX⟩ := named (encO [] l seq next)
        go_wp2_with fail
        refine (encode_v none A2 0 c2 0 lb [] l seq next w4 ⟨rfl, by decide, fun hn => by omega⟩ HC4.out HI.out.1 HI.out.2.1 (fun x hx => by cases hx) HI.out.2.2.1 HI.out.2.2.2 (by omega) hlb).mono ?_
        rw [← hEE.out, ← hX.out]
        rintro e w5 ⟨v5, rfl, hv5, hb5⟩
        obtain ⟨A5, c5, rfl, hr5⟩ := RB_reads hv5
        have HB5 := Aside0.mk (bthen HB4.out hb5)
        have HJ5 := Aside0.mk (blk_keep HJ4.out hb5)
        have HX5 := Aside0.mk hr5
        have HXO : Aside0 (OctL X) := ⟨by rw [hX.out]; exact encO_oct⟩
        have hxl : X.length ≤ 1048576 := by rw [hX.out]; exact encO_len
        obtain ⟨xn, hxn⟩ : ∃ n, X.length = n := ⟨_, rfl⟩
        rw [hxn] at HX5 hxl ⊢
        clear hv5 hb5 hr5 e0 e1 e2 e3 hxn
        go_upto_region 12 with (fail)
        obtain ⟨w6, hw6⟩ : ∃ w6, w6 = w5.alloc (.cells #[.int .i64 6, .string ⟨#[]⟩, .string ⟨#[]⟩, .slice none 0 0, .int .i64 4, .string ⟨#[110, 101, 120, 116]⟩, .string ⟨#[67, 85, 82, 82, 69, 78, 84]⟩, .slice none 0 0, .int .i64 6, .string ⟨#[]⟩, .string ⟨#[]⟩, .slice none 0 0] 92) := ⟨_, rfl⟩
        obtain ⟨g6, hg6⟩ : ∃ g, g = w5.heap.size := ⟨_, rfl⟩
        have hD6 : Below w5.heap.size w5 w6 := by rw [hw6]; exact below_alloc (Below.refl _ _) _
        have HT6 : Aside0 (w6.heap[g6]? = some (.cells #[.int .i64 6, .string ⟨#[]⟩, .string ⟨#[]⟩, .slice none 0 0, .int .i64 4, .string ⟨#[110, 101, 120, 116]⟩, .string ⟨#[67, 85, 82, 82, 69, 78, 84]⟩, .slice none 0 0, .int .i64 6, .string ⟨#[]⟩, .string ⟨#[]⟩, .slice none 0 0] 92 (0, 0))) := ⟨by rw [hw6, hg6]; exact blk_new _ _⟩
        have HB6 := Aside0.mk (bthen HB5.out hD6)
        have HJ6 := Aside0.mk (blk_keep HJ5.out hD6)
        have HX6 := Aside0.mk (HX5.out.below hD6)
        rw [← hw6, ← hg6]
        clear hw6 hg6 hD6
        obtain ⟨F1, hF1⟩ := named (frameP 5 X)
        obtain ⟨F2, hF2⟩ := named (pointP id)
        obtain ⟨h1, hh1⟩ := named (hasP s nm)
        obtain ⟨h2, hh2⟩ := named (hasP s ⟨#[110, 101, 120, 116]⟩)
        have e1 : IntKind.u64.wrap id = id := by rw [IntKind.wrap_u64]; omega
        have CF1 : Aside0 (∀ W', Below w6.heap.size w6 W' → Calls Tryz.prog 39 #[.int .i64 5, .slice A5 xn c5] W' fun e w' => ∃ A n c, e = .returned (.slice A n c) ∧ ReadsInt w' .u8 A n F1 ∧ n ≤ c ∧ Below W'.heap.size W' w') := ⟨fun W' hW => by
          refine (framed_any 5 A5 xn c5 X W' (by decide) (by decide) (HX6.out.below hW) HXO.out hxl).mono ?_
          rw [← hF1.out]
          rintro e w' ⟨v, rfl, hv, hb⟩
          obtain ⟨A, c, rfl, hr⟩ := RB_reads hv
          exact ⟨A, _, c, rfl, hr, own_le hv, hb⟩⟩
        have CP : Aside0 (∀ W', Calls Tryz.prog 40 #[.int .u64 id] W' fun e w' => ∃ A n c, e = .returned (.slice A n c) ∧ ReadsInt w' .u8 A n (nb (putN id.toNat)) ∧ Below W'.heap.size W' w') := ⟨fun W' => by
          refine (put_any id (by omega) (by omega) W').mono ?_
          rintro e w' ⟨v, L, rfl, hv, _, _, hL, hb⟩
          rw [hL (by omega)] at hv
          obtain ⟨A, c, rfl, hr⟩ := RB_reads hv
          exact ⟨A, _, c, rfl, hr, hb⟩⟩
        have CF2 : Aside0 (∀ W' A n c, ReadsInt W' .u8 A n (nb (putN id.toNat)) → Calls Tryz.prog 39 #[.int .i64 4, .slice A n c] W' fun e w' => ∃ A n c, e = .returned (.slice A n c) ∧ ReadsInt w' .u8 A n F2 ∧ n ≤ c ∧ Below W'.heap.size W' w') := ⟨fun W' A n c hr => by
          have hn : n ≤ 9 := by rw [← hr.1]; exact putN_len2 _ (by omega)
          refine (framed_any 4 A n c _ W' (by decide) (by decide) hr (putN_oct (by omega)) (by omega)).mono ?_
          rintro e w' ⟨v, rfl, hv, hb⟩
          have hv' : RB w' W'.heap.size v F2 := by rw [hF2.out]; exact hv
          obtain ⟨A, c, rfl, hr⟩ := RB_reads hv'
          exact ⟨A, _, c, rfl, hr, own_le hv', hb⟩⟩
        have CL1 : Aside0 (∀ W' A n c, Below w6.heap.size w6 W' → ReadsInt W' .u8 A n F1 → n ≤ c → Calls Tryz.prog 38 #[.agg #[.int .i64 n0, .slice F0 lf0 fc0, .slice N0 ln0 nc0, .slice S0 ls0 sc0, .int .i64 m0], .string nm, .slice A n c] W' fun e w' => ∃ A' n' c' L, e = .returned (.slice A' n' c') ∧ kAd.C w' A' n' L ∧ AD w' L ∧ L.map (·.1) = layA h1 nm F1 ∧ n' ≤ 4 ∧ Below W'.heap.size W' w') := ⟨fun W' A n c hW hr hc => by
          refine (lay_any s nm F1 _ A n c W' (HA.out.below (bthen HB6.out hW)) HS.out HW.out hr hc).mono ?_
          rw [← hh1.out]
          rintro e w' ⟨v, rfl, hv, hb⟩
          obtain ⟨A', c', rfl, _, hC⟩ := hv.form
          exact ⟨A', _, c', _, rfl, hC, hv.2, layL_map _ _ _ _, layL_len _ _ _ _, hb⟩⟩
        have CL2 : Aside0 (∀ W' A n c, Below w6.heap.size w6 W' → ReadsInt W' .u8 A n F2 → n ≤ c → Calls Tryz.prog 38 #[.agg #[.int .i64 n0, .slice F0 lf0 fc0, .slice N0 ln0 nc0, .slice S0 ls0 sc0, .int .i64 m0], .string ⟨#[110, 101, 120, 116]⟩, .slice A n c] W' fun e w' => ∃ A' n' c' L, e = .returned (.slice A' n' c') ∧ kAd.C w' A' n' L ∧ AD w' L ∧ L.map (·.1) = layA h2 ⟨#[110, 101, 120, 116]⟩ F2 ∧ n' ≤ 4 ∧ Below W'.heap.size W' w') := ⟨fun W' A n c hW hr hc => by
          refine (lay_any s ⟨#[110, 101, 120, 116]⟩ F2 _ A n c W' (HA.out.below (bthen HB6.out hW)) HS.out HW.out hr hc).mono ?_
          rw [← hh2.out]
          rintro e w' ⟨v, rfl, hv, hb⟩
          obtain ⟨A', c', rfl, _, hC⟩ := hv.form
          exact ⟨A', _, c', _, rfl, hC, hv.2, layL_map _ _ _ _, layL_len _ _ _ _, hb⟩⟩
        have CC : Aside0 (∀ W' b A1 A2 c1 c2 n1 n2 L1 L2, Below w6.heap.size w6 W' → W'.cell? ⟨b, 0, none⟩ = some (.slice A1 n1 c1) → W'.cell? ⟨b, 1, none⟩ = some (.slice A2 n2 c2) → W'.cell? ⟨b, 2, none⟩ = some (.slice (some ⟨g6, 0, none⟩) 3 3) → kAd.C W' A1 n1 L1 → AD W' L1 → L1.map (·.1) = layA h1 nm F1 → n1 ≤ 4 → kAd.C W' A2 n2 L2 → AD W' L2 → L2.map (·.1) = layA h2 ⟨#[110, 101, 120, 116]⟩ F2 → n2 ≤ 4 →
            Calls Tryz.prog 37 #[.slice (some ⟨b, 0, none⟩) 3 3] W' fun e w' => ∃ A n c, e = .returned (.slice A n c) ∧ kAc.C w' A n BL ∧ n ≤ 16 ∧ Below W'.heap.size W' w') := ⟨fun W' b A1 A2 c1 c2 n1 n2 L1 L2 hW q1 q2 q3 r1 d1 m1 k1 r2 d2 m2 k2 => by
          have r3 := acts_cells W' g6 _ turnL rfl (turnL_AD W') (by decide) (blk_keep HT6.out hW)
          refine (Cat.concatA3_any b A1 A2 (some ⟨g6, 0, none⟩) c1 c2 3 n1 n2 3 L1 L2 turnL W' q1 q2 q3 r1 r2 r3 (by omega) (by omega) (by omega)).mono ?_
          rintro e w' ⟨v, rfl, hv, hb⟩
          obtain ⟨A, c, rfl, _, hC⟩ := Kd.R_reads hv
          have hd := ((d1.append d2).append (turnL_AD W')).below hb
          have h := acts_read hC hd
          have hBE : BL = (L1 ++ L2 ++ turnL).map (·.1) := by
            rw [List.map_append, List.map_append, m1, m2, turnL_map, HBL.out, beginA, ← hnm.out, ← hh1.out, ← hh2.out, ← hX.out, ← hF1.out, ← hF2.out]
          have l1 := Kd.C_len r1
          have l2 := Kd.C_len r2
          refine ⟨A, _, c, rfl, by rw [hBE]; exact h, ?_, hb⟩
          rw [List.length_append, List.length_append, l1, l2]
          have : turnL.length = 3 := rfl
          omega⟩
        have FK : Aside0 (∀ w', Below w6.heap.size w6 w' → w'.cell? ⟨w.heap.size, 0, none⟩ = some (.int .i64 n0) ∧ w'.cell? ⟨w.heap.size, 1, none⟩ = some (.slice F0 lf0 fc0) ∧ w'.cell? ⟨w.heap.size, 2, none⟩ = some (.slice N0 ln0 nc0) ∧ w'.cell? ⟨w.heap.size, 3, none⟩ = some (.slice S0 ls0 sc0) ∧ w'.cell? ⟨w.heap.size, 4, none⟩ = some (.int .i64 m0)) := ⟨fun w' h => by
          obtain ⟨x0, x1, x2, x3, x4, _, _, _, _, _⟩ := all5 (blk_keep HJ6.out h)
          exact ⟨x0, x1, x2, x3, x4⟩⟩
        obtain ⟨j0, j1, j2, j3, j4⟩ := FK.out _ (below_drew (Below.refl _ w6))
        go_region_held3 (fun w' => w'.cell? ⟨w.heap.size, 0, none⟩ = some (.int .i64 n0) ∧ w'.cell? ⟨w.heap.size, 1, none⟩ = some (.slice F0 lf0 fc0) ∧ w'.cell? ⟨w.heap.size, 2, none⟩ = some (.slice N0 ln0 nc0) ∧ w'.cell? ⟨w.heap.size, 3, none⟩ = some (.slice S0 ls0 sc0) ∧ w'.cell? ⟨w.heap.size, 4, none⟩ = some (.int .i64 m0)) (first | with_reducible exact ⟨j0, j1, j2, j3, j4⟩ | (refine FK.out _ ?_; (repeat (first | with_reducible exact Below.refl _ _ | with_reducible exact HBx7.out | with_reducible exact HBx8.out | with_reducible exact HBx9.out | with_reducible exact HBx10.out | with_reducible exact HBx11.out | with_reducible exact HBx12.out | with_reducible apply below_drew | with_reducible apply below_alloc)); done) | go_keep) (first
          | (go_at_call 39; with_reducible refine (CF1.out _ (by repeat (first | with_reducible exact Below.refl _ _ | with_reducible exact HBx7.out | with_reducible exact HBx8.out | with_reducible exact HBx9.out | with_reducible exact HBx10.out | with_reducible exact HBx11.out | with_reducible exact HBx12.out | with_reducible apply below_drew | with_reducible apply below_alloc))).mono ?_; rintro e w7 ⟨A7, n7, c7, rfl, hr7, hc7, hb7⟩; (have HR7 := Aside0.mk hr7); (have HBx7 : Aside0 (Below w6.heap.size w6 w7) := ⟨bthen (by repeat (first | with_reducible exact Below.refl _ _ | with_reducible exact HBx7.out | with_reducible exact HBx8.out | with_reducible exact HBx9.out | with_reducible exact HBx10.out | with_reducible exact HBx11.out | with_reducible exact HBx12.out | with_reducible apply below_drew | with_reducible apply below_alloc)) hb7⟩); clear hr7 hb7)
          | (go_at_call 38; with_reducible refine (CL1.out _ _ _ _ (by repeat (first | with_reducible exact Below.refl _ _ | with_reducible exact HBx7.out | with_reducible exact HBx8.out | with_reducible exact HBx9.out | with_reducible exact HBx10.out | with_reducible exact HBx11.out | with_reducible exact HBx12.out | with_reducible apply below_drew | with_reducible apply below_alloc)) HR7.out hc7).mono ?_; rintro e w8 ⟨A8, n8, c8, L8, rfl, hr8, hd8, hm8, hn8, hb8⟩; (have HR8 := Aside0.mk (And.intro hr8 (And.intro hd8 hm8))); (have HBx8 : Aside0 (Below w6.heap.size w6 w8) := ⟨bthen (by repeat (first | with_reducible exact Below.refl _ _ | with_reducible exact HBx7.out | with_reducible exact HBx8.out | with_reducible exact HBx9.out | with_reducible exact HBx10.out | with_reducible exact HBx11.out | with_reducible exact HBx12.out | with_reducible apply below_drew | with_reducible apply below_alloc)) hb8⟩); clear hr8 hd8 hm8 hb8)
          | (go_at_call 40; with_reducible refine (CP.out _).mono ?_; rintro e w9 ⟨A9, n9, c9, rfl, hr9, hb9⟩; (have HR9 := Aside0.mk hr9); (have HX89 := Aside0.mk hb9); (have HBx9 : Aside0 (Below w6.heap.size w6 w9) := ⟨bthen (by repeat (first | with_reducible exact Below.refl _ _ | with_reducible exact HBx7.out | with_reducible exact HBx8.out | with_reducible exact HBx9.out | with_reducible exact HBx10.out | with_reducible exact HBx11.out | with_reducible exact HBx12.out | with_reducible apply below_drew | with_reducible apply below_alloc)) hb9⟩); clear hr9 hb9)
          | (go_at_call 39; with_reducible refine (CF2.out _ _ _ _ HR9.out).mono ?_; rintro e w10 ⟨A10, n10, c10, rfl, hr10, hc10, hb10⟩; (have HR10 := Aside0.mk hr10); (have HX910 := Aside0.mk (bthen HX89.out hb10)); (have HBx10 : Aside0 (Below w6.heap.size w6 w10) := ⟨bthen (by repeat (first | with_reducible exact Below.refl _ _ | with_reducible exact HBx7.out | with_reducible exact HBx8.out | with_reducible exact HBx9.out | with_reducible exact HBx10.out | with_reducible exact HBx11.out | with_reducible exact HBx12.out | with_reducible apply below_drew | with_reducible apply below_alloc)) hb10⟩); clear hr10 hb10)
          | (go_at_call 38; with_reducible refine (CL2.out _ _ _ _ (by repeat (first | with_reducible exact Below.refl _ _ | with_reducible exact HBx7.out | with_reducible exact HBx8.out | with_reducible exact HBx9.out | with_reducible exact HBx10.out | with_reducible exact HBx11.out | with_reducible exact HBx12.out | with_reducible apply below_drew | with_reducible apply below_alloc)) HR10.out hc10).mono ?_; rintro e w11 ⟨A11, n11, c11, L11, rfl, hr11, hd11, hm11, hn11, hb11⟩; (have HR11 := Aside0.mk (And.intro hr11 (And.intro hd11 hm11))); (have HX811 := Aside0.mk (bthen HX910.out hb11)); (have HBx11 : Aside0 (Below w6.heap.size w6 w11) := ⟨bthen (by repeat (first | with_reducible exact Below.refl _ _ | with_reducible exact HBx7.out | with_reducible exact HBx8.out | with_reducible exact HBx9.out | with_reducible exact HBx10.out | with_reducible exact HBx11.out | with_reducible exact HBx12.out | with_reducible apply below_drew | with_reducible apply below_alloc)) hb11⟩); clear hr11 hd11 hm11 hb11)
          | (go_at_call 37; (have ha := below_alloc (Below.refl _ w11) (.cells #[.slice A8 n8 c8, .slice A11 n11 c11, .slice (some ⟨g6, 0, none⟩) 3 3] 44)); refine (CC.out _ _ A8 A11 c8 c11 n8 n11 L8 L11 (by repeat (first | with_reducible exact Below.refl _ _ | with_reducible exact HBx7.out | with_reducible exact HBx8.out | with_reducible exact HBx9.out | with_reducible exact HBx10.out | with_reducible exact HBx11.out | with_reducible exact HBx12.out | with_reducible apply below_drew | with_reducible apply below_alloc)) (new_cell _ _ _ 0 _ rfl) (new_cell _ _ _ 1 _ rfl) (new_cell _ _ _ 2 _ rfl) (Kd.C_below HR8.out.1 (bthen HX811.out ha)) (HR8.out.2.1.below (bthen HX811.out ha)) HR8.out.2.2 hn8 (Kd.C_below HR11.out.1 ha) (HR11.out.2.1.below ha) HR11.out.2.2 hn11).mono ?_; rintro e w12 ⟨A12, n12, c12, rfl, hC12, hn12, hb12⟩; (have HC12 := Aside0.mk hC12); (have HBx12 : Aside0 (Below w6.heap.size w6 w12) := ⟨bthen (by repeat (first | with_reducible exact Below.refl _ _ | with_reducible exact HBx7.out | with_reducible exact HBx8.out | with_reducible exact HBx9.out | with_reducible exact HBx10.out | with_reducible exact HBx11.out | with_reducible exact HBx12.out | with_reducible apply below_drew | with_reducible apply below_alloc)) hb12⟩); clear hC12 hb12 ha))
        all_goals go_wp2
        all_goals refine bodyPost_ret (results_tmp2 rfl _ _ _) rfl ?_
        all_goals exact ⟨A12, n12, c12, rfl, HC12.out, hn12, bthen HB6.out HBx12.out⟩
      · have HE : Aside0 (BL = []) := ⟨by rw [hBL.out, beginL, ← hBE.out, HBE.out, if_neg hn0]⟩
        obtain rfl := HE.out
        obtain rfl := HBE.out
        have hn1 : (BE == 0) = false := by simpa using hn0
        go_wp2
        refine bodyPost_ret (results_tmp2 rfl _ _ _) rfl ?_
        exact ⟨none, 0, 0, rfl, kAc_nil _, by omega, HB4.out⟩
  · have HE : Aside0 (BE = se ∧ BL = []) := ⟨by
      have h1 : BE = se := by rw [hBE.out, beginE, ← hse.out, if_pos hs0]
      exact ⟨h1, by rw [hBL.out, beginL, ← hBE.out, h1, if_neg hs0]⟩⟩
    obtain ⟨rfl, rfl⟩ := HE.out
    have hn1 : (BE == 0) = false := by simpa using hs0
    go_wp2
    refine bodyPost_ret (results_tmp2 rfl _ _ _) rfl ?_
    exact ⟨none, 0, 0, rfl, kAc_nil _, by omega, HB1.out⟩
end Go.Proofs.YtfakfgblaakgdaaGreat.Files
