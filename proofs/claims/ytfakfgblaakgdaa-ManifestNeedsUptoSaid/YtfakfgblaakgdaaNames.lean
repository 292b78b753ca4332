/- The names of chapter 14: each function that makes or reads one, walked. -/
import Derived.Test.YtfakfgblaakgdaaNamesPure
import Derived.Test.YtfakfgblaakgdaaShelf
import Derived.Test.YtfakfgblaakgdaaWLast
import Derived.WalkKit
import Derived.WalkLawsBesides
import Derived.KernelRfl
import Derived.Deep.QuietTactic
import Derived.BigQuiet
import Derived.Laws.BytesArg
import Derived.Lib.ConvBytes
import Derived.Deep.RegionWith
namespace Go.Proofs.Ytfakfgblaakgdaa.Names
open Go.RowKit Go.Proofs.YtfakfgblaakgdaaW.PrintWords Go.Proofs.YtfakfgblaakgdaaW.PrintLast Go.Proofs.Ytfakfgblaakgdaa.NamesPure Go.Proofs.Ytfakfgblaakgdaa.Base

theorem infoU8 : (Try.prog.info? 5).map (fun i => (i.zero, i.size, i.bytes)) = some (some (.int .u8 0), 1, 1) := by kernel_rfl

theorem idx_range (k : Int) (h0 : 0 ≤ k) (h1 : k ≤ 255) : (0 ≤ Lib.indexByte [109, 108, 116] (UInt8.ofNat k.toNat)) ↔ isKind k = true := by
  obtain ⟨n, rfl⟩ := Int.eq_ofNat_of_zero_le h0
  have hn : n < 256 := by omega
  clear h0 h1
  rw [Int.toNat_natCast]
  revert n
  decide +kernel

/-- slices.Reverse of a row of octets of the call's own. -/
theorem reverse_any (base : Nat) (v : Value) (xs : List Int) (w : World) (HO : w.ownsRow base 5 1 v xs.length (nums .u8 xs)) (hm : xs.length ≤ 140737488355328) :
    Calls Try.prog 68 #[v] w fun e w' => e = .returned (.tuple #[]) ∧ w'.ownsRow base 5 1 v xs.length (nums .u8 xs.reverse) ∧ w.grownBy w' v.ownBlock := by
  obtain ⟨A, c, rfl⟩ := own_slice HO
  have HO := Aside0.mk HO
  go_enter Try.func68, Try.ntmps68
  go_wp2
  go_loopw [2, 3] (fun i j wr => ∃ (k : Nat) (z : Int), i = .int .i64 k ∧ j = .int .i64 z ∧ Aside0 (z = (xs.length : Int) - 1 - k) ∧ 2 * k ≤ xs.length + 1 ∧ Aside0 (wr.ownsRow base 5 1 (.slice A xs.length c) xs.length (nums .u8 (revTo xs k))) ∧ Aside0 (w.grownBy wr (Value.slice A xs.length c).ownBlock)) (fun i j _ => (intOf j - intOf i + 1).toNat)
  case atStart => exact ⟨0, _, by go_num, rfl, ⟨by omega⟩, by omega, ⟨by rw [revTo_zero]; exact HO.out⟩, ⟨⟨rfl, rfl, rfl, Nat.le_refl _, fun _ _ _ => rfl⟩⟩⟩
  case round =>
    obtain ⟨k, z, rfl, rfl, hz, hk, HR, HG⟩ := hrel
    have hz1 := hz.out
    by_cases hlt : 2 * k + 1 < xs.length
    · obtain ⟨m, rfl⟩ : ∃ m : Nat, z = m := ⟨xs.length - 1 - k, by omega⟩
      have hm1 : m + k + 1 ≤ xs.length := by omega
      have hm2 : xs.length ≤ m + k + 1 := by omega
      clear hz1
      have h1 : k < m := by omega
      obtain ⟨g, cap, he, hgb, hgl⟩ := HR.out.form (by omega)
      injection he with he1 he2 he3
      subst he1
      subst he3
      have hlen := HR.out.1
      have hl2 : (revTo xs k).length = xs.length := revTo_length xs k
      obtain ⟨hc1, hf1⟩ := own_at HR.out (k : Int) (by omega) (by omega)
      obtain ⟨hc2, hf2⟩ := own_at HR.out (m : Int) (by omega) (by omega)
      rw [Int.toNat_natCast] at hc1 hf1 hc2 hf2
      have hs1 := own_store (HR.out.drew) (k : Int) (rd (revTo xs k) m)
      have hs2 := own_store hs1.1 (m : Int) (rd (revTo xs k) k)
      have e := revTo_step xs k hlt
      have em : xs.length - 1 - k = m := by omega
      rw [em] at e
      simp only [Int.toNat_natCast] at hs2 hs1
      rw [e] at hs2
      have HS := Aside0.mk hs2
      have HG1 := Aside0.mk hs1.2
      clear hs1 hs2 e em hlen hl2
      go_wp2
      go_region
      all_goals go_wp2
      go_roundw
      case rel => exact ⟨k + 1, _, by go_num, rfl, ⟨by omega⟩, by omega, ⟨HS.out.1⟩, ⟨grown_trans (grown_trans (grown_drew HG.out) HG1.out) HS.out.2⟩⟩
      case measure => simp [intOf]; omega
    · have h1 : ¬ (z > (k : Int)) := by omega
      go_wp2
      go_end0
      exact ⟨rfl, by rw [← revTo_end xs k (by omega)]; exact HR.out, HG.out⟩

theorem strOf_nil : strOfNums [] = ⟨#[]⟩ := rfl

set_option maxHeartbeats 1000000 in
/-- manifest.Name of a kind and a number that may be. -/
theorem name_yes (k : Int) (n : Nat) (w : World) (h1 : 1 ≤ n) (h2 : n ≤ 2147483647) (hk : isKind k = true) (k0 : 0 ≤ k) (k1 : k ≤ 255) :
    Calls Try.prog 36 #[.int .u8 k, .int .i64 n] w fun e w' => e = .returned (.tuple #[.string (strOfNums (nameL k n)), .int .i64 0]) ∧ Below w.heap.size w w' := by
  have hx : 0 ≤ Lib.indexByte [109, 108, 116] (UInt8.ofNat k.toNat) := (idx_range k k0 k1).2 hk
  have HK := Aside0.mk hk; clear hk
  go_enter Try.func36, Try.ntmps36
  go_wp2_with (go_at_call 67; refine (Try.strings_IndexByte _ _ _).mono ?_; rintro e w' ⟨rfl, hw⟩; obtain rfl := hw.symm)
  go_loopw [6, 7] (fun v i wr => ∃ (m : Nat) (xs : List Int), i = .int .i64 m ∧ m ≤ n ∧ Aside0 (digs n = xs ++ digs m) ∧ wr.ownsRow w.heap.size 5 1 v xs.length (nums .u8 xs) ∧ Below w.heap.size w wr ∧ xs.length + m ≤ n) (fun _ i _ => (intOf i).toNat)
  case atStart => exact ⟨n, [], rfl, Nat.le_refl _, ⟨rfl⟩, own_nil _ _ _ _, Below.refl _ _, by simp⟩
  case round =>
    obtain ⟨m, xs, rfl, hm, HD, HO, HB, hl⟩ := hrel
    by_cases h0 : m = 0
    · have hz : ¬ (0 < m) := by omega
      have HD0 := Aside0.mk h0
      clear h0
      go_wp2_with (first | (at_builtin; refine print_append_num (w0 := w) w.heap.size (by rfl) _ _ 62 5 .u8 1 (by rfl) Try.underlying62 infoU8 (by decide) u6 xs _ (by rfl) (by rfl) HO HB HB.size ?c1 ?_; (case c1 => omega); intro v1 w1 hown hB hg hat) | (go_at_call 68; refine (reverse_any w.heap.size _ _ _ hown ?_).mono ?_; (simp only [List.length_append, List.length_singleton]; omega); rintro e w2 ⟨rfl, hown2, hg2⟩; have hcv := own_string (P := Try.prog) (src := 62) (dst := 9) Try.underlying62 Try.underlying5 Try.underlying9 hown2; clear hown2))
      go_ret2
      have e : strOfNums (k :: xs.reverse) = strOfNums (nameL k n) := by
        rw [nameL, HD.out, HD0.out, digs_zero, List.append_nil]
      exact ⟨by rw [← e]; rfl, below_of_grown hB hg2 (fun j hj => own_base hown j hj)⟩
    · have hp : 0 < m := by omega
      go_wp2_with (at_builtin; refine print_append_num (w0 := w) w.heap.size (by rfl) _ _ 62 5 .u8 1 (by rfl) Try.underlying62 infoU8 (by decide) u6 xs _ (by rfl) (by rfl) HO HB HB.size ?c1 ?_; (case c1 => omega); intro v1 w1 hown hB hg hat)
      go_roundw
      case rel => exact ⟨m / 10, xs ++ [48 + (m : Int) % 10], by go_num, by omega, ⟨by rw [HD.out, digs_pos hp]; simp⟩, hown, hB, by simp only [List.length_append, List.length_singleton]; omega⟩
      case measure => simp [intOf]; omega

/-- manifest.Name of a kind or a number that may not be. -/
theorem name_no (k id : Int) (w : World) (k0 : 0 ≤ k) (k1 : k ≤ 255) (hn : nameOk k id = false) :
    Calls Try.prog 36 #[.int .u8 k, .int .i64 id] w fun e w' => e = .returned (.tuple #[.string ⟨#[]⟩, .int .i64 (nameE k id)]) ∧ w' = w := by
  by_cases hk : isKind k = true
  · have hx : 0 ≤ Lib.indexByte [109, 108, 116] (UInt8.ofNat k.toNat) := (idx_range k k0 k1).2 hk
    have hid : id < 1 ∨ 2147483647 < id := by
      simp only [nameOk, hk, Bool.true_and, Bool.and_eq_false_iff, decide_eq_false_iff_not] at hn; omega
    have he : Aside0 (nameE k id = 4) := ⟨by simp [nameE, hk, hid]⟩
    clear hk hn
    rcases hid with h | h
    · go_enter Try.func36, Try.ntmps36
      go_wp2_with (go_at_call 67; refine (Try.strings_IndexByte _ _ _).mono ?_; rintro e w' ⟨rfl, hw⟩; obtain rfl := hw.symm)
      go_ret2
      exact ⟨by rw [he.out]; rfl, rfl⟩
    · have h' : ¬ id < 1 := by omega
      go_enter Try.func36, Try.ntmps36
      go_wp2_with (go_at_call 67; refine (Try.strings_IndexByte _ _ _).mono ?_; rintro e w' ⟨rfl, hw⟩; obtain rfl := hw.symm)
      go_ret2
      exact ⟨by rw [he.out]; rfl, rfl⟩
  · have hx : ¬ (0 ≤ Lib.indexByte [109, 108, 116] (UInt8.ofNat k.toNat)) := fun h => hk ((idx_range k k0 k1).1 h)
    have he : Aside0 (nameE k id = 22) := ⟨by simp [nameE, hk]⟩
    have hx' : Lib.indexByte [109, 108, 116] (UInt8.ofNat k.toNat) < 0 := by omega
    clear hk hn hx
    go_enter Try.func36, Try.ntmps36
    go_wp2_with (go_at_call 67; refine (Try.strings_IndexByte _ _ _).mono ?_; rintro e w' ⟨rfl, hw⟩; obtain rfl := hw.symm)
    go_ret2
    exact ⟨by rw [he.out]; rfl, rfl⟩

/-- manifest.Name, whatever it is given. -/
theorem name_any (k id : Int) (w : World) (k0 : 0 ≤ k) (k1 : k ≤ 255) :
    Calls Try.prog 36 #[.int .u8 k, .int .i64 id] w fun e w' => e = .returned (.tuple #[.string (nameS k id), .int .i64 (nameE k id)]) ∧ Below w.heap.size w w' := by
  by_cases h : nameOk k id = true
  · have h' := h
    simp only [nameOk, Bool.and_eq_true, decide_eq_true_eq] at h'
    obtain ⟨⟨hk, h1⟩, h2⟩ := h'
    obtain ⟨n, rfl⟩ := Int.eq_ofNat_of_zero_le (show 0 ≤ id by omega)
    refine (name_yes k n w (by omega) (by omega) hk k0 k1).mono fun e w' ⟨he, hb⟩ => ⟨?_, hb⟩
    rw [he, nameS, if_pos h, nameE, Int.toNat_natCast]
    simp [hk, show ¬ ((n : Int) < 1 ∨ 2147483647 < (n : Int)) by omega]
  · have h := Bool.eq_false_iff.2 h
    refine (name_no k id w k0 k1 h).mono fun e w' ⟨he, hb⟩ => ⟨?_, by rw [hb]; exact Below.refl _ _⟩
    rw [he, nameS, if_neg (by simp [h])]

theorem strOf_size (xs : List Int) : (strOfNums xs).size = xs.length := by
  unfold strOfNums
  simp [ByteArray.size]
theorem strOf_append (xs ys : List Int) : strOfNums xs ++ strOfNums ys = strOfNums (xs ++ ys) := by
  unfold strOfNums
  rw [ByteArray.ext_iff]
  simp [ByteArray.data_append]

theorem one_str (W : World) (c : Int) : (convert 62 9 (.slice (some ⟨W.heap.size, 0, none⟩) 1 1)).run Try.prog (W.alloc (.cells #[.int .u8 c] 5)) = .ok (.string (strOfNums [c])) (W.alloc (.cells #[.int .u8 c] 5)) := by
  have h := own_lit W 0 5 .u8 [c] (Nat.zero_le _) (by simp)
  exact own_string (P := Try.prog) (src := 62) (dst := 9) Try.underlying62 Try.underlying5 Try.underlying9 h

theorem one_str_drew (W : World) (c : Int) : (convert 62 9 (.slice (some ⟨W.heap.size, 0, none⟩) 1 1)).run Try.prog (W.alloc (.cells #[.int .u8 c] 5)).drew = .ok (.string (strOfNums [c])) (W.alloc (.cells #[.int .u8 c] 5)).drew := by
  have h := (own_lit W 0 5 .u8 [c] (Nat.zero_le _) (by simp)).drew
  exact own_string (P := Try.prog) (src := 62) (dst := 9) Try.underlying62 Try.underlying5 Try.underlying9 h

set_option maxHeartbeats 1000000 in
/-- the document's decimal. -/
theorem decimal_any (n : Nat) (w : World) (h2 : n ≤ 2147483647) :
    Calls Try.prog 70 #[.int .i64 n] w fun e w' => e = .returned (.string (strOfNums (digs n).reverse)) ∧ Below w.heap.size w w' := by
  have hone := one_str
  go_enter Try.func70, Try.ntmps70
  go_wp2
  go_loopw [0, 3] (fun i v wr => ∃ (m : Nat) (xs : List Int), i = .int .i64 m ∧ v = .string (strOfNums xs.reverse) ∧ m ≤ n ∧ Aside0 (digs n = xs ++ digs m) ∧ Below w.heap.size w wr ∧ xs.length + m ≤ n) (fun i _ _ => (intOf i).toNat)
  case atStart => exact ⟨n, [], rfl, rfl, Nat.le_refl _, ⟨rfl⟩, Below.refl _ _, by simp⟩
  case round =>
    obtain ⟨m, xs, rfl, rfl, hm, HD, HB, hl⟩ := hrel
    by_cases h0 : m = 0
    · have hz : ¬ (0 < m) := by omega
      have HD0 := Aside0.mk h0
      clear h0
      go_wp2
      go_ret
      exact ⟨by rw [HD.out, HD0.out, digs_zero, List.append_nil]; rfl, HB⟩
    · have hp : 0 < m := by omega
      have hsz : (strOfNums xs.reverse).size ≤ 2147483647 := by rw [strOf_size]; simp; omega
      have hsz1 : (strOfNums [48 + (m : Int) % 10]).size ≤ 1 := by rw [strOf_size]; simp
      go_wp2
      go_roundw
      case rel => exact ⟨m / 10, xs ++ [48 + (m : Int) % 10], by go_num, by rw [strOf_append, List.reverse_append]; rfl, by omega, ⟨by rw [HD.out, digs_pos hp]; simp⟩, below_alloc HB _, by simp only [List.length_append, List.length_singleton]; omega⟩
      case measure => simp [intOf]; omega

theorem isKind_iff (k : Int) : isKind k = true ↔ k = 109 ∨ k = 108 ∨ k = 116 := by simp [isKind, or_assoc]

theorem name_app (k : Int) (n : Nat) : strOfNums (nameL k n) = strOfNums [k] ++ strOfNums (digs n).reverse := (strOf_append [k] _).symm

theorem one_str_later (w w1 : World) (c : Int) (hb : Below (w.alloc (.cells #[.int .u8 c] 5)).drew.heap.size (w.alloc (.cells #[.int .u8 c] 5)).drew w1) :
    (convert 62 9 (.slice (some ⟨w.heap.size, 0, none⟩) 1 1)).run Try.prog w1 = .ok (.string (strOfNums [c])) w1 := by
  have h := pw_own_below (own_lit w 0 5 .u8 [c] (Nat.zero_le _) (by simp)).drew hb
  exact own_string (P := Try.prog) (src := 62) (dst := 9) Try.underlying62 Try.underlying5 Try.underlying9 h

set_option maxRecDepth 100000 in
set_option maxHeartbeats 1000000 in
/-- the document's Name, of a kind and a number that may be. -/
theorem refName_yes (k : Int) (n : Nat) (w : World) (h1 : 1 ≤ n) (h2 : n ≤ 2147483647) (hk : k = 109 ∨ k = 108 ∨ k = 116) :
    Calls Try.prog 43 #[.int .u8 k, .int .i64 n] w fun e w' => e = .returned (.tuple #[.string (strOfNums (nameL k n)), .int .i64 0]) ∧ Below w.heap.size w w' := by
  have hone := one_str
  have hone2 := one_str_drew
  rcases hk with rfl | rfl | rfl
  all_goals
    have hsz1 := fun c : Int => show (strOfNums [c]).size ≤ 1 by rw [strOf_size]; simp
    have h109 := hsz1 109
    have h108 := hsz1 108
    have h116 := hsz1 116
    clear hsz1
    go_enter Try.func43, Try.ntmps43
    go_wp2
    have hsz : (strOfNums (digs n).reverse).size ≤ 10 := by rw [strOf_size, List.length_reverse]; exact digs_len_le 10 n (by omega)
    go_region_with (go_at_call 70; refine (decimal_any n _ h2).mono ?_; rintro e w1 ⟨rfl, hb1⟩; (first | have hcv := one_str_later w w1 _ hb1 | have _tok := 0))
    all_goals go_wp2
    all_goals go_ret2
    all_goals refine ⟨by rw [name_app]; rfl, ?_⟩
    all_goals repeat (first | exact Below.refl _ _ | exact (below_drew (below_drew (Below.refl _ _))) | apply below_alloc | apply below_drew | refine bthen ?_ hb1)
end Go.Proofs.Ytfakfgblaakgdaa.Names
