/- varint.Size, bytes.Clone, varint.Put, varint.Get: walked. -/
import Derived.Test.YtfakfgblaakgdaaVarPure
import Derived.Test.YtfakfgblaakgdaaShelfBits
import Derived.Test.YtfakfgblaakgdaaInts
namespace Go.Proofs.Ytfakfgblaakgdaa.Var
set_option linter.unusedVariables false
set_option linter.unusedSimpArgs false
open Go.RowKit Go.Proofs.YtfakfgblaakgdaaW.PrintWords Go.Proofs.YtfakfgblaakgdaaW.PrintLast Go.Proofs.Ytfakfgblaakgdaa.Base Go.Proofs.Ytfakfgblaakgdaa.Cells Go.Proofs.Ytfakfgblaakgdaa.Ints Go.Proofs.Ytfakfgblaakgdaa.VarPure

/-- octets as numbers of Go -/
def nb (l : List Nat) : List Int := l.map (Nat.cast : Nat → Int)
theorem nb_len (l : List Nat) : (nb l).length = l.length := by simp [nb]
/-- a row of octets of one's own -/
abbrev RB (w : World) (base : Nat) (v : Value) (l : List Int) : Prop := w.ownsRow base 5 1 v l.length (nums .u8 l)
theorem RB_reads {w : World} {base : Nat} {v : Value} {l : List Int} (h : RB w base v l) : ∃ A c, v = .slice A l.length c ∧ ReadsInt w .u8 A l.length l := own_reads h
theorem infoB : (Try.prog.info? 5).map (fun i => (i.zero, i.size, i.bytes)) = some (some (.int .u8 0), 1, 1) := by kernel_rfl

set_option maxRecDepth 100000 in
set_option maxHeartbeats 1000000 in
theorem cloneB_any (ad : Addr) (c : Nat) (l : List Int) (w : World) (hr : ReadsInt w .u8 (some ad) l.length l) (hb : l.length ≤ 1048576) :
    Calls Try.prog 50 #[.slice (some ad) l.length c] w fun e w' => ∃ v, e = .returned v ∧ RB w' w.heap.size v l ∧ Below w.heap.size w w' := by
  have HR := Aside0.mk hr
  clear hr
  have hnil : ∀ W, (binOp .eql 62 (.slice (some ad) l.length c) (.slice none 0 0)).run Try.prog W = .ok (.bool false) W := fun W => Lib.run_eql_slice_nil (P := Try.prog) W 62 5 (some ad) l.length c 0 0 Try.underlying62
  have HO : Aside0 (RB (w.alloc (.cells #[] 5)) w.heap.size (.slice (some ⟨w.heap.size, 0, none⟩) 0 0) []) := ⟨by
    have h2 := World.ownsRow_lit (base := w.heap.size) (e := 5) (size := 1) w #[] 0 (Nat.le_refl _) (by simp [maxLen]) (by simp)
    exact h2⟩
  have HB : Aside0 (Below w.heap.size w (w.alloc (.cells #[] 5))) := ⟨below_alloc (Below.refl _ _) _⟩
  have HC := Aside0.mk (HR.out.below HB.out)
  go_enter Try.func50, Try.ntmps50
  go_wp2_with (at_builtin; refine print_append_row (w0 := w) w.heap.size (by rfl) (.tmp 5) (.tmp 6) 62 5 .u8 1 (by rfl) Try.underlying62 infoB (by decide) (.slice (some ⟨w.heap.size, 0, none⟩) 0 0) [] l (some ad) l.length c (by rfl) (by rfl) ?aO ?aR ?aB ?aS ?c1 ?_; (case aO => exact HO.out); (case aR => exact HC.out); (case aB => exact HB.out); (case aS => exact HB.out.size); (case c1 => simp only [List.length_nil]; omega); intro v1 w1 hown hB1 hg1 hat; have HO1 := Aside0.mk hown; have HB1 := Aside0.mk hB1; clear hown hB1 hg1 hat)
  go_ret
  exact ⟨_, rfl, by have := HO1.out; rwa [List.nil_append] at this, HB1.out⟩

/-- the nine octets behind i rounds -/
def pc (n i : Nat) : List Value := (List.range 9).map fun j => .int .u8 (if 9 ≤ j + i then ((n / 256 ^ (8 - j) % 256 : Nat) : Int) else 0)
theorem pc_set (m i : Nat) (hi : i < 9) : (pc m i).toArray.setIfInBounds (8 - i) (.int .u8 ((m / 256 ^ i % 256 : Nat) : Int)) = (pc m (i + 1)).toArray := by
  apply Array.toList_inj.1
  rw [Array.toList_setIfInBounds]
  refine List.ext_getElem (by simp [pc]) (fun j h1 h2 => ?_)
  have hj : j < 9 := by simpa [pc] using h2
  rw [List.getElem_set]
  simp only [pc, List.getElem_map, List.getElem_range]
  by_cases he : 8 - i = j
  · rw [if_pos he, if_pos (by omega), show 8 - j = i by omega]
  · rw [if_neg he]
    congr 1
    by_cases h9 : 9 ≤ j + i
    · rw [if_pos h9, if_pos (by omega)]
    · rw [if_neg h9, if_neg (by omega)]
theorem be_range : ∀ (k n : Nat), be k n = (List.range k).map fun t => n / 256 ^ (k - 1 - t) % 256
  | 0, _ => rfl
  | k + 1, n => by
    rw [be, be_range k, List.range_succ, List.map_append, List.map_singleton]
    congr 1
    · refine List.map_congr_left (fun t ht => ?_)
      have ht := List.mem_range.1 ht
      rw [Nat.div_div_eq_div_mul, show k + 1 - 1 - t = (k - 1 - t) + 1 by omega, Nat.pow_succ, Nat.mul_comm]
    · simp

theorem cloneK_any (ad : Addr) (c k : Nat) (l : List Int) (w : World) (hk : k = l.length) (hr : ReadsInt w .u8 (some ad) k l) (hb : k ≤ 1048576) :
    Calls Try.prog 50 #[.slice (some ad) k c] w fun e w' => ∃ v, e = .returned v ∧ RB w' w.heap.size v l ∧ Below w.heap.size w w' := by
  subst hk
  exact cloneB_any ad c l w hr hb

theorem be_head {n k : Nat} (hk : sizeN n = k) (hk1 : 1 ≤ k) (hk8 : k ≤ 8) (hn : n < 2 ^ 64) : ∃ b t, be k n = b :: t ∧ b < 2 ^ (8 - k) := by
  have hlt := sizeN_of hn hk hk8
  obtain ⟨j, rfl⟩ : ∃ j, k = j + 1 := ⟨k - 1, by omega⟩
  have hbl := be_len (j + 1) n
  have h256 : n < 256 ^ (j + 1) := by
    refine Nat.lt_of_lt_of_le hlt ?_
    rw [show (256 : Nat) = 2 ^ 8 by rfl, ← Nat.pow_mul]
    exact Nat.pow_le_pow_right (by omega) (by omega)
  have hv := val_be (j + 1) n h256
  rcases hbe : be (j + 1) n with _ | ⟨b, t⟩
  · rw [hbe] at hbl; simp at hbl
  · rw [hbe] at hbl hv
    have htl : t.length = j := by simpa using hbl
    rw [val_cons, htl] at hv
    refine ⟨b, t, rfl, ?_⟩
    have h1 : b * 256 ^ j < 2 ^ (7 * (j + 1)) := by omega
    have h2 : 2 ^ (7 * (j + 1)) = 2 ^ (8 - (j + 1)) * 256 ^ j := by
      rw [show (256 : Nat) = 2 ^ 8 by rfl, ← Nat.pow_mul, ← Nat.pow_add]; congr 1; omega
    rw [h2] at h1
    exact Nat.lt_of_mul_lt_mul_right h1
theorem or_mask1 : ∀ b : Fin 128, bits .or .u8 (b.val : Int) (bits .xor .u8 IntKind.u8.max 255) = ((b.val + mask 1 : Nat) : Int) := by decide +kernel
theorem or_mask2 : ∀ b : Fin 64, bits .or .u8 (b.val : Int) (bits .xor .u8 IntKind.u8.max 127) = ((b.val + mask 2 : Nat) : Int) := by decide +kernel
theorem or_mask3 : ∀ b : Fin 32, bits .or .u8 (b.val : Int) (bits .xor .u8 IntKind.u8.max 63) = ((b.val + mask 3 : Nat) : Int) := by decide +kernel
theorem or_mask4 : ∀ b : Fin 16, bits .or .u8 (b.val : Int) (bits .xor .u8 IntKind.u8.max 31) = ((b.val + mask 4 : Nat) : Int) := by decide +kernel
theorem or_mask5 : ∀ b : Fin 8, bits .or .u8 (b.val : Int) (bits .xor .u8 IntKind.u8.max 15) = ((b.val + mask 5 : Nat) : Int) := by decide +kernel
theorem or_mask6 : ∀ b : Fin 4, bits .or .u8 (b.val : Int) (bits .xor .u8 IntKind.u8.max 7) = ((b.val + mask 6 : Nat) : Int) := by decide +kernel
theorem or_mask7 : ∀ b : Fin 2, bits .or .u8 (b.val : Int) (bits .xor .u8 IntKind.u8.max 3) = ((b.val + mask 7 : Nat) : Int) := by decide +kernel
theorem or_mask8 : ∀ b : Fin 1, bits .or .u8 (b.val : Int) (bits .xor .u8 IntKind.u8.max 1) = ((b.val + mask 8 : Nat) : Int) := by decide +kernel
theorem or_mask {k b : Nat} (hk1 : 1 ≤ k) (hk8 : k ≤ 8) (hb : b < 2 ^ (8 - k)) : bits .or .u8 (b : Int) (bits .xor .u8 IntKind.u8.max (255 / 2 ^ (k - 1))) = ((b + mask k : Nat) : Int) := by
  rcases (show k = 1 ∨ k = 2 ∨ k = 3 ∨ k = 4 ∨ k = 5 ∨ k = 6 ∨ k = 7 ∨ k = 8 by omega) with rfl | rfl | rfl | rfl | rfl | rfl | rfl | rfl
  · exact or_mask1 ⟨b, hb⟩
  · exact or_mask2 ⟨b, hb⟩
  · exact or_mask3 ⟨b, hb⟩
  · exact or_mask4 ⟨b, hb⟩
  · exact or_mask5 ⟨b, hb⟩
  · exact or_mask6 ⟨b, hb⟩
  · exact or_mask7 ⟨b, hb⟩
  · exact or_mask8 ⟨b, hb⟩
theorem put_done {w w1 w2 : World} {g2 cap k m : Nat} {q s : Int} (hk1 : 1 ≤ k) (hk9 : k ≤ 9) (hkk : sizeN m = k) (hm : m < 2 ^ 64)
    (hO : w2.ownsRow w1.heap.size 5 1 (.slice (some ⟨g2, 0, none⟩) k cap) k (nums .u8 (nb (be k m)))) (hq : rd (nb (be k m)) 0 = q) (hs : s = 255 / 2 ^ (k - 1)) (hg : w1.heap.size ≤ g2) (hb : Below w.heap.size w w1) (hb2 : Below w1.heap.size w1 w2) :
    ∃ L, RB (w2.setCell ⟨g2, 0, none⟩ (.int .u8 (bits .or .u8 q (bits .xor .u8 IntKind.u8.max s)))).drew w.heap.size (.slice (some ⟨g2, 0, none⟩) k cap) L ∧ 1 ≤ L.length ∧ L.length ≤ 9 ∧ ((m : Int) < 72057594037927936 → L = nb (putN m)) ∧ Below w.heap.size w (w2.setCell ⟨g2, 0, none⟩ (.int .u8 (bits .or .u8 q (bits .xor .u8 IntKind.u8.max s)))).drew := by
  have hst := (own_store hO 0 (bits .or .u8 q (bits .xor .u8 IntKind.u8.max s))).1
  have hl : ((nb (be k m)).set (0 : Int).toNat (bits .or .u8 q (bits .xor .u8 IntKind.u8.max s))).length = k := by rw [List.length_set, nb_len, be_len]
  refine ⟨_, ?_, by rw [hl]; exact hk1, by rw [hl]; exact hk9, fun h => ?_, below_drew (((bthen hb hb2)).setCell (p := ⟨g2, 0, none⟩) (Nat.le_trans hb.size hg) _)⟩
  · rw [RB, hl]
    exact World.ownsRow.drew (own_weaken hst hb.size)
  · have h56 : m < 2 ^ 56 := by have : (2 : Nat) ^ 56 = 72057594037927936 := rfl; omega
    have hk8 : k ≤ 8 := by have := sizeN_lt (n := m) (k := 8) (by omega) (by omega) (by simpa using h56); omega
    obtain ⟨b, t, hbe, hlt⟩ := be_head hkk hk1 hk8 hm
    have hqb : q = (b : Int) := by rw [← hq, hbe]; rfl
    rw [hqb, hs, or_mask hk1 hk8 hlt, putN, hkk, hbe]
    rfl

end Go.Proofs.Ytfakfgblaakgdaa.Var
