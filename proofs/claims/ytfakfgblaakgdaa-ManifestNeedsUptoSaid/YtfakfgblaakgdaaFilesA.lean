/- files: may a name be; walked. -/
import Derived.Test.YtfakfgblaakgdaaVarA
import Derived.Lib.ConvBytes
namespace Go.Proofs.Ytfakfgblaakgdaa.Files
set_option linter.unusedVariables false
set_option linter.unusedSimpArgs false
open Go.RowKit Go.Proofs.YtfakfgblaakgdaaW.PrintWords Go.Proofs.YtfakfgblaakgdaaW.PrintLast Go.Proofs.Ytfakfgblaakgdaa.Base Go.Proofs.Ytfakfgblaakgdaa.Cells Go.Proofs.Ytfakfgblaakgdaa.Ints Go.Proofs.Ytfakfgblaakgdaa.Var

def badB (c : Int) : Bool := decide (c < 33) || decide (126 < c)
/-- may a name be -/
def mayF (s : ByteArray) : Bool := decide (1 ≤ s.size) && (decide (s.size ≤ 32) && !(bytesOf s).any badB)

set_option maxRecDepth 100000 in
theorem mayC_any (c : Int) (w : World) : Calls Try.prog 91 #[.int .u8 c] w fun e w' => e = .returned (.bool (badB c)) ∧ w' = w := by
  by_cases h : c < 33
  · have hb : Aside0 (badB c = true) := ⟨by simp [badB, h]⟩
    go_enter Try.func91, Try.ntmps91
    go_wp2
    go_ret
    exact ⟨by rw [hb.out]; rfl, rfl⟩
  · have hb : Aside0 (badB c = decide (126 < c)) := ⟨by simp [badB, h]⟩
    go_enter Try.func91, Try.ntmps91
    go_wp2
    go_ret
    exact ⟨by rw [hb.out]; rfl, rfl⟩

set_option maxRecDepth 100000 in
set_option maxHeartbeats 1000000 in
theorem indexMay_any (A : Option Addr) (c : Nat) (l : List Int) (w : World) (hr : ReadsInt w .u8 A l.length l) (hb : l.length ≤ 1048576) :
    Calls Try.prog 95 #[.slice A l.length c, .func (.func 91) #[] #[]] w fun e w' => (∃ r, e = .returned (.int .i64 r) ∧ decide (0 ≤ r) = l.any badB) ∧ w' = w := by
  have HR := Aside0.mk hr
  clear hr
  go_enter Try.func95, Try.ntmps95
  go_wp2
  go_loopg [8] l.length (fun g v8 wr => ∃ i : Nat, v8 = .int .i64 i ∧ g + i = l.length ∧ Aside0 ((l.take i).any badB = false) ∧ w = wr)
  case atStart => exact ⟨0, rfl, by omega, ⟨rfl⟩, rfl⟩
  case round =>
    obtain ⟨i, rfl, hg, HN, rfl⟩ := hrel
    by_cases hlt : i < l.length
    · obtain ⟨x, hx⟩ : ∃ x, l[i]? = some x := ⟨_, List.getElem?_eq_getElem hlt⟩
      obtain ⟨ad, rfl, c0⟩ := HR.out.at_ i (by omega) (by omega)
      have hrd : rd l i = x := by simp [rd, List.getD_eq_getElem?_getD, hx]
      rw [Int.toNat_natCast, hrd] at c0
      have HX := Aside0.mk hx
      clear hx hrd
      go_wp2_with fail
      refine (mayC_any x _).mono ?_
      rintro e w1 ⟨rfl, rfl⟩
      cases hbb : badB x with
      | true =>
        have HE : Aside0 (l.any badB = true) := ⟨List.any_eq_true.2 ⟨x, List.mem_of_getElem? HX.out, hbb⟩⟩
        clear hbb
        go_wp2
        go_ret
        exact ⟨⟨_, rfl, by rw [HE.out]; simp⟩, rfl⟩
      | false =>
        have HE : Aside0 ((l.take (i + 1)).any badB = false) := ⟨by rw [List.take_add_one, HX.out, List.any_append, HN.out]; simp [hbb]⟩
        clear hbb
        go_wp2
        go_roundg (l.length - (i + 1))
        case measure => omega
        case rel => exact ⟨i + 1, by go_num, by omega, HE, rfl⟩
    · have hi : Aside0 (l.take i = l) := ⟨List.take_of_length_le (by omega)⟩
      go_wp2
      go_ret
      exact ⟨⟨-1, rfl, by rw [← hi.out, HN.out]; rfl⟩, rfl⟩

set_option maxRecDepth 100000 in
theorem containsMay_any (A : Option Addr) (c : Nat) (l : List Int) (w : World) (hr : ReadsInt w .u8 A l.length l) (hb : l.length ≤ 1048576) :
    Calls Try.prog 90 #[.slice A l.length c, .func (.func 91) #[] #[]] w fun e w' => e = .returned (.bool (l.any badB)) ∧ w' = w := by
  obtain ⟨q, hq⟩ := named (l.any badB)
  rw [← hq.out]
  go_enter Try.func90, Try.ntmps90
  go_wp2_with fail
  refine (indexMay_any A c l _ hr hb).mono ?_
  rintro e w1 ⟨⟨r, rfl, hrr⟩, rfl⟩
  rw [← hq.out] at hrr
  go_wp2
  go_ret
  exact ⟨by rw [← hrr]; rfl, rfl⟩

set_option maxRecDepth 100000 in
set_option maxHeartbeats 1000000 in
theorem may_any (s : ByteArray) (w : World) : Calls Try.prog 82 #[.string s] w fun e w' => e = .returned (.bool (mayF s)) ∧ Below w.heap.size w w' := by
  obtain ⟨q, hq⟩ := named (mayF s)
  rw [← hq.out]
  have hqq : Aside0 (q = (decide (1 ≤ s.size) && (decide (s.size ≤ 32) && !(bytesOf s).any badB))) := ⟨by rw [hq.out]; rfl⟩
  by_cases h0 : s.size = 0
  · have hs : s = ⟨#[]⟩ := by
      cases s with
      | mk d => congr 1; exact Array.eq_empty_of_size_eq_zero h0
    have hv : Aside0 (q = false) := ⟨by rw [hqq.out]; simp [h0]⟩
    subst hs
    go_enter Try.func82, Try.ntmps82
    go_wp2
    go_ret
    exact ⟨by rw [hv.out]; rfl, Below.refl _ _⟩
  · have hne : (s.data.toList == (⟨#[]⟩ : ByteArray).data.toList) = false := by
      cases s with
      | mk d =>
        have h1 : d.toList ≠ [] := fun e => h0 (by have := congrArg List.length e; rw [Array.length_toList] at this; exact this)
        simpa using h1
    have hie : s.toList.isEmpty = false := by
      rw [List.isEmpty_eq_false_iff, ByteArray.toList_eq]
      intro e
      have h1 := congrArg List.length e
      simp at h1
      exact h0 (by rw [← data_length, e]; rfl)
    by_cases h32 : s.size ≤ 32
    · go_enter Try.func82, Try.ntmps82
      have hconv := Lib.run_convert_string_bytes (P := Try.prog) w 9 62 5 s Try.underlying9 Try.underlying62 Try.underlying5
      have hbel : Below w.heap.size w (Lib.bytesWorld w 5 s) := ⟨rfl, rfl, rfl, by rw [Lib.bytesWorld_size]; omega, fun k hk => Lib.bytesWorld_at_old w _ s k hk⟩
      have hrd : ReadsInt (Lib.bytesWorld w 5 s) .u8 (some ⟨w.heap.size, 0, none⟩) (bytesOf s).length (bytesOf s) := by
        refine ⟨rfl, by rw [bytesOf_length]; omega, fun _ => ⟨_, rfl, fun j hj => ?_⟩⟩
        rw [bytesOf_length] at hj
        rw [show ((⟨w.heap.size, 0, none⟩ : Addr).add j) = ⟨w.heap.size, j, none⟩ by rw [Addr.add_lit, Nat.zero_add], Lib.bytesWorld_cell w _ s j hj]
        have hj' : j < s.data.toList.length := by rw [data_length]; exact hj
        simp [bytesOf, List.getD_eq_getElem?_getD, List.getElem?_map, List.getElem?_eq_getElem hj']
      have hcall := containsMay_any (some ⟨w.heap.size, 0, none⟩) (grownCap w s.size 0 5) (bytesOf s) _ hrd (by rw [bytesOf_length]; omega)
      rw [bytesOf_length] at hcall
      obtain ⟨WB, hWB⟩ : ∃ WB, WB = Lib.bytesWorld w 5 s := ⟨_, rfl⟩
      obtain ⟨cp, hcp⟩ : ∃ cp, cp = grownCap w s.size 0 5 := ⟨_, rfl⟩
      rw [← hWB, ← hcp] at hconv
      rw [← hWB] at hbel
      rw [← hWB, ← hcp] at hcall
      obtain ⟨bd, hbd⟩ := named ((bytesOf s).any badB)
      rw [← hbd.out] at hcall hqq
      have hv : Aside0 (q = !bd) := ⟨by rw [hqq.out]; simp [h32]; omega⟩
      clear hWB hcp hrd
      go_wp2_with (go_at_call 90; refine hcall.mono ?_; rintro e w1 ⟨rfl, rfl⟩)
      go_ret
      exact ⟨by rw [hv.out]; rfl, hbel⟩
    · have hv : Aside0 (q = false) := ⟨by rw [hqq.out]; simp [h32]⟩
      have h33 : (32 : Int) < s.size := by omega
      go_enter Try.func82, Try.ntmps82
      go_wp2
      go_ret
      exact ⟨by rw [hv.out]; rfl, Below.refl _ _⟩
end Go.Proofs.Ytfakfgblaakgdaa.Files
