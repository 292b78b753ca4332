/- The law ManifestNames of chapter 14, walked: any kind and number as a name, any text as one, are as the page says; a name says what it was made of. No condition. -/
import Derived.Test.YtelnhecpcjoonaaNamesC
namespace Go.Proofs.Ytelnhecpcjoonaa.Names
open Go.RowKit Go.Proofs.YtelnhecpcjoonaaW.PrintWords Go.Proofs.YtelnhecpcjoonaaW.PrintLast Go.Proofs.Ytelnhecpcjoonaa.NamesPure Go.Proofs.Ytelnhecpcjoonaa.Base

set_option maxRecDepth 100000 in
set_option maxHeartbeats 1000000 in
theorem names_walk (k id : Int) (s : ByteArray) (w : World) (k0 : 0 ≤ k) (k1 : k ≤ 255) :
    Calls Try.prog 3 #[.int .u8 k, .int .i64 id, .string s] w fun e w' => e = .returned (.bool true) ∧ Below w.heap.size w w' := by
  by_cases hok : nameOk k id = true
  · have hok' := hok
    simp only [nameOk, Bool.and_eq_true, decide_eq_true_eq] at hok'
    obtain ⟨⟨hk, hi1⟩, hi2⟩ := hok'
    have hE : Aside0 (nameE k id = 0) := ⟨by rw [nameE, hk, if_neg (by simp), if_neg (by omega)]⟩
    have hb := bytes_strOf (nameL k id.toNat) (nameL_range _ _ k0 k1)
    have hp := parse_name k id.toNat hk (by omega) (by omega)
    have hS : nameS k id = strOfNums (nameL k id.toNat) := by rw [nameS, if_pos hok]
    rw [← hS] at hb
    rw [← hb] at hp
    have HP1 := Aside0.mk hp.1
    have HP2 := Aside0.mk hp.2.1
    have HP3 : Aside0 (parseN (bytesOf (nameS k id)) = id) := ⟨by rw [hp.2.2]; omega⟩
    clear hok hk hi1 hi2 hb hp hS
    obtain ⟨nm, hnm⟩ := named (nameS k id)
    rw [← hnm.out] at HP1 HP2 HP3
    go_enter Try.func3, Try.ntmps3
    go_wp2_with fail
    refine (name_any _ _ _ k0 k1).mono ?_
    rw [hE.out, ← hnm.out]
    rintro e w1 ⟨rfl, hb1⟩
    go_wp2_with fail
    refine (refName_any _ _ _).mono ?_
    rw [hE.out, ← hnm.out]
    rintro e w2 ⟨rfl, hb2⟩
    go_wp2_with fail
    refine (parse_any _ _).mono ?_
    rintro e w3 ⟨rfl, hb3⟩
    go_wp2_with fail
    refine (refParse_any _ _).mono ?_
    rintro e w4 ⟨rfl, hb4⟩
    go_wp2_with (first | (go_at_call 14; refine (num_any _ _).mono ?_; rintro e w5 ⟨rfl, rfl⟩) | (go_at_call 12; refine (parse_any nm _).mono ?_; rw [HP1.out, HP2.out, HP3.out]; rintro e w5 ⟨rfl, hb5⟩) | (go_at_call 15; refine (alive_any _).mono ?_; rintro e w6 ⟨rfl, hb6⟩))
    go_ret
    exact ⟨rfl, bthen (bthen (bthen (bthen (bthen hb1 hb2) hb3) hb4) hb5) hb6⟩
  · have hS : Aside0 (nameS k id = ⟨#[]⟩) := ⟨by rw [nameS, if_neg hok]⟩
    obtain ⟨er, her⟩ := named (nameE k id)
    have he0 : er ≠ 0 := by
      intro h
      rw [her.out, nameE] at h
      by_cases hk : isKind k = true
      · rw [hk, if_neg (by simp)] at h
        by_cases hi : id < 1 ∨ 2147483647 < id
        · rw [if_pos hi] at h; omega
        · exact hok (by rw [nameOk, hk, decide_eq_true (show 1 ≤ id by omega), decide_eq_true (show id ≤ 2147483647 by omega)]; rfl)
      · rw [if_pos (by simpa using hk)] at h; omega
    have he1 : (er == 0) = false := by simp [he0]
    clear hok he0
    go_enter Try.func3, Try.ntmps3
    go_wp2_with fail
    refine (name_any _ _ _ k0 k1).mono ?_
    rw [← her.out, hS.out]
    rintro e w1 ⟨rfl, hb1⟩
    go_wp2_with fail
    refine (refName_any _ _ _).mono ?_
    rw [← her.out, hS.out]
    rintro e w2 ⟨rfl, hb2⟩
    go_wp2_with fail
    refine (parse_any _ _).mono ?_
    rintro e w3 ⟨rfl, hb3⟩
    go_wp2_with fail
    refine (refParse_any _ _).mono ?_
    rintro e w4 ⟨rfl, hb4⟩
    go_wp2_with (first | (go_at_call 14; refine (num_any _ _).mono ?_; rintro e w5 ⟨rfl, rfl⟩) | (go_at_call 15; refine (alive_any _).mono ?_; rintro e w6 ⟨rfl, hb6⟩))
    go_ret
    exact ⟨rfl, bthen (bthen (bthen (bthen hb1 hb2) hb3) hb4) hb6⟩
end Go.Proofs.Ytelnhecpcjoonaa.Names
