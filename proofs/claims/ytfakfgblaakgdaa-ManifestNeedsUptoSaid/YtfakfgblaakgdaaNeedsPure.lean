/- What a version needs, as the law reckons it, is what Orphans keeps: on lists. -/
import Derived.Test.YtfakfgblaakgdaaOrphA
namespace Go.Proofs.Ytfakfgblaakgdaa.Files
set_option linter.unusedVariables false
set_option linter.unusedSimpArgs false
open Go.RowKit Go.Maps Go.Proofs.YtfakfgblaakgdaaW.PrintWords Go.Proofs.YtfakfgblaakgdaaW.PrintLast Go.Proofs.Ytfakfgblaakgdaa.Base Go.Proofs.Ytfakfgblaakgdaa.EditPure Go.Proofs.Ytfakfgblaakgdaa.StrRows Go.Proofs.Ytfakfgblaakgdaa.NamesPure Go.Proofs.Ytfakfgblaakgdaa.Names

theorem str_bytes (s : ByteArray) : strOfNums (bytesOf s) = s := by
  obtain ⟨⟨s⟩⟩ := s
  unfold strOfNums bytesOf
  congr 2
  rw [List.map_map]
  refine (List.map_congr_left (fun b hb => ?_)).trans (List.map_id s)
  show UInt8.ofNat (Int.toNat (b.toNat : Int)) = b
  rw [Int.toNat_natCast]
  exact UInt8.ofNat_toNat
theorem bytes_str (l : List Int) (h : ∀ c ∈ l, 0 ≤ c ∧ c ≤ 255) : bytesOf (strOfNums l) = l := by
  unfold bytesOf
  rw [strOfNums_data, List.map_map]
  refine (List.map_congr_left (fun c hc => ?_)).trans (List.map_id l)
  have := h c hc
  show ((UInt8.ofNat c.toNat).toNat : Int) = c
  rw [UInt8.toNat_ofNat']
  omega
theorem isKind_octet {k : Int} (h : isKind k = true) : 0 ≤ k ∧ k ≤ 255 := by
  unfold isKind at h
  simp only [Bool.or_eq_true, beq_iff_eq] at h
  omega
theorem nameL_octets {k : Int} {n : Nat} (hk : isKind k = true) : ∀ c ∈ nameL k n, 0 ≤ c ∧ c ≤ 255 := by
  intro c hc
  unfold nameL at hc
  rcases List.mem_cons.1 hc with rfl | hc
  · exact isKind_octet hk
  · have := digs_range n c (by simpa using hc); omega
theorem nmOpt_any (k id : Int) (s : ByteArray) (hk : isKind k = true) : (nmOpt k id).any (fun y => sameB y s) = (parseOk (bytesOf s) && (parseK (bytesOf s) == k && parseN (bytesOf s) == id)) := by
  rw [Bool.eq_iff_iff]
  simp only [Bool.and_eq_true, beq_iff_eq, List.any_eq_true]
  constructor
  · rintro ⟨y, hy, hs⟩
    obtain rfl := sameB_iff.1 hs
    unfold nmOpt at hy
    split at hy
    · rename_i h0
      rw [List.mem_singleton] at hy
      have hr : 1 ≤ id ∧ id ≤ 2147483647 := by
        unfold nameE at h0
        rw [hk] at h0
        simp only [Bool.not_true, Bool.false_eq_true, if_false] at h0
        split at h0
        · cases h0
        · omega
      have hok : nameOk k id = true := by unfold nameOk; rw [hk]; simp [hr.1, hr.2]
      rw [nameS, if_pos hok] at hy
      rw [hy, bytes_str _ (nameL_octets hk)]
      obtain ⟨p1, p2, p3⟩ := parse_name k id.toNat hk (by omega) (by omega)
      exact ⟨p1, p2, by rw [p3]; omega⟩
    · simp at hy
  · rintro ⟨h1, h2, h3⟩
    obtain ⟨q1, q2, q3, q4⟩ := name_parse _ h1
    rw [h2, h3] at q1
    rw [h3] at q3 q4
    have hok : nameOk k id = true := by unfold nameOk; rw [hk]; simp [q3, q4]
    have h0 : nameE k id = 0 := by
      unfold nameE
      rw [hk, if_neg (by simp), if_neg (by omega)]
    refine ⟨nameS k id, by rw [nmOpt, if_pos h0]; simp, sameB_iff.2 ?_⟩
    rw [nameS, if_pos hok, q1, str_bytes]

/-- of a name: needed, as the law reckons it, ahead of its tables -/
def needA (id log : Int) (s : ByteArray) : Bool := sameB s sCur || (parseOk (bytesOf s) && ((parseK (bytesOf s) == 109 && parseN (bytesOf s) == id) || (parseK (bytesOf s) == 108 && decide (log ≤ parseN (bytesOf s)))))
theorem needB_eq (id log : Int) (t : List Meta) (s : ByteArray) : needB id log t s = (needA id log s || (parseOk (bytesOf s) && (parseK (bytesOf s) == 116 && t.any (fun m => m.id == parseN (bytesOf s))))) := by
  have h1 : (t.flatMap fun m => nmOpt 116 m.id).any (fun y => sameB y s) = (parseOk (bytesOf s) && (parseK (bytesOf s) == 116 && t.any (fun m => m.id == parseN (bytesOf s)))) := by
    induction t with
    | nil => simp
    | cons a t ih =>
      rw [List.flatMap_cons, List.any_append, ih, nmOpt_any 116 a.id s rfl, List.any_cons]
      have hc : (parseN (bytesOf s) == a.id) = (a.id == parseN (bytesOf s)) := by rw [Bool.eq_iff_iff]; simp only [beq_iff_eq]; exact eq_comm
      rw [hc]
      cases parseOk (bytesOf s) <;> cases (parseK (bytesOf s) == 116) <;> simp
  have h2 : sameB sCur s = sameB s sCur := by rw [Bool.eq_iff_iff, sameB_iff, sameB_iff]; exact eq_comm
  rw [needB, needL, List.any_cons, List.any_append, h1, nmOpt_any 109 id s rfl, h2, needA, logAt]
  generalize (t.any fun m => m.id == parseN (bytesOf s)) = X
  generalize decide (log ≤ parseN (bytesOf s)) = Y
  generalize (parseN (bytesOf s) == id) = Z
  generalize (parseK (bytesOf s) == 109) = K1
  generalize (parseK (bytesOf s) == 108) = K2
  generalize (parseK (bytesOf s) == 116) = K3
  generalize parseOk (bytesOf s) = P
  generalize sameB s sCur = Q
  revert X Y Z K1 K2 K3 P Q
  decide
end Go.Proofs.Ytfakfgblaakgdaa.Files
