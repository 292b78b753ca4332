/- A part of the proof: The document's files: may, file, find, stands, used: walked. -/
import Derived.Test.YtfakfgblaakgdaaGreatPkActs7
import Derived.Test.YtfakfgblaakgdaaGreatPkActs5

/- The document's files: may, file, find, stands, used: walked. -/
namespace Go.Proofs.YtfakfgblaakgdaaGreat.Files.Ref
set_option linter.unusedVariables false
set_option linter.unusedSimpArgs false
open Go.RowKit Go.Proofs.YtfakfgblaakgdaaGreatW.PrintWords Go.Proofs.YtfakfgblaakgdaaGreatW.PrintLast Go.Proofs.YtfakfgblaakgdaaGreat.Base Go.Proofs.YtfakfgblaakgdaaGreat.Cells Go.Proofs.YtfakfgblaakgdaaGreat.Ints Go.Proofs.YtfakfgblaakgdaaGreat.Var Go.Proofs.YtfakfgblaakgdaaGreat.EditPure Go.Proofs.YtfakfgblaakgdaaGreat.Edit Go.Proofs.YtfakfgblaakgdaaGreat.Sets Go.Proofs.YtfakfgblaakgdaaGreat.Wide Go.Proofs.YtfakfgblaakgdaaGreat.RowsC

theorem byte_at (s : ByteArray) (i : Nat) (h : i < s.size) : (bytesOf s)[i]? = some ((s[i].toNat : Int)) := by
  unfold bytesOf
  rw [List.getElem?_map, Array.getElem?_toList, Array.getElem?_eq_getElem (by exact h)]
  rfl

set_option maxRecDepth 100000 in
set_option maxHeartbeats 1000000 in
theorem may_any (s : ByteArray) (w : World) : Calls Tryz.prog 124 #[.string s] w fun e w' => e = .returned (.bool (mayF s)) ∧ w = w' := by
  obtain ⟨q, hq⟩ := named (mayF s)
  rw [← hq.out]
  by_cases h1 : s.size < 1
  · have h1' : (s.size : Int) < 1 := by omega
    have HQ : Aside0 (q = false) := ⟨by rw [hq.out, mayF, decide_eq_false (by omega : ¬ (1 ≤ s.size))]; rfl⟩
    go_enter Tryz.func124, Tryz.ntmps124
    go_wp2
    go_ret
    exact ⟨by rw [HQ.out]; rfl, rfl⟩
  · have h1' : ¬ ((s.size : Int) < 1) := by omega
    by_cases h2 : 32 < s.size
    · have h2' : (32 : Int) < (s.size : Int) := by omega
      have HQ : Aside0 (q = false) := ⟨by rw [hq.out, mayF, decide_eq_false (by omega : ¬ (s.size ≤ 32))]; simp⟩
      go_enter Tryz.func124, Tryz.ntmps124
      go_wp2
      go_ret
      exact ⟨by rw [HQ.out]; rfl, rfl⟩
    · have h2' : ¬ ((32 : Int) < (s.size : Int)) := by omega
      have HQ : Aside0 (q = !(bytesOf s).any badB) := ⟨by rw [hq.out, mayF, decide_eq_true (by omega : 1 ≤ s.size), decide_eq_true (by omega : s.size ≤ 32)]; simp⟩
      go_enter Tryz.func124, Tryz.ntmps124
      go_wp2
      go_loopg [3] s.size (fun g v3 wr => ∃ i : Nat, v3 = .int .i64 i ∧ g + i = s.size ∧ Aside0 (((bytesOf s).take i).any badB = false) ∧ w = wr)
      case atStart => exact ⟨0, rfl, by omega, ⟨rfl⟩, rfl⟩
      case round =>
        obtain ⟨i, rfl, hg, HN, rfl⟩ := hrel
        by_cases hlt : i < s.size
        · have hlt' : (i : Int) < (s.size : Int) := by omega
          have HB := Aside0.mk (byte_at s i hlt)
          cases hb : badB (s[i].toNat : Int) with
          | true =>
            have HF : Aside0 (q = false) := ⟨by
              rw [HQ.out]
              have : (bytesOf s).any badB = true := List.any_eq_true.2 ⟨_, List.mem_of_getElem? HB.out, hb⟩
              rw [this]; rfl⟩
            rw [badB, Bool.or_eq_true, decide_eq_true_eq, decide_eq_true_eq] at hb
            by_cases hc : (s[i].toNat : Int) < 33
            · clear hb
              go_wp2
              go_ret
              exact ⟨by rw [HF.out]; rfl, rfl⟩
            · have hc2 : 126 < (s[i].toNat : Int) := by omega
              clear hb
              go_wp2
              go_ret
              exact ⟨by rw [HF.out]; rfl, rfl⟩
          | false =>
            have HT : Aside0 (((bytesOf s).take (i + 1)).any badB = false) := ⟨by rw [List.take_add_one, HB.out, List.any_append, HN.out]; simp [hb]⟩
            rw [badB, Bool.or_eq_false_iff, decide_eq_false_iff_not, decide_eq_false_iff_not] at hb
            obtain ⟨hc1, hc2⟩ := hb
            go_wp2
            go_roundg (s.size - (i + 1))
            case measure => omega
            case rel => exact ⟨i + 1, by go_num, by omega, HT, rfl⟩
        · have hnf : ¬ ((i : Int) < (s.size : Int)) := by omega
          have HT : Aside0 (q = true) := ⟨by
            rw [HQ.out]
            have : (bytesOf s).take i = bytesOf s := List.take_of_length_le (by rw [bytesOf_length]; omega)
            rw [this] at HN
            rw [HN.out]; rfl⟩
          go_wp2
          go_ret
          exact ⟨by rw [HT.out]; rfl, rfl⟩

set_option maxRecDepth 100000 in
set_option maxHeartbeats 1000000 in
theorem file_any (l : List Fl) (id cap next : Int) (F N S : Option Addr) (lf fc ln nc ls sc : Nat) (w : World) (h : kFl.C w F lf l) (hl : lf ≤ 1048576) :
    Calls Tryz.prog 104 #[.agg #[.int .i64 cap, .slice F lf fc, .slice N ln nc, .slice S ls sc, .int .i64 next], .int .i64 id] w fun e w' => e = .returned (.int .i64 (fileIx l id)) ∧ Below w.heap.size w w' := by
  have HH := Aside0.mk h
  have HLn : Aside0 (l.length = lf) := ⟨Kd.C_len h⟩
  obtain ⟨q, hq⟩ := named (fileIx l id)
  rw [← hq.out]
  clear h
  go_enter Tryz.func104, Tryz.ntmps104
  go_upto_region 1 with (fail)
  obtain ⟨W0, hW0⟩ : ∃ W, W = w.alloc (.cells #[.int .i64 cap, .slice F lf fc, .slice N ln nc, .slice S ls sc, .int .i64 next] 25) := ⟨_, rfl⟩
  have hk2 : W0.heap[w.heap.size]? = some (.cells #[.int .i64 cap, .slice F lf fc, .slice N ln nc, .slice S ls sc, .int .i64 next] 25 (0, 0)) := by rw [hW0]; exact blk_new _ _
  have HB0 : Aside0 (Below w.heap.size w W0) := ⟨by rw [hW0]; exact below_alloc (Below.refl _ _) _⟩
  rw [← hW0]
  clear hW0
  obtain ⟨_, x1, _, _, _, _, _, _, _, _⟩ := all5 hk2
  clear hk2
  go_wp2
  go_loopg [5] lf (fun g v5 wr => ∃ i : Nat, v5 = .int .i64 i ∧ g + i = lf ∧ Aside0 (∀ k y, k < i → l[k]? = some y → (y.id == id) = false) ∧ W0 = wr)
  case atStart => exact ⟨0, rfl, by omega, ⟨fun k y h => by omega⟩, rfl⟩
  case round =>
    obtain ⟨i, rfl, hg, HN, rfl⟩ := hrel
    by_cases hlt : i < lf
    · have hlt' : (i : Int) < (lf : Int) := by omega
      obtain ⟨f, hf⟩ : ∃ f, l[i]? = some f := ⟨_, List.getElem?_eq_getElem (by rw [HLn.out]; omega)⟩
      obtain ⟨ad, D, dc, hFs, d0, d1, d2, _, _⟩ := atFl (Kd.C_below HH.out HB0.out) i f hf
      subst hFs
      have HF := Aside0.mk hf
      clear hf d1 d2
      by_cases he : f.id = id
      · have HQ : Aside0 (q = (i : Int)) := ⟨by rw [hq.out, fileIx, findIdx_step HF.out HN.out (by simp [he])]⟩
        go_wp2
        go_ret
        exact ⟨by rw [HQ.out]; rfl, HB0.out⟩
      · have hn' : Aside0 (∀ k y, k < i + 1 → l[k]? = some y → (y.id == id) = false) := ⟨fun k y hk hy => by
          rcases Nat.lt_or_ge k i with h1 | h1
          · exact HN.out k y h1 hy
          · obtain rfl : k = i := by omega
            rw [HF.out] at hy; injection hy with hy; subst hy; simp [he]⟩
        go_wp2
        go_roundg (lf - (i + 1))
        case measure => omega
        case rel => exact ⟨i + 1, by go_num, by omega, hn', rfl⟩
    · have hnf : ¬ ((i : Int) < (lf : Int)) := by omega
      have HQ : Aside0 (q = -1) := ⟨by rw [hq.out, fileIx, findIdx_none (fun k y hy => HN.out k y (by have := (List.getElem?_eq_some_iff.1 hy).1; have := HLn.out; omega) hy)]⟩
      go_wp2
      go_ret
      exact ⟨by rw [HQ.out]; rfl, HB0.out⟩

set_option maxRecDepth 100000 in
set_option maxHeartbeats 1000000 in
theorem find_any (l : List Nm) (s : ByteArray) (N : Option Addr) (ln nc : Nat) (w : World) (h : kNm.C w N ln l) (hl : ln ≤ 1048576) :
    Calls Tryz.prog 102 #[.slice N ln nc, .string s] w fun e w' => e = .returned (.int .i64 (findIx l s)) ∧ w = w' := by
  have HH := Aside0.mk h
  have HLn : Aside0 (l.length = ln) := ⟨Kd.C_len h⟩
  obtain ⟨q, hq⟩ := named (findIx l s)
  rw [← hq.out]
  clear h
  go_enter Tryz.func102, Tryz.ntmps102
  go_wp2
  go_loopg [5] ln (fun g v5 wr => ∃ i : Nat, v5 = .int .i64 i ∧ g + i = ln ∧ Aside0 (∀ k y, k < i → l[k]? = some y → sameB y.name s = false) ∧ w = wr)
  case atStart => exact ⟨0, rfl, by omega, ⟨fun k y h => by omega⟩, rfl⟩
  case round =>
    obtain ⟨i, rfl, hg, HN, rfl⟩ := hrel
    by_cases hlt : i < ln
    · have hlt' : (i : Int) < (ln : Int) := by omega
      obtain ⟨n, hn⟩ : ∃ f, l[i]? = some f := ⟨_, List.getElem?_eq_getElem (by rw [HLn.out]; omega)⟩
      obtain ⟨ad, hNs, c0, c1⟩ := atNm HH.out i n hn
      subst hNs
      have HF := Aside0.mk hn
      clear hn c1
      cases he : sameB n.name s with
      | true =>
        have HQ : Aside0 (q = (i : Int)) := ⟨by rw [hq.out, findIx, findIdx_step HF.out HN.out he]⟩
        have he2 : (n.name.toList == s.toList) = true := by rw [sameB_list]; exact he
        clear he
        go_wp2
        go_ret
        exact ⟨by rw [HQ.out]; rfl, rfl⟩
      | false =>
        have hn' : Aside0 (∀ k y, k < i + 1 → l[k]? = some y → sameB y.name s = false) := ⟨fun k y hk hy => by
          rcases Nat.lt_or_ge k i with h1 | h1
          · exact HN.out k y h1 hy
          · obtain rfl : k = i := by omega
            rw [HF.out] at hy; injection hy with hy; subst hy; exact he⟩
        have he2 : (n.name.toList == s.toList) = false := by rw [sameB_list]; exact he
        clear he
        go_wp2
        go_roundg (ln - (i + 1))
        case measure => omega
        case rel => exact ⟨i + 1, by go_num, by omega, hn', rfl⟩
    · have hnf : ¬ ((i : Int) < (ln : Int)) := by omega
      have HQ : Aside0 (q = -1) := ⟨by rw [hq.out, findIx, findIdx_none (fun k y hy => HN.out k y (by have := (List.getElem?_eq_some_iff.1 hy).1; have := HLn.out; omega) hy)]⟩
      go_wp2
      go_ret
      exact ⟨by rw [HQ.out]; rfl, rfl⟩

set_option maxRecDepth 100000 in
set_option maxHeartbeats 1000000 in
theorem stands_any (l : List Nm) (id : Int) (N : Option Addr) (ln nc : Nat) (w : World) (h : kNm.C w N ln l) (hl : ln ≤ 1048576) :
    Calls Tryz.prog 87 #[.slice N ln nc, .int .i64 id] w fun e w' => e = .returned (.bool (stands l id)) ∧ w = w' := by
  have HH := Aside0.mk h
  have HLn : Aside0 (l.length = ln) := ⟨Kd.C_len h⟩
  obtain ⟨q, hq⟩ := named (stands l id)
  rw [← hq.out]
  clear h
  go_enter Tryz.func87, Tryz.ntmps87
  go_wp2
  go_loopg [5] ln (fun g v5 wr => ∃ i : Nat, v5 = .int .i64 i ∧ g + i = ln ∧ Aside0 ((l.take i).any (fun n => n.id == id) = false) ∧ w = wr)
  case atStart => exact ⟨0, rfl, by omega, ⟨rfl⟩, rfl⟩
  case round =>
    obtain ⟨i, rfl, hg, HN, rfl⟩ := hrel
    by_cases hlt : i < ln
    · have hlt' : (i : Int) < (ln : Int) := by omega
      obtain ⟨n, hn⟩ : ∃ f, l[i]? = some f := ⟨_, List.getElem?_eq_getElem (by rw [HLn.out]; omega)⟩
      obtain ⟨ad, hNs, c0, c1⟩ := atNm HH.out i n hn
      subst hNs
      have HF := Aside0.mk hn
      clear hn c0
      by_cases he : n.id = id
      · have HQ : Aside0 (q = true) := ⟨by rw [hq.out, stands]; exact List.any_eq_true.2 ⟨n, List.mem_of_getElem? HF.out, by simp [he]⟩⟩
        go_wp2
        go_ret
        exact ⟨by rw [HQ.out]; rfl, rfl⟩
      · have hn' : Aside0 ((l.take (i + 1)).any (fun n => n.id == id) = false) := ⟨by rw [List.take_add_one, HF.out, List.any_append, HN.out]; simp [he]⟩
        go_wp2
        go_roundg (ln - (i + 1))
        case measure => omega
        case rel => exact ⟨i + 1, by go_num, by omega, hn', rfl⟩
    · have hnf : ¬ ((i : Int) < (ln : Int)) := by omega
      have HQ : Aside0 (q = false) := ⟨by rw [hq.out, stands]; have := HN.out; rwa [List.take_of_length_le (by rw [HLn.out]; omega)] at this⟩
      go_wp2
      go_ret
      exact ⟨by rw [HQ.out]; rfl, rfl⟩

set_option maxRecDepth 100000 in
set_option maxHeartbeats 1000000 in
theorem used_any (l : List Fl) (cap next : Int) (F N S : Option Addr) (lf fc ln nc ls sc : Nat) (w : World) (h : kFl.C w F lf l) (hl : lf ≤ 1048576) (hd : ∀ f ∈ l, f.data.length ≤ 1048576) :
    Calls Tryz.prog 86 #[.agg #[.int .i64 cap, .slice F lf fc, .slice N ln nc, .slice S ls sc, .int .i64 next]] w fun e w' => e = .returned (.int .i64 (usedF l)) ∧ Below w.heap.size w w' := by
  have HH := Aside0.mk h
  have HD := Aside0.mk hd
  have HLn : Aside0 (l.length = lf) := ⟨Kd.C_len h⟩
  clear h hd
  go_enter Tryz.func86, Tryz.ntmps86
  go_upto_region 1 with (fail)
  obtain ⟨W0, hW0⟩ : ∃ W, W = w.alloc (.cells #[.int .i64 cap, .slice F lf fc, .slice N ln nc, .slice S ls sc, .int .i64 next] 25) := ⟨_, rfl⟩
  have hk2 : W0.heap[w.heap.size]? = some (.cells #[.int .i64 cap, .slice F lf fc, .slice N ln nc, .slice S ls sc, .int .i64 next] 25 (0, 0)) := by rw [hW0]; exact blk_new _ _
  have HB0 : Aside0 (Below w.heap.size w W0) := ⟨by rw [hW0]; exact below_alloc (Below.refl _ _) _⟩
  rw [← hW0]
  clear hW0
  obtain ⟨_, x1, _, _, _, _, _, _, _, _⟩ := all5 hk2
  clear hk2
  go_wp2
  go_loopg [3, 4] lf (fun g v3 v4 wr => ∃ (i : Nat) (u : Int), v4 = .int .i64 i ∧ v3 = .int .i64 u ∧ g + i = lf ∧ 0 ≤ u ∧ u ≤ 1048576 * (i : Int) ∧ Aside0 (u = usedF (l.take i)) ∧ W0 = wr)
  case atStart => exact ⟨0, 0, rfl, rfl, by omega, by omega, by omega, ⟨by simp [usedF]⟩, rfl⟩
  case round =>
    obtain ⟨i, u, rfl, rfl, hg, hu0, hu1, HU, rfl⟩ := hrel
    by_cases hlt : i < lf
    · have hlt' : (i : Int) < (lf : Int) := by omega
      obtain ⟨f, hf⟩ : ∃ f, l[i]? = some f := ⟨_, List.getElem?_eq_getElem (by rw [HLn.out]; omega)⟩
      obtain ⟨ad, D, dc, hFs, d0, d1, d2, _, _⟩ := atFl (Kd.C_below HH.out HB0.out) i f hf
      subst hFs
      have hfd := HD.out f (List.mem_of_getElem? hf)
      obtain ⟨ld, hld⟩ : ∃ n, f.data.length = n := ⟨_, rfl⟩
      rw [hld] at d1 hfd
      have HS : Aside0 (u + (ld : Int) = usedF (l.take (i + 1))) := ⟨by rw [List.take_add_one, hf, Option.toList_some, usedF_snoc, ← HU.out, hld]⟩
      have hb : u + (ld : Int) ≤ 1048576 * ((i : Int) + 1) := by omega
      have hb2 : u + (ld : Int) ≤ 1099511627776 := by omega
      clear hf d0 d2 hld
      go_wp2
      go_roundg (lf - (i + 1))
      case measure => omega
      case rel => exact ⟨i + 1, u + ld, by go_num, rfl, by omega, by omega, by push_cast; exact hb, HS, rfl⟩
    · have hnf : ¬ ((i : Int) < (lf : Int)) := by omega
      have HQ : Aside0 (u = usedF l) := ⟨by rw [HU.out, List.take_of_length_le (by rw [HLn.out]; omega)]⟩
      go_wp2
      go_ret
      exact ⟨by rw [HQ.out]; rfl, HB0.out⟩
end Go.Proofs.YtfakfgblaakgdaaGreat.Files.Ref

/- The document's files: names, Check: walked. -/
namespace Go.Proofs.YtfakfgblaakgdaaGreat.Files.Ref
set_option linter.unusedVariables false
set_option linter.unusedSimpArgs false
open Go.RowKit Go.Proofs.YtfakfgblaakgdaaGreatW.PrintWords Go.Proofs.YtfakfgblaakgdaaGreatW.PrintLast Go.Proofs.YtfakfgblaakgdaaGreat.Base Go.Proofs.YtfakfgblaakgdaaGreat.Cells Go.Proofs.YtfakfgblaakgdaaGreat.Ints Go.Proofs.YtfakfgblaakgdaaGreat.Var Go.Proofs.YtfakfgblaakgdaaGreat.EditPure Go.Proofs.YtfakfgblaakgdaaGreat.Edit Go.Proofs.YtfakfgblaakgdaaGreat.Sets Go.Proofs.YtfakfgblaakgdaaGreat.Wide Go.Proofs.YtfakfgblaakgdaaGreat.RowsC

theorem leq_bytes (a b : List UInt8) : (Op.bytesLess a b || a == b) = !Op.bytesLess b a := by
  have h : (a == b) = (b == a) := by rw [Bool.eq_iff_iff, beq_iff_eq, beq_iff_eq]; exact eq_comm
  rw [h]; exact geq_bytes b a
def linkN (l : List Nm) (i : Nat) (m : Nm) : Bool := match (l.take i).getLast? with | none => true | some p => sLt p.name m.name

set_option maxRecDepth 100000 in
set_option maxHeartbeats 4000000 in
theorem names_any (files : List Fl) (l : List Nm) (cap next : Int) (F N S M : Option Addr) (lf fc ln nc ls sc lm mc : Nat) (w : World) (h : kFl.C w F lf files) (hm : kNm.C w M lm l) (hlf : lf ≤ 1048576) (hlm : lm ≤ 1048576) :
    Calls Tryz.prog 88 #[.agg #[.int .i64 cap, .slice F lf fc, .slice N ln nc, .slice S ls sc, .int .i64 next], .slice M lm mc] w fun e w' => e = .returned (.bool (namesOk files l)) ∧ Below w.heap.size w w' := by
  have HH := Aside0.mk h
  have HM := Aside0.mk hm
  have HLn : Aside0 (l.length = lm) := ⟨Kd.C_len hm⟩
  obtain ⟨q, hq⟩ := named (namesOk files l)
  rw [← hq.out]
  clear h hm
  go_enter Tryz.func88, Tryz.ntmps88
  go_upto_region 1 with (fail)
  obtain ⟨W0, hW0⟩ : ∃ W, W = w.alloc (.cells #[.int .i64 cap, .slice F lf fc, .slice N ln nc, .slice S ls sc, .int .i64 next] 25) := ⟨_, rfl⟩
  have hk2 : W0.heap[w.heap.size]? = some (.cells #[.int .i64 cap, .slice F lf fc, .slice N ln nc, .slice S ls sc, .int .i64 next] 25 (0, 0)) := by rw [hW0]; exact blk_new _ _
  have HB0 : Aside0 (Below w.heap.size w W0) := ⟨by rw [hW0]; exact below_alloc (Below.refl _ _) _⟩
  rw [← hW0]
  clear hW0
  have HK2 := Aside0.mk hk2
  clear hk2
  go_wp2
  go_loopg [5] lm (fun g v5 wr => ∃ i : Nat, v5 = .int .i64 i ∧ g + i = lm ∧ Aside0 (nmTo files l i = true) ∧ Aside0 (Below W0.heap.size W0 wr))
  case atStart => exact ⟨0, rfl, by omega, ⟨rfl⟩, ⟨Below.refl _ _⟩⟩
  case round =>
    obtain ⟨i, rfl, hg, HT, HBr⟩ := hrel
    have HBw : Aside0 (Below w.heap.size w wr) := ⟨bthen HB0.out HBr.out⟩
    by_cases hlt : i < lm
    · have hlt' : (i : Int) < (lm : Int) := by omega
      obtain ⟨m, hmi⟩ : ∃ m, l[i]? = some m := ⟨_, List.getElem?_eq_getElem (by rw [HLn.out]; omega)⟩
      obtain ⟨ad, hMs, c0, c1⟩ := atNm (Kd.C_below HM.out HBw.out) i m hmi
      subst hMs
      have hgd : l.getD i zNm = m := by rw [List.getD_eq_getElem?_getD, hmi]; rfl
      have HMi := Aside0.mk hmi
      have hto : nmTo files l (i + 1) = nmOk files (l.take i) m := by rw [nmTo, HT.out, hgd, Bool.true_and]
      obtain ⟨my, hmy⟩ := named (mayF m.name)
      obtain ⟨hi, hhi⟩ := named (hasId files m.id)
      obtain ⟨lnk, hlnk⟩ := named (linkN l i m)
      obtain ⟨r, hr⟩ := named (fileIx files m.id)
      have HR : Aside0 (r < 0 ↔ hi = false) := ⟨by rw [hr.out, hhi.out]; exact fileIx_neg⟩
      have HTO : Aside0 (nmTo files l (i + 1) = (my && (lnk && (hi && !((l.take i).any fun x => x.id == m.id))))) := ⟨by rw [hto, hmy.out, hhi.out, hlnk.out]; rfl⟩
      clear hmi hgd hto
      go_upto_region 4 with (fail)
      go_cut [47] (fun v47 wc => v47 = .bool (!(my && (lnk && hi))) ∧ Aside0 (Below wr.heap.size wr wc))
      case first =>
        have CM : ∀ W, Calls Tryz.prog 124 #[.string m.name] W fun e w' => e = .returned (.bool my) ∧ W = w' := fun W => by rw [hmy.out]; exact may_any m.name W
        have CF : ∀ x : Later wr, Calls Tryz.prog 104 #[.agg #[.int .i64 cap, .slice F lf fc, .slice N ln nc, .slice S ls sc, .int .i64 next], .int .i64 m.id] (wb wr x) fun e w' => e = .returned (.int .i64 r) ∧ Below (wb wr x).heap.size (wb wr x) w' := fun x => by
          rw [hr.out]
          exact file_any files m.id cap next F N S lf fc ln nc ls sc _ (Kd.C_below HH.out (bthen HBw.out (wb_below _ x))) hlf
        obtain ⟨x0, x1, x2, x3, x4, _, _, _, _, _⟩ := all5 (blk_keep HK2.out HBr.out)
        have K0 := wb_cell c0
        have K1 := wb_cell c1
        have X0 := wb_cell x0
        have X1 := wb_cell x1
        have X2 := wb_cell x2
        have X3 := wb_cell x3
        have X4 := wb_cell x4
        clear x0 x1 x2 x3 x4 c0 c1
        cases hmv : my with
        | false =>
          rw [hmv] at CM
          have HV : Aside0 ((!(my && (lnk && hi))) = true) := ⟨by rw [hmv]; rfl⟩
          clear hmv
          refine wp_region_wide (by kernel_rfl) (by kernel_rfl) ?_
          repeat (go_big_quiet_step ((first | (go_at_call 124; exact wide_same (CM _)) | (go_at_call 104; exact wide_of (CF _)))))
          refine wpQuiet_nil ?_
          rintro w' ⟨x, rfl⟩
          go_wp2
          go_meet
          exact ⟨by rw [HV.out], ⟨wb_below _ x⟩⟩
        | true =>
          rw [hmv] at CM
          have HMV := Aside0.mk hmv
          clear hmv
          by_cases hi0 : i = 0
          · have hi1 : decide (0 < i) = false := by simp [hi0]
            have hi2 : ¬ (0 < i) := by omega
            have HL : Aside0 (lnk = true) := ⟨by rw [hlnk.out, hi0]; rfl⟩
            clear hi0
            by_cases hr0 : r < 0
            · have hh : Aside0 (hi = false) := ⟨HR.out.1 hr0⟩
              refine wp_region_wide (by kernel_rfl) (by kernel_rfl) ?_
              repeat (go_big_quiet_step ((first | (go_at_call 124; exact wide_same (CM _)) | (go_at_call 104; exact wide_of (CF _)))))
              refine wpQuiet_nil ?_
              rintro w' ⟨x, rfl⟩
              go_wp2
              go_meet
              exact ⟨by rw [HMV.out, HL.out, hh.out]; rfl, ⟨wb_below _ x⟩⟩
            · have hh : Aside0 (hi = true) := ⟨by cases hq : hi with | true => rfl | false => exact absurd (HR.out.2 hq) hr0⟩
              refine wp_region_wide (by kernel_rfl) (by kernel_rfl) ?_
              repeat (go_big_quiet_step ((first | (go_at_call 124; exact wide_same (CM _)) | (go_at_call 104; exact wide_of (CF _)))))
              refine wpQuiet_nil ?_
              rintro w' ⟨x, rfl⟩
              go_wp2
              go_meet
              exact ⟨by rw [HMV.out, HL.out, hh.out]; rfl, ⟨wb_below _ x⟩⟩
          · obtain ⟨k, rfl⟩ : ∃ k, i = k + 1 := ⟨i - 1, by omega⟩
            clear hi0
            obtain ⟨p, hp⟩ : ∃ p, l[k]? = some p := ⟨_, List.getElem?_eq_getElem (by rw [HLn.out]; omega)⟩
            have HL : Aside0 (lnk = sLt p.name m.name) := ⟨by rw [hlnk.out, linkN, List.take_add_one, hp]; simp⟩
            obtain ⟨ad', had, d0, d1⟩ := atNm (Kd.C_below HM.out HBw.out) k p hp
            obtain rfl : ad = ad' := by injection had
            have D0 := wb_cell d0
            have D1 := wb_cell d1
            clear hp had d0 d1
            cases hlv : lnk with
            | false =>
              rw [hlv] at HL
              have hs2 : (Op.bytesLess m.name.toList p.name.toList || m.name.toList == p.name.toList) = true := by rw [leq_bytes]; have : Op.bytesLess p.name.toList m.name.toList = false := HL.out.symm; rw [this]; rfl
              have HLV := Aside0.mk hlv
              clear hlv
              refine wp_region_wide (by kernel_rfl) (by kernel_rfl) ?_
              repeat (go_big_quiet_step ((first | (go_at_call 124; exact wide_same (CM _)) | (go_at_call 104; exact wide_of (CF _)))))
              refine wpQuiet_nil ?_
              rintro w' ⟨x, rfl⟩
              go_wp2
              go_meet
              exact ⟨by rw [HMV.out, HLV.out]; rfl, ⟨wb_below _ x⟩⟩
            | true =>
              rw [hlv] at HL
              have hs2 : (Op.bytesLess m.name.toList p.name.toList || m.name.toList == p.name.toList) = false := by rw [leq_bytes]; have : Op.bytesLess p.name.toList m.name.toList = true := HL.out.symm; rw [this]; rfl
              have HL2 := Aside0.mk hlv
              clear hlv HL
              by_cases hr0 : r < 0
              · have hh : Aside0 (hi = false) := ⟨HR.out.1 hr0⟩
                refine wp_region_wide (by kernel_rfl) (by kernel_rfl) ?_
                repeat (go_big_quiet_step ((first | (go_at_call 124; exact wide_same (CM _)) | (go_at_call 104; exact wide_of (CF _)))))
                refine wpQuiet_nil ?_
                rintro w' ⟨x, rfl⟩
                go_wp2
                go_meet
                exact ⟨by rw [HMV.out, HL2.out, hh.out]; rfl, ⟨wb_below _ x⟩⟩
              · have hh : Aside0 (hi = true) := ⟨by cases hq : hi with | true => rfl | false => exact absurd (HR.out.2 hq) hr0⟩
                refine wp_region_wide (by kernel_rfl) (by kernel_rfl) ?_
                repeat (go_big_quiet_step ((first | (go_at_call 124; exact wide_same (CM _)) | (go_at_call 104; exact wide_of (CF _)))))
                refine wpQuiet_nil ?_
                rintro w' ⟨x, rfl⟩
                go_wp2
                go_meet
                exact ⟨by rw [HMV.out, HL2.out, hh.out]; rfl, ⟨wb_below _ x⟩⟩
      case rest =>
        obtain ⟨rfl, HBc⟩ := hcut
        have HBwc : Aside0 (Below w.heap.size w wc) := ⟨bthen HBw.out HBc.out⟩
        obtain ⟨b, hb⟩ := named (my && (lnk && hi))
        rw [← hb.out]
        cases hbv : b with
        | false =>
          have HQ : Aside0 (q = false) := ⟨by
            rw [hq.out, namesOk]
            refine nmTo_false l (i := i + 1) ?_ (by rw [HLn.out]; omega)
            rw [HTO.out, ← Bool.and_assoc, ← Bool.and_assoc, Bool.and_assoc my, ← hb.out, hbv]; rfl⟩
          clear hbv
          go_wp2
          go_ret
          exact ⟨by rw [HQ.out]; rfl, HBwc.out⟩
        | true =>
          have HTO2 : Aside0 (nmTo files l (i + 1) = !((l.take i).any fun x => x.id == m.id)) := ⟨by
            rw [HTO.out, ← Bool.and_assoc, ← Bool.and_assoc, Bool.and_assoc my, ← hb.out, hbv, Bool.true_and]⟩
          clear hbv c0 c1
          obtain ⟨adm, hadm, c0, c1⟩ := atNm (Kd.C_below HM.out HBwc.out) i m HMi.out
          injection hadm with hadm
          subst hadm
          clear c0
          have C1 := Aside0.mk c1
          clear c1
          go_upto_region 6 with (fail)
          go_wp2
          go_loopg [6] i (fun g v6 wi => ∃ k : Nat, v6 = .int .i64 k ∧ g + k = i ∧ Aside0 ((l.take k).any (fun x => x.id == m.id) = false) ∧ Aside0 (Below wc.heap.size wc wi))
          case atStart => exact ⟨0, rfl, by omega, ⟨rfl⟩, ⟨Below.refl _ _⟩⟩
          case round =>
            obtain ⟨k, rfl, hgk, HN, HBi⟩ := hrel
            by_cases hki : k < i
            · have hki' : (k : Int) < (i : Int) := by omega
              have hkl' : (k : Int) < (lm : Int) := by omega
              obtain ⟨p, hp⟩ : ∃ p, l[k]? = some p := ⟨_, List.getElem?_eq_getElem (by rw [HLn.out]; omega)⟩
              obtain ⟨adp, hadp, _, d1⟩ := atNm (Kd.C_below HM.out (bthen HBwc.out HBi.out)) k p hp
              injection hadp with hadp
              subst hadp
              have c1 := pw_cell_below HBi.out C1.out
              have HP := Aside0.mk hp
              clear hp
              by_cases he : p.id = m.id
              · have HQ : Aside0 (q = false) := ⟨by
                  rw [hq.out, namesOk]
                  refine nmTo_false l (i := i + 1) ?_ (by rw [HLn.out]; omega)
                  have : (l.take i).any (fun x => x.id == m.id) = true := List.any_eq_true.2 ⟨p, List.mem_of_getElem? (i := k) (by rw [List.getElem?_take, if_pos hki]; exact HP.out), by simp [he]⟩
                  rw [HTO2.out, this]; rfl⟩
                go_wp2_with fail
                go_quiet (fail)
                go_wp2
                go_ret
                exact ⟨by rw [HQ.out]; rfl, pw_below_drewN (bthen HBwc.out HBi.out) nq⟩
              · have hn' : Aside0 ((l.take (k + 1)).any (fun x => x.id == m.id) = false) := ⟨by rw [List.take_add_one, HP.out, List.any_append, HN.out]; simp [he]⟩
                go_wp2_with fail
                go_quiet (fail)
                go_wp2
                go_roundg (i - (k + 1))
                case measure => omega
                case rel => exact ⟨k + 1, by go_num, by omega, hn', ⟨pw_below_drewN HBi.out nq⟩⟩
            · have hki' : ¬ ((k : Int) < (i : Int)) := by omega
              have HT2 : Aside0 (nmTo files l (i + 1) = true) := ⟨by
                obtain rfl : k = i := by omega
                rw [HTO2.out, HN.out]; rfl⟩
              go_wp2
              go_roundg (lm - (i + 1))
              case measure => omega
              case rel => exact ⟨i + 1, by go_num, by omega, HT2, ⟨bthen HBr.out (bthen HBc.out HBi.out)⟩⟩
    · have hnf : ¬ ((i : Int) < (lm : Int)) := by omega
      have HQ : Aside0 (q = true) := ⟨by
        rw [hq.out, namesOk, HLn.out]
        obtain rfl : i = lm := by omega
        exact HT.out⟩
      go_wp2
      go_ret
      exact ⟨by rw [HQ.out]; rfl, HBw.out⟩
end Go.Proofs.YtfakfgblaakgdaaGreat.Files.Ref

/- The document's Check of files: walked. (Printed by wip/gen_refc.py.) -/
namespace Go.Proofs.YtfakfgblaakgdaaGreat.Files.Ref
set_option linter.unusedVariables false
set_option linter.unusedSimpArgs false
open Go.RowKit Go.Proofs.YtfakfgblaakgdaaGreatW.PrintWords Go.Proofs.YtfakfgblaakgdaaGreatW.PrintLast Go.Proofs.YtfakfgblaakgdaaGreat.Base Go.Proofs.YtfakfgblaakgdaaGreat.Cells Go.Proofs.YtfakfgblaakgdaaGreat.Ints Go.Proofs.YtfakfgblaakgdaaGreat.Var Go.Proofs.YtfakfgblaakgdaaGreat.EditPure Go.Proofs.YtfakfgblaakgdaaGreat.Edit Go.Proofs.YtfakfgblaakgdaaGreat.Sets Go.Proofs.YtfakfgblaakgdaaGreat.Wide Go.Proofs.YtfakfgblaakgdaaGreat.RowsC

theorem hdB_false {s : St} (h : ¬ HdOk s) : hdB s = false := by cases hq : hdB s with | false => rfl | true => exact absurd (hdB_iff.1 hq) h
theorem flOkR_iff {s : St} {i : Nat} {f : Fl} : flOkR s i f = true ↔ 1 ≤ f.id ∧ f.id < s.next ∧ (i = 0 ∨ (s.files.getD (i - 1) zFl).id < f.id) ∧ 0 ≤ f.sync ∧ f.sync ≤ f.data.length ∧ (stands s.names f.id = true ∨ stands s.safe f.id = true) := by
  simp only [flOkR, Bool.and_eq_true, Bool.or_eq_true, decide_eq_true_eq, beq_iff_eq]
theorem flOkR_false {s : St} {i : Nat} {f : Fl} (h : ¬ (1 ≤ f.id ∧ f.id < s.next ∧ (i = 0 ∨ (s.files.getD (i - 1) zFl).id < f.id) ∧ 0 ≤ f.sync ∧ f.sync ≤ f.data.length ∧ (stands s.names f.id = true ∨ stands s.safe f.id = true))) : flOkR s i f = false := by
  cases hq : flOkR s i f with | false => rfl | true => exact absurd (flOkR_iff.1 hq) h

set_option maxRecDepth 100000 in
set_option maxHeartbeats 8000000 in
theorem check_any (s : St) (F N S : Option Addr) (lf fc ln nc ls sc : Nat) (w : World) (h : Hd w s F fc N nc S sc) (hs : Small s) (hlf : s.files.length = lf) (hln : s.names.length = ln) (hls : s.safe.length = ls) :
    Calls Tryz.prog 41 #[.agg #[.int .i64 s.cap, .slice F lf fc, .slice N ln nc, .slice S ls sc, .int .i64 s.next]] w fun e w' => e = .returned (.int .i64 (stE s)) ∧ Below w.heap.size w w' := by
  have HF0 := Aside0.mk (hlf ▸ h.hF : kFl.C w F lf s.files)
  have HN0 := Aside0.mk (hln ▸ h.hN : kNm.C w N ln s.names)
  have HS0 := Aside0.mk (hls ▸ h.hS : kNm.C w S ls s.safe)
  have HS := Aside0.mk hs
  have LF := Aside0.mk hlf
  have LN := Aside0.mk hln
  have LS := Aside0.mk hls
  have hlf1 : lf ≤ 1048576 := by rw [← hlf]; exact hs.lf
  have hln1 : ln ≤ 1048576 := by rw [← hln]; exact hs.ln
  have hls1 : ls ≤ 1048576 := by rw [← hls]; exact hs.ls
  obtain ⟨q, hq⟩ := named (stE s)
  rw [← hq.out]
  have HQ : Aside0 (q = if stR' s then 0 else 9) := ⟨by rw [hq.out, stE, stR_eq]⟩
  obtain ⟨cap, hcap⟩ : ∃ c, s.cap = c := ⟨_, rfl⟩
  obtain ⟨next, hnext⟩ : ∃ c, s.next = c := ⟨_, rfl⟩
  have CAP := Aside0.mk hcap
  have NEXT := Aside0.mk hnext
  rw [hcap, hnext]
  clear h hs hlf hln hls hcap hnext
  go_enter Tryz.func41, Tryz.ntmps41
  go_upto_region 1 with (fail)
  obtain ⟨W0, hW0⟩ : ∃ W, W = w.alloc (.cells #[.int .i64 cap, .slice F lf fc, .slice N ln nc, .slice S ls sc, .int .i64 next] 25) := ⟨_, rfl⟩
  have hk2 : W0.heap[w.heap.size]? = some (.cells #[.int .i64 cap, .slice F lf fc, .slice N ln nc, .slice S ls sc, .int .i64 next] 25 (0, 0)) := by rw [hW0]; exact blk_new _ _
  have HB0 : Aside0 (Below w.heap.size w W0) := ⟨by rw [hW0]; exact below_alloc (Below.refl _ _) _⟩
  rw [← hW0]
  clear hW0
  have HK2 := Aside0.mk hk2
  clear hk2
  obtain ⟨hd, hhd⟩ := named (hdB s)
  go_cut [47] (fun v47 wc => v47 = .bool (!hd) ∧ Aside0 (Below W0.heap.size W0 wc))
  case first =>
    obtain ⟨us, hus⟩ := named (usedF s.files)
    have CU : ∀ x : Later W0, Calls Tryz.prog 86 #[.agg #[.int .i64 cap, .slice F lf fc, .slice N ln nc, .slice S ls sc, .int .i64 next]] (wb W0 x) fun e w' => e = .returned (.int .i64 us) ∧ Below (wb W0 x).heap.size (wb W0 x) w' := fun x => by
      rw [hus.out]
      exact used_any s.files cap next F N S lf fc ln nc ls sc _ (Kd.C_below HF0.out (bthen HB0.out (wb_below _ x))) hlf1 HS.out.ld
    obtain ⟨x0, x1, x2, x3, x4, _, _, _, _, _⟩ := all5 HK2.out
    have X0 := wb_cell x0
    have X1 := wb_cell x1
    have X2 := wb_cell x2
    have X3 := wb_cell x3
    have X4 := wb_cell x4
    clear x0 x1 x2 x3 x4
    by_cases g0 : cap < 0
    · have HV : Aside0 (hd = false) := ⟨by rw [hhd.out]; exact hdB_false (fun k => by have := k.c0; have := LF.out; have := LN.out; have := LS.out; have := CAP.out; have := NEXT.out; have := hus.out; omega)⟩
      refine wp_region_wide (by kernel_rfl) (by kernel_rfl) ?_
      repeat (go_big_quiet_step ((go_at_call 86; exact wide_of (CU _))))
      refine wpQuiet_nil ?_
      rintro w' ⟨x, rfl⟩
      go_wp2
      go_meet
      exact ⟨by rw [HV.out]; rfl, ⟨wb_below _ x⟩⟩
    · skip
      by_cases g1 : 16777216 < cap
      · have HV : Aside0 (hd = false) := ⟨by rw [hhd.out]; exact hdB_false (fun k => by have := k.c1; have := LF.out; have := LN.out; have := LS.out; have := CAP.out; have := NEXT.out; have := hus.out; omega)⟩
        refine wp_region_wide (by kernel_rfl) (by kernel_rfl) ?_
        repeat (go_big_quiet_step ((go_at_call 86; exact wide_of (CU _))))
        refine wpQuiet_nil ?_
        rintro w' ⟨x, rfl⟩
        go_wp2
        go_meet
        exact ⟨by rw [HV.out]; rfl, ⟨wb_below _ x⟩⟩
      · skip
        by_cases g2 : (256 : Int) < (lf : Int)
        · have HV : Aside0 (hd = false) := ⟨by rw [hhd.out]; exact hdB_false (fun k => by have := k.lf; have := LF.out; have := LN.out; have := LS.out; have := CAP.out; have := NEXT.out; have := hus.out; omega)⟩
          have e2 : decide ((256 : Int) < (lf : Int)) = true := decide_eq_true g2
          refine wp_region_wide (by kernel_rfl) (by kernel_rfl) ?_
          repeat (go_big_quiet_step ((go_at_call 86; exact wide_of (CU _))))
          refine wpQuiet_nil ?_
          rintro w' ⟨x, rfl⟩
          go_wp2
          go_meet
          exact ⟨by rw [HV.out]; rfl, ⟨wb_below _ x⟩⟩
        · skip
          have e2 : decide ((256 : Int) < (lf : Int)) = false := decide_eq_false g2
          by_cases g3 : next < 1
          · have HV : Aside0 (hd = false) := ⟨by rw [hhd.out]; exact hdB_false (fun k => by have := k.n0; have := LF.out; have := LN.out; have := LS.out; have := CAP.out; have := NEXT.out; have := hus.out; omega)⟩
            refine wp_region_wide (by kernel_rfl) (by kernel_rfl) ?_
            repeat (go_big_quiet_step ((go_at_call 86; exact wide_of (CU _))))
            refine wpQuiet_nil ?_
            rintro w' ⟨x, rfl⟩
            go_wp2
            go_meet
            exact ⟨by rw [HV.out]; rfl, ⟨wb_below _ x⟩⟩
          · skip
            by_cases g4 : 2147483647 < next
            · have HV : Aside0 (hd = false) := ⟨by rw [hhd.out]; exact hdB_false (fun k => by have := k.n1; have := LF.out; have := LN.out; have := LS.out; have := CAP.out; have := NEXT.out; have := hus.out; omega)⟩
              refine wp_region_wide (by kernel_rfl) (by kernel_rfl) ?_
              repeat (go_big_quiet_step ((go_at_call 86; exact wide_of (CU _))))
              refine wpQuiet_nil ?_
              rintro w' ⟨x, rfl⟩
              go_wp2
              go_meet
              exact ⟨by rw [HV.out]; rfl, ⟨wb_below _ x⟩⟩
            · skip
              by_cases g5 : cap < us
              · have HV : Aside0 (hd = false) := ⟨by rw [hhd.out]; exact hdB_false (fun k => by have := k.us; have := LF.out; have := LN.out; have := LS.out; have := CAP.out; have := NEXT.out; have := hus.out; omega)⟩
                refine wp_region_wide (by kernel_rfl) (by kernel_rfl) ?_
                repeat (go_big_quiet_step ((go_at_call 86; exact wide_of (CU _))))
                refine wpQuiet_nil ?_
                rintro w' ⟨x, rfl⟩
                go_wp2
                go_meet
                exact ⟨by rw [HV.out]; rfl, ⟨wb_below _ x⟩⟩
              · skip
                by_cases g6 : (256 : Int) < (ln : Int)
                · have HV : Aside0 (hd = false) := ⟨by rw [hhd.out]; exact hdB_false (fun k => by have := k.ln; have := LF.out; have := LN.out; have := LS.out; have := CAP.out; have := NEXT.out; have := hus.out; omega)⟩
                  have e6 : decide ((256 : Int) < (ln : Int)) = true := decide_eq_true g6
                  refine wp_region_wide (by kernel_rfl) (by kernel_rfl) ?_
                  repeat (go_big_quiet_step ((go_at_call 86; exact wide_of (CU _))))
                  refine wpQuiet_nil ?_
                  rintro w' ⟨x, rfl⟩
                  go_wp2
                  go_meet
                  exact ⟨by rw [HV.out]; rfl, ⟨wb_below _ x⟩⟩
                · skip
                  have e6 : decide ((256 : Int) < (ln : Int)) = false := decide_eq_false g6
                  by_cases g7 : (256 : Int) < (ls : Int)
                  · have HV : Aside0 (hd = false) := ⟨by rw [hhd.out]; exact hdB_false (fun k => by have := k.ls; have := LF.out; have := LN.out; have := LS.out; have := CAP.out; have := NEXT.out; have := hus.out; omega)⟩
                    have e7 : decide ((256 : Int) < (ls : Int)) = true := decide_eq_true g7
                    refine wp_region_wide (by kernel_rfl) (by kernel_rfl) ?_
                    repeat (go_big_quiet_step ((go_at_call 86; exact wide_of (CU _))))
                    refine wpQuiet_nil ?_
                    rintro w' ⟨x, rfl⟩
                    go_wp2
                    go_meet
                    exact ⟨by rw [HV.out]; rfl, ⟨wb_below _ x⟩⟩
                  · skip
                    have e7 : decide ((256 : Int) < (ls : Int)) = false := decide_eq_false g7
                    have HV : Aside0 (hd = true) := ⟨by rw [hhd.out]; exact hdB_iff.2 ⟨by rw [CAP.out]; omega, by rw [CAP.out]; omega, by rw [LF.out]; omega, by rw [NEXT.out]; omega, by rw [NEXT.out]; omega, by rw [CAP.out, ← hus.out]; omega, by rw [LN.out]; omega, by rw [LS.out]; omega⟩⟩
                    refine wp_region_wide (by kernel_rfl) (by kernel_rfl) ?_
                    repeat (go_big_quiet_step ((go_at_call 86; exact wide_of (CU _))))
                    refine wpQuiet_nil ?_
                    rintro w' ⟨x, rfl⟩
                    go_wp2
                    go_meet
                    exact ⟨by rw [HV.out]; rfl, ⟨wb_below _ x⟩⟩
  case rest =>
    obtain ⟨rfl, HBc⟩ := hcut
    obtain ⟨wd, hwd⟩ : ∃ wd, wd = wc := ⟨_, rfl⟩
    rw [← hwd] at HBc ⊢
    clear hwd
    cases hdv : hd with
    | false =>
      have HQ2 : Aside0 (q = 9) := ⟨by rw [HQ.out, stR', ← hhd.out, hdv]; rfl⟩
      clear hdv
      go_wp2
      go_ret
      exact ⟨by rw [HQ2.out]; rfl, bthen HB0.out HBc.out⟩
    | true =>
      have HQ1 : Aside0 (q = if flToR s lf && (namesOk s.files s.names && namesOk s.files s.safe) then 0 else 9) := ⟨by rw [HQ.out, stR', ← hhd.out, hdv, LF.out]; rfl⟩
      clear hdv
      have HK := Aside0.mk (blk_keep HK2.out HBc.out)
      have HBw0 := Aside0.mk (bthen HB0.out HBc.out)
      obtain ⟨x0, x1, x2, x3, x4, _, _, _, _, _⟩ := all5 HK.out
      go_wp2
      go_loopg [3] lf (fun g v3 wr => ∃ i : Nat, v3 = .int .i64 i ∧ g + i = lf ∧ Aside0 (flToR s i = true) ∧ Aside0 (Below wd.heap.size wd wr))
      case atStart => exact ⟨0, rfl, by omega, ⟨rfl⟩, ⟨Below.refl _ _⟩⟩
      case round =>
        obtain ⟨i, rfl, hg, HT, HBr⟩ := hrel
        have HBw : Aside0 (Below w.heap.size w wr) := ⟨bthen HBw0.out HBr.out⟩
        have HKr := Aside0.mk (blk_keep HK.out HBr.out)
        clear x0 x1 x2 x3 x4
        obtain ⟨_, y1, _, _, _, _, _, _, _, _⟩ := all5 HKr.out
        by_cases hlt : i < lf
        · have hlt' : (i : Int) < (lf : Int) := by omega
          obtain ⟨f, hf⟩ : ∃ f, s.files[i]? = some f := ⟨_, List.getElem?_eq_getElem (by rw [LF.out]; omega)⟩
          obtain ⟨ad, D, dc, hFs, d0, d1, d2, _, _⟩ := atFl (Kd.C_below HF0.out HBw.out) i f hf
          subst hFs
          have hgd : s.files.getD i zFl = f := by rw [List.getD_eq_getElem?_getD, hf]; rfl
          obtain ⟨ok, hok⟩ := named (flOkR s i f)
          have HTO : Aside0 (flToR s (i + 1) = ok) := ⟨by rw [flToR, HT.out, hgd, ← hok.out]; rfl⟩
          obtain ⟨fid, hfid⟩ : ∃ n, f.id = n := ⟨_, rfl⟩
          obtain ⟨fsy, hfsy⟩ : ∃ n, f.sync = n := ⟨_, rfl⟩
          obtain ⟨ld, hld⟩ : ∃ n, f.data.length = n := ⟨_, rfl⟩
          have FID := Aside0.mk hfid
          have FSY := Aside0.mk hfsy
          have FLD := Aside0.mk hld
          rw [hfid] at d0
          rw [hld] at d1
          rw [hfsy] at d2
          clear hf hgd hfid hfsy hld
          go_upto_region 7 with (fail)
          obtain ⟨W4, hW4⟩ : ∃ W, W = wr.alloc (.cells #[.int .i64 fid, .slice D ld dc, .int .i64 fsy] 114) := ⟨_, rfl⟩
          have hk4 : W4.heap[wr.heap.size]? = some (.cells #[.int .i64 fid, .slice D ld dc, .int .i64 fsy] 114 (0, 0)) := by rw [hW4]; exact blk_new _ _
          have HB4 : Aside0 (Below wr.heap.size wr W4) := ⟨by rw [hW4]; exact below_alloc (Below.refl _ _) _⟩
          rw [← hW4]
          clear hW4 d0 d1 d2 y1
          have HK4 := Aside0.mk hk4
          have HBw4 : Aside0 (Below w.heap.size w W4) := ⟨bthen HBw.out HB4.out⟩
          clear hk4
          go_cut [114] (fun v114 wc2 => v114 = .bool (!ok) ∧ Aside0 (Below W4.heap.size W4 wc2))
          case first =>
            obtain ⟨s1, hs1⟩ := named (stands s.names fid)
            obtain ⟨s2, hs2⟩ := named (stands s.safe fid)
            have CS1 : ∀ x : Later W4, Calls Tryz.prog 87 #[.slice N ln nc, .int .i64 fid] (wb W4 x) fun e w' => e = .returned (.bool s1) ∧ wb W4 x = w' := fun x => by
              rw [hs1.out]; exact stands_any s.names fid N ln nc _ (Kd.C_below HN0.out (bthen HBw4.out (wb_below _ x))) hln1
            have CS2 : ∀ x : Later W4, Calls Tryz.prog 87 #[.slice S ls sc, .int .i64 fid] (wb W4 x) fun e w' => e = .returned (.bool s2) ∧ wb W4 x = w' := fun x => by
              rw [hs2.out]; exact stands_any s.safe fid S ls sc _ (Kd.C_below HS0.out (bthen HBw4.out (wb_below _ x))) hls1
            obtain ⟨z0, z1, z2, _, _, _⟩ := all3 HK4.out
            obtain ⟨y0, y1, y2, y3, y4, _, _, _, _, _⟩ := all5 (blk_keep HKr.out HB4.out)
            have Z0 := wb_cell z0
            have Z1 := wb_cell z1
            have Z2 := wb_cell z2
            have Y0 := wb_cell y0
            have Y1 := wb_cell y1
            have Y2 := wb_cell y2
            have Y3 := wb_cell y3
            have Y4 := wb_cell y4
            clear z0 z1 z2 y0 y1 y2 y3 y4
            by_cases hi0 : i = 0
            · have hi1 : decide (0 < i) = false := by simp [hi0]
              have hi2 : ¬ (0 < i) := by omega
              have I0 := Aside0.mk hi0
              clear hi0
              by_cases g0 : fid < 1
              · have HV : Aside0 (ok = false) := ⟨by rw [hok.out]; exact flOkR_false (fun k => by obtain ⟨k1, k2, k3, k4, k5, k6⟩ := k; have := FID.out; have := FSY.out; have := FLD.out; have := NEXT.out; omega)⟩
                refine wp_region_wide (by kernel_rfl) (by kernel_rfl) ?_
                repeat (go_big_quiet_step ((first | (go_at_call 87; with_reducible exact wide_same (CS1 _)) | (go_at_call 87; with_reducible exact wide_same (CS2 _)))))
                refine wpQuiet_nil ?_
                rintro w' ⟨x, rfl⟩
                go_wp2
                go_meet
                exact ⟨by rw [HV.out]; rfl, ⟨wb_below _ x⟩⟩
              · skip
                by_cases g1 : next ≤ fid
                · have HV : Aside0 (ok = false) := ⟨by rw [hok.out]; exact flOkR_false (fun k => by obtain ⟨k1, k2, k3, k4, k5, k6⟩ := k; have := FID.out; have := FSY.out; have := FLD.out; have := NEXT.out; omega)⟩
                  refine wp_region_wide (by kernel_rfl) (by kernel_rfl) ?_
                  repeat (go_big_quiet_step ((first | (go_at_call 87; with_reducible exact wide_same (CS1 _)) | (go_at_call 87; with_reducible exact wide_same (CS2 _)))))
                  refine wpQuiet_nil ?_
                  rintro w' ⟨x, rfl⟩
                  go_wp2
                  go_meet
                  exact ⟨by rw [HV.out]; rfl, ⟨wb_below _ x⟩⟩
                · skip
                  by_cases g2 : fsy < 0
                  · have HV : Aside0 (ok = false) := ⟨by rw [hok.out]; exact flOkR_false (fun k => by obtain ⟨k1, k2, k3, k4, k5, k6⟩ := k; have := FID.out; have := FSY.out; have := FLD.out; have := NEXT.out; omega)⟩
                    refine wp_region_wide (by kernel_rfl) (by kernel_rfl) ?_
                    repeat (go_big_quiet_step ((first | (go_at_call 87; with_reducible exact wide_same (CS1 _)) | (go_at_call 87; with_reducible exact wide_same (CS2 _)))))
                    refine wpQuiet_nil ?_
                    rintro w' ⟨x, rfl⟩
                    go_wp2
                    go_meet
                    exact ⟨by rw [HV.out]; rfl, ⟨wb_below _ x⟩⟩
                  · skip
                    by_cases g3 : (ld : Int) < fsy
                    · have HV : Aside0 (ok = false) := ⟨by rw [hok.out]; exact flOkR_false (fun k => by obtain ⟨k1, k2, k3, k4, k5, k6⟩ := k; have := FID.out; have := FSY.out; have := FLD.out; have := NEXT.out; omega)⟩
                      refine wp_region_wide (by kernel_rfl) (by kernel_rfl) ?_
                      repeat (go_big_quiet_step ((first | (go_at_call 87; with_reducible exact wide_same (CS1 _)) | (go_at_call 87; with_reducible exact wide_same (CS2 _)))))
                      refine wpQuiet_nil ?_
                      rintro w' ⟨x, rfl⟩
                      go_wp2
                      go_meet
                      exact ⟨by rw [HV.out]; rfl, ⟨wb_below _ x⟩⟩
                    · skip
                      have hal : (1 ≤ f.id ∧ f.id < s.next ∧ (i = 0 ∨ (s.files.getD (i - 1) zFl).id < fid) ∧ 0 ≤ f.sync ∧ f.sync ≤ f.data.length) := by rw [FID.out, FSY.out, FLD.out, NEXT.out]; exact ⟨by omega, by omega, .inl I0.out, by omega, by omega⟩
                      have HAL := Aside0.mk hal
                      clear hal
                      cases hv1 : s1 with
                      | true =>
                        rw [hv1] at CS1
                        have HV : Aside0 (ok = true) := ⟨by rw [hok.out]; refine flOkR_iff.2 ⟨HAL.out.1, HAL.out.2.1, by rw [FID.out]; exact HAL.out.2.2.1, HAL.out.2.2.2.1, HAL.out.2.2.2.2, .inl (by rw [FID.out, ← hs1.out]; exact hv1)⟩⟩
                        clear hv1
                        refine wp_region_wide (by kernel_rfl) (by kernel_rfl) ?_
                        repeat (go_big_quiet_step ((first | (go_at_call 87; with_reducible exact wide_same (CS1 _)) | (go_at_call 87; with_reducible exact wide_same (CS2 _)))))
                        refine wpQuiet_nil ?_
                        rintro w' ⟨x, rfl⟩
                        go_wp2
                        go_meet
                        exact ⟨by rw [HV.out]; rfl, ⟨wb_below _ x⟩⟩
                      | false =>
                        rw [hv1] at CS1
                        have HV1 := Aside0.mk hv1
                        clear hv1
                        cases hv2 : s2 with
                        | true =>
                          rw [hv2] at CS2
                          have HV : Aside0 (ok = true) := ⟨by rw [hok.out]; refine flOkR_iff.2 ⟨HAL.out.1, HAL.out.2.1, by rw [FID.out]; exact HAL.out.2.2.1, HAL.out.2.2.2.1, HAL.out.2.2.2.2, .inr (by rw [FID.out, ← hs2.out]; exact hv2)⟩⟩
                          clear hv2
                          refine wp_region_wide (by kernel_rfl) (by kernel_rfl) ?_
                          repeat (go_big_quiet_step ((first | (go_at_call 87; with_reducible exact wide_same (CS1 _)) | (go_at_call 87; with_reducible exact wide_same (CS2 _)))))
                          refine wpQuiet_nil ?_
                          rintro w' ⟨x, rfl⟩
                          go_wp2
                          go_meet
                          exact ⟨by rw [HV.out]; rfl, ⟨wb_below _ x⟩⟩
                        | false =>
                          rw [hv2] at CS2
                          have HV : Aside0 (ok = false) := ⟨by rw [hok.out]; exact flOkR_false (fun k => by obtain ⟨k1, k2, k3, k4, k5, k6⟩ := k; rw [FID.out, ← hs1.out, ← hs2.out, HV1.out, hv2] at k6; rcases k6 with k6 | k6 <;> cases k6)⟩
                          clear hv2
                          refine wp_region_wide (by kernel_rfl) (by kernel_rfl) ?_
                          repeat (go_big_quiet_step ((first | (go_at_call 87; with_reducible exact wide_same (CS1 _)) | (go_at_call 87; with_reducible exact wide_same (CS2 _)))))
                          refine wpQuiet_nil ?_
                          rintro w' ⟨x, rfl⟩
                          go_wp2
                          go_meet
                          exact ⟨by rw [HV.out]; rfl, ⟨wb_below _ x⟩⟩
            · obtain ⟨k, rfl⟩ : ∃ k, i = k + 1 := ⟨i - 1, by omega⟩
              clear hi0
              obtain ⟨p, hp⟩ : ∃ p, s.files[k]? = some p := ⟨_, List.getElem?_eq_getElem (by rw [LF.out]; omega)⟩
              obtain ⟨ad', D', dc', had, e0, _, _, _, _⟩ := atFl (Kd.C_below HF0.out HBw4.out) k p hp
              obtain rfl : ad = ad' := by injection had
              obtain ⟨pid, hpid⟩ : ∃ n, p.id = n := ⟨_, rfl⟩
              rw [hpid] at e0
              have E0 := wb_cell e0
              have PID := Aside0.mk hpid
              have PRV : Aside0 (s.files.getD (k + 1 - 1) zFl = p) := ⟨by rw [Nat.add_sub_cancel, List.getD_eq_getElem?_getD, hp]; rfl⟩
              clear hp had e0 hpid
              by_cases g0 : fid < 1
              · have HV : Aside0 (ok = false) := ⟨by rw [hok.out]; exact flOkR_false (fun k => by obtain ⟨k1, k2, k3, k4, k5, k6⟩ := k; have := FID.out; have := FSY.out; have := FLD.out; have := NEXT.out; omega)⟩
                refine wp_region_wide (by kernel_rfl) (by kernel_rfl) ?_
                repeat (go_big_quiet_step ((first | (go_at_call 87; with_reducible exact wide_same (CS1 _)) | (go_at_call 87; with_reducible exact wide_same (CS2 _)))))
                refine wpQuiet_nil ?_
                rintro w' ⟨x, rfl⟩
                go_wp2
                go_meet
                exact ⟨by rw [HV.out]; rfl, ⟨wb_below _ x⟩⟩
              · skip
                by_cases g1 : next ≤ fid
                · have HV : Aside0 (ok = false) := ⟨by rw [hok.out]; exact flOkR_false (fun k => by obtain ⟨k1, k2, k3, k4, k5, k6⟩ := k; have := FID.out; have := FSY.out; have := FLD.out; have := NEXT.out; omega)⟩
                  refine wp_region_wide (by kernel_rfl) (by kernel_rfl) ?_
                  repeat (go_big_quiet_step ((first | (go_at_call 87; with_reducible exact wide_same (CS1 _)) | (go_at_call 87; with_reducible exact wide_same (CS2 _)))))
                  refine wpQuiet_nil ?_
                  rintro w' ⟨x, rfl⟩
                  go_wp2
                  go_meet
                  exact ⟨by rw [HV.out]; rfl, ⟨wb_below _ x⟩⟩
                · skip
                  by_cases g2 : fid ≤ pid
                  · have HV : Aside0 (ok = false) := ⟨by rw [hok.out]; exact flOkR_false (fun k => by obtain ⟨k1, k2, k3, k4, k5, k6⟩ := k; have := FID.out; have := FSY.out; have := FLD.out; have := NEXT.out; rw [PRV.out, PID.out] at k3; omega)⟩
                    refine wp_region_wide (by kernel_rfl) (by kernel_rfl) ?_
                    repeat (go_big_quiet_step ((first | (go_at_call 87; with_reducible exact wide_same (CS1 _)) | (go_at_call 87; with_reducible exact wide_same (CS2 _)))))
                    refine wpQuiet_nil ?_
                    rintro w' ⟨x, rfl⟩
                    go_wp2
                    go_meet
                    exact ⟨by rw [HV.out]; rfl, ⟨wb_below _ x⟩⟩
                  · skip
                    by_cases g3 : fsy < 0
                    · have HV : Aside0 (ok = false) := ⟨by rw [hok.out]; exact flOkR_false (fun k => by obtain ⟨k1, k2, k3, k4, k5, k6⟩ := k; have := FID.out; have := FSY.out; have := FLD.out; have := NEXT.out; omega)⟩
                      refine wp_region_wide (by kernel_rfl) (by kernel_rfl) ?_
                      repeat (go_big_quiet_step ((first | (go_at_call 87; with_reducible exact wide_same (CS1 _)) | (go_at_call 87; with_reducible exact wide_same (CS2 _)))))
                      refine wpQuiet_nil ?_
                      rintro w' ⟨x, rfl⟩
                      go_wp2
                      go_meet
                      exact ⟨by rw [HV.out]; rfl, ⟨wb_below _ x⟩⟩
                    · skip
                      by_cases g4 : (ld : Int) < fsy
                      · have HV : Aside0 (ok = false) := ⟨by rw [hok.out]; exact flOkR_false (fun k => by obtain ⟨k1, k2, k3, k4, k5, k6⟩ := k; have := FID.out; have := FSY.out; have := FLD.out; have := NEXT.out; omega)⟩
                        refine wp_region_wide (by kernel_rfl) (by kernel_rfl) ?_
                        repeat (go_big_quiet_step ((first | (go_at_call 87; with_reducible exact wide_same (CS1 _)) | (go_at_call 87; with_reducible exact wide_same (CS2 _)))))
                        refine wpQuiet_nil ?_
                        rintro w' ⟨x, rfl⟩
                        go_wp2
                        go_meet
                        exact ⟨by rw [HV.out]; rfl, ⟨wb_below _ x⟩⟩
                      · skip
                        have hal : (1 ≤ f.id ∧ f.id < s.next ∧ (k + 1 = 0 ∨ (s.files.getD (k + 1 - 1) zFl).id < fid) ∧ 0 ≤ f.sync ∧ f.sync ≤ f.data.length) := by rw [FID.out, FSY.out, FLD.out, NEXT.out]; exact ⟨by omega, by omega, .inr (by have := PRV.out; rw [this, PID.out]; omega), by omega, by omega⟩
                        have HAL := Aside0.mk hal
                        clear hal
                        cases hv1 : s1 with
                        | true =>
                          rw [hv1] at CS1
                          have HV : Aside0 (ok = true) := ⟨by rw [hok.out]; refine flOkR_iff.2 ⟨HAL.out.1, HAL.out.2.1, by rw [FID.out]; exact HAL.out.2.2.1, HAL.out.2.2.2.1, HAL.out.2.2.2.2, .inl (by rw [FID.out, ← hs1.out]; exact hv1)⟩⟩
                          clear hv1
                          refine wp_region_wide (by kernel_rfl) (by kernel_rfl) ?_
                          repeat (go_big_quiet_step ((first | (go_at_call 87; with_reducible exact wide_same (CS1 _)) | (go_at_call 87; with_reducible exact wide_same (CS2 _)))))
                          refine wpQuiet_nil ?_
                          rintro w' ⟨x, rfl⟩
                          go_wp2
                          go_meet
                          exact ⟨by rw [HV.out]; rfl, ⟨wb_below _ x⟩⟩
                        | false =>
                          rw [hv1] at CS1
                          have HV1 := Aside0.mk hv1
                          clear hv1
                          cases hv2 : s2 with
                          | true =>
                            rw [hv2] at CS2
                            have HV : Aside0 (ok = true) := ⟨by rw [hok.out]; refine flOkR_iff.2 ⟨HAL.out.1, HAL.out.2.1, by rw [FID.out]; exact HAL.out.2.2.1, HAL.out.2.2.2.1, HAL.out.2.2.2.2, .inr (by rw [FID.out, ← hs2.out]; exact hv2)⟩⟩
                            clear hv2
                            refine wp_region_wide (by kernel_rfl) (by kernel_rfl) ?_
                            repeat (go_big_quiet_step ((first | (go_at_call 87; with_reducible exact wide_same (CS1 _)) | (go_at_call 87; with_reducible exact wide_same (CS2 _)))))
                            refine wpQuiet_nil ?_
                            rintro w' ⟨x, rfl⟩
                            go_wp2
                            go_meet
                            exact ⟨by rw [HV.out]; rfl, ⟨wb_below _ x⟩⟩
                          | false =>
                            rw [hv2] at CS2
                            have HV : Aside0 (ok = false) := ⟨by rw [hok.out]; exact flOkR_false (fun k => by obtain ⟨k1, k2, k3, k4, k5, k6⟩ := k; rw [FID.out, ← hs1.out, ← hs2.out, HV1.out, hv2] at k6; rcases k6 with k6 | k6 <;> cases k6)⟩
                            clear hv2
                            refine wp_region_wide (by kernel_rfl) (by kernel_rfl) ?_
                            repeat (go_big_quiet_step ((first | (go_at_call 87; with_reducible exact wide_same (CS1 _)) | (go_at_call 87; with_reducible exact wide_same (CS2 _)))))
                            refine wpQuiet_nil ?_
                            rintro w' ⟨x, rfl⟩
                            go_wp2
                            go_meet
                            exact ⟨by rw [HV.out]; rfl, ⟨wb_below _ x⟩⟩
          case rest =>
            obtain ⟨rfl, HBc2⟩ := hcut
            cases hov : ok with
            | false =>
              have HQ2 : Aside0 (q = 9) := ⟨by rw [HQ1.out, flToR_false (s := s) (i := i + 1) (by rw [HTO.out]; exact hov) (by omega)]; rfl⟩
              clear hov
              go_wp2
              go_ret
              exact ⟨by rw [HQ2.out]; rfl, bthen HBw4.out HBc2.out⟩
            | true =>
              have HT2 : Aside0 (flToR s (i + 1) = true) := ⟨by rw [HTO.out]; exact hov⟩
              clear hov
              go_wp2
              go_roundg (lf - (i + 1))
              case measure => omega
              case rel => exact ⟨i + 1, by go_num, by omega, HT2, ⟨bthen HBr.out (bthen HB4.out HBc2.out)⟩⟩
        · have hnf : ¬ ((i : Int) < (lf : Int)) := by omega
          have HQ3 : Aside0 (q = if namesOk s.files s.names && namesOk s.files s.safe then 0 else 9) := ⟨by
            obtain rfl : i = lf := by omega
            rw [HQ1.out, HT.out]; rfl⟩
          obtain ⟨n1, hn1⟩ := named (namesOk s.files s.names)
          obtain ⟨n2, hn2⟩ := named (namesOk s.files s.safe)
          obtain ⟨z0, _, z2, z3, z4, _, _, _, _, _⟩ := all5 HKr.out
          go_upto_region 9 with (fail)
          go_wp2_with fail
          refine (names_any s.files s.names cap next F N S N lf fc ln nc ls sc ln nc wr (Kd.C_below HF0.out HBw.out) (Kd.C_below HN0.out HBw.out) hlf1 hln1).mono ?_
          rw [← hn1.out]
          rintro e w1 ⟨rfl, hb1⟩
          have HB1 := Aside0.mk (bthen HBw.out hb1)
          obtain ⟨u0, u1, u2, u3, u4, _, _, _, _, _⟩ := all5 (blk_keep HKr.out hb1)
          clear y1 z0 z2 z3 z4 hb1
          cases hv1 : n1 with
          | false =>
            have HQ4 : Aside0 (q = 9) := ⟨by rw [HQ3.out, ← hn1.out, hv1]; rfl⟩
            clear hv1
            go_wp2
            go_ret
            exact ⟨by rw [HQ4.out]; rfl, HB1.out⟩
          | true =>
            have HQ4 : Aside0 (q = if n2 then 0 else 9) := ⟨by rw [HQ3.out, ← hn1.out, hv1, ← hn2.out]; rfl⟩
            clear hv1
            go_wp2_with fail
            refine (names_any s.files s.safe cap next F N S S lf fc ln nc ls sc ls sc w1 (Kd.C_below HF0.out HB1.out) (Kd.C_below HS0.out HB1.out) hlf1 hls1).mono ?_
            rw [← hn2.out]
            rintro e w2 ⟨rfl, hb2⟩
            have HB2 := Aside0.mk (bthen HB1.out hb2)
            clear hb2
            cases hv2 : n2 with
            | false =>
              have HQ5 : Aside0 (q = 9) := ⟨by rw [HQ4.out, hv2]; rfl⟩
              clear hv2
              go_wp2
              go_ret
              exact ⟨by rw [HQ5.out]; rfl, HB2.out⟩
            | true =>
              have HQ5 : Aside0 (q = 0) := ⟨by rw [HQ4.out, hv2]; rfl⟩
              clear hv2
              go_wp2
              go_ret
              exact ⟨by rw [HQ5.out]; rfl, HB2.out⟩
end Go.Proofs.YtfakfgblaakgdaaGreat.Files.Ref

/- Of, Check, List of a state that is there; the document's Check: contracts in short. -/
namespace Go.Proofs.YtfakfgblaakgdaaGreat.Files
set_option linter.unusedVariables false
set_option linter.unusedSimpArgs false
open Go.RowKit Go.Proofs.YtfakfgblaakgdaaGreatW.PrintWords Go.Proofs.YtfakfgblaakgdaaGreatW.PrintLast Go.Proofs.YtfakfgblaakgdaaGreat.Base Go.Proofs.YtfakfgblaakgdaaGreat.Cells Go.Proofs.YtfakfgblaakgdaaGreat.Ints Go.Proofs.YtfakfgblaakgdaaGreat.Var Go.Proofs.YtfakfgblaakgdaaGreat.EditPure Go.Proofs.YtfakfgblaakgdaaGreat.Edit Go.Proofs.YtfakfgblaakgdaaGreat.Sets Go.Proofs.YtfakfgblaakgdaaGreat.Wide Go.Proofs.YtfakfgblaakgdaaGreat.RowsC

theorem At.show_ {w : World} {v : Value} {s : St} (h : At w v s) : ∃ n F lf fc N ln nc S ls sc m, v = .agg #[.int .i64 n, .slice F lf fc, .slice N ln nc, .slice S ls sc, .int .i64 m] := by
  obtain ⟨F, fc, N, nc, S, sc, h1, _⟩ := h
  exact ⟨_, _, _, _, _, _, _, _, _, _, _, h1⟩
theorem Hd.at_ {w : World} {s : St} {F N S : Option Addr} {fc nc sc : Nat} (h : Hd w s F fc N nc S sc) : At w (.agg #[.int .i64 s.cap, .slice F s.files.length fc, .slice N s.names.length nc, .slice S s.safe.length sc, .int .i64 s.next]) s := ⟨F, fc, N, nc, S, sc, rfl, h⟩
theorem check_at {s : St} {v : Value} {w : World} (h : At w v s) (hs : Small s) (hw : Wf s) :
    Calls Tryz.prog 33 #[v] w fun e w' => e = .returned (.int .i64 (stE s)) ∧ Below w.heap.size w w' := by
  obtain ⟨F, fc, N, nc, S, sc, rfl, h2⟩ := h
  exact check_any s F N S fc nc sc w h2 hs hw
theorem rcheck_at {s : St} {v : Value} {w : World} (h : At w v s) (hs : Small s) :
    Calls Tryz.prog 41 #[v] w fun e w' => e = .returned (.int .i64 (stE s)) ∧ Below w.heap.size w w' := by
  obtain ⟨F, fc, N, nc, S, sc, rfl, h2⟩ := h
  exact Ref.check_any s F N S _ fc _ nc _ sc w h2 hs rfl rfl rfl
end Go.Proofs.YtfakfgblaakgdaaGreat.Files

/- The document's files: ownNames, without, with: walked. -/
namespace Go.Proofs.YtfakfgblaakgdaaGreat.Files.Ref
set_option linter.unusedVariables false
set_option linter.unusedSimpArgs false
open Go.RowKit Go.Proofs.YtfakfgblaakgdaaGreatW.PrintWords Go.Proofs.YtfakfgblaakgdaaGreatW.PrintLast Go.Proofs.YtfakfgblaakgdaaGreat.Base Go.Proofs.YtfakfgblaakgdaaGreat.Cells Go.Proofs.YtfakfgblaakgdaaGreat.Ints Go.Proofs.YtfakfgblaakgdaaGreat.Var Go.Proofs.YtfakfgblaakgdaaGreat.EditPure Go.Proofs.YtfakfgblaakgdaaGreat.Edit Go.Proofs.YtfakfgblaakgdaaGreat.Sets Go.Proofs.YtfakfgblaakgdaaGreat.Wide Go.Proofs.YtfakfgblaakgdaaGreat.RowsC

/-- what with has laid: x is not there yet, or it is -/
structure LaidN (l : List Nm) (x : Nm) (b : Bool) (out : List Nm) : Prop where
  no : b = false → out = l ∧ ∀ n ∈ l, sLt n.name x.name = true
  yes : b = true → out = giveN l x ∧ ∃ n ∈ l, sLt x.name n.name = true
  few : out.length ≤ l.length + 1

end Go.Proofs.YtfakfgblaakgdaaGreat.Files.Ref

/- The document's files: Copied, Own: walked. -/
namespace Go.Proofs.YtfakfgblaakgdaaGreat.Files.Ref
set_option linter.unusedVariables false
set_option linter.unusedSimpArgs false
open Go.RowKit Go.Proofs.YtfakfgblaakgdaaGreatW.PrintWords Go.Proofs.YtfakfgblaakgdaaGreatW.PrintLast Go.Proofs.YtfakfgblaakgdaaGreat.Base Go.Proofs.YtfakfgblaakgdaaGreat.Cells Go.Proofs.YtfakfgblaakgdaaGreat.Ints Go.Proofs.YtfakfgblaakgdaaGreat.Var Go.Proofs.YtfakfgblaakgdaaGreat.EditPure Go.Proofs.YtfakfgblaakgdaaGreat.Edit Go.Proofs.YtfakfgblaakgdaaGreat.Sets Go.Proofs.YtfakfgblaakgdaaGreat.Wide Go.Proofs.YtfakfgblaakgdaaGreat.RowsC

set_option maxRecDepth 100000 in
set_option maxHeartbeats 1000000 in
theorem copied_any (A : Option Addr) (n c : Nat) (l : List Int) (w : World) (hr : ReadsInt w .u8 A n l) (hb : n ≤ 1048576) :
    Calls Tryz.prog 103 #[.slice A n c] w fun e w' => ∃ v, e = .returned v ∧ RB w' w.heap.size v l ∧ Below w.heap.size w w' := by
  have hn : l.length = n := hr.1
  subst hn
  have HR := Aside0.mk hr
  clear hr
  go_enter Tryz.func103, Tryz.ntmps103
  go_wp2_with (at_builtin; refine print_append_row (w0 := w) w.heap.size (by rfl) (.tmp 4) (.tmp 5) 88 5 .u8 1 (by rfl) Tryz.underlying88 infoB (by decide) (.slice none 0 0) [] l A l.length c (by rfl) (by rfl) ?aO ?aR ?aB ?aS ?c1 ?_; (case aO => exact own_nil _ _ _ _); (case aR => exact HR.out); (case aB => exact Below.refl _ _); (case aS => exact Nat.le_refl _); (case c1 => simp only [List.length_nil]; omega); intro v1 w1 hown hB1 hg1 hat; have HO1 := Aside0.mk hown; have HB1 := Aside0.mk hB1; clear hown hB1 hg1 hat)
  go_ret
  exact ⟨_, rfl, by have := HO1.out; rwa [List.nil_append] at this, HB1.out⟩

/-- what Own's head leaves in its variable -/
structure OwnHd (W : World) (s : St) (n m : Int) (g : Nat) (A2 A3 : Option Addr) (l2 c2 l3 c3 : Nat) (w : World) : Prop where
  low : W.heap.size ≤ g
  blk : w.heap[g]? = some (.cells #[.int .i64 n, .slice none 0 0, .slice A2 l2 c2, .slice A3 l3 c3, .int .i64 m] 25 (0, 0))
  rN : RN w W.heap.size (.slice A2 l2 c2) s.names
  rS : RN w W.heap.size (.slice A3 l3 c3) s.safe
  bel : Below W.heap.size W w
end Go.Proofs.YtfakfgblaakgdaaGreat.Files.Ref

/- The document's Read and List: walked. -/
namespace Go.Proofs.YtfakfgblaakgdaaGreat.Files.Ref
set_option linter.unusedVariables false
set_option linter.unusedSimpArgs false
open Go.RowKit Go.Proofs.YtfakfgblaakgdaaGreatW.PrintWords Go.Proofs.YtfakfgblaakgdaaGreatW.PrintLast Go.Proofs.YtfakfgblaakgdaaGreat.Base Go.Proofs.YtfakfgblaakgdaaGreat.Cells Go.Proofs.YtfakfgblaakgdaaGreat.Ints Go.Proofs.YtfakfgblaakgdaaGreat.Var Go.Proofs.YtfakfgblaakgdaaGreat.EditPure Go.Proofs.YtfakfgblaakgdaaGreat.Edit Go.Proofs.YtfakfgblaakgdaaGreat.Sets Go.Proofs.YtfakfgblaakgdaaGreat.Wide Go.Proofs.YtfakfgblaakgdaaGreat.RowsC Go.Proofs.YtfakfgblaakgdaaGreat.StrRows

set_option maxRecDepth 100000 in
set_option maxHeartbeats 8000000 in
theorem read_any (s : St) (q : ByteArray) (F N S : Option Addr) (lf fc ln nc ls sc : Nat) (w : World) (h : Hd w s F fc N nc S sc) (hs : Small s) (hlf : s.files.length = lf) (hln : s.names.length = ln) (hls : s.safe.length = ls) :
    Calls Tryz.prog 55 #[.agg #[.int .i64 s.cap, .slice F lf fc, .slice N ln nc, .slice S ls sc, .int .i64 s.next], .string q] w fun e w' => ∃ v, e = .returned (.tuple #[v, .int .i64 (readP s q).2]) ∧ RB w' w.heap.size v (readP s q).1 ∧ Below w.heap.size w w' := by
  have HH := Aside0.mk h
  have HS := Aside0.mk hs
  have HF0 := Aside0.mk (hlf ▸ h.hF : kFl.C w F lf s.files)
  have HN0 := Aside0.mk (hln ▸ h.hN : kNm.C w N ln s.names)
  have LF := Aside0.mk hlf
  have LN := Aside0.mk hln
  have LS := Aside0.mk hls
  have hlf1 : lf ≤ 1048576 := by rw [← hlf]; exact hs.lf
  have hln1 : ln ≤ 1048576 := by rw [← hln]; exact hs.ln
  obtain ⟨dp, hdp⟩ := named (readP s q)
  rw [← hdp.out]
  clear h hs hlf hln hls
  go_enter Tryz.func55, Tryz.ntmps55
  go_upto_region 1 with (fail)
  obtain ⟨W, hW⟩ : ∃ W, W = w.alloc (.cells #[.int .i64 s.cap, .slice F lf fc, .slice N ln nc, .slice S ls sc, .int .i64 s.next] 25) := ⟨_, rfl⟩
  have hk2 : W.heap[w.heap.size]? = some (.cells #[.int .i64 s.cap, .slice F lf fc, .slice N ln nc, .slice S ls sc, .int .i64 s.next] 25 (0, 0)) := by rw [hW]; exact blk_new _ _
  have HB : Aside0 (Below w.heap.size w W) := ⟨by rw [hW]; exact below_alloc (Below.refl _ _) _⟩
  rw [← hW]
  clear hW
  have HJ := Aside0.mk hk2
  obtain ⟨x0, x1, x2, x3, x4, _, _, _, _, _⟩ := all5 hk2
  clear hk2
  go_wp2_with fail
  refine (check_any s F N S lf fc ln nc ls sc W (HH.out.below HB.out) HS.out LF.out LN.out LS.out).mono ?_
  obtain ⟨E, hE⟩ := named (stE s)
  rw [← hE.out]
  rintro e w1 ⟨rfl, hb1⟩
  have HB1 := Aside0.mk (bthen HB.out hb1)
  have HJ1 := Aside0.mk (blk_keep HJ.out hb1)
  clear hb1 x0 x1 x2 x3 x4
  cases hst : stB s with
  | false =>
    obtain rfl : E = 9 := by rw [hE.out, stE, hst]; rfl
    have HDP : Aside0 (dp = ([], 9)) := ⟨by rw [hdp.out, readP, if_pos hst]⟩
    clear hst
    go_wp2
    refine bodyPost_ret (results_tmp2 rfl _ _ _) rfl ?_
    exact ⟨.slice none 0 0, by rw [HDP.out]; rfl, by rw [HDP.out]; exact own_nil _ _ _ _, HB1.out⟩
  | true =>
    obtain rfl : E = 0 := by rw [hE.out, stE, hst]; rfl
    have HGD : Aside0 (Good s) := ⟨stB_iff.1 hst⟩
    have HNF : Aside0 (stB s = true) := ⟨hst⟩
    clear hst
    obtain ⟨x0, x1, x2, x3, x4, _, _, _, _, _⟩ := all5 HJ1.out
    go_wp2_with fail
    refine (find_any s.names q N ln nc w1 (Kd.C_below HN0.out HB1.out) hln1).mono ?_
    obtain ⟨ix, hix⟩ := named (findIx s.names q)
    rw [← hix.out]
    rintro e wz ⟨rfl, rfl⟩
    rcases findIx_cases s.names q with ⟨q1, q2, q3⟩ | ⟨k, n, q1, q2, q3, q4, q5⟩
    · obtain rfl : ix = -1 := by rw [hix.out, q1]
      have HDP : Aside0 (dp = ([], 71)) := ⟨by rw [hdp.out, readP, if_neg (by rw [HNF.out]; decide), q3]⟩
      clear q1 q2 q3
      go_wp2
      refine bodyPost_ret (results_tmp2 rfl _ _ _) rfl ?_
      exact ⟨.slice none 0 0, by rw [HDP.out]; rfl, by rw [HDP.out]; exact own_nil _ _ _ _, HB1.out⟩
    · obtain rfl : ix = (k : Int) := by rw [hix.out, q1]
      obtain ⟨kf, f, r1, r2, r3⟩ := fileIx_some (HGD.out.nm.each n (List.mem_of_getElem? q2)).2
      have HDP : Aside0 (dp = (f.data, 0)) := ⟨by rw [hdp.out, readP, if_neg (by rw [HNF.out]; decide), q5]; show (dataOf s n.id, (0 : Int)) = _; rw [dataOf_at HGD.out.fl.asc r2 r3]⟩
      have hkl' : (k : Int) < (ln : Int) := by have := (List.getElem?_eq_some_iff.1 q2).1; have := LN.out; omega
      have hkf' : (kf : Int) < (lf : Int) := by have := (List.getElem?_eq_some_iff.1 r2).1; have := LF.out; omega
      obtain ⟨ad, hNs, _, c1⟩ := atNm (Kd.C_below HN0.out HB1.out) k n q2
      obtain ⟨adF, D, dc, hFs, _, d1, _, _, hrd⟩ := atFl (Kd.C_below HF0.out HB1.out) kf f r2
      subst hNs hFs
      have hdl := HS.out.ld f (List.mem_of_getElem? r2)
      obtain ⟨nid, hnid⟩ : ∃ x, n.id = x := ⟨_, rfl⟩
      obtain ⟨ld, hld⟩ : ∃ x, f.data.length = x := ⟨_, rfl⟩
      rw [hnid] at c1 r1
      rw [hld] at d1 hrd hdl
      have HRD := Aside0.mk hrd
      have HR1 := Aside0.mk r1
      have HLD := Aside0.mk hld
      have CF : Aside0 (∀ W', Below w1.heap.size w1 W' → Calls Tryz.prog 104 #[.agg #[.int .i64 s.cap, .slice (some adF) lf fc, .slice (some ad) ln nc, .slice S ls sc, .int .i64 s.next], .int .i64 nid] W' fun e w' => e = .returned (.int .i64 (kf : Int)) ∧ Below W'.heap.size W' w') := ⟨fun W' hW => by
        have h1 := file_any s.files nid s.cap s.next (some adF) (some ad) S lf fc ln nc ls sc W' (Kd.C_below HF0.out (bthen HB1.out hW)) hlf1
        rw [HR1.out] at h1
        exact h1⟩
      clear q1 q2 q3 q4 q5 r1 r2 r3 hnid hld hrd
      go_upto_region 6 with (fail)
      have HD : Aside0 (Below w1.heap.size w1 w1.drew) := ⟨below_drew (Below.refl _ _)⟩
      have D0 := Aside0.mk (And.intro c1 d1)
      have FJ := Aside0.mk (fun (w' : World) (b : Below w1.heap.size w1 w') => all5 (blk_keep HJ1.out b))
      clear x0 x1 x2 x3 x4 c1 d1
      obtain ⟨x0, x1, x2, x3, x4, _, _, _, _, _⟩ := FJ.out _ HD.out
      have c1 := pw_cell_below HD.out D0.out.1
      have d1 := pw_cell_below HD.out D0.out.2
      go_region_held3 (fun w' => w'.cell? ⟨w.heap.size, 0, none⟩ = some (.int .i64 s.cap) ∧ w'.cell? ⟨w.heap.size, 1, none⟩ = some (.slice (some adF) lf fc) ∧ w'.cell? ⟨w.heap.size, 2, none⟩ = some (.slice (some ad) ln nc) ∧ w'.cell? ⟨w.heap.size, 3, none⟩ = some (.slice S ls sc) ∧ w'.cell? ⟨w.heap.size, 4, none⟩ = some (.int .i64 s.next) ∧ w'.cell? ⟨(ad.add (k * 2)).block, (ad.add (k * 2)).off + 1, none⟩ = some (.int .i64 nid) ∧ w'.cell? ⟨(adF.add (kf * 3)).block, (adF.add (kf * 3)).off + 1, none⟩ = some (.slice D ld dc)) (first | with_reducible exact ⟨x0, x1, x2, x3, x4, c1, d1⟩ | with_reducible exact ⟨m0, m1, m2, m3, m4, m5, m6⟩ | with_reducible exact ⟨p0, p1, p2, p3, p4, p5, p6⟩ | go_keep) (first
        | (go_at_call 104; refine (CF.out _ HD.out).mono ?_; rintro e w2 ⟨rfl, hb2⟩; (have HB2 := Aside0.mk (bthen HD.out hb2)); obtain ⟨m0, m1, m2, m3, m4, _, _, _, _, _⟩ := FJ.out _ HB2.out; (have m5 := pw_cell_below HB2.out D0.out.1); (have m6 := pw_cell_below HB2.out D0.out.2); clear hb2)
        | (go_at_call 103; refine (copied_any D ld dc f.data w2 (HRD.out.below HB2.out) hdl).mono ?_; rintro e w3 ⟨v3, rfl, hv3, hb3⟩; obtain ⟨A3, c3, rfl, _⟩ := RB_reads hv3; (have HV3 := Aside0.mk (own_weaken hv3 (Nat.le_trans HB1.out.size HB2.out.size))); (have HB3 := Aside0.mk (bthen HB2.out hb3)); obtain ⟨p0, p1, p2, p3, p4, _, _, _, _, _⟩ := FJ.out _ HB3.out; (have p5 := pw_cell_below HB3.out D0.out.1); (have p6 := pw_cell_below HB3.out D0.out.2); clear hv3 hb3))
      all_goals go_wp2
      all_goals refine bodyPost_ret (results_tmp2 rfl _ _ _) rfl ?_
      all_goals exact ⟨.slice A3 f.data.length c3, by rw [HDP.out]; rfl, by rw [HDP.out]; exact HV3.out, bthen HB1.out HB3.out⟩

end Go.Proofs.YtfakfgblaakgdaaGreat.Files.Ref

/- Acts that lay a file anew: the program's lay; the document's has and laid; walked. -/
namespace Go.Proofs.YtfakfgblaakgdaaGreat.Files
set_option linter.unusedVariables false
set_option linter.unusedSimpArgs false
open Go.RowKit Go.Proofs.YtfakfgblaakgdaaGreatW.PrintWords Go.Proofs.YtfakfgblaakgdaaGreatW.PrintLast Go.Proofs.YtfakfgblaakgdaaGreat.Base Go.Proofs.YtfakfgblaakgdaaGreat.Cells Go.Proofs.YtfakfgblaakgdaaGreat.Ints Go.Proofs.YtfakfgblaakgdaaGreat.Var Go.Proofs.YtfakfgblaakgdaaGreat.EditPure Go.Proofs.YtfakfgblaakgdaaGreat.Edit Go.Proofs.YtfakfgblaakgdaaGreat.Sets Go.Proofs.YtfakfgblaakgdaaGreat.Wide Go.Proofs.YtfakfgblaakgdaaGreat.RowsC

/-- a row of acts of one's own, their octets told -/
def RA (w : World) (base : Nat) (v : Value) (L : List (Ac × Value)) : Prop := kAd.R 92 w base (fun _ => True) v L ∧ AD w L
theorem RA.below {w w1 : World} {base : Nat} {v : Value} {L : List (Ac × Value)} (h : RA w base v L) (hb : Below w.heap.size w w1) : RA w1 base v L := ⟨Kd.R_below h.1 hb, h.2.below hb⟩
theorem RA.lower {w : World} {base base' : Nat} {v : Value} {L : List (Ac × Value)} (h : RA w base v L) (hb : base' ≤ base) : RA w base' v L := ⟨Kd.R_lower h.1 hb, h.2⟩
theorem RA.form {w : World} {base : Nat} {v : Value} {L : List (Ac × Value)} (h : RA w base v L) : ∃ A c, v = .slice A L.length c ∧ L.length ≤ c ∧ kAd.C w A L.length L := Kd.R_reads h.1
theorem AD.one {w : World} {L : List (Ac × Value)} (h : AD w L) : ∀ x ∈ L, x.2.oneCell' = true := fun x hx => by
  obtain ⟨A, c, e, _⟩ := h x hx
  rw [e]; rfl
theorem acts_R {w : World} {base : Nat} {v : Value} {L : List (Ac × Value)} (hd : AD w L) (h : CR 92 4 w base v (L.map rowAc)) : RA w base v L :=
  ⟨R_of_CR (d := kAd) (fun x hx => ⟨rfl, hd.one x hx⟩) (fun _ => rfl) h, hd⟩
theorem acts_lit (w : World) (L : List (Ac × Value)) (cs : Array Value) (hcs : cs = (L.map rowAc).flatten.toArray) : CRow 92 4 (w.alloc (.cells cs 92)) w.heap.size L.length (L.map rowAc) := by
  subst hcs
  refine ⟨_, blk_new w _, ?_, by simp, ?_, fun r hr => by obtain ⟨x, _, rfl⟩ := List.mem_map.1 hr; rfl⟩
  · rw [List.size_toArray, flatA_len]
  · simp only [List.length_map]
    rw [← flatA_len L]
    exact List.take_length
/-- the acts that lay a file anew, behind what goes -/
def lay3 (name : ByteArray) (data : List Int) (D : Value) : List (Ac × Value) := [(⟨1, name, ⟨#[]⟩, []⟩, .slice none 0 0), (⟨2, name, ⟨#[]⟩, data⟩, D), (⟨3, name, ⟨#[]⟩, []⟩, .slice none 0 0)]
def goneA (name : ByteArray) : Ac × Value := (⟨5, name, ⟨#[]⟩, []⟩, .slice none 0 0)
def layL (b : Bool) (name : ByteArray) (data : List Int) (D : Value) : List (Ac × Value) := (if b then [goneA name] else []) ++ lay3 name data D
/-- is a name there -/
def hasP (s : St) (name : ByteArray) : Bool := decide ((readP s name).2 = 0)
theorem lay3_AD {w : World} {name : ByteArray} {data : List Int} {D : Option Addr} {n c : Nat} (hn : data.length = n) (hl : n ≤ c) (h : ReadsInt w .u8 D n data) : AD w (lay3 name data (.slice D n c)) :=
  AD.append (AD.bare rfl) (AD.append (AD.full hn hl h) (AD.bare rfl))
theorem layL_AD {w : World} {b : Bool} {name : ByteArray} {data : List Int} {D : Option Addr} {n c : Nat} (hn : data.length = n) (hl : n ≤ c) (h : ReadsInt w .u8 D n data) : AD w (layL b name data (.slice D n c)) := by
  unfold layL
  refine AD.append ?_ (lay3_AD hn hl h)
  cases b
  · exact AD.nil w
  · exact AD.bare rfl

set_option maxRecDepth 100000 in
set_option maxHeartbeats 4000000 in
theorem lay_any (s : St) (name : ByteArray) (data : List Int) (v : Value) (D : Option Addr) (n dc : Nat) (w : World) (h : At w v s) (hs : Small s) (hw : Wf s) (hr : ReadsInt w .u8 D n data) (hdc : n ≤ dc) :
    Calls Tryz.prog 38 #[v, .string name, .slice D n dc] w fun e w' => ∃ v', e = .returned v' ∧ RA w' w.heap.size v' (layL (hasP s name) name data (.slice D n dc)) ∧ Below w.heap.size w w' := by
  have HA := Aside0.mk h
  have HS := Aside0.mk hs
  have HW := Aside0.mk hw
  have HR := Aside0.mk hr
  have LN : Aside0 (data.length = n) := ⟨hr.1⟩
  obtain ⟨n0, F0, lf0, fc0, N0, ln0, nc0, S0, ls0, sc0, m0, hv0⟩ := HA.out.show_
  subst hv0
  clear h hs hw hr
  go_enter Tryz.func38, Tryz.ntmps38
  go_upto_region 2 with (fail)
  obtain ⟨W0, hW0⟩ : ∃ W, W = w.alloc (.cells #[.int .i64 n0, .slice F0 lf0 fc0, .slice N0 ln0 nc0, .slice S0 ls0 sc0, .int .i64 m0] 35) := ⟨_, rfl⟩
  have hk2 : W0.heap[w.heap.size]? = some (.cells #[.int .i64 n0, .slice F0 lf0 fc0, .slice N0 ln0 nc0, .slice S0 ls0 sc0, .int .i64 m0] 35 (0, 0)) := by rw [hW0]; exact blk_new _ _
  have HB0 : Aside0 (Below w.heap.size w W0) := ⟨by rw [hW0]; exact below_alloc (Below.refl _ _) _⟩
  have hz0 : W0.heap.size = w.heap.size + 1 := by rw [hW0]; simp
  rw [← hW0]
  clear hW0
  obtain ⟨W1, hW1⟩ : ∃ W, W = W0.alloc (.cells #[.int .i64 1, .string name, .string ⟨#[]⟩, .slice none 0 0, .int .i64 2, .string name, .string ⟨#[]⟩, .slice D n dc, .int .i64 3, .string name, .string ⟨#[]⟩, .slice none 0 0] 92) := ⟨_, rfl⟩
  have HR1 : Aside0 (CRow 92 4 W1 (w.heap.size + 1) 3 ((lay3 name data (.slice D n dc)).map rowAc)) := ⟨by
    have h := acts_lit W0 (lay3 name data (.slice D n dc)) _ rfl
    rw [hz0] at h
    rw [hW1]
    exact h⟩
  have HB1 : Aside0 (Below w.heap.size w W1) := ⟨by rw [hW1]; exact below_alloc HB0.out _⟩
  have HK1 : Aside0 (W1.heap[w.heap.size]? = some (.cells #[.int .i64 n0, .slice F0 lf0 fc0, .slice N0 ln0 nc0, .slice S0 ls0 sc0, .int .i64 m0] 35 (0, 0))) := ⟨by rw [hW1]; exact blk_alloc hk2 _⟩
  rw [← hW1]
  clear hW1 hk2 hz0
  obtain ⟨x0, x1, x2, x3, x4, _, _, _, _, _⟩ := all5 HK1.out
  obtain ⟨er, her⟩ := named (readP s name).2
  go_wp2_with fail
  refine (read_at name (HA.out.below HB1.out) HS.out HW.out).mono ?_
  rw [← her.out]
  rintro e w2 ⟨v2, rfl, _, hb2⟩
  have HB2 := Aside0.mk (bthen HB1.out hb2)
  have HR2 := Aside0.mk (HR1.out.keep hb2)
  clear hb2 x0 x1 x2 x3 x4
  have HAD : Aside0 (AD w2 (lay3 name data (.slice D n dc))) := ⟨lay3_AD LN.out hdc (HR.out.below HB2.out)⟩
  have HONE : Aside0 (∀ m ∈ lay3 name data (.slice D n dc), m.2.oneCell' = true) := ⟨HAD.out.one⟩
  by_cases hq : er = 0
  · have HH : Aside0 (layL (hasP s name) name data (.slice D n dc) = goneA name :: lay3 name data (.slice D n dc)) := ⟨by
      rw [layL, hasP, ← her.out, hq]; rfl⟩
    subst hq
    obtain ⟨z, hz⟩ : ∃ z, w2.heap.size = z := ⟨_, rfl⟩
    have hb3 := below_alloc (Below.refl _ w2) (.cells #[.int .i64 5, .string name, .string ⟨#[]⟩, .slice none 0 0] 92)
    have CI : Aside0 (Calls Tryz.prog 82 #[.slice (some ⟨w.heap.size + 1, 0, none⟩) 3 3, .int .i64 0, .slice (some ⟨w2.heap.size, 0, none⟩) 1 1] (w2.alloc (.cells #[.int .i64 5, .string name, .string ⟨#[]⟩, .slice none 0 0] 92)) fun e w' => ∃ v, e = .returned v ∧ RA w' w.heap.size v (goneA name :: lay3 name data (.slice D n dc)) ∧ Below w.heap.size w w') := ⟨by
      refine (insGrowA_any (w.heap.size + 1) 3 0 (lay3 name data (.slice D n dc)) (goneA name) w2.heap.size _ HONE.out rfl (HR2.out.keep hb3) (by simp [lay3]) (by simp [lay3]) (by simp [lay3]) (blk_new _ _)).mono ?_
      rintro e w' ⟨G, rfl, hG, hrow, hb⟩
      have hbw := bthen HB2.out (bthen hb3 hb)
      refine ⟨_, rfl, acts_R (AD.append (L := [goneA name]) (AD.bare rfl) (HAD.out.below (bthen hb3 hb))) (.inr ⟨_, G, rfl, ?_, hG, hrow⟩), hbw⟩
      exact Nat.le_trans HB2.out.size hb3.size⟩
    clear hb3 hz
    go_wp2_with fail
    refine CI.out.mono ?_
    rintro e w4 ⟨v4, rfl, hv4, hb4⟩
    have HV4 := Aside0.mk hv4
    have HB4 := Aside0.mk hb4
    clear hv4 hb4
    go_wp2
    go_ret
    exact ⟨_, rfl, by rw [HH.out]; exact HV4.out, HB4.out⟩
  · have HH : Aside0 (layL (hasP s name) name data (.slice D n dc) = lay3 name data (.slice D n dc)) := ⟨by
      rw [layL, hasP, ← her.out, decide_eq_false hq]; rfl⟩
    have HV : Aside0 (RA w2 w.heap.size (.slice (some ⟨w.heap.size + 1, 0, none⟩) 3 3) (lay3 name data (.slice D n dc))) := ⟨acts_R HAD.out (.inr ⟨_, 3, rfl, by omega, by decide, HR2.out⟩)⟩
    have hq' : (er == 0) = false := by simpa using hq
    go_wp2
    go_ret
    exact ⟨_, rfl, by rw [HH.out]; exact HV.out, HB2.out⟩

theorem rread_at2 {s : St} {v : Value} {w : World} (q : ByteArray) (h : At w v s) (hs : Small s) :
    Calls Tryz.prog 55 #[v, .string q] w fun e w' => ∃ v', e = .returned (.tuple #[v', .int .i64 (readP s q).2]) ∧ RB w' w.heap.size v' (readP s q).1 ∧ Below w.heap.size w w' := by
  obtain ⟨F, fc, N, nc, S, sc, rfl, h2⟩ := h
  exact Ref.read_any s q F N S _ fc _ nc _ sc w h2 hs rfl rfl rfl

set_option maxRecDepth 100000 in
set_option maxHeartbeats 1000000 in
theorem has_any (s : St) (name : ByteArray) (v : Value) (w : World) (h : At w v s) (hs : Small s) :
    Calls Tryz.prog 93 #[v, .string name] w fun e w' => e = .returned (.bool (hasP s name)) ∧ Below w.heap.size w w' := by
  have HA := Aside0.mk h
  have HS := Aside0.mk hs
  obtain ⟨n0, F0, lf0, fc0, N0, ln0, nc0, S0, ls0, sc0, m0, hv0⟩ := HA.out.show_
  subst hv0
  clear h hs
  obtain ⟨er, her⟩ := named (readP s name).2
  have HH : Aside0 (hasP s name = (er == 0)) := ⟨by rw [hasP, ← her.out]; rfl⟩
  go_enter Tryz.func93, Tryz.ntmps93
  go_upto_region 1 with (fail)
  obtain ⟨W0, hW0⟩ : ∃ W, W = w.alloc (.cells #[.int .i64 n0, .slice F0 lf0 fc0, .slice N0 ln0 nc0, .slice S0 ls0 sc0, .int .i64 m0] 25) := ⟨_, rfl⟩
  have hk2 : W0.heap[w.heap.size]? = some (.cells #[.int .i64 n0, .slice F0 lf0 fc0, .slice N0 ln0 nc0, .slice S0 ls0 sc0, .int .i64 m0] 25 (0, 0)) := by rw [hW0]; exact blk_new _ _
  have HB0 : Aside0 (Below w.heap.size w W0) := ⟨by rw [hW0]; exact below_alloc (Below.refl _ _) _⟩
  rw [← hW0]
  clear hW0
  obtain ⟨x0, x1, x2, x3, x4, _, _, _, _, _⟩ := all5 hk2
  go_wp2_with fail
  refine (rread_at2 name (HA.out.below HB0.out) HS.out).mono ?_
  rw [← her.out]
  rintro e w2 ⟨v2, rfl, _, hb2⟩
  have HB2 := Aside0.mk (bthen HB0.out hb2)
  clear hb2 x0 x1 x2 x3 x4 hk2
  go_wp2
  go_ret
  exact ⟨by rw [HH.out]; rfl, HB2.out⟩

set_option maxRecDepth 100000 in
set_option maxHeartbeats 4000000 in
theorem laid_any (s : St) (name : ByteArray) (data : List Int) (v : Value) (D : Option Addr) (n dc : Nat) (w : World) (h : At w v s) (hs : Small s) (hr : ReadsInt w .u8 D n data) (hdc : n ≤ dc) :
    Calls Tryz.prog 46 #[v, .string name, .slice D n dc] w fun e w' => ∃ v', e = .returned v' ∧ RA w' w.heap.size v' (layL (hasP s name) name data (.slice D n dc)) ∧ Below w.heap.size w w' := by
  have HA := Aside0.mk h
  have HS := Aside0.mk hs
  have HR := Aside0.mk hr
  have LN : Aside0 (data.length = n) := ⟨hr.1⟩
  obtain ⟨n0, F0, lf0, fc0, N0, ln0, nc0, S0, ls0, sc0, m0, hv0⟩ := HA.out.show_
  subst hv0
  clear h hs hr
  obtain ⟨b, hb⟩ := named (hasP s name)
  rw [← hb.out]
  go_enter Tryz.func46, Tryz.ntmps46
  go_upto_region 2 with (fail)
  obtain ⟨W0, hW0⟩ : ∃ W, W = w.alloc (.cells #[.int .i64 n0, .slice F0 lf0 fc0, .slice N0 ln0 nc0, .slice S0 ls0 sc0, .int .i64 m0] 25) := ⟨_, rfl⟩
  have hk2 : W0.heap[w.heap.size]? = some (.cells #[.int .i64 n0, .slice F0 lf0 fc0, .slice N0 ln0 nc0, .slice S0 ls0 sc0, .int .i64 m0] 25 (0, 0)) := by rw [hW0]; exact blk_new _ _
  have HB0 : Aside0 (Below w.heap.size w W0) := ⟨by rw [hW0]; exact below_alloc (Below.refl _ _) _⟩
  rw [← hW0]
  clear hW0
  obtain ⟨x0, x1, x2, x3, x4, _, _, _, _, _⟩ := all5 hk2
  go_wp2_with fail
  refine (has_any s name _ W0 (HA.out.below HB0.out) HS.out).mono ?_
  rw [← hb.out]
  rintro e w2 ⟨rfl, hb2⟩
  have HB2 := Aside0.mk (bthen HB0.out hb2)
  clear hb2 x0 x1 x2 x3 x4 hk2
  have C3 : Aside0 (∀ W g, W.heap[g]? = some (.cells #[.int .i64 1, .string name, .string ⟨#[]⟩, .slice none 0 0, .int .i64 2, .string name, .string ⟨#[]⟩, .slice D n dc, .int .i64 3, .string name, .string ⟨#[]⟩, .slice none 0 0] 92 (0, 0)) → kAd.C W (some ⟨g, 0, none⟩) 3 (lay3 name data (.slice D n dc))) := ⟨fun W g h => by
    have hc : CRow 92 4 W g 3 ((lay3 name data (.slice D n dc)).map rowAc) := ⟨_, h, rfl, by simp [lay3], rfl, fun r hr => by obtain ⟨x, _, rfl⟩ := List.mem_map.1 hr; rfl⟩
    have h2 : kAd.R 92 W 0 (fun _ => True) (.slice (some ⟨g, 0, none⟩) 3 3) (lay3 name data (.slice D n dc)) := R_of_CR (d := kAd) (fun x hx => ⟨rfl, (lay3_AD (w := w) LN.out hdc HR.out).one x hx⟩) (fun _ => rfl) (.inr ⟨g, 3, rfl, Nat.zero_le _, by decide, hc⟩)
    exact (Kd.R_reads' h2).2.2⟩
  cases b with
  | false =>
    have hba := Aside0.mk (below_alloc (Below.refl _ w2) (.cells #[.int .i64 1, .string name, .string ⟨#[]⟩, .slice none 0 0, .int .i64 2, .string name, .string ⟨#[]⟩, .slice D n dc, .int .i64 3, .string name, .string ⟨#[]⟩, .slice none 0 0] 92))
    have HC := Aside0.mk (C3.out _ _ (blk_new w2 (.cells #[.int .i64 1, .string name, .string ⟨#[]⟩, .slice none 0 0, .int .i64 2, .string name, .string ⟨#[]⟩, .slice D n dc, .int .i64 3, .string name, .string ⟨#[]⟩, .slice none 0 0] 92)))
    go_wp2_with (at_builtin; refine Kd.R_append_rows kAd (Rr := kAd.K (w2.alloc (.cells #[.int .i64 1, .string name, .string ⟨#[]⟩, .slice none 0 0, .int .i64 2, .string name, .string ⟨#[]⟩, .slice D n dc, .int .i64 3, .string name, .string ⟨#[]⟩, .slice none 0 0] 92))) (w0 := w) w.heap.size rfl (.tmp 16) (.tmp 24) 44 92 (.agg #[.int .i64 0, .string ⟨#[]⟩, .string ⟨#[]⟩, .slice none 0 0]) 64 rfl Tryz.underlying44 Cat.infoA rfl (by decide) (by omega) (.slice none 0 0) [] (lay3 name data (.slice D n dc)) (some ⟨w2.heap.size, 0, none⟩) 3 3 (fun _ => True) (fun _ => False) rfl rfl ?aO ?aR ?aK (fun _ hk => hk.elim) (fun _ _ => trivial) ?aB ?aS ?c1 ?_; (case aO => exact Kd.R_nil _ _ _ _ _); (case aR => exact HC.out); (case aK => intro x cs hx; exact hx); (case aB => exact bthen HB2.out hba.out); (case aS => exact (bthen HB2.out hba.out).size); (case c1 => simp only [List.length_nil]; omega); intro v1 w1 hown hB1 hg1 hat; have HO1 := Aside0.mk hown; have HB1 := Aside0.mk hB1; clear hown hB1 hg1 hat)
    go_ret
    exact ⟨_, rfl, ⟨HO1.out, layL_AD (b := false) LN.out hdc (HR.out.below HB1.out)⟩, HB1.out⟩
  | true =>
    have hb5 := Aside0.mk (below_alloc (Below.refl _ w2) (.cells #[.int .i64 5, .string name, .string ⟨#[]⟩, .slice none 0 0] 92))
    have HC5 : Aside0 (kAd.C (w2.alloc (.cells #[.int .i64 5, .string name, .string ⟨#[]⟩, .slice none 0 0] 92)) (some ⟨w2.heap.size, 0, none⟩) 1 [goneA name]) := ⟨by
      have h := acts_lit w2 [goneA name] _ rfl
      have h2 : kAd.R 92 (w2.alloc (.cells #[.int .i64 5, .string name, .string ⟨#[]⟩, .slice none 0 0] 92)) 0 (fun _ => True) (.slice (some ⟨w2.heap.size, 0, none⟩) 1 1) [goneA name] := R_of_CR (d := kAd) (fun x hx => ⟨rfl, (AD.bare (w := w2) (a := ⟨5, name, ⟨#[]⟩, []⟩) rfl).one x hx⟩) (fun _ => rfl) (.inr ⟨_, 1, rfl, Nat.zero_le _, by decide, h⟩)
      exact (Kd.R_reads' h2).2.2⟩
    go_upto_region 4 with (at_builtin; refine Kd.R_append_rows kAd (Rr := kAd.K (w2.alloc (.cells #[.int .i64 5, .string name, .string ⟨#[]⟩, .slice none 0 0] 92))) (w0 := w) w.heap.size rfl (.tmp 11) (.tmp 14) 44 92 (.agg #[.int .i64 0, .string ⟨#[]⟩, .string ⟨#[]⟩, .slice none 0 0]) 64 rfl Tryz.underlying44 Cat.infoA rfl (by decide) (by omega) (.slice none 0 0) [] [goneA name] (some ⟨w2.heap.size, 0, none⟩) 1 1 (fun _ => True) (fun _ => False) rfl rfl ?aO ?aR ?aK (fun _ hk => hk.elim) (fun _ _ => trivial) ?aB ?aS ?c1 ?_; (case aO => exact Kd.R_nil _ _ _ _ _); (case aR => exact HC5.out); (case aK => intro x cs hx; exact hx); (case aB => exact bthen HB2.out hb5.out); (case aS => exact (bthen HB2.out hb5.out).size); (case c1 => simp only [List.length_nil]; omega); intro v3 w3 hown hB3 hg3 hat; have HO3 := Aside0.mk hown; have HB3 := Aside0.mk hB3; clear hown hB3 hg3 hat)
    have hba := Aside0.mk (below_alloc (Below.refl _ w3) (.cells #[.int .i64 1, .string name, .string ⟨#[]⟩, .slice none 0 0, .int .i64 2, .string name, .string ⟨#[]⟩, .slice D n dc, .int .i64 3, .string name, .string ⟨#[]⟩, .slice none 0 0] 92))
    have HC := Aside0.mk (C3.out _ _ (blk_new w3 (.cells #[.int .i64 1, .string name, .string ⟨#[]⟩, .slice none 0 0, .int .i64 2, .string name, .string ⟨#[]⟩, .slice D n dc, .int .i64 3, .string name, .string ⟨#[]⟩, .slice none 0 0] 92)))
    go_wp2_with (at_builtin; refine Kd.R_append_rows kAd (Rr := kAd.K (w3.alloc (.cells #[.int .i64 1, .string name, .string ⟨#[]⟩, .slice none 0 0, .int .i64 2, .string name, .string ⟨#[]⟩, .slice D n dc, .int .i64 3, .string name, .string ⟨#[]⟩, .slice none 0 0] 92))) (w0 := w) w.heap.size rfl (.tmp 16) (.tmp 24) 44 92 (.agg #[.int .i64 0, .string ⟨#[]⟩, .string ⟨#[]⟩, .slice none 0 0]) 64 rfl Tryz.underlying44 Cat.infoA rfl (by decide) (by omega) v3 [goneA name] (lay3 name data (.slice D n dc)) (some ⟨w3.heap.size, 0, none⟩) 3 3 (fun _ => True) (fun _ => False) rfl rfl ?aO ?aR ?aK (fun _ hk => hk.elim) (fun _ _ => trivial) ?aB ?aS ?c1 ?_; (case aO => exact Kd.R_below HO3.out hba.out); (case aR => exact HC.out); (case aK => intro x cs hx; exact hx); (case aB => exact bthen HB3.out hba.out); (case aS => exact (bthen HB3.out hba.out).size); (case c1 => simp only [List.length_cons, List.length_nil]; omega); intro v1 w1 hown hB1 hg1 hat; have HO1 := Aside0.mk hown; have HB1 := Aside0.mk hB1; clear hown hB1 hg1 hat)
    go_ret
    exact ⟨_, rfl, ⟨HO1.out, layL_AD (b := true) LN.out hdc (HR.out.below HB1.out)⟩, HB1.out⟩
end Go.Proofs.YtfakfgblaakgdaaGreat.Files
