/- A part of the proof: The leaves of chapter 11, walked: comparing, the order of tables, may a table be. -/
import Derived.Test.YtfakfgblaakgdaaGreatPkActs2
import Derived.Test.YtfakfgblaakgdaaGreatProg
import Derived.WalkKit
import Derived.WalkLawsBesides
import Derived.KernelRfl
import Derived.Deep.QuietTactic
import Derived.BigQuiet
import Derived.Deep.LoopGhost
import Derived.Deep.DeepCutAuto
import Derived.Deep.CutBlock
import Derived.Deep.RegionHeld3
import Derived.Deep.RegionLaw
import Derived.Laws.Strings
import Derived.Laws.IdiomCopy
import Derived.Lib.SliceRun

/- The leaves of chapter 11, walked: comparing, the order of tables, may a table be. -/
namespace Go.Proofs.YtfakfgblaakgdaaGreat.Edit
set_option linter.unusedVariables false
set_option linter.unusedSimpArgs false
open Go.RowKit Go.Proofs.YtfakfgblaakgdaaGreatW.PrintWords Go.Proofs.YtfakfgblaakgdaaGreatW.PrintLast Go.Proofs.YtfakfgblaakgdaaGreat.Base Go.Proofs.YtfakfgblaakgdaaGreat.EditPure

theorem within_any (n lo hi : Int) (w : World) :
    Calls Tryz.prog 79 #[.int .i64 n, .int .i64 lo, .int .i64 hi] w fun e w' => e = .returned (.bool (within n lo hi)) ∧ w = w' := by
  by_cases h : lo ≤ n
  · have hw : Aside0 (within n lo hi = decide (n ≤ hi)) := ⟨by simp [within, h]⟩
    go_enter Tryz.func79, Tryz.ntmps79
    go_wp2
    go_ret
    exact ⟨by rw [hw.out]; rfl, rfl⟩
  · have hw : Aside0 (within n lo hi = false) := ⟨by simp [within, h]⟩
    go_enter Tryz.func79, Tryz.ntmps79
    go_wp2
    go_ret
    exact ⟨by rw [hw.out]; rfl, rfl⟩

theorem isNaNI_any (n : Int) (w : World) :
    Calls Tryz.prog 160 #[.int .i64 n] w fun e w' => e = .returned (.bool false) ∧ w = w' := by
  go_enter Tryz.func160, Tryz.ntmps160
  go_wp2
  go_ret
  exact ⟨by simp, rfl⟩

theorem cmpI_any (a b : Int) (w : World) :
    Calls Tryz.prog 131 #[.int .i64 a, .int .i64 b] w fun e w' => e = .returned (.int .i64 (cmpI a b)) ∧ w = w' := by
  by_cases h : a < b
  · have hw : Aside0 (cmpI a b = -1) := ⟨by simp [cmpI, h]⟩
    go_enter Tryz.func131, Tryz.ntmps131
    go_wp2_with (go_at_call 160; refine (isNaNI_any _ _).mono ?_; rintro e w' ⟨rfl, rfl⟩)
    go_ret
    exact ⟨by rw [hw.out]; rfl, rfl⟩
  · by_cases h2 : b < a
    · have hw : Aside0 (cmpI a b = 1) := ⟨by simp [cmpI, h, h2]⟩
      go_enter Tryz.func131, Tryz.ntmps131
      go_wp2_with (go_at_call 160; refine (isNaNI_any _ _).mono ?_; rintro e w' ⟨rfl, rfl⟩)
      go_ret
      exact ⟨by rw [hw.out]; rfl, rfl⟩
    · have hw : Aside0 (cmpI a b = 0) := ⟨by simp [cmpI, h, h2]⟩
      go_enter Tryz.func131, Tryz.ntmps131
      go_wp2_with (go_at_call 160; refine (isNaNI_any _ _).mono ?_; rintro e w' ⟨rfl, rfl⟩)
      go_ret
      exact ⟨by rw [hw.out]; rfl, rfl⟩

theorem isNaNS_any (n : ByteArray) (w : World) :
    Calls Tryz.prog 170 #[.string n] w fun e w' => e = .returned (.bool false) ∧ w = w' := by
  go_enter Tryz.func170, Tryz.ntmps170
  go_wp2
  go_ret
  exact ⟨by simp, rfl⟩

theorem bytesLess_asymm : ∀ (a b : List UInt8), Op.bytesLess a b = true → Op.bytesLess b a = false
  | [], [], h => by simp [Op.bytesLess] at h
  | [], _ :: _, _ => by simp [Op.bytesLess]
  | _ :: _, [], h => by simp [Op.bytesLess] at h
  | a :: x, b :: y, h => by
    simp only [Op.bytesLess, Bool.or_eq_true, decide_eq_true_eq, Bool.and_eq_true, beq_iff_eq] at h
    simp only [Op.bytesLess, Bool.or_eq_false_iff, decide_eq_false_iff_not, Bool.and_eq_false_iff, beq_eq_false_iff_ne]
    rcases h with h | ⟨rfl, h⟩
    · exact ⟨fun h' => by have := UInt8.lt_iff_toNat_lt.1 h; have := UInt8.lt_iff_toNat_lt.1 h'; omega, .inl (fun e => by subst e; have := UInt8.lt_iff_toNat_lt.1 h; omega)⟩
    · exact ⟨fun h' => by have := UInt8.lt_iff_toNat_lt.1 h'; omega, .inr (bytesLess_asymm x y h)⟩
theorem bytesLess_total : ∀ (a b : List UInt8), Op.bytesLess a b = false → Op.bytesLess b a = false → a = b
  | [], [], _, _ => rfl
  | [], _ :: _, h, _ => by simp [Op.bytesLess] at h
  | _ :: _, [], _, h => by simp [Op.bytesLess] at h
  | a :: x, b :: y, h, h' => by
    simp only [Op.bytesLess, Bool.or_eq_false_iff, decide_eq_false_iff_not, Bool.and_eq_false_iff, beq_eq_false_iff_ne] at h h'
    have e : a = b := by
      have h1 := h.1; have h2 := h'.1
      rw [UInt8.lt_iff_toNat_lt] at h1 h2
      exact UInt8.toNat_inj.1 (by omega)
    subst e
    rw [bytesLess_total x y (h.2.resolve_left (fun h => h rfl)) (h'.2.resolve_left (fun h => h rfl))]

theorem leq_bytes (a b : List UInt8) : (Op.bytesLess a b || a == b) = !Op.bytesLess b a := by
  cases h : Op.bytesLess a b with
  | true => rw [bytesLess_asymm _ _ h]; rfl
  | false =>
    cases h2 : Op.bytesLess b a with
    | true =>
      have : (a == b) = false := by rw [beq_eq_false_iff_ne]; intro e; rw [e, ← e] at h; subst e; rw [h] at h2; cases h2
      rw [this]; rfl
    | false => rw [bytesLess_total _ _ h h2]; simp

theorem cmpS_any (a b : ByteArray) (w : World) :
    Calls Tryz.prog 153 #[.string a, .string b] w fun e w' => e = .returned (.int .i64 (cmpS a b)) ∧ w = w' := by
  by_cases h : Op.bytesLess a.toList b.toList = true
  · have hw : Aside0 (cmpS a b = -1) := ⟨by simp [cmpS, sLt, h]⟩
    go_enter Tryz.func153, Tryz.ntmps153
    go_wp2_with (go_at_call 170; refine (isNaNS_any _ _).mono ?_; rintro e w' ⟨rfl, rfl⟩)
    go_ret
    exact ⟨by rw [hw.out]; rfl, rfl⟩
  · have h := Bool.eq_false_iff.2 h
    by_cases h2 : Op.bytesLess b.toList a.toList = true
    · have hw : Aside0 (cmpS a b = 1) := ⟨by simp [cmpS, sLt, h, h2]⟩
      have h3 : (a.toList == b.toList) = false := by
        rw [beq_eq_false_iff_ne]; intro e; rw [e] at h h2; rw [h] at h2; cases h2
      go_enter Tryz.func153, Tryz.ntmps153
      go_wp2_with (go_at_call 170; refine (isNaNS_any _ _).mono ?_; rintro e w' ⟨rfl, rfl⟩)
      go_ret
      exact ⟨by rw [hw.out]; rfl, rfl⟩
    · have h2 := Bool.eq_false_iff.2 h2
      have hw : Aside0 (cmpS a b = 0) := ⟨by simp [cmpS, sLt, h, h2]⟩
      have h3 : (a.toList == b.toList) = true := by rw [beq_iff_eq]; exact bytesLess_total _ _ h h2
      go_enter Tryz.func153, Tryz.ntmps153
      go_wp2_with (go_at_call 170; refine (isNaNS_any _ _).mono ?_; rintro e w' ⟨rfl, rfl⟩)
      go_ret
      exact ⟨by rw [hw.out]; rfl, rfl⟩

set_option maxRecDepth 100000 in
theorem order_any (a b : Meta) (w : World) :
    Calls Tryz.prog 117 #[.agg a.cs.toArray, .agg b.cs.toArray] w fun e w' => e = .returned (.int .i64 (ord a b)) ∧ ∃ o1 o2, w' = (w.alloc o1).alloc o2 := by
  obtain ⟨a1, a2, a3, a4, a5⟩ := a
  obtain ⟨b1, b2, b3, b4, b5⟩ := b
  simp only [Meta.cs]
  by_cases h : cmpI a2 b2 = 0
  · by_cases h2 : a2 = 0
    · have hw : Aside0 (ord ⟨a1, a2, a3, a4, a5⟩ ⟨b1, b2, b3, b4, b5⟩ = cmpI b1 a1) := ⟨by unfold ord; rw [if_neg (by simp [h]), if_pos (by simp [h2])]⟩
      have h' : (cmpI a2 b2 != 0) = false := by simp [h]
      have h2' : (a2 == 0) = true := by simp [h2]
      clear h h2
      go_enter Tryz.func117, Tryz.ntmps117
      go_wp2_with (go_at_call 131; refine (cmpI_any _ _ _).mono ?_; rintro e w' ⟨rfl, rfl⟩)
      go_ret
      exact ⟨by rw [hw.out]; rfl, _, _, rfl⟩
    · have hw : Aside0 (ord ⟨a1, a2, a3, a4, a5⟩ ⟨b1, b2, b3, b4, b5⟩ = cmpS a4 b4) := ⟨by unfold ord; rw [if_neg (by simp [h]), if_neg (by simp [h2])]⟩
      have h' : (cmpI a2 b2 != 0) = false := by simp [h]
      have h2' : (a2 == 0) = false := by simp [h2]
      clear h h2
      go_enter Tryz.func117, Tryz.ntmps117
      go_wp2_with (first | (go_at_call 131; refine (cmpI_any _ _ _).mono ?_; rintro e w' ⟨rfl, rfl⟩) | (go_at_call 153; refine (cmpS_any _ _ _).mono ?_; rintro e w' ⟨rfl, rfl⟩))
      go_ret
      exact ⟨by rw [hw.out]; rfl, _, _, rfl⟩
  · have hw : Aside0 (ord ⟨a1, a2, a3, a4, a5⟩ ⟨b1, b2, b3, b4, b5⟩ = cmpI a2 b2) := ⟨by simp [ord, h]⟩
    have h' : (cmpI a2 b2 != 0) = true := by simp [h]
    clear h
    go_enter Tryz.func117, Tryz.ntmps117
    go_wp2_with (go_at_call 131; refine (cmpI_any _ _ _).mono ?_; rintro e w' ⟨rfl, rfl⟩)
    go_ret
    exact ⟨by rw [hw.out]; rfl, _, _, rfl⟩

theorem mayKey_any (s : ByteArray) (w : World) :
    Calls Tryz.prog 152 #[.string s] w fun e w' => e = .returned (.bool (keyOk s)) ∧ w = w' := by
  by_cases h : s.toList = []
  · have hz : s.size = 0 := by rw [ByteArray.toList_eq] at h; have := data_length s; rw [h] at this; exact this.symm
    have hw : Aside0 (keyOk s = false) := ⟨by simp [keyOk, hz]⟩
    have h1 : s.toList.isEmpty = true := by simp [h]
    clear hz h
    go_enter Tryz.func152, Tryz.ntmps152
    go_wp2
    go_ret
    exact ⟨by rw [hw.out]; rfl, rfl⟩
  · have hz : 1 ≤ s.size := by
      rw [ByteArray.toList_eq] at h
      have := data_length s
      have := List.length_pos_iff.2 h
      omega
    have hw : Aside0 (keyOk s = decide (s.size ≤ 96)) := ⟨by simp [keyOk, hz]⟩
    have h1 : s.toList.isEmpty = false := by simp [h]
    clear hz h
    by_cases h2 : s.size ≤ 96
    · have hw2 : Aside0 (keyOk s = true) := ⟨by rw [hw.out]; simp [h2]⟩
      go_enter Tryz.func152, Tryz.ntmps152
      go_wp2
      go_ret
      exact ⟨by rw [hw2.out]; simp; omega, rfl⟩
    · have hw2 : Aside0 (keyOk s = false) := ⟨by rw [hw.out]; simp [h2]⟩
      go_enter Tryz.func152, Tryz.ntmps152
      go_wp2
      go_ret
      exact ⟨by rw [hw2.out]; simp; omega, rfl⟩

set_option maxRecDepth 100000 in
set_option maxHeartbeats 1000000 in
theorem may_any (m : Meta) (w : World) :
    Calls Tryz.prog 116 #[.agg m.cs.toArray] w fun e w' => e = .returned (.bool (mayM m)) ∧ ∃ o, w' = w.alloc o := by
  obtain ⟨a1, a2, a3, a4, a5⟩ := m
  simp only [Meta.cs]
  obtain ⟨r, hr⟩ := named (mayM ⟨a1, a2, a3, a4, a5⟩)
  rw [← hr.out]
  have hr1 : Aside0 (r = (within a1 1 2147483647 && (within a2 0 3 && (within a3 1 4096 && (keyOk a4 && (keyOk a5 && !Op.bytesLess a5.toList a4.toList)))))) := ⟨hr.out⟩
  go_enter Tryz.func116, Tryz.ntmps116
  go_wp2_with (first | (go_at_call 79; refine (within_any _ _ _ _).mono ?_; rintro e w' ⟨rfl, rfl⟩) | (go_at_call 152; refine (mayKey_any _ _).mono ?_; rintro e w' ⟨rfl, rfl⟩))
  all_goals go_ret
  all_goals refine ⟨?_, _, rfl⟩
  all_goals rw [hr1.out]
  all_goals simp only [*, leq_bytes, Bool.and_false, Bool.and_true, Bool.false_and, Bool.true_and]
  all_goals rfl
end Go.Proofs.YtfakfgblaakgdaaGreat.Edit

/- edit.Check, walked. -/
namespace Go.Proofs.YtfakfgblaakgdaaGreat.Edit
set_option linter.unusedVariables false
set_option linter.unusedSimpArgs false
open Go.RowKit Go.Proofs.YtfakfgblaakgdaaGreatW.PrintWords Go.Proofs.YtfakfgblaakgdaaGreatW.PrintLast Go.Proofs.YtfakfgblaakgdaaGreat.Base Go.Proofs.YtfakfgblaakgdaaGreat.EditPure Go.Proofs.YtfakfgblaakgdaaGreat.Sets

/-- the ints of tables are ints -/
def wfM (m : Meta) : Prop := inI64 m.id ∧ inI64 m.level ∧ inI64 m.count

theorem zeroBool (w : World) : (zeroValue 4).run Tryz.prog w = .ok (.bool false) w := by kernel_rfl

set_option maxRecDepth 100000 in
set_option maxHeartbeats 1000000 in
theorem check_any (A : Option Addr) (c : Nat) (l : List Meta) (seq next : Int) (w : World) (hr : Kd.C kMeta w A l.length l) (hc : l.length ≤ c) (hw : ∀ m ∈ l, inI64 m.id) :
    Calls Tryz.prog 74 #[.agg #[.slice A l.length c, .int .i64 seq, .int .i64 next]] w fun e w' => e = .returned (.int .i64 (verE l seq next)) ∧ Below w.heap.size w w' := by
  have HR := Aside0.mk hr
  have HW := Aside0.mk hw
  have hlen := Kd.C_max hr
  clear hr hw
  have hmm := @run_makeMap Tryz.prog
  obtain ⟨ok0, hok0⟩ := named (headOk l.length seq next)
  go_enter Tryz.func74, Tryz.ntmps74
  go_upto_region 1 with (fail)
  go_cut [3] (fun v3 wc => v3 = .bool ok0 ∧ wc = w.alloc (.cells #[.slice A l.length c, .int .i64 seq, .int .i64 next] 39))
  case first =>
    have hd : Aside0 (ok0 = (decide ((l.length : Int) ≤ 256) && (within next 1 2147483647 && within seq 0 1099511627776))) := ⟨by rw [hok0.out, headOk]; congr 1; simp; omega⟩
    go_wp2_with (go_at_call 79; refine (within_any _ _ _ _).mono ?_; rintro e w' ⟨rfl, rfl⟩)
    all_goals go_meet
    all_goals refine ⟨?_, rfl⟩
    all_goals rw [hd.out]
    all_goals first | (simp [*]; done) | (simp; intros; omega)
  case rest =>
    obtain ⟨rfl, rfl⟩ := hcut
    go_wp2
    obtain ⟨w1, hw1⟩ : ∃ w1, w1 = w.alloc (.cells #[.slice A l.length c, .int .i64 seq, .int .i64 next] 39) := ⟨_, rfl⟩
    have hs1 : w1.heap.size = w.heap.size + 1 := by rw [hw1]; simp
    have hb1 : Below w.heap.size w w1 := by rw [hw1]; exact below_alloc (Below.refl _ _) _
    have hx0 : w1.cell? ⟨w.heap.size, 0, none⟩ = some (.slice A l.length c) := by rw [hw1]; simp [go_sem]
    have hx2 : w1.cell? ⟨w.heap.size, 2, none⟩ = some (.int .i64 next) := by rw [hw1]; simp [go_sem]
    have HS1 := Aside0.mk hs1
    have HX0 := Aside0.mk hx0
    have HX2 := Aside0.mk hx2
    have HB1 := Aside0.mk hb1
    rw [← hw1]
    clear hs1 hx0 hx2 hb1 hw1
    go_loopg [3, 26] l.length (fun g v3 v26 wr => ∃ i : Nat, v26 = .int .i64 i ∧ g + i = l.length ∧ v3 = .bool (ok0 && okTo next l i) ∧ Aside0 (SetL Tryz.prog 3 4 wr (w.heap.size + 1) (ilits ((l.take i).map (·.id)))) ∧ Aside0 (Below w1.heap.size w1 wr))
    case atStart => exact ⟨0, rfl, by omega, by simp [okTo], ⟨by rw [← HS1.out]; exact SetL.made w1 _ _ _⟩, ⟨below_alloc (Below.refl _ _) _⟩⟩
    case round =>
      obtain ⟨i, rfl, hg, rfl, HS, HB⟩ := hrel
      have HC := Aside0.mk (Kd.C_below HR.out (bthen HB1.out HB.out))
      have hx0 : wr.cell? ⟨w.heap.size, 0, none⟩ = some (.slice A l.length c) := (HB.out.cell (p := ⟨w.heap.size, 0, none⟩) (by show w.heap.size < _; rw [HS1.out]; omega)).trans HX0.out
      have hx2 : wr.cell? ⟨w.heap.size, 2, none⟩ = some (.int .i64 next) := (HB.out.cell (p := ⟨w.heap.size, 2, none⟩) (by show w.heap.size < _; rw [HS1.out]; omega)).trans HX2.out
      have hbs : w.heap.size + 1 < wr.heap.size := HS.out.lt
      have hbs0 : w.heap.size < wr.heap.size := by omega
      have hbs1 : w.heap.size < wr.heap.size + 1 := by omega
      by_cases hlt : i < l.length
      · obtain ⟨m, hm⟩ : ∃ m, l[i]? = some m := ⟨_, List.getElem?_eq_getElem hlt⟩
        obtain ⟨ad, rfl, c0, c1, c2, c3, c4⟩ := atMeta HC.out i m hm
        have HM := Aside0.mk hm
        clear hm
        obtain ⟨okn, hokn⟩ := named (ok0 && okTo next l (i + 1))
        go_upto_block 1 with (fail)
        go_cut [3] (fun v3 wc => v3 = .bool okn ∧ Aside0 (SetL Tryz.prog 3 4 wc (w.heap.size + 1) (ilits ((l.take (i + 1)).map (·.id)))) ∧ Aside0 (Below w1.heap.size w1 wc))
        case rest =>
          obtain ⟨rfl, HS9, HL9⟩ := hcut
          go_wp2
          go_roundg (gk - 1)
          case measure => omega
          case rel => exact ⟨i + 1, by go_num, by omega, by rw [hokn.out], HS9, HL9⟩
        case first =>
        go_upto_region 6 with (fail)
        obtain ⟨W6, hW6⟩ : ∃ W6, W6 = wr.alloc (.cells #[.int .i64 m.id, .int .i64 m.level, .int .i64 m.count, .string m.low, .string m.high] 132) := ⟨_, rfl⟩
        have HW6 := Aside0.mk hW6
        clear hW6
        have hid : inI64 m.id := HW.out m (List.mem_of_getElem? HM.out)
        have HID := Aside0.mk hid
        obtain ⟨seen, hseen⟩ := named ((l.take i).any fun x => x.id == m.id)
        have HANY : Aside0 (((ilits ((l.take i).map (·.id))).any fun y => y.sameKey (.int .i64 m.id)) = seen) := ⟨by rw [any_ilits, List.any_map, hseen.out]; rfl⟩
        obtain ⟨ok1, hok1⟩ := named (ok0 && okTo next l i)
        obtain ⟨ok2, hok2⟩ := named (ok1 && stepOk next (l.take i) m)
        have HK2 : Aside0 (ok2 = (ok1 && (mayM m && (decide (m.id < next) && !seen)))) := ⟨by rw [hok2.out, stepOk, hseen.out]⟩
        rw [← hok1.out]
        clear hid
        go_cut [3] (fun v3 wc => v3 = .bool ok2 ∧ Below W6.heap.size W6 wc)
        case first =>
          go_wp2_with (first | (go_at_call 116; refine (may_any m _).mono ?_; rintro e w' ⟨rfl, o, rfl⟩) | (at_lookup; refine wpList_lookup_set ?hg (.tmp 44) (.tmp 46) 149 rfl 3 4 (Maps.int_keyed Tryz.underlying3) Tryz.underlying149 Tryz.underlying4 (zeroBool _) (w.heap.size + 1) (ilits ((l.take i).map (·.id))) rfl ?hs (.int .i64 m.id) (.int .i64 m.id) rfl (Maps.keyOf_int_mk Tryz.underlying3 (wf_i64' HID.out)) trivial ?_; (case hg => rfl); (case hs => exact (HS.out.alloc _).alloc _); rw [HANY.out]))
          all_goals go_meet
          all_goals refine ⟨?_, ?_⟩
          any_goals (rw [HW6.out]; repeat (first | exact Below.refl _ _ | apply below_alloc))
          all_goals rw [HK2.out]
          all_goals first | (simp [*]; done) | (simp [*]; omega)
        case rest =>
          obtain ⟨rfl, hb6⟩ := hcut
          rw [HW6.out] at hb6
          have HS6 : SetL Tryz.prog 3 4 wc (w.heap.size + 1) (ilits ((l.take i).map (·.id))) := (HS.out.alloc _).below hb6
          have k0 := new_later hb6 0 _ rfl
          have k1 := new_later hb6 1 _ rfl
          have k2 := new_later hb6 2 _ rfl
          have k3 := new_later hb6 3 _ rfl
          have k4 := new_later hb6 4 _ rfl
          have x0 := old_later hb6 hx0
          have x2 := old_later hb6 hx2
          have HB6 := Aside0.mk (bthen HB.out (bthen (below_alloc (Below.refl _ _) _) hb6))
          have hz6 := hb6.size
          clear hb6 hx0 hx2 c0 c1 c2 c3 c4
          go_upto_if 54 with (at_mapUpdate; refine wpList_update_set ?hg (.tmp 50) (.tmp 52) (.const (.bool true)) 149 rfl 3 4 (Maps.int_keyed Tryz.underlying3) Tryz.underlying149 Tryz.underlying4 (w.heap.size + 1) (ilits ((l.take i).map (·.id))) rfl HS6 ?hn (.int .i64 m.id) (.int .i64 m.id) rfl rfl (Maps.keyOf_int_mk Tryz.underlying3 (wf_i64' HID.out)) trivial ?_; (case hg => rfl); (case hn => simp [ilits, maxLen]; omega); intro w7 HS7 hg7)
          have y0 := hg7.cell k0 (by simp; omega)
          have y1 := hg7.cell k1 (by simp; omega)
          have y2 := hg7.cell k2 (by simp; omega)
          have y3 := hg7.cell k3 (by simp; omega)
          have y4 := hg7.cell k4 (by simp; omega)
          have z0 := hg7.cell x0 (by simp)
          have z2 := hg7.cell x2 (by simp)
          have HL7 := Aside0.mk (below_of_grown HB6.out hg7 (fun k hk => by have := HS1.out; simp at hk; omega))
          have HB7 := Aside0.mk (bthen HB1.out HL7.out)
          have hz7 := hg7.size
          have hz : wr.heap.size < w7.heap.size := by have := hz6; simp at this; omega
          have hz' : w.heap.size < w7.heap.size := by omega
          have hy1 : wr.heap.size < w7.heap.size + 1 := by omega
          have hy2 : wr.heap.size < w7.heap.size + 1 + 1 := by omega
          have hy3 : wr.heap.size < w7.heap.size + 2 := by omega
          have hy4 : w7.heap.size < w7.heap.size + 1 + 1 := by omega
          have hy5 : w7.heap.size < w7.heap.size + 2 := by omega
          clear k0 k1 k2 k3 k4 x0 x2 hg7 HB6 hz6 hz7
          have HS8 : Aside0 (SetL Tryz.prog 3 4 w7 (w.heap.size + 1) (ilits ((l.take (i + 1)).map (·.id)))) := ⟨by rw [List.take_add_one, HM.out]; simpa [ilits] using HS7⟩
          clear HS7 HS6
          have hgd : Aside0 (l.getD i zMeta = m) := ⟨by rw [List.getD_eq_getElem?_getD, HM.out]; rfl⟩
          have hto : Aside0 ((ok0 && okTo next l (i + 1)) = (ok2 && lastOk (l.take i) m)) := ⟨by rw [okTo, hgd.out, hok2.out, hok1.out, ← Bool.and_assoc, ← Bool.and_assoc]⟩
          rw [← hokn.out] at hto
          by_cases hi : i = 0
          · have hi0 : ¬ (0 < i) := by omega
            have hlast : Aside0 (okn = ok2) := ⟨by rw [hto.out]; subst hi; simp [lastOk]⟩
            clear hi
            go_wp2
            go_meet
            exact ⟨by rw [hlast.out], HS8, HL7⟩
          · obtain ⟨k, rfl⟩ : ∃ k, i = k + 1 := ⟨i - 1, by omega⟩
            clear hi
            obtain ⟨p, hp⟩ : ∃ p, l[k]? = some p := ⟨_, List.getElem?_eq_getElem (by omega)⟩
            have HK3 : Aside0 (okn = (ok2 && (decide (ord p m < 0) && (m.level == 0 || (m.level != p.level || Op.bytesLess p.high.toList m.low.toList))))) := ⟨by rw [hto.out, lastOk, List.take_add_one, hp]; simp [linkOk, sLt]⟩
            obtain ⟨ad', had, d0, d1, d2, d3, d4⟩ := atMeta (Kd.C_below HR.out HB7.out) k p hp
            obtain rfl : ad = ad' := by injection had
            clear hp had
            go_wp2_with (go_at_call 117; refine (order_any p m _).mono ?_; rintro e w' ⟨rfl, o1, o2, rfl⟩)
            all_goals go_meet
            all_goals refine ⟨?_, ⟨HS8.out.below (by repeat (first | exact Below.refl _ _ | apply below_alloc))⟩, ⟨bthen HL7.out (by repeat (first | exact Below.refl _ _ | apply below_alloc))⟩⟩
            all_goals rw [HK3.out]
            all_goals first | (simp [*]; done) | (simp [*]; omega)
      · have hie : i = l.length := by omega
        have hfin : Aside0 ((ok0 && okTo next l i) = verOk l seq next) := ⟨by rw [verOk, hok0.out, hie]⟩
        rw [hfin.out]
        clear hie
        by_cases hv : verOk l seq next = true
        · have he : Aside0 (verE l seq next = 0) := ⟨by rw [verE, if_pos hv]⟩
          go_wp2
          go_ret
          exact ⟨by rw [he.out]; rfl, bthen HB1.out HB.out⟩
        · have hv' : verOk l seq next = false := by simpa using hv
          have he : Aside0 (verE l seq next = 9) := ⟨by rw [verE, if_neg hv]⟩
          clear hv
          go_wp2
          go_ret
          exact ⟨by rw [he.out]; rfl, bthen HB1.out HB.out⟩
end Go.Proofs.YtfakfgblaakgdaaGreat.Edit

/- files: used, file (a binary search among files): walked. -/
namespace Go.Proofs.YtfakfgblaakgdaaGreat.Files
set_option linter.unusedVariables false
set_option linter.unusedSimpArgs false
open Go.RowKit Go.Proofs.YtfakfgblaakgdaaGreatW.PrintWords Go.Proofs.YtfakfgblaakgdaaGreatW.PrintLast Go.Proofs.YtfakfgblaakgdaaGreat.Base Go.Proofs.YtfakfgblaakgdaaGreat.Cells Go.Proofs.YtfakfgblaakgdaaGreat.Ints Go.Proofs.YtfakfgblaakgdaaGreat.Var Go.Proofs.YtfakfgblaakgdaaGreat.EditPure Go.Proofs.YtfakfgblaakgdaaGreat.Edit

/-- octets of all files -/
def usedF (l : List Fl) : Int := (l.map fun f => (f.data.length : Int)).sum
theorem usedF_snoc (l : List Fl) (f : Fl) : usedF (l ++ [f]) = usedF l + f.data.length := by simp [usedF]

set_option maxRecDepth 100000 in
set_option maxHeartbeats 1000000 in
theorem used_any (g : Nat) (F : Option Addr) (fc : Nat) (l : List Fl) (w : World) (hx : w.cell? ⟨g, 1, none⟩ = some (.slice F l.length fc)) (hr : kFl.C w F l.length l) (hb : l.length ≤ 1048576) (hd : ∀ f ∈ l, f.data.length ≤ 1048576) :
    Calls Tryz.prog 72 #[.pointer (some ⟨g, 0, none⟩)] w fun e w' => e = .returned (.int .i64 (usedF l)) ∧ Below w.heap.size w w' := by
  have HR := Aside0.mk hr
  have HD := Aside0.mk hd
  clear hr hd
  go_enter Tryz.func72, Tryz.ntmps72
  go_wp2
  go_loopg [3, 11] l.length (fun gk v3 v11 wr => ∃ (i : Nat) (n : Int), v11 = .int .i64 i ∧ v3 = .int .i64 n ∧ gk + i = l.length ∧ 0 ≤ n ∧ n ≤ (i : Int) * 1048576 ∧ Aside0 (n = usedF (l.take i)) ∧ Aside0 (Below w.heap.size w wr))
  case atStart => exact ⟨0, 0, rfl, rfl, by omega, by omega, by omega, ⟨rfl⟩, ⟨Below.refl _ _⟩⟩
  case round =>
    obtain ⟨i, n, rfl, rfl, hg, hn0, hn1, HN, HB⟩ := hrel
    by_cases hlt : i < l.length
    · have HC := Aside0.mk (Kd.C_below HR.out HB.out)
      obtain ⟨m, hm⟩ : ∃ m, l[i]? = some m := ⟨_, List.getElem?_eq_getElem hlt⟩
      obtain ⟨ad, D, dc, rfl, c0, c1, c2, hdc, hrd⟩ := atFl HC.out i m hm
      have ht : Aside0 (usedF (l.take (i + 1)) = n + m.data.length) := ⟨by rw [List.take_add_one, hm, Option.toList_some, usedF_snoc, HN.out]⟩
      have hmd : m.data.length ≤ 1048576 := HD.out m (List.mem_of_getElem? hm)
      have hlt' : (i : Int) < l.length := by omega
      clear hm hrd hdc HN
      go_wp2
      go_roundg (l.length - (i + 1))
      case measure => omega
      case rel => exact ⟨i + 1, _, by go_num, rfl, by omega, by omega, by push_cast; omega, ⟨ht.out.symm⟩, ⟨by refine bthen HB.out ?_; repeat (first | exact Below.refl _ _ | apply below_alloc)⟩⟩
    · have hi : Aside0 (l.take i = l) := ⟨List.take_of_length_le (by omega)⟩
      go_wp2
      go_ret
      exact ⟨by rw [HN.out, hi.out]; rfl, HB.out⟩

theorem fileFn_any (id x s : Int) (D : Option Addr) (n dc : Nat) (w : World) :
    Calls Tryz.prog 130 #[.agg #[.int .i64 id, .slice D n dc, .int .i64 s], .int .i64 x] w fun e w' => e = .returned (.int .i64 (cmpI id x)) ∧ Below w.heap.size w w' := by
  go_enter Tryz.func130, Tryz.ntmps130
  go_wp2_with (go_at_call 131; refine (cmpI_any _ _ _).mono ?_; rintro e w' ⟨rfl, rfl⟩)
  go_ret
  exact ⟨rfl, below_alloc (Below.refl _ _) _⟩

/-- files in order of their numbers -/
def Asc (l : List Fl) : Prop := l.Pairwise (fun a b => a.id < b.id)
theorem Asc.lt {l : List Fl} (h : Asc l) {i j : Nat} {a b : Fl} (hij : i < j) (ha : l[i]? = some a) (hb : l[j]? = some b) : a.id < b.id := by
  obtain ⟨h1, rfl⟩ := List.getElem?_eq_some_iff.1 ha
  obtain ⟨h2, rfl⟩ := List.getElem?_eq_some_iff.1 hb
  exact List.pairwise_iff_getElem.1 h i j h1 h2 hij

/-- place r of number x: what lies ahead is less, what lies behind is no less -/
def Place (l : List Fl) (x : Int) (r : Nat) : Prop := r ≤ l.length ∧ (∀ k f, l[k]? = some f → k < r → f.id < x) ∧ (∀ k f, l[k]? = some f → r ≤ k → x ≤ f.id)
/-- is a file of that number there -/
def hasId (l : List Fl) (x : Int) : Bool := l.any (fun f => f.id == x)
theorem hasId_place {l : List Fl} {x : Int} {r : Nat} (ha : Asc l) (h : Place l x r) : hasId l x = (match l[r]? with | none => false | some f => f.id == x) := by
  rw [Bool.eq_iff_iff]
  constructor
  · intro h1
    obtain ⟨f, hf, hx⟩ := List.any_eq_true.1 h1
    have hx' : f.id = x := by simpa using hx
    obtain ⟨k, hk⟩ := List.mem_iff_getElem?.1 hf
    have hkr : r ≤ k := by
      rcases Nat.lt_or_ge k r with hlt | hge
      · have := h.2.1 k f hk hlt; omega
      · exact hge
    rcases Nat.eq_or_lt_of_le hkr with rfl | hlt
    · rw [hk]; exact hx
    · have hkl := (List.getElem?_eq_some_iff.1 hk).1
      have hr : l[r]? = some (l[r]'(by omega)) := List.getElem?_eq_getElem (by omega)
      have h2 := ha.lt hlt hr hk
      have h3 := h.2.2 r _ hr (Nat.le_refl _)
      omega
  · intro h1
    cases hr : l[r]? with
    | none => rw [hr] at h1; simp at h1
    | some f =>
      rw [hr] at h1
      exact List.any_eq_true.2 ⟨f, List.mem_of_getElem? hr, h1⟩

def fileV : Value := .func (.func 130) #[] #[]

set_option maxRecDepth 100000 in
set_option maxHeartbeats 2000000 in
theorem bsearch_any (F : Option Addr) (fc : Nat) (l : List Fl) (x : Int) (w : World) (hr : kFl.C w F l.length l) (hb : l.length ≤ 1048576) (ha : Asc l) :
    Calls Tryz.prog 129 #[.slice F l.length fc, .int .i64 x, fileV] w fun e w' => (∃ r : Int, e = .returned (.tuple #[.int .i64 r, .bool (hasId l x)]) ∧ 0 ≤ r ∧ Place l x r.toNat) ∧ Below w.heap.size w w' := by
  have HR := Aside0.mk hr
  have HA := Aside0.mk ha
  obtain ⟨b, HBv⟩ := named (hasId l x)
  rw [← HBv.out]
  obtain ⟨fv, hfv⟩ : ∃ fv, fv = fileV := ⟨_, rfl⟩
  have HF := Aside0.mk hfv
  rw [← hfv]
  have CF : Aside0 (∀ (m : Fl) (D : Option Addr) (dc : Nat) (W : World), Calls Tryz.prog 130 #[.agg #[.int .i64 m.id, .slice D m.data.length dc, .int .i64 m.sync], .int .i64 x] W fun e w' => e = .returned (.int .i64 (cmpI m.id x)) ∧ Below W.heap.size W w') := ⟨fun m D dc W => fileFn_any _ _ _ _ _ _ _⟩
  clear hr ha hfv
  go_enter Tryz.func129, Tryz.ntmps129
  rw [HF.out, fileV]
  go_wp2
  go_loopg [9, 10] l.length (fun gk v9 v10 wr => ∃ i j : Nat, v9 = .int .i64 i ∧ v10 = .int .i64 j ∧ gk + i = j ∧ j ≤ l.length ∧ Aside0 ((∀ k f, l[k]? = some f → k < i → f.id < x) ∧ (∀ k f, l[k]? = some f → j ≤ k → x ≤ f.id)) ∧ Aside0 (Below w.heap.size w wr))
  case atStart => exact ⟨0, l.length, rfl, rfl, by omega, Nat.le_refl _, ⟨fun k f _ h => by omega, fun k f h1 h2 => by have := (List.getElem?_eq_some_iff.1 h1).1; omega⟩, ⟨Below.refl _ _⟩⟩
  case round =>
    obtain ⟨i, j, rfl, rfl, hg, hjl, HP, HB⟩ := hrel
    by_cases hij : i < j
    · have hij' : (i : Int) < j := by omega
      obtain ⟨c, hc⟩ : ∃ c : Nat, c = (i + j) / 2 := ⟨_, rfl⟩
      have hcc : ((i : Int) + j) / 2 = c := by omega
      have hcl : (c : Int) < l.length := by omega
      have hic : i ≤ c := by omega
      have hcj : c < j := by omega
      have hij2 : (i : Int) + j ≤ 3000000 := by omega
      have HC := Aside0.mk (Kd.C_below HR.out HB.out)
      obtain ⟨m, hm⟩ : ∃ m, l[c]? = some m := ⟨_, List.getElem?_eq_getElem (by omega)⟩
      obtain ⟨ad, D, dc, rfl, c0, c1, c2, hdc, hrd⟩ := atFl HC.out c m hm
      have HM := Aside0.mk hm
      clear hm hrd hdc hc
      by_cases hlt : m.id < x
      · have hcm : Aside0 (cmpI m.id x = -1) := ⟨by simp [cmpI, hlt]⟩
        have HL := Aside0.mk hlt
        clear hlt
        go_wp2_with fail
        refine (CF.out m D dc _).mono ?_
        rw [hcm.out]
        rintro e w1 ⟨rfl, hb1⟩
        have HB1 := Aside0.mk (bthen HB.out hb1)
        clear hb1
        go_wp2
        go_roundg (j - (c + 1))
        case measure => omega
        case rel =>
          refine ⟨c + 1, j, by go_num, rfl, by omega, hjl, ⟨fun k f hk hkc => ?_, HP.out.2⟩, HB1⟩
          rcases Nat.lt_or_ge k c with h1 | h1
          · exact Int.lt_trans (HA.out.lt h1 hk HM.out) HL.out
          · obtain rfl : k = c := by omega
            rw [HM.out] at hk; injection hk with hk; rw [← hk]; exact HL.out
      · have HL := Aside0.mk (show x ≤ m.id by omega)
        obtain ⟨o, ho⟩ : ∃ o, cmpI m.id x = o := ⟨_, rfl⟩
        have ho0 : ¬ (o < 0) := by rw [← ho]; unfold cmpI; rw [if_neg hlt]; split <;> decide
        clear hlt
        go_wp2_with fail
        refine (CF.out m D dc _).mono ?_
        rw [ho]
        rintro e w1 ⟨rfl, hb1⟩
        have HB1 := Aside0.mk (bthen HB.out hb1)
        clear hb1
        go_wp2
        go_roundg (c - i)
        case measure => omega
        case rel =>
          refine ⟨i, c, rfl, rfl, by omega, by omega, ⟨HP.out.1, fun k f hk hkc => ?_⟩, HB1⟩
          rcases Nat.eq_or_lt_of_le hkc with rfl | h1
          · rw [HM.out] at hk; injection hk with hk; rw [← hk]; exact HL.out
          · exact Int.le_of_lt (Int.lt_of_le_of_lt HL.out (HA.out.lt h1 HM.out hk))
    · obtain rfl : i = j := by omega
      have HPl : Aside0 (Place l x i) := ⟨⟨hjl, HP.out.1, HP.out.2⟩⟩
      have hh := hasId_place HA.out HPl.out
      rw [← HBv.out] at hh
      clear HP
      by_cases hil : i < l.length
      · have hil' : (i : Int) < l.length := by omega
        have HC := Aside0.mk (Kd.C_below HR.out HB.out)
        obtain ⟨m, hm⟩ : ∃ m, l[i]? = some m := ⟨_, List.getElem?_eq_getElem hil⟩
        obtain ⟨ad, D, dc, rfl, c0, c1, c2, hdc, hrd⟩ := atFl HC.out i m hm
        rw [hm] at hh
        obtain ⟨o, ho⟩ : ∃ o, cmpI m.id x = o := ⟨_, rfl⟩
        have HO : Aside0 (b = (o == 0)) := ⟨by
          rw [hh, ← ho]; unfold cmpI
          by_cases h1 : m.id < x
          · have : (m.id == x) = false := by simp; omega
            simp only [this, h1, if_true]; rfl
          · by_cases h2 : x < m.id
            · have : (m.id == x) = false := by simp; omega
              simp only [this, h1, h2, if_true, if_false]; rfl
            · have : (m.id == x) = true := by simp; omega
              simp only [this, h1, h2, if_false]; rfl⟩
        clear hm hrd hdc hh
        go_wp2_with fail
        refine (CF.out m D dc _).mono ?_
        rw [ho]
        rintro e w1 ⟨rfl, hb1⟩
        have HB1 := Aside0.mk (bthen HB.out hb1)
        clear hb1
        go_wp2
        refine bodyPost_ret (results_tmp2 rfl _ _ _) rfl ?_
        exact ⟨⟨i, by rw [HO.out]; rfl, by omega, by simpa using HPl.out⟩, HB1.out⟩
      · have hil' : ¬ ((i : Int) < l.length) := by omega
        have hb0 : b = false := by rw [hh, List.getElem?_eq_none (by omega)]
        subst hb0
        clear hh
        go_wp2
        refine bodyPost_ret (results_tmp2 rfl _ _ _) rfl ?_
        exact ⟨⟨i, rfl, by omega, by simpa using HPl.out⟩, HB.out⟩

/-- where a file lies -/
def fileP (F : Option Addr) (l : List Fl) (x : Int) : Option Addr := (l.findIdx? (fun f => f.id == x)).bind fun r => F.map (fun a => a.add (r * 3))
theorem find_place {l : List Fl} {x : Int} {r : Nat} (ha : Asc l) (h : Place l x r) : l.findIdx? (fun f => f.id == x) = if hasId l x then some r else none := by
  have hid := hasId_place ha h
  cases hb : hasId l x with
  | false =>
    rw [if_neg (by decide), List.findIdx?_eq_none_iff]
    intro f hf
    cases hq : (f.id == x) with
    | false => rfl
    | true => exact absurd (List.any_eq_true.2 ⟨f, hf, hq⟩) (by unfold hasId at hb; rw [hb]; decide)
  | true =>
    rw [hb] at hid
    rw [if_pos rfl, List.findIdx?_eq_some_iff_getElem]
    cases hq : l[r]? with
    | none => rw [hq] at hid; simp at hid
    | some f =>
      rw [hq] at hid
      obtain ⟨hr, rfl⟩ := List.getElem?_eq_some_iff.1 hq
      refine ⟨hr, hid.symm, fun j hj => ?_⟩
      have := h.2.1 j l[j] (List.getElem?_eq_getElem (by omega)) hj
      simp; omega
theorem fileP_none {F : Option Addr} {l : List Fl} {x : Int} (h : hasId l x = false) : fileP F l x = none := by
  have : l.findIdx? (fun f => f.id == x) = none := by
    rw [List.findIdx?_eq_none_iff]
    intro f hf
    cases hq : (f.id == x) with
    | false => rfl
    | true => exact absurd (List.any_eq_true.2 ⟨f, hf, hq⟩) (by unfold hasId at h; rw [h]; decide)
  rw [fileP, this]; rfl

set_option maxRecDepth 100000 in
set_option maxHeartbeats 1000000 in
theorem file_any (g : Nat) (F : Option Addr) (fc : Nat) (l : List Fl) (x : Int) (w : World) (hx : w.cell? ⟨g, 1, none⟩ = some (.slice F l.length fc)) (hr : kFl.C w F l.length l) (hb : l.length ≤ 1048576) (ha : Asc l) :
    Calls Tryz.prog 95 #[.pointer (some ⟨g, 0, none⟩), .int .i64 x] w fun e w' => e = .returned (.pointer (fileP F l x)) ∧ Below w.heap.size w w' := by
  have HR := Aside0.mk hr
  have HA := Aside0.mk ha
  clear hr ha
  obtain ⟨b, hbb⟩ := named (hasId l x)
  obtain ⟨q, hq⟩ := named (fileP F l x)
  rw [← hq.out]
  go_enter Tryz.func95, Tryz.ntmps95
  go_wp2_with fail
  refine (bsearch_any F fc l x _ HR.out hb HA.out).mono ?_
  rw [← hbb.out]
  rintro e w1 ⟨⟨r, rfl, hr0, hpl⟩, hb1⟩
  have HB1 := Aside0.mk hb1
  have hx1 := pw_cell_below hb1 hx
  have hid := hasId_place HA.out hpl
  have hfp := find_place HA.out hpl
  rw [← hbb.out] at hid hfp
  cases b with
  | false =>
    have HQ : Aside0 (q = none) := ⟨by rw [hq.out]; exact fileP_none hbb.out.symm⟩
    clear hid hb1 hpl hfp
    go_wp2
    go_ret
    exact ⟨by rw [HQ.out]; rfl, HB1.out⟩
  | true =>
    obtain ⟨f, hf⟩ : ∃ f, l[r.toNat]? = some f := by
      cases hq : l[r.toNat]? with
      | none => rw [hq] at hid; simp at hid
      | some f => exact ⟨f, rfl⟩
    have hrl := (List.getElem?_eq_some_iff.1 hf).1
    have hrl' : r < l.length := by omega
    obtain ⟨ad, D, dc, rfl, _⟩ := atFl HR.out r.toNat f hf
    have HQ : Aside0 (q = some (ad.add (r.toNat * 3))) := ⟨by rw [hq.out, fileP, hfp]; rfl⟩
    clear hid hb1 hpl hf hfp
    go_wp2
    go_ret
    exact ⟨by rw [HQ.out]; rfl, HB1.out⟩
end Go.Proofs.YtfakfgblaakgdaaGreat.Files

/- A region that draws its order, whose operations only read and whose callees only read and lay new blocks: walked once, in the order of the text. -/
namespace Go.Proofs.YtfakfgblaakgdaaGreat.Wide
open Go.RowKit Go.Proofs.YtfakfgblaakgdaaGreatW.PrintWords Go.Proofs.YtfakfgblaakgdaaGreat.Base
set_option linter.unusedVariables false

/-- a world in which all that was there stands as it was -/
def Later (W : World) : Type := { w' : World // Below W.heap.size W w' }
def wb (W : World) (x : Later W) : World := x.val
instance (W : World) : Nonempty (Later W) := ⟨⟨W, Below.refl _ _⟩⟩
theorem wb_below (W : World) (x : Later W) : Below W.heap.size W (wb W x) := x.property
theorem wb_cell {W : World} {a : Addr} {v : Value} (h : W.cell? a = some v) (x : Later W) : (wb W x).cell? a = some v :=
  ((wb_below W x).cell (World.block_lt_of_cell? W a h)).trans h

section
variable {P : Program}
theorem wp_region_wide {id : Nat} {Q : Exit → Act → World → Prop} {a : Act} {w : World} {l : List Oper} (hm : P.follows .mixedOrders = true) (hB : Region.lexB .any l.toArray = true)
    (h : wpQuiet P l.toArray (fun w' => ∃ x : Later w, w' = wb w x) (fun a' => ∀ w', (∃ x : Later w, w' = wb w x) → Q .normal a' w') l a) : (Code.region id l.toArray true).wp P Q a w :=
  wp_region_quiet (C := fun w' => ∃ x : Later w, w' = wb w x) hm hB ⟨⟨w.drew, below_drew (Below.refl _ _)⟩, rfl⟩ (by simpa using h)

/-- a callee's contract: it leaves all that was there as it was -/
theorem wide_of {f : FuncId} {args : Array Value} {w : World} {x : Later w} {v : Value}
    (h : Calls P f args (wb w x) fun e w' => e = .returned v ∧ Below (wb w x).heap.size (wb w x) w') : Calls P f args (wb w x) fun e w'' => e = .returned v ∧ ∃ y : Later w, w'' = wb w y :=
  h.mono fun _ w' ⟨he, hm⟩ => ⟨he, ⟨w', bthen (wb_below w x) hm⟩, rfl⟩
theorem wide_same {f : FuncId} {args : Array Value} {w : World} {x : Later w} {v : Value}
    (h : Calls P f args (wb w x) fun e w' => e = .returned v ∧ wb w x = w') : Calls P f args (wb w x) fun e w'' => e = .returned v ∧ ∃ y : Later w, w'' = wb w y :=
  h.mono fun _ w' ⟨he, hm⟩ => ⟨he, x, hm.symm⟩
end
end Go.Proofs.YtfakfgblaakgdaaGreat.Wide

/- files: may a list of names be: walked. -/
namespace Go.Proofs.YtfakfgblaakgdaaGreat.Files
set_option linter.unusedVariables false
set_option linter.unusedSimpArgs false
open Go.RowKit Go.Proofs.YtfakfgblaakgdaaGreatW.PrintWords Go.Proofs.YtfakfgblaakgdaaGreatW.PrintLast Go.Proofs.YtfakfgblaakgdaaGreat.Base Go.Proofs.YtfakfgblaakgdaaGreat.Cells Go.Proofs.YtfakfgblaakgdaaGreat.Ints Go.Proofs.YtfakfgblaakgdaaGreat.Var Go.Proofs.YtfakfgblaakgdaaGreat.EditPure Go.Proofs.YtfakfgblaakgdaaGreat.Edit Go.Proofs.YtfakfgblaakgdaaGreat.Sets Go.Proofs.YtfakfgblaakgdaaGreat.Wide

/-- every cell stands -/
def Cell (w w1 : World) : Prop := ∀ a v, w.cell? a = some v → w1.cell? a = some v
theorem Cell.refl (w : World) : Cell w w := fun _ _ h => h
theorem Cell.trans {a b c : World} (h : Cell a b) (k : Cell b c) : Cell a c := fun x v hv => k x v (h x v hv)
theorem Cell.of_below {w w1 : World} (h : Below w.heap.size w w1) : Cell w w1 := fun a v hv => (h.cell (World.block_lt_of_cell? w a hv)).trans hv
theorem Cell.of_map {w w1 : World} {b : Nat} {es : Array MapEntry} {k : Nat} (hm : w.heap[b]? = some (.map es k)) (hg : w.grownBy w1 (some b)) : Cell w w1 := fun a v hv => by
  by_cases hb : a.block = b
  · exfalso
    subst hb
    unfold World.cell? at hv
    rw [hm] at hv
    cases hv
  · exact hg.cell hv (by intro e; injection e with e; exact hb e)
theorem SetL.isMapBlock {P : Program} {k e : TypeId} {w : World} {b : Nat} {l : List Lit} (h : SetL P k e w b l) : ∃ es c, w.heap[b]? = some (.map es c) := by
  obtain ⟨es, c, h1, _⟩ := h.1
  exact ⟨es, c, h1⟩
theorem readsInt_cell {w w1 : World} {k : IntKind} {A : Option Addr} {n : Nat} {xs : List Int} (h : ReadsInt w k A n xs) (hc : Cell w w1) : ReadsInt w1 k A n xs :=
  ⟨h.1, h.2.1, fun hn => by obtain ⟨ad, e, hh⟩ := h.2.2 hn; exact ⟨ad, e, fun j hj => hc _ _ (hh j hj)⟩⟩
theorem kFl_cell {w w1 : World} {A : Option Addr} {n : Nat} {xs : List Fl} (h : kFl.C w A n xs) (hc : Cell w w1) : kFl.C w1 A n xs := by
  refine ⟨h.1, h.2.1, fun hn => ?_⟩
  obtain ⟨ad, e, hh⟩ := h.2.2 hn
  refine ⟨ad, e, fun j p hj => ?_⟩
  obtain ⟨c, h1, h2, h3⟩ := hh j p hj
  obtain ⟨D, dc, rfl, h4, h5⟩ := kFl_open h2
  exact ⟨_, h1, kFl_mk h4 (readsInt_cell h5 hc), fun i u hu => hc _ _ (h3 i u hu)⟩
theorem kNm_cell {w w1 : World} {A : Option Addr} {n : Nat} {xs : List Nm} (h : kNm.C w A n xs) (hc : Cell w w1) : kNm.C w1 A n xs := by
  refine ⟨h.1, h.2.1, fun hn => ?_⟩
  obtain ⟨ad, e, hh⟩ := h.2.2 hn
  refine ⟨ad, e, fun j p hj => ?_⟩
  obtain ⟨c, h1, h2, h3⟩ := hh j p hj
  obtain rfl := kNm_open h2
  exact ⟨_, h1, kNm_mk _ p, fun i u hu => hc _ _ (h3 i u hu)⟩

/-- of a name behind others: what a list that may be asks of it -/
def nmOk (files : List Fl) (pre : List Nm) (n : Nm) : Bool :=
  mayF n.name && ((match pre.getLast? with | none => true | some p => sLt p.name n.name) && (hasId files n.id && !(pre.any fun x => x.id == n.id)))
def nmTo (files : List Fl) (l : List Nm) : Nat → Bool
  | 0 => true
  | i + 1 => nmTo files l i && nmOk files (l.take i) (l.getD i zNm)
/-- may a list of names be -/
def namesOk (files : List Fl) (l : List Nm) : Bool := nmTo files l l.length
theorem nmTo_false {files : List Fl} (l : List Nm) {i : Nat} (h : nmTo files l i = false) {n : Nat} (hn : i ≤ n) : nmTo files l n = false := by
  induction n with
  | zero => obtain rfl : i = 0 := by omega
            exact h
  | succ n ih =>
    by_cases e : i = n + 1
    · subst e; exact h
    · rw [nmTo, ih (by omega), Bool.false_and]
theorem fileP_some {w : World} {F : Option Addr} {l : List Fl} {x : Int} {n : Nat} (hr : kFl.C w F n l) (h : hasId l x = true) : ∃ a, fileP F l x = some a := by
  obtain ⟨f, hf, hx⟩ := List.any_eq_true.1 h
  obtain ⟨k, hk⟩ := List.mem_iff_getElem?.1 hf
  obtain ⟨ad, _, _, rfl, _⟩ := atFl hr k f hk
  cases hq : l.findIdx? (fun f => f.id == x) with
  | none =>
    rw [List.findIdx?_eq_none_iff] at hq
    have := hq f hf
    rw [this] at hx; cases hx
  | some r => exact ⟨_, by rw [fileP, hq]; rfl⟩
/-- the numbers of names -/
def idsN (l : List Nm) : List Int := l.map (·.id)

theorem grown_of_new {w a c : World} {r : Option Nat} (h : w.grownBy a r) (k : a.grownBy c (some w.heap.size)) : w.grownBy c r :=
  ⟨k.os.trans h.os, k.tape.trans h.tape, k.output.trans h.output, Nat.le_trans h.size k.size, fun i hi hr => (k.block i (Nat.lt_of_lt_of_le hi h.size) (by intro e; injection e with e; omega)).trans (h.block i hi hr)⟩
theorem geq_bytes (a b : List UInt8) : (Op.bytesLess b a || a == b) = !Op.bytesLess a b := by
  have := leq_bytes b a
  rw [← this]
  congr 1
  rw [Bool.eq_iff_iff]
  simp only [beq_iff_eq]
  exact eq_comm

theorem bytesLess_irrefl (a : List UInt8) : Op.bytesLess a a = false := by
  cases h : Op.bytesLess a a with
  | false => rfl
  | true => have := bytesLess_asymm _ _ h; rw [h] at this; cases this

set_option maxRecDepth 100000 in
set_option maxHeartbeats 4000000 in
theorem namesF_any (g b : Nat) (F N : Option Addr) (fc nc : Nat) (files : List Fl) (l : List Nm) (S : List Int) (w : World) (hx : w.cell? ⟨g, 1, none⟩ = some (.slice F files.length fc)) (hr : kFl.C w F files.length files) (hf : files.length ≤ 1048576) (ha : Asc files)
    (hn : kNm.C w N l.length l) (hl : l.length ≤ 1048576) (hw : ∀ n ∈ l, inI64 n.id) (hS : SetL Tryz.prog 3 4 w b (ilits S)) (hSl : S.length ≤ 1048576) :
    Calls Tryz.prog 73 #[.pointer (some ⟨g, 0, none⟩), .slice N l.length nc, .map (some b)] w fun e w' => e = .returned (.bool (namesOk files l)) ∧ (namesOk files l = true → SetL Tryz.prog 3 4 w' b (ilits (S ++ idsN l))) ∧ w.grownBy w' (some b) := by
  have HR := Aside0.mk hr
  have HN := Aside0.mk hn
  have HA := Aside0.mk ha
  have HW := Aside0.mk hw
  have HX := Aside0.mk hx
  obtain ⟨es0, k0, hmap⟩ := SetL.isMapBlock hS
  have HMAP := Aside0.mk hmap
  have hbw : b < w.heap.size := hS.lt
  have HS0 : Aside0 (SetL Tryz.prog 3 4 w b (ilits S)) := ⟨hS⟩
  obtain ⟨q, hq⟩ := named (namesOk files l)
  rw [← hq.out]
  clear hr hn ha hw hx hS hmap
  have hmm := @run_makeMap Tryz.prog
  go_enter Tryz.func73, Tryz.ntmps73
  go_wp2
  go_loopg [13] l.length (fun gk v13 wr => ∃ i : Nat, v13 = .int .i64 i ∧ gk + i = l.length ∧ Aside0 (nmTo files l i = true) ∧ Aside0 (SetL Tryz.prog 3 4 wr w.heap.size (ilits (idsN (l.take i)))) ∧ Aside0 (SetL Tryz.prog 3 4 wr b (ilits (S ++ idsN (l.take i)))) ∧ Aside0 (Cell w wr) ∧ Aside0 (w.grownBy wr (some b)) ∧ w.heap.size < wr.heap.size)
  case atStart => exact ⟨0, rfl, by omega, ⟨rfl⟩, ⟨SetL.made w _ _ _⟩, ⟨by have := HS0.out.alloc (.map #[] 0); simpa [idsN] using this⟩, ⟨Cell.of_below (below_alloc (Below.refl _ _) _)⟩, ⟨grown_alloc (grown_refl _ _) _⟩, by simp⟩
  case round =>
    obtain ⟨i, rfl, hg, HT, HO, HS, HC, HG, hsz⟩ := hrel
    by_cases hlt : i < l.length
    · have hlt' : (i : Int) < l.length := by omega
      obtain ⟨m, hm⟩ : ∃ m, l[i]? = some m := ⟨_, List.getElem?_eq_getElem hlt⟩
      obtain ⟨ad, rfl, c0, c1⟩ := atNm (kNm_cell HN.out HC.out) i m hm
      have hgd : l.getD i zNm = m := by rw [List.getD_eq_getElem?_getD, hm]; rfl
      have HM := Aside0.mk hm
      have hxr := HC.out _ _ HX.out
      have hid : inI64 m.id := HW.out m (List.mem_of_getElem? hm)
      have HID := Aside0.mk hid
      have hto : nmTo files l (i + 1) = nmOk files (l.take i) m := by rw [nmTo, HT.out, hgd, Bool.true_and]
      obtain ⟨ok, hok⟩ := named (nmOk files (l.take i) m)
      rw [← hok.out] at hto
      have HTO := Aside0.mk hto
      clear hm hto hgd hid
      go_upto_region 5 with (fail)
      obtain ⟨W5, hW5⟩ : ∃ W5, W5 = wr.alloc (.cells #[.string m.name, .int .i64 m.id] 146) := ⟨_, rfl⟩
      have k0 : W5.cell? ⟨wr.heap.size, 0, none⟩ = some (.string m.name) := by rw [hW5]; exact new_cell _ _ _ 0 _ rfl
      have k1 : W5.cell? ⟨wr.heap.size, 1, none⟩ = some (.int .i64 m.id) := by rw [hW5]; exact new_cell _ _ _ 1 _ rfl
      have HB5 : Aside0 (Below wr.heap.size wr W5) := ⟨by rw [hW5]; exact below_alloc (Below.refl _ _) _⟩
      have HZ5 : Aside0 (W5.heap.size = wr.heap.size + 1) := ⟨by rw [hW5]; simp⟩
      have K0 := wb_cell k0
      have K1 := wb_cell k1
      have x1 := (HB5.out.cell (World.block_lt_of_cell? wr _ hxr)).trans hxr
      have HK0 := Aside0.mk k0
      have HK1 := Aside0.mk k1
      rw [← hW5]
      clear hW5 hxr c0 c1 k0 k1
      obtain ⟨my, hmy⟩ := named (mayF m.name)
      obtain ⟨hi, hhi⟩ := named (hasId files m.id)
      obtain ⟨sn, hsn⟩ := named ((l.take i).any fun x => x.id == m.id)
      obtain ⟨fp, hfp⟩ := named (fileP F files m.id)
      have HFP : Aside0 ((hi = false → fp = none) ∧ (hi = true → ∃ a, fp = some a)) := ⟨⟨fun h => by rw [hfp.out]; exact fileP_none (by rw [← hhi.out]; exact h), fun h => by rw [hfp.out]; exact fileP_some HR.out (by rw [← hhi.out]; exact h)⟩⟩
      obtain ⟨lnk, hlnk⟩ := named (match (l.take i).getLast? with | none => true | some p => sLt p.name m.name)
      have HK : Aside0 (ok = (my && (lnk && (hi && !sn)))) := ⟨by rw [hok.out, nmOk, hmy.out, hhi.out, hsn.out, hlnk.out]⟩
      have CM : ∀ W, Calls Tryz.prog 115 #[.string m.name] W fun e w' => e = .returned (.bool my) ∧ Below W.heap.size W w' := fun W => by rw [hmy.out]; exact may_any m.name W
      have CF : ∀ x : Later W5, Calls Tryz.prog 95 #[.pointer (some ⟨g, 0, none⟩), .int .i64 m.id] (wb W5 x) fun e w' => e = .returned (.pointer fp) ∧ Below (wb W5 x).heap.size (wb W5 x) w' := fun x => by
        rw [hfp.out]
        exact file_any g F fc files m.id _ ((wb_below _ x).cell (World.block_lt_of_cell? W5 _ x1) |>.trans x1) (kFl_cell HR.out (HC.out.trans (Cell.of_below (bthen HB5.out (wb_below _ x))))) hf HA.out
      have LK : ∀ x : Later W5, (Instr.lookup 149 (.map (some w.heap.size)) (.int .i64 m.id) false).run Tryz.prog (wb W5 x) = .ok (.bool sn) (wb W5 x) := fun x => by
        have h1 := (HO.out.below (bthen HB5.out (wb_below _ x))).lookup (t := 149) (Maps.int_keyed Tryz.underlying3) Tryz.underlying149 Tryz.underlying4 (zeroBool _) (Maps.keyOf_int_mk Tryz.underlying3 (wf_i64' HID.out)) trivial
        rw [h1, any_ilits, idsN, List.any_map, hsn.out]; rfl
      go_cut [49] (fun v49 wc => v49 = .bool (!ok) ∧ Aside0 (Below W5.heap.size W5 wc))
      case first =>
        cases hmv : my with
        | false =>
          rw [hmv] at CM HK
          have HV : Aside0 ((!ok) = true) := ⟨by rw [HK.out]; rfl⟩
          clear hmv
          refine wp_region_wide (by kernel_rfl) (by kernel_rfl) ?_
          repeat (go_big_quiet_step ((first | (go_at_call 115; exact wide_of (CM _)) | (go_at_call 95; exact wide_of (CF _)))))
          refine wpQuiet_nil ?_
          rintro w' ⟨x, rfl⟩
          go_wp2
          go_meet
          exact ⟨by rw [HV.out], ⟨wb_below _ x⟩⟩
        | true =>
          rw [hmv] at CM HK
          clear hmv
          by_cases hi0 : i = 0
          · have hi1 : decide (0 < i) = false := by simp [hi0]
            have hi2 : ¬ (0 < i) := by omega
            have HL : Aside0 (lnk = true) := ⟨by rw [hlnk.out, hi0]; rfl⟩
            rw [HL.out] at HK
            clear hi0 HL
            cases hh : hi with
            | false =>
              rw [hh] at HK
              obtain rfl : fp = none := HFP.out.1 hh
              have HV : Aside0 ((!ok) = true) := ⟨by rw [HK.out]; rfl⟩
              clear hh
              refine wp_region_wide (by kernel_rfl) (by kernel_rfl) ?_
              repeat (go_big_quiet_step ((first | (go_at_call 115; exact wide_of (CM _)) | (go_at_call 95; exact wide_of (CF _)))))
              refine wpQuiet_nil ?_
              rintro w' ⟨x, rfl⟩
              go_wp2
              go_meet
              exact ⟨by rw [HV.out], ⟨wb_below _ x⟩⟩
            | true =>
              rw [hh] at HK
              obtain ⟨pa, rfl⟩ := HFP.out.2 hh
              have HV : Aside0 ((!ok) = sn) := ⟨by rw [HK.out]; simp⟩
              clear hh
              refine wp_region_wide (by kernel_rfl) (by kernel_rfl) ?_
              repeat (go_big_quiet_step ((first | (go_at_call 115; exact wide_of (CM _)) | (go_at_call 95; exact wide_of (CF _)))))
              refine wpQuiet_nil ?_
              rintro w' ⟨x, rfl⟩
              go_wp2
              go_meet
              exact ⟨by rw [HV.out], ⟨wb_below _ x⟩⟩
          · obtain ⟨k, rfl⟩ : ∃ k, i = k + 1 := ⟨i - 1, by omega⟩
            clear hi0
            obtain ⟨p, hp⟩ : ∃ p, l[k]? = some p := ⟨_, List.getElem?_eq_getElem (by omega)⟩
            have HL : Aside0 (lnk = sLt p.name m.name) := ⟨by rw [hlnk.out, List.take_add_one, hp]; simp⟩
            obtain ⟨ad', had, d0, d1⟩ := atNm (kNm_cell HN.out (HC.out.trans (Cell.of_below HB5.out))) k p hp
            obtain rfl : ad = ad' := by injection had
            have D0 := wb_cell d0
            have D1 := wb_cell d1
            clear hp had d0 d1
            cases hlv : lnk with
            | false =>
              rw [hlv] at HK HL
              have HV : Aside0 ((!ok) = true) := ⟨by rw [HK.out]; rfl⟩
              have hs2 : Op.bytesLess p.name.toList m.name.toList = false := HL.out.symm
              clear hlv
              refine wp_region_wide (by kernel_rfl) (by kernel_rfl) ?_
              repeat (go_big_quiet_step ((first | (go_at_call 115; exact wide_of (CM _)) | (go_at_call 95; exact wide_of (CF _)))))
              refine wpQuiet_nil ?_
              rintro w' ⟨x, rfl⟩
              go_wp2
              go_meet
              exact ⟨by rw [HV.out], ⟨wb_below _ x⟩⟩
            | true =>
              rw [hlv] at HK HL
              have hs2 := HL.out.symm
              unfold sLt at hs2
              have hs3 : (p.name.toList == m.name.toList) = false := by rw [beq_eq_false_iff_ne]; intro e; rw [e, bytesLess_irrefl] at hs2; cases hs2
              have hs5 : (!Op.bytesLess p.name.toList m.name.toList) = false := by rw [hs2]; rfl
              clear hs3
              clear hlv
              cases hh : hi with
              | false =>
                rw [hh] at HK
                obtain rfl : fp = none := HFP.out.1 hh
                have HV : Aside0 ((!ok) = true) := ⟨by rw [HK.out]; rfl⟩
                clear hh
                refine wp_region_wide (by kernel_rfl) (by kernel_rfl) ?_
                repeat (go_big_quiet_step ((first | (go_at_call 115; exact wide_of (CM _)) | (go_at_call 95; exact wide_of (CF _)))))
                refine wpQuiet_nil ?_
                rintro w' ⟨x, rfl⟩
                go_wp2
                go_meet
                exact ⟨by rw [HV.out], ⟨wb_below _ x⟩⟩
              | true =>
                rw [hh] at HK
                obtain ⟨pa, rfl⟩ := HFP.out.2 hh
                have HV : Aside0 ((!ok) = sn) := ⟨by rw [HK.out]; simp⟩
                clear hh
                refine wp_region_wide (by kernel_rfl) (by kernel_rfl) ?_
                repeat (go_big_quiet_step ((first | (go_at_call 115; exact wide_of (CM _)) | (go_at_call 95; exact wide_of (CF _)))))
                refine wpQuiet_nil ?_
                rintro w' ⟨x, rfl⟩
                go_wp2
                go_meet
                exact ⟨by rw [HV.out], ⟨wb_below _ x⟩⟩
      case rest =>
        obtain ⟨rfl, HB6⟩ := hcut
        have HB7 := Aside0.mk (bthen HB5.out HB6.out)
        have HG7 := Aside0.mk (grown_trans HG.out (Go.Proofs.YtfakfgblaakgdaaGreatW.PrintWords.grown_of_below HB7.out (some b)))
        cases ok with
        | false =>
          have HQ : Aside0 (q = false) := ⟨by rw [hq.out]; exact nmTo_false l HTO.out (by omega)⟩
          clear K0 K1 x1 CM CF LK
          go_wp2
          go_ret
          exact ⟨by rw [HQ.out]; rfl, fun h => (by rw [HQ.out] at h; cases h), HG7.out⟩
        | true =>
          have hc7 : Cell w wc := HC.out.trans (Cell.of_below HB7.out)
          have hbn : some b ≠ some w.heap.size := by intro e; injection e with e; omega
          have hnb : some w.heap.size ≠ some b := fun e => hbn e.symm
          have hcn : wr.heap.size < wc.heap.size := by have := HB6.out.size; have := HZ5.out; omega
          have y1 : wc.cell? ⟨wr.heap.size, 1, none⟩ = some (.int .i64 m.id) := (HB6.out.cell (World.block_lt_of_cell? W5 _ HK1.out)).trans HK1.out
          have hwk := Maps.keyOf_int_mk Tryz.underlying3 (wf_i64' HID.out)
          have htl : (idsN (l.take i)).length ≤ 1048576 := by rw [idsN, List.length_map, List.length_take]; omega
          have SO : SetL Tryz.prog 3 4 wc.drew w.heap.size (ilits (idsN (l.take i))) := (HO.out.below HB7.out).drew
          have SB : SetL Tryz.prog 3 4 wc.drew b (ilits (S ++ idsN (l.take i))) := (HS.out.below HB7.out).drew
          have n1 : (ilits (idsN (l.take i))).length < maxLen := by simp [ilits, maxLen]; omega
          have n2 : (ilits (S ++ idsN (l.take i))).length < maxLen := by simp [ilits, maxLen]; omega
          obtain ⟨wA, runA, SA, gA⟩ := SO.update (t := 149) (Maps.int_keyed Tryz.underlying3) Tryz.underlying149 Tryz.underlying4 n1 hwk trivial
          obtain ⟨wB, runB, SBB, gB⟩ := SB.update (t := 149) (Maps.int_keyed Tryz.underlying3) Tryz.underlying149 Tryz.underlying4 n2 hwk trivial
          obtain ⟨wAB, runAB, SAB, gAB⟩ := (SB.grown gA hbn).update (t := 149) (Maps.int_keyed Tryz.underlying3) Tryz.underlying149 Tryz.underlying4 n2 hwk trivial
          obtain ⟨wBA, runBA, SBA, gBA⟩ := (SO.grown gB hnb).update (t := 149) (Maps.int_keyed Tryz.underlying3) Tryz.underlying149 Tryz.underlying4 n1 hwk trivial
          have a1 : wA.cell? ⟨wr.heap.size, 1, none⟩ = some (.int .i64 m.id) := gA.cell (w := wc.drew) y1 (by simp; omega)
          have b1 : wB.cell? ⟨wr.heap.size, 1, none⟩ = some (.int .i64 m.id) := gB.cell (w := wc.drew) y1 (by simp; omega)
          have y2 : wc.drew.cell? ⟨wr.heap.size, 1, none⟩ = some (.int .i64 m.id) := y1
          have HI1 : Aside0 (ilits (idsN (l.take (i + 1))) = ilits (idsN (l.take i)) ++ [.int .i64 m.id]) := ⟨by rw [List.take_add_one, HM.out]; simp [ilits, idsN]⟩
          have HI2 : Aside0 (ilits (S ++ idsN (l.take (i + 1))) = ilits (S ++ idsN (l.take i)) ++ [.int .i64 m.id]) := ⟨by rw [List.take_add_one, HM.out]; simp [ilits, idsN]⟩
          have EA : Aside0 (SetL Tryz.prog 3 4 wAB w.heap.size (ilits (idsN (l.take (i + 1)))) ∧ SetL Tryz.prog 3 4 wAB b (ilits (S ++ idsN (l.take (i + 1)))) ∧ Cell w wAB ∧ w.grownBy wAB (some b) ∧ w.heap.size < wAB.heap.size) := ⟨by
            obtain ⟨e1, k1, h1⟩ := SetL.isMapBlock SO
            obtain ⟨e2, k2, h2⟩ := SetL.isMapBlock (SB.grown gA hbn)
            have z1 := gA.size
            have z2 := gAB.size
            have z0 : wc.drew.heap.size = wc.heap.size := rfl
            exact ⟨by rw [HI1.out]; exact SA.grown gAB hnb, by rw [HI2.out]; exact SAB, hc7.trans ((Cell.of_map (w := wc.drew) h1 gA).trans (Cell.of_map h2 gAB)), grown_trans (grown_of_new (grown_drew HG7.out) gA) gAB, by omega⟩⟩
          have EB : Aside0 (SetL Tryz.prog 3 4 wBA w.heap.size (ilits (idsN (l.take (i + 1)))) ∧ SetL Tryz.prog 3 4 wBA b (ilits (S ++ idsN (l.take (i + 1)))) ∧ Cell w wBA ∧ w.grownBy wBA (some b) ∧ w.heap.size < wBA.heap.size) := ⟨by
            obtain ⟨e1, k1, h1⟩ := SetL.isMapBlock SB
            obtain ⟨e2, k2, h2⟩ := SetL.isMapBlock (SO.grown gB hnb)
            have z1 := gB.size
            have z2 := gBA.size
            have z0 : wc.drew.heap.size = wc.heap.size := rfl
            exact ⟨by rw [HI1.out]; exact SBA, by rw [HI2.out]; exact SBB.grown gBA hbn, hc7.trans ((Cell.of_map (w := wc.drew) h1 gB).trans (Cell.of_map h2 gBA)), grown_of_new (grown_trans (grown_drew HG7.out) gB) gBA, by omega⟩⟩
          clear K0 K1 x1 CM CF LK SO SB SA SBB SAB SBA gA gB gAB gBA hc7 n1 n2 hwk htl
          go_wp2_with fail
          go_region
          all_goals go_wp2
          all_goals go_roundg (l.length - (i + 1))
          all_goals first
            | (guard_target =~ (_ : Nat) < _; omega)
            | exact ⟨i + 1, by go_num, by omega, HTO, ⟨EA.out.1⟩, ⟨EA.out.2.1⟩, ⟨EA.out.2.2.1⟩, ⟨EA.out.2.2.2.1⟩, EA.out.2.2.2.2⟩
            | exact ⟨i + 1, by go_num, by omega, HTO, ⟨EB.out.1⟩, ⟨EB.out.2.1⟩, ⟨EB.out.2.2.1⟩, ⟨EB.out.2.2.2.1⟩, EB.out.2.2.2.2⟩
    · have hi : Aside0 (l.take i = l) := ⟨List.take_of_length_le (by omega)⟩
      have hil : i = l.length := by omega
      have HQ : Aside0 (q = true) := ⟨by rw [hq.out, namesOk, ← hil]; exact HT.out⟩
      have hlt' : ¬ ((i : Int) < l.length) := by omega
      clear hil
      go_wp2
      go_ret
      exact ⟨by rw [HQ.out]; rfl, fun _ => by rw [← hi.out]; exact HS.out, HG.out⟩
end Go.Proofs.YtfakfgblaakgdaaGreat.Files

/- Texts compared; lists of names in order; what an act makes of files: plain data. No program. -/
namespace Go.Proofs.YtfakfgblaakgdaaGreat.Files
set_option linter.unusedVariables false
set_option linter.unusedSimpArgs false
open Go.RowKit Go.Proofs.YtfakfgblaakgdaaGreatW.PrintWords Go.Proofs.YtfakfgblaakgdaaGreatW.PrintLast Go.Proofs.YtfakfgblaakgdaaGreat.Base Go.Proofs.YtfakfgblaakgdaaGreat.Cells Go.Proofs.YtfakfgblaakgdaaGreat.EditPure Go.Proofs.YtfakfgblaakgdaaGreat.Edit

theorem bytesLess_neg : ∀ (a b c : List UInt8), Op.bytesLess b a = false → Op.bytesLess c b = false → Op.bytesLess c a = false
  | [], _, [], _, _ => by simp [Op.bytesLess]
  | _ :: _, [], [], h, _ => by simp [Op.bytesLess] at h
  | _ :: _, _ :: _, [], _, h => by simp [Op.bytesLess] at h
  | [], _, _ :: _, _, _ => by simp [Op.bytesLess]
  | _ :: _, [], _ :: _, h, _ => by simp [Op.bytesLess] at h
  | a :: x, b :: y, c :: z, h, k => by
    simp only [Op.bytesLess, Bool.or_eq_false_iff, decide_eq_false_iff_not, Bool.and_eq_false_iff, beq_eq_false_iff_ne] at h k ⊢
    obtain ⟨h1, h2⟩ := h
    obtain ⟨k1, k2⟩ := k
    rw [UInt8.lt_iff_toNat_lt] at h1 k1 ⊢
    refine ⟨by omega, ?_⟩
    by_cases e : c = a
    · subst e
      have e2 : b = c := UInt8.toNat_inj.1 (by omega)
      subst e2
      exact .inr (bytesLess_neg x y z (h2.resolve_left (fun h => h rfl)) (k2.resolve_left (fun h => h rfl)))
    · exact .inl e
def sameB (y s : ByteArray) : Bool := y.data.toList == s.data.toList
theorem sameB_iff {y s : ByteArray} : sameB y s = true ↔ y = s := by
  unfold sameB
  rw [beq_iff_eq]
  constructor
  · intro h
    obtain ⟨⟨y⟩⟩ := y
    obtain ⟨⟨s⟩⟩ := s
    simp at h
    rw [h]
  · intro h; rw [h]
theorem sameB_not {y s : ByteArray} : sameB y s = false ↔ y ≠ s := by
  rw [← Bool.not_eq_true, sameB_iff]
theorem sameB_list (y s : ByteArray) : (y.toList == s.toList) = sameB y s := by rw [ByteArray.toList_eq, ByteArray.toList_eq]; rfl
theorem toList_inj {a b : ByteArray} (h : a.toList = b.toList) : a = b := sameB_iff.1 (by rw [← sameB_list, beq_iff_eq]; exact h)
theorem sLt_asymm {a b : ByteArray} (h : sLt a b = true) : sLt b a = false := bytesLess_asymm _ _ h
theorem sLt_irrefl (a : ByteArray) : sLt a a = false := bytesLess_irrefl _
theorem sLt_total {a b : ByteArray} (h : sLt a b = false) (k : sLt b a = false) : a = b := toList_inj (bytesLess_total _ _ h k)
theorem sLt_trans {a b c : ByteArray} (h : sLt a b = true) (k : sLt b c = true) : sLt a c = true := by
  cases h1 : sLt a c with
  | true => rfl
  | false =>
    have h2 : Op.bytesLess a.toList b.toList = false := bytesLess_neg b.toList c.toList a.toList (sLt_asymm k) h1
    rw [sLt, h2] at h; cases h
theorem sLt_ne {a b : ByteArray} (h : sLt a b = true) : a ≠ b := by intro e; rw [e, sLt_irrefl] at h; cases h

/-- names in order -/
def AscN (l : List Nm) : Prop := l.Pairwise (fun a b => sLt a.name b.name = true)
theorem AscN.lt {l : List Nm} (h : AscN l) {i j : Nat} {a b : Nm} (hij : i < j) (ha : l[i]? = some a) (hb : l[j]? = some b) : sLt a.name b.name = true := by
  obtain ⟨h1, rfl⟩ := List.getElem?_eq_some_iff.1 ha
  obtain ⟨h2, rfl⟩ := List.getElem?_eq_some_iff.1 hb
  exact List.pairwise_iff_getElem.1 h i j h1 h2 hij
def PlaceN (l : List Nm) (s : ByteArray) (r : Nat) : Prop := r ≤ l.length ∧ (∀ k f, l[k]? = some f → k < r → sLt f.name s = true) ∧ (∀ k f, l[k]? = some f → r ≤ k → sLt f.name s = false)
def hasN (l : List Nm) (s : ByteArray) : Bool := l.any (fun n => sameB n.name s)
theorem hasN_place {l : List Nm} {x : ByteArray} {r : Nat} (ha : AscN l) (h : PlaceN l x r) : hasN l x = (match l[r]? with | none => false | some f => sameB f.name x) := by
  rw [Bool.eq_iff_iff]
  constructor
  · intro h1
    obtain ⟨f, hf, hx⟩ := List.any_eq_true.1 h1
    have hx' : f.name = x := sameB_iff.1 hx
    obtain ⟨k, hk⟩ := List.mem_iff_getElem?.1 hf
    have hkr : r ≤ k := by
      rcases Nat.lt_or_ge k r with hlt | hge
      · have := h.2.1 k f hk hlt; rw [hx', sLt_irrefl] at this; cases this
      · exact hge
    rcases Nat.eq_or_lt_of_le hkr with rfl | hlt
    · rw [hk]; exact hx
    · have hkl := (List.getElem?_eq_some_iff.1 hk).1
      have hr : l[r]? = some (l[r]'(by omega)) := List.getElem?_eq_getElem (by omega)
      have h2 := ha.lt hlt hr hk
      have h3 := h.2.2 r _ hr (Nat.le_refl _)
      rw [hx'] at h2; rw [h2] at h3; cases h3
  · intro h1
    cases hr : l[r]? with
    | none => rw [hr] at h1; simp at h1
    | some f =>
      rw [hr] at h1
      exact List.any_eq_true.2 ⟨f, List.mem_of_getElem? hr, h1⟩
/-- names, and x in its place (instead of one of that name) -/
def giveN (l : List Nm) (x : Nm) : List Nm := l.filter (fun n => sLt n.name x.name) ++ x :: l.filter (fun n => sLt x.name n.name)
def withoutN (l : List Nm) (s : ByteArray) : List Nm := l.filter (fun n => !sameB n.name s)
theorem take_place {l : List Nm} {s : ByteArray} {r : Nat} (h : PlaceN l s r) : l.take r = l.filter (fun n => sLt n.name s) := by
  have h1 : (l.take r).filter (fun n => sLt n.name s) = l.take r := by
    rw [List.filter_eq_self]
    intro n hn
    obtain ⟨k, hk⟩ := List.mem_iff_getElem?.1 hn
    rw [List.getElem?_take] at hk
    split at hk
    · exact h.2.1 k n hk (by assumption)
    · cases hk
  have h2 : (l.drop r).filter (fun n => sLt n.name s) = [] := by
    rw [List.filter_eq_nil_iff]
    intro n hn
    obtain ⟨k, hk⟩ := List.mem_iff_getElem?.1 hn
    rw [List.getElem?_drop] at hk
    rw [h.2.2 (r + k) n hk (by omega)]; decide
  calc l.take r = (l.take r).filter (fun n => sLt n.name s) ++ (l.drop r).filter (fun n => sLt n.name s) := by rw [h1, h2, List.append_nil]
    _ = l.filter (fun n => sLt n.name s) := by rw [← List.filter_append, List.take_append_drop]
/-- an act -/
structure Ac where
  what : Int
  name : ByteArray
  dest : ByteArray
  data : List Int
def stands (l : List Nm) (id : Int) : Bool := l.any (fun n => n.id == id)
/-- without files that nobody names -/
def sweepP (s : St) : St := { s with files := s.files.filter fun f => stands s.names f.id || stands s.safe f.id }
def updF (l : List Fl) (id : Int) (g : Fl → Fl) : List Fl := l.map fun f => if f.id == id then g f else f
def findN (l : List Nm) (s : ByteArray) : Option Nm := l.find? fun n => sameB n.name s
def createP (s : St) (a : Ac) : Int × St :=
  if mayF a.name = false then (31, s)
  else if hasN s.names a.name = true then (6, s)
  else if (256 : Int) ≤ s.files.length ∨ 2147483647 ≤ s.next then (51, s)
  else (0, { s with names := giveN s.names ⟨a.name, s.next⟩, files := s.files ++ [⟨s.next, [], 0⟩], next := s.next + 1 })
def actP (s : St) (a : Ac) : Int × St :=
  match findN s.names a.name with
  | none => (71, s)
  | some n =>
    if a.what = 2 then (if s.cap - usedF s.files < a.data.length then (51, s) else (0, { s with files := updF s.files n.id fun f => { f with data := f.data ++ a.data } }))
    else if a.what = 3 then (0, { s with files := updF s.files n.id fun f => { f with sync := f.data.length } })
    else if a.what = 4 then (if mayF a.dest = false then (31, s) else (0, { s with names := giveN (withoutN s.names a.name) ⟨a.dest, n.id⟩ }))
    else (0, { s with names := withoutN s.names a.name })
/-- an act done: the error's number, and what it makes -/
def doP (s : St) (a : Ac) : Int × St :=
  if a.what < 1 ∨ 6 < a.what then (22, s)
  else if a.what = 1 then createP s a
  else if a.what = 6 then (0, sweepP { s with safe := s.names })
  else ((actP s a).1, if (actP s a).1 = 0 then sweepP (actP s a).2 else (actP s a).2)
end Go.Proofs.YtfakfgblaakgdaaGreat.Files

/- files.find: a binary search among names: walked. -/
namespace Go.Proofs.YtfakfgblaakgdaaGreat.Files
set_option linter.unusedVariables false
set_option linter.unusedSimpArgs false
open Go.RowKit Go.Proofs.YtfakfgblaakgdaaGreatW.PrintWords Go.Proofs.YtfakfgblaakgdaaGreatW.PrintLast Go.Proofs.YtfakfgblaakgdaaGreat.Base Go.Proofs.YtfakfgblaakgdaaGreat.Cells Go.Proofs.YtfakfgblaakgdaaGreat.Ints Go.Proofs.YtfakfgblaakgdaaGreat.Var Go.Proofs.YtfakfgblaakgdaaGreat.EditPure Go.Proofs.YtfakfgblaakgdaaGreat.Edit

theorem sLt_up {a b x : ByteArray} (hab : sLt a b = true) (ha : sLt a x = false) : sLt b x = false := by
  cases h : sLt b x with
  | false => rfl
  | true => rw [sLt_trans hab h] at ha; cases ha
theorem byName_any (n : ByteArray) (id : Int) (x : ByteArray) (w : World) :
    Calls Tryz.prog 128 #[.agg #[.string n, .int .i64 id], .string x] w fun e w' => e = .returned (.int .i64 (cmpS n x)) ∧ Below w.heap.size w w' := by
  go_enter Tryz.func128, Tryz.ntmps128
  go_wp2_with (go_at_call 153; refine (cmpS_any _ _ _).mono ?_; rintro e w' ⟨rfl, rfl⟩)
  go_ret
  exact ⟨rfl, below_alloc (Below.refl _ _) _⟩

def nameV : Value := .func (.func 128) #[] #[]

set_option maxRecDepth 100000 in
set_option maxHeartbeats 2000000 in
theorem bsearchN_any (F : Option Addr) (fc : Nat) (l : List Nm) (x : ByteArray) (w : World) (hr : kNm.C w F l.length l) (hb : l.length ≤ 1048576) (ha : AscN l) :
    Calls Tryz.prog 127 #[.slice F l.length fc, .string x, nameV] w fun e w' => (∃ r : Int, e = .returned (.tuple #[.int .i64 r, .bool (hasN l x)]) ∧ 0 ≤ r ∧ PlaceN l x r.toNat) ∧ Below w.heap.size w w' := by
  have HR := Aside0.mk hr
  have HA := Aside0.mk ha
  obtain ⟨b, HBv⟩ := named (hasN l x)
  rw [← HBv.out]
  obtain ⟨fv, hfv⟩ : ∃ fv, fv = nameV := ⟨_, rfl⟩
  have HF := Aside0.mk hfv
  rw [← hfv]
  have CF : Aside0 (∀ (m : Nm) (W : World), Calls Tryz.prog 128 #[.agg #[.string m.name, .int .i64 m.id], .string x] W fun e w' => e = .returned (.int .i64 (cmpS m.name x)) ∧ Below W.heap.size W w') := ⟨fun m W => byName_any _ _ _ _⟩
  clear hr ha hfv
  go_enter Tryz.func127, Tryz.ntmps127
  rw [HF.out, nameV]
  go_wp2
  go_loopg [9, 10] l.length (fun gk v9 v10 wr => ∃ i j : Nat, v9 = .int .i64 i ∧ v10 = .int .i64 j ∧ gk + i = j ∧ j ≤ l.length ∧ Aside0 ((∀ k f, l[k]? = some f → k < i → sLt f.name x = true) ∧ (∀ k f, l[k]? = some f → j ≤ k → sLt f.name x = false)) ∧ Aside0 (Below w.heap.size w wr))
  case atStart => exact ⟨0, l.length, rfl, rfl, by omega, Nat.le_refl _, ⟨fun k f _ h => by omega, fun k f h1 h2 => by have := (List.getElem?_eq_some_iff.1 h1).1; omega⟩, ⟨Below.refl _ _⟩⟩
  case round =>
    obtain ⟨i, j, rfl, rfl, hg, hjl, HP, HB⟩ := hrel
    by_cases hij : i < j
    · have hij' : (i : Int) < j := by omega
      obtain ⟨c, hc⟩ : ∃ c : Nat, c = (i + j) / 2 := ⟨_, rfl⟩
      have hcc : ((i : Int) + j) / 2 = c := by omega
      have hcl : (c : Int) < l.length := by omega
      have hic : i ≤ c := by omega
      have hcj : c < j := by omega
      have hij2 : (i : Int) + j ≤ 3000000 := by omega
      have HC := Aside0.mk (Kd.C_below HR.out HB.out)
      obtain ⟨m, hm⟩ : ∃ m, l[c]? = some m := ⟨_, List.getElem?_eq_getElem (by omega)⟩
      obtain ⟨ad, rfl, c0, c1⟩ := atNm HC.out c m hm
      have HM := Aside0.mk hm
      clear hm hc
      by_cases hlt : sLt m.name x = true
      · have hcm : Aside0 (cmpS m.name x = -1) := ⟨by simp [cmpS, hlt]⟩
        have HL := Aside0.mk hlt
        clear hlt
        go_wp2_with fail
        refine (CF.out m _).mono ?_
        rw [hcm.out]
        rintro e w1 ⟨rfl, hb1⟩
        have HB1 := Aside0.mk (bthen HB.out hb1)
        clear hb1
        go_wp2
        go_roundg (j - (c + 1))
        case measure => omega
        case rel =>
          refine ⟨c + 1, j, by go_num, rfl, by omega, hjl, ⟨fun k f hk hkc => ?_, HP.out.2⟩, HB1⟩
          rcases Nat.lt_or_ge k c with h1 | h1
          · exact sLt_trans (HA.out.lt h1 hk HM.out) HL.out
          · obtain rfl : k = c := by omega
            rw [HM.out] at hk; injection hk with hk; rw [← hk]; exact HL.out
      · have HL := Aside0.mk (Bool.eq_false_iff.2 hlt)
        obtain ⟨o, ho⟩ : ∃ o, cmpS m.name x = o := ⟨_, rfl⟩
        have ho0 : ¬ (o < 0) := by rw [← ho]; unfold cmpS; rw [if_neg hlt]; split <;> decide
        clear hlt
        go_wp2_with fail
        refine (CF.out m _).mono ?_
        rw [ho]
        rintro e w1 ⟨rfl, hb1⟩
        have HB1 := Aside0.mk (bthen HB.out hb1)
        clear hb1
        go_wp2
        go_roundg (c - i)
        case measure => omega
        case rel =>
          refine ⟨i, c, rfl, rfl, by omega, by omega, ⟨HP.out.1, fun k f hk hkc => ?_⟩, HB1⟩
          rcases Nat.eq_or_lt_of_le hkc with rfl | h1
          · rw [HM.out] at hk; injection hk with hk; rw [← hk]; exact HL.out
          · exact sLt_up (HA.out.lt h1 HM.out hk) HL.out
    · obtain rfl : i = j := by omega
      have HPl : Aside0 (PlaceN l x i) := ⟨⟨hjl, HP.out.1, HP.out.2⟩⟩
      have hh := hasN_place HA.out HPl.out
      rw [← HBv.out] at hh
      clear HP
      by_cases hil : i < l.length
      · have hil' : (i : Int) < l.length := by omega
        have HC := Aside0.mk (Kd.C_below HR.out HB.out)
        obtain ⟨m, hm⟩ : ∃ m, l[i]? = some m := ⟨_, List.getElem?_eq_getElem hil⟩
        obtain ⟨ad, rfl, c0, c1⟩ := atNm HC.out i m hm
        rw [hm] at hh
        obtain ⟨o, ho⟩ : ∃ o, cmpS m.name x = o := ⟨_, rfl⟩
        have HO : Aside0 (b = (o == 0)) := ⟨by
          rw [hh, ← ho]; unfold cmpS
          cases h1 : sLt m.name x with
          | true => rw [if_pos rfl]; exact sameB_not.2 (sLt_ne h1)
          | false =>
            rw [if_neg (by decide)]
            cases h2 : sLt x m.name with
            | true => rw [if_pos rfl]; exact sameB_not.2 (sLt_ne h2).symm
            | false => rw [if_neg (by decide)]; exact sameB_iff.2 (sLt_total h1 h2)⟩
        clear hm hh
        go_wp2_with fail
        refine (CF.out m _).mono ?_
        rw [ho]
        rintro e w1 ⟨rfl, hb1⟩
        have HB1 := Aside0.mk (bthen HB.out hb1)
        clear hb1
        go_wp2
        refine bodyPost_ret (results_tmp2 rfl _ _ _) rfl ?_
        exact ⟨⟨i, by rw [HO.out]; rfl, by omega, by simpa using HPl.out⟩, HB1.out⟩
      · have hil' : ¬ ((i : Int) < l.length) := by omega
        have hb0 : b = false := by rw [hh, List.getElem?_eq_none (by omega)]
        subst hb0
        clear hh
        go_wp2
        refine bodyPost_ret (results_tmp2 rfl _ _ _) rfl ?_
        exact ⟨⟨i, rfl, by omega, by simpa using HPl.out⟩, HB.out⟩


theorem find_any (N : Option Addr) (nc : Nat) (l : List Nm) (x : ByteArray) (w : World) (hr : kNm.C w N l.length l) (hb : l.length ≤ 1048576) (ha : AscN l) :
    Calls Tryz.prog 94 #[.slice N l.length nc, .string x] w fun e w' => (∃ r : Int, e = .returned (.tuple #[.int .i64 r, .bool (hasN l x)]) ∧ 0 ≤ r ∧ PlaceN l x r.toNat) ∧ Below w.heap.size w w' := by
  have HR := Aside0.mk hr
  have HA := Aside0.mk ha
  obtain ⟨b, HBv⟩ := named (hasN l x)
  rw [← HBv.out]
  have CB : Aside0 (∀ W, kNm.C W N l.length l → Calls Tryz.prog 127 #[.slice N l.length nc, .string x, .func (.func 128) #[] #[]] W fun e w' => (∃ r : Int, e = .returned (.tuple #[.int .i64 r, .bool b]) ∧ 0 ≤ r ∧ PlaceN l x r.toNat) ∧ Below W.heap.size W w') := ⟨fun W hW => by rw [HBv.out]; exact bsearchN_any N nc l x W hW hb HA.out⟩
  clear hr ha
  go_enter Tryz.func94, Tryz.ntmps94
  go_wp2_with fail
  refine (CB.out _ HR.out).mono ?_
  rintro e w1 ⟨⟨r, rfl, hr0, hpl⟩, hb1⟩
  have HP := Aside0.mk hpl
  have HB1 := Aside0.mk hb1
  clear hpl hb1
  go_wp2
  refine bodyPost_ret (results_tmp2 rfl _ _ _) rfl ?_
  exact ⟨⟨r, rfl, hr0, HP.out⟩, HB1.out⟩
end Go.Proofs.YtfakfgblaakgdaaGreat.Files

/- A block of elements of so many cells each, that is written in place (cells alone; what they lead to is not said). -/
namespace Go.Proofs.YtfakfgblaakgdaaGreat.RowsC
set_option linter.unusedVariables false
set_option linter.unusedSimpArgs false
open Go.RowKit Go.Proofs.YtfakfgblaakgdaaGreatW.PrintWords Go.Proofs.YtfakfgblaakgdaaGreatW.PrintLast Go.Proofs.YtfakfgblaakgdaaGreat.Base Go.Proofs.YtfakfgblaakgdaaGreat.Cells

/-- block g holds the elements L (sz cells each), and room behind them -/
def CRow (e : TypeId) (sz : Nat) (w : World) (g cap : Nat) (L : List (List Value)) : Prop :=
  ∃ cur : Array Value, w.heap[g]? = some (.cells cur e (0, 0)) ∧ cur.size = cap * sz ∧ L.length ≤ cap ∧ cur.toList.take (L.length * sz) = L.flatten ∧ ∀ r ∈ L, r.length = sz

theorem flatten_len {sz : Nat} (L : List (List Value)) (h : ∀ r ∈ L, r.length = sz) : L.flatten.length = L.length * sz := by
  induction L with
  | nil => simp
  | cons m L ih => rw [List.flatten_cons, List.length_append, ih (fun r hr => h r (List.mem_cons_of_mem _ hr)), h m List.mem_cons_self, List.length_cons, Nat.succ_mul, Nat.add_comm]
theorem flatten_get {sz : Nat} (L : List (List Value)) (hs : ∀ r ∈ L, r.length = sz) (i : Nat) (r : List Value) (h : L[i]? = some r) (j : Nat) (hj : j < sz) : L.flatten[i * sz + j]? = r[j]? := by
  induction L generalizing i with
  | nil => simp at h
  | cons a L ih =>
    have ha := hs a List.mem_cons_self
    rw [List.flatten_cons]
    cases i with
    | zero =>
      simp at h
      subst h
      rw [Nat.zero_mul, Nat.zero_add, List.getElem?_append_left (by omega)]
    | succ i =>
      have := ih (fun r hr => hs r (List.mem_cons_of_mem _ hr)) i (by simpa using h)
      rw [← this, Nat.succ_mul, List.getElem?_append_right (by omega)]
      congr 1
      omega
theorem flatten_set {sz : Nat} (L : List (List Value)) (hs : ∀ r ∈ L, r.length = sz) (i : Nat) (r : List Value) (h : i < L.length) (hr : r.length = sz) :
    (L.set i r).flatten = L.flatten.take (i * sz) ++ (r ++ L.flatten.drop (i * sz + sz)) := by
  induction L generalizing i with
  | nil => simp at h
  | cons a L ih =>
    have ha := hs a List.mem_cons_self
    cases i with
    | zero =>
      simp only [List.set_cons_zero, List.flatten_cons, Nat.zero_mul, List.take_zero, List.nil_append, Nat.zero_add]
      rw [List.drop_append_of_le_length (by omega), List.drop_of_length_le (by omega), List.nil_append]
    | succ i =>
      have := ih (fun r hr => hs r (List.mem_cons_of_mem _ hr)) i (by simpa using h)
      have t1 : (a ++ L.flatten).take (i * sz + sz) = a ++ L.flatten.take (i * sz) := by
        rw [List.take_append, List.take_of_length_le (l := a) (by omega), show i * sz + sz - a.length = i * sz by omega]
      have t2 : (a ++ L.flatten).drop (i * sz + sz + sz) = L.flatten.drop (i * sz + sz) := by
        rw [List.drop_append, List.drop_of_length_le (l := a) (by omega), List.nil_append, show i * sz + sz + sz - a.length = i * sz + sz by omega]
      rw [List.set_cons_succ, List.flatten_cons, List.flatten_cons, this, Nat.succ_mul, t1, t2, List.append_assoc]
section
variable {e sz : Nat} {w w1 : World} {g cap : Nat} {L A B : List (List Value)}
theorem CRow.cell (h : CRow e sz w g cap L) (i : Nat) (r : List Value) (hi : L[i]? = some r) (j : Nat) (hj : j < sz) : w.cell? ⟨g, i * sz + j, none⟩ = r[j]? := by
  obtain ⟨cur, h1, h2, h3, h4, h5⟩ := h
  rw [blk_cell h1]
  have hil : i < L.length := (List.getElem?_eq_some_iff.1 hi).1
  have : i * sz + j < L.length * sz := by have := Nat.mul_le_mul_right sz (Nat.succ_le_of_lt hil); rw [Nat.succ_mul] at this; omega
  rw [← flatten_get L h5 i r hi j hj, ← h4, List.getElem?_take, if_pos this, Array.getElem?_toList]
theorem CRow.froz (h : CRow e sz w g cap L) (i : Nat) : w.frozen? ⟨g, i, none⟩ = false := by
  obtain ⟨cur, h1, _⟩ := h
  exact blk_frozen h1 i
theorem CRow.lt (h : CRow e sz w g cap L) : g < w.heap.size := by
  obtain ⟨cur, h1, _⟩ := h
  exact blk_lt h1
theorem CRow.len (h : CRow e sz w g cap L) : L.length ≤ cap := by
  obtain ⟨cur, _, _, h3, _⟩ := h
  exact h3
theorem CRow.keep (h : CRow e sz w g cap L) (hb : Below w.heap.size w w1) : CRow e sz w1 g cap L := by
  obtain ⟨cur, h1, h2⟩ := h
  exact ⟨cur, blk_keep h1 hb, h2⟩
theorem CRow.same (h : CRow e sz w g cap L) (hb : w1.heap[g]? = w.heap[g]?) : CRow e sz w1 g cap L := by
  obtain ⟨cur, h1, h2⟩ := h
  exact ⟨cur, hb.trans h1, h2⟩
theorem CRow.drew (h : CRow e sz w g cap L) : CRow e sz w.drew g cap L := h
theorem CRow.there (h : CRow e sz w g cap L) (o : Nat) (ho : o < cap * sz) : (w.cell? ⟨g, o, none⟩).isSome = true := by
  obtain ⟨cur, h1, h2, h3, h4⟩ := h
  rw [blk_cell h1, Array.getElem?_eq_getElem (by omega)]
  rfl
theorem CRow.set (h : CRow e sz w g cap L) (i : Nat) (r : List Value) (hi : i < L.length) (hr : r.length = sz) : CRow e sz (w.setCells g (i * sz) r) g cap (L.set i r) := by
  obtain ⟨cur, h1, h2, h3, h4, h5⟩ := h
  have hm := Nat.mul_le_mul_right sz (Nat.succ_le_of_lt hi)
  have hc := Nat.mul_le_mul_right sz h3
  rw [Nat.succ_mul] at hm
  have hcl : cur.toList.length = cap * sz := by rw [← h2]; exact Array.length_toList
  obtain ⟨cur', e1, e2, e3⟩ := setCells_row r (i * sz) w cur h1 (by omega)
  refine ⟨cur', e1, by rw [e2]; exact h2, by simpa using h3, ?_, fun x hx => ?_⟩
  · rw [flatten_set L h5 i r hi hr, ← h4, List.length_set, e3, List.append_assoc, List.take_append, List.take_take, List.length_take, hcl, List.take_append, hr, List.take_take]
    rw [Nat.min_eq_left (show i * sz ≤ cap * sz by omega), Nat.min_eq_right (show i * sz ≤ L.length * sz by omega), Nat.min_eq_left (show i * sz ≤ L.length * sz by omega), List.take_of_length_le (l := r) (by omega)]
    congr 2
    rw [List.drop_take]
    congr 1
    omega
  · rcases List.mem_or_eq_of_mem_set hx with hx | hx
    · exact h5 x hx
    · rw [hx]; exact hr
theorem CRow.front (h : CRow e sz w g cap (A ++ B)) : CRow e sz w g cap A := by
  obtain ⟨cur, h1, h2, h3, h4, h5⟩ := h
  have h6 : ∀ r ∈ A, r.length = sz := fun r hr => h5 r (List.mem_append_left _ hr)
  refine ⟨cur, h1, h2, by simp at h3; omega, ?_, h6⟩
  have h7 := congrArg (List.take (A.length * sz)) h4
  rw [List.take_take, List.flatten_append, List.take_left' (flatten_len A h6), Nat.min_eq_left (by rw [List.length_append, Nat.add_mul]; omega)] at h7
  exact h7
/-- elements written behind the first ones (over what was there) -/
theorem CRow.over (h : CRow e sz w g cap (A ++ B)) (C : List (List Value)) (hC : ∀ r ∈ C, r.length = sz) (hl : A.length + C.length ≤ cap) : CRow e sz (w.setCells g (A.length * sz) C.flatten) g cap (A ++ C) := by
  obtain ⟨cur, h1, h2, h3, h4, h5⟩ := h.front
  have hm := Nat.mul_le_mul_right sz hl
  rw [Nat.add_mul] at hm
  have hcl : cur.toList.length = cap * sz := by rw [← h2]; exact Array.length_toList
  obtain ⟨cur', e1, e2, e3⟩ := setCells_row C.flatten (A.length * sz) w cur h1 (by rw [flatten_len C hC, h2]; omega)
  refine ⟨cur', e1, by rw [e2]; exact h2, by simpa using hl, ?_, fun r hr => (List.mem_append.1 hr).elim (h5 r) (hC r)⟩
  rw [e3, List.flatten_append, h4, List.length_append, Nat.add_mul]
  have hf := flatten_len C hC
  have hfa := flatten_len A h5
  rw [List.take_append_of_le_length (by simp only [List.length_append]; omega), List.take_of_length_le (by simp only [List.length_append]; omega)]
end
theorem flatten_put {sz : Nat} (L : List (List Value)) (hs : ∀ r ∈ L, r.length = sz) (i j : Nat) (r : List Value) (u : Value) (h : L[i]? = some r) (hj : j < sz) : (L.set i (r.set j u)).flatten = L.flatten.set (i * sz + j) u := by
  induction L generalizing i with
  | nil => simp at h
  | cons a L ih =>
    have ha := hs a List.mem_cons_self
    cases i with
    | zero =>
      simp at h
      subst h
      rw [List.set_cons_zero, List.flatten_cons, List.flatten_cons, Nat.zero_mul, Nat.zero_add, List.set_append_left _ _ (by omega)]
    | succ i =>
      have := ih (fun r hr => hs r (List.mem_cons_of_mem _ hr)) i (by simpa using h)
      rw [List.set_cons_succ, List.flatten_cons, List.flatten_cons, this, Nat.succ_mul, List.set_append_right _ _ (by omega)]
      congr 2
      omega
/-- one cell of an element is written -/
theorem CRow.put {e sz : Nat} {w : World} {g cap : Nat} {L : List (List Value)} (h : CRow e sz w g cap L) (i j : Nat) (r : List Value) (u : Value) (hi : L[i]? = some r) (hj : j < sz) : CRow e sz (w.setCell ⟨g, i * sz + j, none⟩ u) g cap (L.set i (r.set j u)) := by
  obtain ⟨cur, h1, h2, h3, h4, h5⟩ := h
  refine ⟨cur.setIfInBounds (i * sz + j) u, blk_put h1 _ _ rfl, by simpa using h2, by simpa using h3, ?_, fun x hx => ?_⟩
  · rw [flatten_put L h5 i j r u hi hj, ← h4, List.length_set, Array.toList_setIfInBounds, List.take_set]
  · rcases List.mem_or_eq_of_mem_set hx with hx | hx
    · exact h5 x hx
    · rw [hx, List.length_set]; exact h5 r (List.mem_of_getElem? hi)
theorem setCells_grown (w : World) (g o : Nat) (vs : List Value) : w.grownBy (w.setCells g o vs) (some g) := by
  obtain ⟨h1, h2, h3, h4⟩ := setCells_same g vs o w
  exact ⟨h1, h2, h3, by rw [h4]; exact Nat.le_refl _, fun k _ hk => setCells_far vs o k (fun e => hk (by rw [e]))⟩
section
variable {α : Type} {d : Kd α} {enc : α → List Value} {w : World} {e base : Nat} {ok : Nat → Prop} {v : Value} {xs : List α}
theorem reps_flat (hM : ∀ {x cs}, d.M w base (fun k => ok k ∧ some k ≠ v.ownBlock) x cs → cs = enc x) (hsz : ∀ x, (enc x).length = d.sz) : ∀ (l : List α) (cs : List Value), Reps (d.M w base (fun k => ok k ∧ some k ≠ v.ownBlock)) d.sz l cs → cs = (l.map enc).flatten := by
  intro l
  induction l with
  | nil => intro cs h; exact List.eq_nil_of_length_eq_zero (by rw [h.1]; simp)
  | cons m l ih =>
    intro cs h
    have hl : cs.length = (l.length + 1) * d.sz := h.1
    rw [Nat.succ_mul] at hl
    have h0 := h.2 0 m rfl
    have h1 : cs.take d.sz = enc m := by
      have := hM h0
      rw [Nat.zero_mul, List.drop_zero] at this
      exact this
    have h2 := ih (cs.drop d.sz) ⟨by rw [List.length_drop, hl]; omega, fun j p hj => by
      have := h.2 (j + 1) p (by simpa using hj)
      rw [List.drop_drop]
      rw [Nat.succ_mul, Nat.add_comm] at this
      exact this⟩
    rw [List.map_cons, List.flatten_cons, ← h1, ← h2, List.take_append_drop]
/-- a row of one's own, as cells -/
theorem R_rows (hM : ∀ {ok' : Nat → Prop} {x cs}, d.M w base ok' x cs → cs = enc x) (hsz : ∀ x, (enc x).length = d.sz) (h : d.R e w base ok v xs) :
    (v = .slice none 0 0 ∧ xs = []) ∨ ∃ g cap, v = .slice (some ⟨g, 0, none⟩) xs.length cap ∧ base ≤ g ∧ ok g ∧ cap ≤ 9223372036854775807 ∧ CRow e d.sz w g cap (xs.map enc) := by
  obtain ⟨h0, inner, hown, hr⟩ := h
  have hi := reps_flat (v := v) (ok := ok) hM hsz xs inner hr
  rcases hown.2 with ⟨rfl, hn⟩ | ⟨g, cap, cur, rfl, hb, hh, hnc, hcm, hcs, htake⟩
  · exact .inl ⟨rfl, List.eq_nil_of_length_eq_zero hn⟩
  · exact .inr ⟨g, cap, rfl, hb, h0 g rfl, by simpa [maxLen] using hcm, cur, hh, hcs, by simpa using hnc, by rw [← hi, List.length_map]; exact htake, fun r hr => by obtain ⟨x, _, rfl⟩ := List.mem_map.1 hr; exact hsz x⟩
theorem reps_map {ok' : Nat → Prop} (hsz : ∀ x, (enc x).length = d.sz) : ∀ l : List α, (∀ x ∈ l, d.M w base ok' x (enc x)) → Reps (d.M w base ok') d.sz l (l.map enc).flatten := by
  intro l hM
  refine ⟨by rw [flatten_len (l.map enc) (sz := d.sz) (fun r hr => by obtain ⟨x, _, rfl⟩ := List.mem_map.1 hr; exact hsz x), List.length_map], ?_⟩
  induction l with
  | nil => intro j p hj; simp at hj
  | cons a l ih =>
    intro j p hj
    rw [List.map_cons, List.flatten_cons]
    cases j with
    | zero =>
      simp at hj
      subst hj
      rw [Nat.zero_mul, List.drop_zero, List.take_left' (hsz a)]
      exact hM a List.mem_cons_self
    | succ j =>
      have := ih (fun x hx => hM x (List.mem_cons_of_mem _ hx)) j p (by simpa using hj)
      rw [Nat.succ_mul, Nat.add_comm, List.drop_append, List.drop_of_length_le (l := enc a) (by rw [hsz]; omega), List.nil_append, hsz, Nat.add_sub_cancel_left]
      exact this
theorem R_of_rows (hM : ∀ {ok' : Nat → Prop}, ∀ x ∈ xs, d.M w base ok' x (enc x)) (hsz : ∀ x, (enc x).length = d.sz) {g cap : Nat} (hb : base ≤ g) (ho : ok g) (hcm : cap ≤ 9223372036854775807) (h : CRow e d.sz w g cap (xs.map enc)) : d.R e w base ok (.slice (some ⟨g, 0, none⟩) xs.length cap) xs := by
  obtain ⟨cur, h1, h2, h3, h4, h5⟩ := h
  rw [List.length_map] at h3 h4
  exact ⟨fun k hk => by simp [Value.ownBlock] at hk; rw [← hk]; exact ho, _, ⟨by rw [flatten_len _ h5, List.length_map], .inr ⟨g, cap, cur, rfl, hb, h1, h3, by simpa [maxLen] using hcm, h2, h4⟩⟩, reps_map hsz xs hM⟩
end

/-- a row of one's own, by its elements' cells -/
def CR (e : TypeId) (sz : Nat) (w : World) (base : Nat) (v : Value) (rows : List (List Value)) : Prop :=
  (v = .slice none 0 0 ∧ rows = []) ∨ ∃ g cap, v = .slice (some ⟨g, 0, none⟩) rows.length cap ∧ base ≤ g ∧ cap ≤ 9223372036854775807 ∧ CRow e sz w g cap rows
section
variable {e sz base : Nat} {w w1 : World} {v : Value} {rows : List (List Value)}
theorem CR.nil : CR e sz w base (.slice none 0 0) [] := .inl ⟨rfl, rfl⟩
theorem CR.block (h : CR e sz w base v rows) : ∀ k, v.ownBlock = some k → base ≤ k ∧ k < w.heap.size ∧ ∃ cs, w.heap[k]? = some (.cells cs e (0, 0)) := by
  intro k hk
  rcases h with ⟨rfl, _⟩ | ⟨g, cap, rfl, hb, _, hr⟩
  · simp [Value.ownBlock] at hk
  · have : g = k := by simpa [Value.ownBlock] using hk
    subst this
    obtain ⟨cur, h1, _⟩ := hr
    exact ⟨hb, blk_lt h1, cur, h1⟩
theorem CR.step (h : CR e sz w base v rows) (hm : ∀ k, v.ownBlock = some k → w1.heap[k]? = w.heap[k]?) : CR e sz w1 base v rows := by
  rcases h with h | ⟨g, cap, rfl, hb, hc, hr⟩
  · exact .inl h
  · exact .inr ⟨g, cap, rfl, hb, hc, hr.same (hm g (by simp [Value.ownBlock]))⟩
theorem CR.below (h : CR e sz w base v rows) (hb : Below w.heap.size w w1) : CR e sz w1 base v rows := h.step (fun k hk => hb.block k (h.block k hk).2.1)
theorem CR.other (h : CR e sz w base v rows) {row : Option Nat} (hg : w.grownBy w1 row) (hne : ∀ k, v.ownBlock = some k → some k ≠ row) : CR e sz w1 base v rows := h.step (fun k hk => hg.block k (h.block k hk).2.1 (hne k hk))
theorem CR.lower {base' : Nat} (h : CR e sz w base v rows) (hb : base' ≤ base) : CR e sz w base' v rows := by
  rcases h with h | ⟨g, cap, rfl, h1, hc, hr⟩
  · exact .inl h
  · exact .inr ⟨g, cap, rfl, by omega, hc, hr⟩
theorem CR.form (h : CR e sz w base v rows) : ∃ A c, v = .slice A rows.length c ∧ rows.length ≤ c := by
  rcases h with ⟨rfl, rfl⟩ | ⟨g, cap, rfl, _, _, hr⟩
  · exact ⟨none, 0, rfl, Nat.le_refl _⟩
  · exact ⟨_, cap, rfl, hr.len⟩
end
section
variable {α : Type} {d : Kd α} {enc : α → List Value} {w : World} {e base : Nat} {v : Value} {xs : List α}
theorem CR_of_R (hM : ∀ {ok' : Nat → Prop} {x cs}, d.M w base ok' x cs → cs = enc x) (hsz : ∀ x, (enc x).length = d.sz) (h : d.R e w base (fun _ => True) v xs) : CR e d.sz w base v (xs.map enc) := by
  rcases R_rows hM hsz h with ⟨h1, h2⟩ | ⟨g, cap, h1, h2, _, h3, h4⟩
  · exact .inl ⟨h1, by rw [h2]; rfl⟩
  · exact .inr ⟨g, cap, by rw [h1, List.length_map], h2, h3, h4⟩
theorem R_of_CR (hM : ∀ {ok' : Nat → Prop}, ∀ x ∈ xs, d.M w base ok' x (enc x)) (hsz : ∀ x, (enc x).length = d.sz) (h : CR e d.sz w base v (xs.map enc)) : d.R e w base (fun _ => True) v xs := by
  rcases h with ⟨rfl, h2⟩ | ⟨g, cap, rfl, hb, hc, hr⟩
  · rw [List.map_eq_nil_iff] at h2
    subst h2
    exact Kd.R_nil _ _ _ _ _
  · rw [List.length_map]
    exact R_of_rows hM hsz hb trivial hc hr
end
end Go.Proofs.YtfakfgblaakgdaaGreat.RowsC

/- Files and names of one's own: a row of files no two of which share octets. -/
namespace Go.Proofs.YtfakfgblaakgdaaGreat.Files
set_option linter.unusedVariables false
set_option linter.unusedSimpArgs false
open Go.RowKit Go.Proofs.YtfakfgblaakgdaaGreatW.PrintWords Go.Proofs.YtfakfgblaakgdaaGreatW.PrintLast Go.Proofs.YtfakfgblaakgdaaGreat.Base Go.Proofs.YtfakfgblaakgdaaGreat.Cells Go.Proofs.YtfakfgblaakgdaaGreat.Var Go.Proofs.YtfakfgblaakgdaaGreat.EditPure Go.Proofs.YtfakfgblaakgdaaGreat.Edit Go.Proofs.YtfakfgblaakgdaaGreat.RowsC

/-- a file's cells, its octets' slice told -/
def rowF (x : Fl × Value) : List Value := [.int .i64 x.1.id, x.2, .int .i64 x.1.sync]
theorem rows_len (L : List (Fl × Value)) : (L.map rowF).length = L.length := by simp
/-- a file with its octets' slice: its cells, and no more -/
def kFd : Kd (Fl × Value) where
  sz := 3
  E := []
  K := fun _ x cs => cs = rowF x ∧ x.2.oneCell' = true
  M := fun _ _ _ x cs => cs = rowF x ∧ x.2.oneCell' = true
  K_len := fun h => by rw [h.1]; rfl
  K_one := fun h u hu => by
    rw [h.1] at hu
    simp only [rowF, List.mem_cons, List.not_mem_nil, or_false] at hu
    rcases hu with rfl | rfl | rfl
    · rfl
    · exact h.2
    · rfl
  K_below := fun _ h => h
  K_of_M := fun h => h
  M_mono := fun _ h => h
  M_bound := fun h => h
  M_move := fun _ h => h
  M_lower := fun _ h => h

/-- a row of files of one's own, each with octets of its own -/
structure OF (e : TypeId) (w : World) (base : Nat) (v : Value) (L : List (Fl × Value)) : Prop where
  row : CR e 3 w base v (L.map rowF)
  own : ∀ x ∈ L, RB w base x.2 x.1.data
  apart : (L.filterMap fun x => x.2.ownBlock).Nodup
section
variable {e : TypeId} {w w1 : World} {base : Nat} {v : Value} {L : List (Fl × Value)}
theorem RB_step {u : Value} {l : List Int} (h : RB w base u l) (hm : ∀ k, u.ownBlock = some k → w1.heap[k]? = w.heap[k]?) : RB w1 base u l := own_move h hm
theorem RB_below {u : Value} {l : List Int} (h : RB w base u l) (hb : Below w.heap.size w w1) : RB w1 base u l := own_move h (fun k hk => hb.block k (own_lt h k hk))
theorem OF.step (h : OF e w base v L) (hr : ∀ k, v.ownBlock = some k → w1.heap[k]? = w.heap[k]?) (hd : ∀ x ∈ L, ∀ k, x.2.ownBlock = some k → w1.heap[k]? = w.heap[k]?) : OF e w1 base v L :=
  ⟨h.row.step hr, fun x hx => RB_step (h.own x hx) (hd x hx), h.apart⟩
theorem OF.below (h : OF e w base v L) (hb : Below w.heap.size w w1) : OF e w1 base v L :=
  h.step (fun k hk => hb.block k (h.row.block k hk).2.1) (fun x hx k hk => hb.block k (own_lt (h.own x hx) k hk))
theorem OF.lower {base' : Nat} (h : OF e w base v L) (hb : base' ≤ base) : OF e w base' v L := ⟨h.row.lower hb, fun x hx => own_weaken (h.own x hx) hb, h.apart⟩
/-- something else has been written: a block of another type, or a map -/
theorem OF.other (h : OF e w base v L) {row : Option Nat} (hg : w.grownBy w1 row) (hne : ∀ k, row = some k → ∀ q cs, (q = e ∨ q = 5) → w.heap[k]? ≠ some (.cells cs q (0, 0))) : OF e w1 base v L :=
  h.step (fun k hk => by obtain ⟨_, h2, cs, h3⟩ := h.row.block k hk; exact hg.block k h2 (fun e1 => hne k e1.symm e cs (.inl rfl) h3))
    (fun x hx k hk => by obtain ⟨cs, h3⟩ := own_typed (h.own x hx) k hk; exact hg.block k (own_lt (h.own x hx) k hk) (fun e1 => hne k e1.symm _ cs (.inr rfl) h3))
theorem OF.reads (h : OF e w base v L) : ∃ A c, v = .slice A L.length c ∧ L.length ≤ c ∧ kFl.C w A L.length (L.map (·.1)) := by
  rcases h.row with ⟨rfl, h2⟩ | ⟨g, cap, rfl, hb, hc, hr⟩
  · rw [List.map_eq_nil_iff] at h2
    subst h2
    exact ⟨none, 0, rfl, Nat.le_refl _, Kd.C_nil kFl w⟩
  · have hl := hr.len
    rw [rows_len] at hl
    refine ⟨some ⟨g, 0, none⟩, cap, by rw [rows_len], hl, by rw [List.length_map], by omega, fun _ => ⟨⟨g, 0, none⟩, rfl, fun j p hj => ?_⟩⟩
    rw [List.getElem?_map] at hj
    obtain ⟨x, hx, rfl⟩ := Option.map_eq_some_iff.1 hj
    obtain ⟨A, c, h1, h2⟩ := RB_reads (h.own x (List.mem_of_getElem? hx))
    have h3 : x.1.data.length ≤ c := by have := h.own x (List.mem_of_getElem? hx); rw [h1] at this; exact own_le this
    refine ⟨[.int .i64 x.1.id, .slice A x.1.data.length c, .int .i64 x.1.sync], rfl, kFl_mk h3 h2, fun i u hu => ?_⟩
    have h4 := hr.cell j (rowF x) (by rw [List.getElem?_map, hx]; rfl) i (by have := (List.getElem?_eq_some_iff.1 hu).1; simpa using this)
    rw [add_plain]
    refine h4.trans ?_
    rw [rowF, h1]
    exact hu
end
end Go.Proofs.YtfakfgblaakgdaaGreat.Files

/- slices.Clone of names and of files, bytes.Clone: walked. -/
namespace Go.Proofs.YtfakfgblaakgdaaGreat.Files
set_option linter.unusedVariables false
set_option linter.unusedSimpArgs false
open Go.RowKit Go.Proofs.YtfakfgblaakgdaaGreatW.PrintWords Go.Proofs.YtfakfgblaakgdaaGreatW.PrintLast Go.Proofs.YtfakfgblaakgdaaGreat.Base Go.Proofs.YtfakfgblaakgdaaGreat.Cells Go.Proofs.YtfakfgblaakgdaaGreat.Ints Go.Proofs.YtfakfgblaakgdaaGreat.Var Go.Proofs.YtfakfgblaakgdaaGreat.EditPure Go.Proofs.YtfakfgblaakgdaaGreat.Edit Go.Proofs.YtfakfgblaakgdaaGreat.RowsC

theorem empty_row {α : Type} (d : Kd α) (e : TypeId) (w : World) : d.R e (w.alloc (.cells #[] e)) w.heap.size (fun _ => True) (.slice (some ⟨w.heap.size, 0, none⟩) 0 0) [] :=
  R_of_rows (xs := []) (enc := fun _ => List.replicate d.sz (.bool true)) (fun x hx => by simp at hx) (fun _ => by simp) (Nat.le_refl _) trivial (by omega) ⟨#[], blk_new _ _, by simp, by simp, by simp, by simp⟩
theorem C_none {α : Type} {d : Kd α} {w : World} {l : List α} (h : d.C w none l.length l) : l = [] := by
  rcases l with _ | ⟨x, l⟩
  · rfl
  · obtain ⟨ad, _, h, _⟩ := Kd.C_get h x 0 (by omega) (by simp)
    cases h

set_option maxRecDepth 100000 in
set_option maxHeartbeats 1000000 in
theorem cloneN_any (A : Option Addr) (c : Nat) (l : List Nm) (w : World) (hr : kNm.C w A l.length l) (hb : l.length ≤ 1048576) :
    Calls Tryz.prog 113 #[.slice A l.length c] w fun e w' => ∃ v, e = .returned v ∧ RN w' w.heap.size v l ∧ Below w.heap.size w w' := by
  have HR := Aside0.mk hr
  clear hr
  cases A with
  | none =>
    have h0 : l = [] := C_none HR.out
    subst h0
    clear HR
    have hnil : ∀ W, (binOp .eql 33 (.slice none 0 c) (.slice none 0 0)).run Tryz.prog W = .ok (.bool true) W := fun W => Lib.run_eql_slice_nil (P := Tryz.prog) W 33 146 none 0 c 0 0 Tryz.underlying33
    simp only [List.length_nil]
    go_enter Tryz.func113, Tryz.ntmps113
    go_wp2
    go_ret
    exact ⟨_, rfl, Kd.R_nil _ _ _ _ _, Below.refl _ _⟩
  | some ad =>
    have hnil : ∀ W, (binOp .eql 33 (.slice (some ad) l.length c) (.slice none 0 0)).run Tryz.prog W = .ok (.bool false) W := fun W => Lib.run_eql_slice_nil (P := Tryz.prog) W 33 146 (some ad) l.length c 0 0 Tryz.underlying33
    have HO : Aside0 (RN (w.alloc (.cells #[] 146)) w.heap.size (.slice (some ⟨w.heap.size, 0, none⟩) 0 0) []) := ⟨empty_row kNm _ w⟩
    have HB : Aside0 (Below w.heap.size w (w.alloc (.cells #[] 146))) := ⟨below_alloc (Below.refl _ _) _⟩
    have HC := Aside0.mk (Kd.C_below HR.out HB.out)
    go_enter Tryz.func113, Tryz.ntmps113
    go_wp2_with (at_builtin; refine Kd.R_append_rows kNm (Rr := kNm.K (w.alloc (.cells #[] 146))) (w0 := w) w.heap.size rfl (.tmp 5) (.tmp 6) 33 146 (.agg #[.string ⟨#[]⟩, .int .i64 0]) 24 rfl Tryz.underlying33 infoNm rfl (by decide) (by omega) (.slice (some ⟨w.heap.size, 0, none⟩) 0 0) [] l (some ad) l.length c (fun _ => True) (fun _ => False) rfl rfl ?aO ?aR ?aK (fun _ hk => hk.elim) (fun _ _ => trivial) ?aB ?aS ?c1 ?_; (case aO => exact HO.out); (case aR => exact HC.out); (case aK => intro x cs hx; rw [kNm_open hx]; exact kNm_mkM _ _ _ x); (case aB => exact HB.out); (case aS => exact HB.out.size); (case c1 => simp only [List.length_nil]; omega); intro v1 w1 hown hB1 hg1 hat; have HO1 := Aside0.mk hown; have HB1 := Aside0.mk hB1; clear hown hB1 hg1 hat)
    go_ret
    exact ⟨_, rfl, by have := HO1.out; rwa [List.nil_append] at this, HB1.out⟩

/-- a row of files, its cells of one's own -/
abbrev RFd (w : World) (base : Nat) (v : Value) (L : List (Fl × Value)) : Prop := kFd.R 113 w base (fun _ => True) v L
set_option maxRecDepth 100000 in
set_option maxHeartbeats 1000000 in
theorem cloneF_any (A : Option Addr) (c : Nat) (l : List (Fl × Value)) (w : World) (hr : kFd.C w A l.length l) (hb : l.length ≤ 1048576) :
    Calls Tryz.prog 144 #[.slice A l.length c] w fun e w' => ∃ v, e = .returned v ∧ RFd w' w.heap.size v l ∧ Below w.heap.size w w' := by
  have HR := Aside0.mk hr
  clear hr
  cases A with
  | none =>
    have h0 : l = [] := C_none HR.out
    subst h0
    clear HR
    have hnil : ∀ W, (binOp .eql 32 (.slice none 0 c) (.slice none 0 0)).run Tryz.prog W = .ok (.bool true) W := fun W => Lib.run_eql_slice_nil (P := Tryz.prog) W 32 113 none 0 c 0 0 Tryz.underlying32
    simp only [List.length_nil]
    go_enter Tryz.func144, Tryz.ntmps144
    go_wp2
    go_ret
    exact ⟨_, rfl, Kd.R_nil _ _ _ _ _, Below.refl _ _⟩
  | some ad =>
    have hnil : ∀ W, (binOp .eql 32 (.slice (some ad) l.length c) (.slice none 0 0)).run Tryz.prog W = .ok (.bool false) W := fun W => Lib.run_eql_slice_nil (P := Tryz.prog) W 32 113 (some ad) l.length c 0 0 Tryz.underlying32
    have HO : Aside0 (RFd (w.alloc (.cells #[] 113)) w.heap.size (.slice (some ⟨w.heap.size, 0, none⟩) 0 0) []) := ⟨empty_row kFd _ w⟩
    have HB : Aside0 (Below w.heap.size w (w.alloc (.cells #[] 113))) := ⟨below_alloc (Below.refl _ _) _⟩
    have HC := Aside0.mk (Kd.C_below HR.out HB.out)
    go_enter Tryz.func144, Tryz.ntmps144
    go_wp2_with (at_builtin; refine Kd.R_append_rows kFd (Rr := kFd.K (w.alloc (.cells #[] 113))) (w0 := w) w.heap.size rfl (.tmp 5) (.tmp 6) 32 113 (.agg #[.int .i64 0, .slice none 0 0, .int .i64 0]) 40 rfl Tryz.underlying32 infoFl rfl (by decide) (by omega) (.slice (some ⟨w.heap.size, 0, none⟩) 0 0) [] l (some ad) l.length c (fun _ => True) (fun _ => False) rfl rfl ?aO ?aR ?aK (fun _ hk => hk.elim) (fun _ _ => trivial) ?aB ?aS ?c1 ?_; (case aO => exact HO.out); (case aR => exact HC.out); (case aK => intro x cs hx; exact hx); (case aB => exact HB.out); (case aS => exact HB.out.size); (case c1 => simp only [List.length_nil]; omega); intro v1 w1 hown hB1 hg1 hat; have HO1 := Aside0.mk hown; have HB1 := Aside0.mk hB1; clear hown hB1 hg1 hat)
    go_ret
    exact ⟨_, rfl, by have := HO1.out; rwa [List.nil_append] at this, HB1.out⟩

set_option maxRecDepth 100000 in
theorem cloneO_any (A : Option Addr) (c : Nat) (l : List Int) (w : World) (hr : ReadsInt w .u8 A l.length l) (hb : l.length ≤ 1048576) :
    Calls Tryz.prog 85 #[.slice A l.length c] w fun e w' => ∃ v, e = .returned v ∧ RB w' w.heap.size v l ∧ Below w.heap.size w w' := by
  cases A with
  | some ad => exact cloneB_any ad c l w hr hb
  | none =>
    have h0 : l = [] := by
      rcases l with _ | ⟨x, l⟩
      · rfl
      · obtain ⟨ad, h, _⟩ := hr.2.2 (by simp)
        cases h
    subst h0
    clear hr
    have hnil : ∀ W, (binOp .eql 88 (.slice none 0 c) (.slice none 0 0)).run Tryz.prog W = .ok (.bool true) W := fun W => Lib.run_eql_slice_nil (P := Tryz.prog) W 88 5 none 0 c 0 0 Tryz.underlying88
    simp only [List.length_nil]
    go_enter Tryz.func85, Tryz.ntmps85
    go_wp2
    go_ret
    exact ⟨_, rfl, own_nil _ _ _ _, Below.refl _ _⟩

theorem list_of {α : Type} (n : Nat) (Q : Nat → α → Prop) (h : ∀ i, i < n → ∃ x, Q i x) : ∃ l : List α, l.length = n ∧ ∀ (i : Nat) (x : α), l[i]? = some x → Q i x := by
  induction n with
  | zero => exact ⟨[], rfl, fun i x hx => by simp at hx⟩
  | succ n ih =>
    obtain ⟨l, h1, h2⟩ := ih (fun i hi => h i (by omega))
    obtain ⟨x, hx⟩ := h n (by omega)
    refine ⟨l ++ [x], by simp [h1], fun i y hy => ?_⟩
    by_cases hi : i < l.length
    · rw [List.getElem?_append_left hi] at hy; exact h2 i y hy
    · rw [List.getElem?_append_right (by omega)] at hy
      have h3 : i - l.length < 1 := (List.getElem?_eq_some_iff.1 hy).1
      have h4 : i = n := by omega
      rw [show i - l.length = 0 by omega] at hy
      have h5 : x = y := by simpa using hy
      rw [← h5, h4]; exact hx
/-- files that are read, their octets' slices told -/
theorem fd_of {w : World} {A : Option Addr} {n : Nat} {files : List Fl} (h : kFl.C w A n files) :
    ∃ L : List (Fl × Value), L.map (·.1) = files ∧ kFd.C w A n L ∧ ∀ x ∈ L, ∃ D c, x.2 = .slice D x.1.data.length c ∧ x.1.data.length ≤ c ∧ ReadsInt w .u8 D x.1.data.length x.1.data := by
  obtain ⟨h1, h2, h3⟩ := h
  by_cases hn : 0 < n
  · obtain ⟨ad, e, hh⟩ := h3 hn
    obtain ⟨L, l1, l2⟩ := list_of n (fun i (x : Fl × Value) => files[i]? = some x.1 ∧ (∃ D c, x.2 = .slice D x.1.data.length c ∧ x.1.data.length ≤ c ∧ ReadsInt w .u8 D x.1.data.length x.1.data) ∧ ∀ j u, (rowF x)[j]? = some u → w.cell? (ad.add (i * 3 + j)) = some u) (fun i hi => by
      have hf : files[i]? = some (files[i]'(by omega)) := List.getElem?_eq_getElem (by omega)
      obtain ⟨cs, q1, q2, q3⟩ := hh i _ hf
      obtain ⟨D, c, rfl, q4, q5⟩ := kFl_open q2
      exact ⟨(files[i], .slice D files[i].data.length c), hf, ⟨D, c, rfl, q4, q5⟩, q3⟩)
    have hm : L.map (·.1) = files := by
      apply List.ext_getElem?
      intro i
      rw [List.getElem?_map]
      cases hq : L[i]? with
      | none =>
        rw [List.getElem?_eq_none_iff] at hq
        rw [List.getElem?_eq_none (by omega)]
        rfl
      | some x => rw [(l2 i x hq).1]; rfl
    refine ⟨L, hm, ⟨by omega, h2, fun _ => ⟨ad, e, fun j p hj => ?_⟩⟩, fun x hx => ?_⟩
    · obtain ⟨_, ⟨D, c, q1, _⟩, q3⟩ := l2 j p hj
      exact ⟨rowF p, rfl, ⟨rfl, by rw [q1]; rfl⟩, q3⟩
    · obtain ⟨i, hi⟩ := List.mem_iff_getElem?.1 hx
      exact (l2 i x hi).2.1
  · have h0 : files = [] := List.eq_nil_of_length_eq_zero (by omega)
    subst h0
    exact ⟨[], rfl, ⟨h1, h2, fun h => absurd h hn⟩, fun x hx => by simp at hx⟩
end Go.Proofs.YtfakfgblaakgdaaGreat.Files
