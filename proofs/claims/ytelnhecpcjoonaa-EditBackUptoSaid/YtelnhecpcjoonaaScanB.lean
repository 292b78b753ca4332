/- The scanner of chapter 11: a table: walked. -/
import Derived.Test.YtelnhecpcjoonaaScanA
import Derived.Test.YtelnhecpcjoonaaEditF
namespace Go.Proofs.Ytelnhecpcjoonaa.Var
set_option linter.unusedVariables false
set_option linter.unusedSimpArgs false
open Go.RowKit Go.Proofs.YtelnhecpcjoonaaW.PrintWords Go.Proofs.YtelnhecpcjoonaaW.PrintLast Go.Proofs.Ytelnhecpcjoonaa.Base Go.Proofs.Ytelnhecpcjoonaa.Cells Go.Proofs.Ytelnhecpcjoonaa.Ints Go.Proofs.Ytelnhecpcjoonaa.VarPure Go.Proofs.Ytelnhecpcjoonaa.Codec Go.Proofs.Ytelnhecpcjoonaa.EditPure Go.Proofs.Ytelnhecpcjoonaa.Edit

theorem Scan.lt {w : World} {g : Nat} {s : St} (h : Scan w g s) : g < w.heap.size := by
  obtain ⟨A, c, hk, _⟩ := h
  exact blk_lt hk
/-- a store behind the scanner -/
theorem Scan.far {w : World} {g : Nat} {s : St} (h : Scan w g s) {p : Addr} (hp : g < p.block) (v : Value) : Scan (w.setCell p v) g s := by
  obtain ⟨A, c, hk, hr, hlc, hby, hlt⟩ := h
  refine ⟨A, c, blk_far hk (p := p) (by omega) v, ⟨hr.1, hr.2.1, fun hp0 => ?_⟩, hlc, hby, hlt⟩
  obtain ⟨ad, e, hc⟩ := hr.2.2 hp0
  refine ⟨ad, e, fun i hi => ?_⟩
  rw [World.cell?_setCell_far _ _ _ _ (by have := hlt ad e hp0; show p.block ≠ (ad.add i).block; rw [add_block]; omega)]
  exact hc i hi
theorem grown_new {w a : World} {r : Option Nat} (h : w.grownBy a r) {p : Addr} (hp : w.heap.size ≤ p.block) (v : Value) : w.grownBy (a.setCell p v) r :=
  ⟨h.os, h.tape, h.output, by rw [World.size_setCell]; exact h.size, fun k hk hr => (Below.heap_setCell a p v k (by omega)).trans (h.block k hk hr)⟩
theorem textS_len {s : St} {t : ByteArray} {l : List Nat} {e : Int} (h : textS s = (t, (l, e))) : l.length ≤ s.1.length := by
  obtain ⟨n, l1, e1, h1⟩ : ∃ n l1 e1, numS 96 1 s = (n, (l1, e1)) := ⟨_, _, _, rfl⟩
  have hl := numS_len h1
  rw [textS, h1] at h
  simp only at h
  by_cases h2 : e1 ≠ 0
  · rw [if_pos h2] at h; rw [← (Prod.mk.inj (Prod.mk.inj h).2).1]; exact hl
  · rw [if_neg h2] at h
    by_cases h3 : (l1.length : Int) < n
    · rw [if_pos h3] at h; rw [← (Prod.mk.inj (Prod.mk.inj h).2).1]; exact hl
    · rw [if_neg h3] at h; rw [← (Prod.mk.inj (Prod.mk.inj h).2).1, List.length_drop]; omega
theorem idx3_0 (p0 p1 p2 : Addr) (W : World) : (Instr.index 143 (.agg #[.pointer (some p0), .pointer (some p1), .pointer (some p2)]) (.int .i64 0)).run Try.prog W = .ok (.pointer (some p0)) W := by kernel_rfl
theorem idx3_1 (p0 p1 p2 : Addr) (W : World) : (Instr.index 143 (.agg #[.pointer (some p0), .pointer (some p1), .pointer (some p2)]) (.int .i64 1)).run Try.prog W = .ok (.pointer (some p1)) W := by kernel_rfl
theorem idx3_2 (p0 p1 p2 : Addr) (W : World) : (Instr.index 143 (.agg #[.pointer (some p0), .pointer (some p1), .pointer (some p2)]) (.int .i64 2)).run Try.prog W = .ok (.pointer (some p2)) W := by kernel_rfl
theorem idx2_0 (p0 p1 : Addr) (W : World) : (Instr.index 145 (.agg #[.pointer (some p0), .pointer (some p1)]) (.int .i64 0)).run Try.prog W = .ok (.pointer (some p0)) W := by kernel_rfl
theorem idx2_1 (p0 p1 : Addr) (W : World) : (Instr.index 145 (.agg #[.pointer (some p0), .pointer (some p1)]) (.int .i64 1)).run Try.prog W = .ok (.pointer (some p1)) W := by kernel_rfl
abbrev MCells (x0 x1 x2 : Int) (x3 x4 : ByteArray) : Obj := .cells #[.int .i64 x0, .int .i64 x1, .int .i64 x2, .string x3, .string x4] 63

set_option maxRecDepth 100000 in
set_option maxHeartbeats 4000000 in
theorem scanMeta_any (g : Nat) (s : St) (w : World) (hs : Scan w g s) (hl : s.1.length ≤ 1048576) :
    Calls Try.prog 66 #[.pointer (some ⟨g, 0, none⟩)] w fun e w' => e = .returned (.agg #[.int .i64 (metaS s).1.id, .int .i64 (metaS s).1.level, .int .i64 (metaS s).1.count, .string (metaS s).1.low, .string (metaS s).1.high]) ∧ Scan w' g (metaS s).2 ∧ w.grownBy w' (some g) := by
  obtain ⟨a, s1, h1⟩ : ∃ a s1, numS 1099511627776 1 s = (a, s1) := ⟨_, _, rfl⟩
  obtain ⟨b, s2, h2⟩ : ∃ a s2, numS 1099511627776 1 s1 = (a, s2) := ⟨_, _, rfl⟩
  obtain ⟨c, s3, h3⟩ : ∃ a s3, numS 1099511627776 1 s2 = (a, s3) := ⟨_, _, rfl⟩
  obtain ⟨t, s4, h4⟩ : ∃ t s4, textS s3 = (t, s4) := ⟨_, _, rfl⟩
  obtain ⟨u, s5, h5⟩ : ∃ t s5, textS s4 = (t, s5) := ⟨_, _, rfl⟩
  have hM : metaS s = (⟨a, b, c, t, u⟩, s5) := by
    simp only [metaS]
    rw [h1]; simp only
    rw [h2]; simp only
    rw [h3]; simp only
    rw [h4]; simp only
    rw [h5]
  rw [hM]
  simp only
  have l1 : s1.1.length ≤ 1048576 := Nat.le_trans (numS_len (l := s1.1) (e := s1.2) h1) hl
  have l2 : s2.1.length ≤ 1048576 := Nat.le_trans (numS_len (l := s2.1) (e := s2.2) h2) l1
  have l3 : s3.1.length ≤ 1048576 := Nat.le_trans (numS_len (l := s3.1) (e := s3.2) h3) l2
  have l4 : s4.1.length ≤ 1048576 := Nat.le_trans (textS_len (l := s4.1) (e := s4.2) h4) l3
  have H1 := Aside0.mk h1
  have H2 := Aside0.mk h2
  have H3 := Aside0.mk h3
  have H4 := Aside0.mk h4
  have H5 := Aside0.mk h5
  have HS := Aside0.mk hs
  have hgw := hs.lt
  clear h1 h2 h3 h4 h5 hM hs
  have E0 : Aside0 (Scan (w.alloc (MCells 0 0 0 ⟨#[]⟩ ⟨#[]⟩)) g s) := ⟨HS.out.below (below_alloc (Below.refl _ _) _)⟩
  go_enter Try.func66, Try.ntmps66
  go_wp2
  go_loopg [11] 3 (fun gk v11 wr => (v11 = .int .i64 0 ∧ gk = 3 ∧ Aside0 (wr.heap[w.heap.size]? = some (MCells 0 0 0 ⟨#[]⟩ ⟨#[]⟩) ∧ Scan wr g s ∧ w.grownBy wr (some g))) ∨ (v11 = .int .i64 1 ∧ gk = 2 ∧ Aside0 (wr.heap[w.heap.size]? = some (MCells a 0 0 ⟨#[]⟩ ⟨#[]⟩) ∧ Scan wr g s1 ∧ w.grownBy wr (some g))) ∨ (v11 = .int .i64 2 ∧ gk = 1 ∧ Aside0 (wr.heap[w.heap.size]? = some (MCells a b 0 ⟨#[]⟩ ⟨#[]⟩) ∧ Scan wr g s2 ∧ w.grownBy wr (some g))) ∨ (v11 = .int .i64 3 ∧ gk = 0 ∧ Aside0 (wr.heap[w.heap.size]? = some (MCells a b c ⟨#[]⟩ ⟨#[]⟩) ∧ Scan wr g s3 ∧ w.grownBy wr (some g))))
  case atStart => exact .inl ⟨rfl, rfl, ⟨blk_new _ _, E0.out, grown_alloc (grown_refl _ _) _⟩⟩
  case round =>
    rcases hrel with ⟨rfl, rfl, HD⟩ | ⟨rfl, rfl, HD⟩ | ⟨rfl, rfl, HD⟩ | ⟨rfl, rfl, HD⟩
    · clear E0
      have hix := idx3_0 ⟨w.heap.size, 0, none⟩ ⟨w.heap.size, 1, none⟩ ⟨w.heap.size, 2, none⟩
      go_wp2_with fail
      refine (number_any g s 1099511627776 1 _ HD.out.2.1 hl (by omega) (by omega) (by omega)).mono ?_
      rw [H1.out]
      rintro e w1 ⟨rfl, hs1, hg1⟩
      have HK1 := Aside0.mk (blk_grown HD.out.1 hg1 (by intro e; injection e; omega))
      have HS1 := Aside0.mk hs1
      have HG1 := Aside0.mk (grown_trans HD.out.2.2 hg1)
      obtain ⟨x0, x1, x2, x3, x4, f0, f1, f2, f3, f4⟩ := all5 HK1.out
      clear hs1 hg1
      go_wp2
      go_roundg 2
      case measure => omega
      case rel => exact (.inr (.inl ⟨rfl, rfl, ⟨blk_put HK1.out 0 _ rfl, HS1.out.far hgw _, grown_new HG1.out (Nat.le_refl _) _⟩⟩))
    · clear E0
      have hix := idx3_1 ⟨w.heap.size, 0, none⟩ ⟨w.heap.size, 1, none⟩ ⟨w.heap.size, 2, none⟩
      go_wp2_with fail
      refine (number_any g s1 1099511627776 1 _ HD.out.2.1 l1 (by omega) (by omega) (by omega)).mono ?_
      rw [H2.out]
      rintro e w1 ⟨rfl, hs1, hg1⟩
      have HK1 := Aside0.mk (blk_grown HD.out.1 hg1 (by intro e; injection e; omega))
      have HS1 := Aside0.mk hs1
      have HG1 := Aside0.mk (grown_trans HD.out.2.2 hg1)
      obtain ⟨x0, x1, x2, x3, x4, f0, f1, f2, f3, f4⟩ := all5 HK1.out
      clear hs1 hg1
      go_wp2
      go_roundg 1
      case measure => omega
      case rel => exact (.inr (.inr (.inl ⟨rfl, rfl, ⟨blk_put HK1.out 1 _ rfl, HS1.out.far hgw _, grown_new HG1.out (Nat.le_refl _) _⟩⟩)))
    · clear E0
      have hix := idx3_2 ⟨w.heap.size, 0, none⟩ ⟨w.heap.size, 1, none⟩ ⟨w.heap.size, 2, none⟩
      go_wp2_with fail
      refine (number_any g s2 1099511627776 1 _ HD.out.2.1 l2 (by omega) (by omega) (by omega)).mono ?_
      rw [H3.out]
      rintro e w1 ⟨rfl, hs1, hg1⟩
      have HK1 := Aside0.mk (blk_grown HD.out.1 hg1 (by intro e; injection e; omega))
      have HS1 := Aside0.mk hs1
      have HG1 := Aside0.mk (grown_trans HD.out.2.2 hg1)
      obtain ⟨x0, x1, x2, x3, x4, f0, f1, f2, f3, f4⟩ := all5 HK1.out
      clear hs1 hg1
      go_wp2
      go_roundg 0
      case measure => omega
      case rel => exact (.inr (.inr (.inr ⟨rfl, rfl, ⟨blk_put HK1.out 2 _ rfl, HS1.out.far hgw _, grown_new HG1.out (Nat.le_refl _) _⟩⟩)))
    · go_wp2
      go_loopg [22] 2 (fun gk v22 wr => (v22 = .int .i64 0 ∧ gk = 2 ∧ Aside0 (wr.heap[w.heap.size]? = some (MCells a b c ⟨#[]⟩ ⟨#[]⟩) ∧ Scan wr g s3 ∧ w.grownBy wr (some g))) ∨ (v22 = .int .i64 1 ∧ gk = 1 ∧ Aside0 (wr.heap[w.heap.size]? = some (MCells a b c t ⟨#[]⟩) ∧ Scan wr g s4 ∧ w.grownBy wr (some g))) ∨ (v22 = .int .i64 2 ∧ gk = 0 ∧ Aside0 (wr.heap[w.heap.size]? = some (MCells a b c t u) ∧ Scan wr g s5 ∧ w.grownBy wr (some g))))
      case atStart => exact .inl ⟨rfl, rfl, HD⟩
      case round =>
        clear HD
        rcases hrel with ⟨rfl, rfl, HD⟩ | ⟨rfl, rfl, HD⟩ | ⟨rfl, rfl, HD⟩
        · have hix := idx2_0 ⟨w.heap.size, 3, none⟩ ⟨w.heap.size, 4, none⟩
          go_wp2_with fail
          refine (text_any g s3 _ HD.out.2.1 l3).mono ?_
          rw [H4.out]
          rintro e w1 ⟨rfl, hs1, hg1⟩
          have HK1 := Aside0.mk (blk_grown HD.out.1 hg1 (by intro e; injection e; omega))
          have HS1 := Aside0.mk hs1
          have HG1 := Aside0.mk (grown_trans HD.out.2.2 hg1)
          obtain ⟨x0, x1, x2, x3, x4, f0, f1, f2, f3, f4⟩ := all5 HK1.out
          clear hs1 hg1
          go_wp2
          go_roundg 1
          case measure => omega
          case rel => exact (.inr (.inl ⟨rfl, rfl, ⟨blk_put HK1.out 3 _ rfl, HS1.out.far hgw _, grown_new HG1.out (Nat.le_refl _) _⟩⟩))
        · have hix := idx2_1 ⟨w.heap.size, 3, none⟩ ⟨w.heap.size, 4, none⟩
          go_wp2_with fail
          refine (text_any g s4 _ HD.out.2.1 l4).mono ?_
          rw [H5.out]
          rintro e w1 ⟨rfl, hs1, hg1⟩
          have HK1 := Aside0.mk (blk_grown HD.out.1 hg1 (by intro e; injection e; omega))
          have HS1 := Aside0.mk hs1
          have HG1 := Aside0.mk (grown_trans HD.out.2.2 hg1)
          obtain ⟨x0, x1, x2, x3, x4, f0, f1, f2, f3, f4⟩ := all5 HK1.out
          clear hs1 hg1
          go_wp2
          go_roundg 0
          case measure => omega
          case rel => exact (.inr (.inr ⟨rfl, rfl, ⟨blk_put HK1.out 4 _ rfl, HS1.out.far hgw _, grown_new HG1.out (Nat.le_refl _) _⟩⟩))
        · obtain ⟨x0, x1, x2, x3, x4, f0, f1, f2, f3, f4⟩ := all5 HD.out.1
          go_wp2
          refine bodyPost_ret (results_cell_row rfl _ _ w.heap.size 63 #[.int .i64 a, .int .i64 b, .int .i64 c, .string t, .string u] (0, 0) _ rfl (blk5 HD.out.1) Try.underlying63 rfl (by kernel_rfl)) rfl ?_
          exact ⟨rfl, ((((HD.out.2.1.far (p := ⟨w.heap.size, 0, none⟩) hgw _).far (p := ⟨w.heap.size, 1, none⟩) hgw _).far (p := ⟨w.heap.size, 2, none⟩) hgw _).far (p := ⟨w.heap.size, 3, none⟩) hgw _).far (p := ⟨w.heap.size, 4, none⟩) hgw _, grown_new (p := ⟨w.heap.size, 4, none⟩) (grown_new (p := ⟨w.heap.size, 3, none⟩) (grown_new (p := ⟨w.heap.size, 2, none⟩) (grown_new (p := ⟨w.heap.size, 1, none⟩) (grown_new (p := ⟨w.heap.size, 0, none⟩) HD.out.2.2 (Nat.le_refl _) _) (Nat.le_refl _) _) (Nat.le_refl _) _) (Nat.le_refl _) _) (Nat.le_refl _) _⟩
end Go.Proofs.Ytelnhecpcjoonaa.Var
