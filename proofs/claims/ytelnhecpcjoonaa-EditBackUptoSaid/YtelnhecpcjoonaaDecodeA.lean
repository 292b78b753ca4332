/- edit.Decode: walked. -/
import Derived.Test.YtelnhecpcjoonaaScanB
import Derived.Test.YtelnhecpcjoonaaOfEditT
import Derived.Deep.RegionLaw
namespace Go.Proofs.Ytelnhecpcjoonaa.Var
set_option linter.unusedVariables false
set_option linter.unusedSimpArgs false
open Go.RowKit Go.Proofs.YtelnhecpcjoonaaW.PrintWords Go.Proofs.YtelnhecpcjoonaaW.PrintLast Go.Proofs.Ytelnhecpcjoonaa.Base Go.Proofs.Ytelnhecpcjoonaa.Cells Go.Proofs.Ytelnhecpcjoonaa.Ints Go.Proofs.Ytelnhecpcjoonaa.VarPure Go.Proofs.Ytelnhecpcjoonaa.Codec Go.Proofs.Ytelnhecpcjoonaa.EditPure Go.Proofs.Ytelnhecpcjoonaa.Edit

abbrev kI : Kd Int := Kd.int .i64
theorem KR_grown {α : Type} {d : Kd α} {e : TypeId} {w w1 : World} {base g : Nat} {v : Value} {l : List α} (h : d.R e w base (fun _ => True) v l) (hg : w.grownBy w1 (some g)) (hlt : g < base) : d.R e w1 base (fun _ => True) v l :=
  Kd.R_mono (Kd.R_move (Kd.R_bound h) (fun k hk => hg.block k hk.2.2.1 (by intro e; injection e; omega))) (fun _ _ => trivial)
theorem KR_set {α : Type} {d : Kd α} {e : TypeId} {w : World} {base : Nat} {v : Value} {l : List α} (h : d.R e w base (fun _ => True) v l) {p : Addr} (hlt : p.block < base) (u : Value) : d.R e (w.setCell p u) base (fun _ => True) v l := Rset h hlt u
theorem Scan.grown {w w1 : World} {g r base : Nat} {s : St} (h : Scan w g s) (hg : w.grownBy w1 (some r)) (hr : g < r) : Scan w1 g s := by
  obtain ⟨A, c, hk, hr1, hlc, hby, hlt⟩ := h
  refine ⟨A, c, blk_grown hk hg (by intro e; injection e; omega), ⟨hr1.1, hr1.2.1, fun hp => ?_⟩, hlc, hby, hlt⟩
  obtain ⟨ad, e, hc⟩ := hr1.2.2 hp
  refine ⟨ad, e, fun i hi => ?_⟩
  have hcell := hc i hi
  have hb := World.block_lt_of_cell? w _ hcell
  have hne : (ad.add i).block ≠ r := by have := hlt ad e hp; rw [add_block]; omega
  have := hg.block (ad.add i).block hb (by intro e; injection e with e; exact hne e)
  rw [← hcell]
  exact World.cell?_of_block this
/-- a scanner stays where blocks below base stay -/
theorem Scan.stays {w w1 : World} {g base : Nat} {s : St} (h : Scan w g s) (hb : Below base w w1) (hg : g < base) : Scan w1 g s := by
  obtain ⟨A, c, hk, hr1, hlc, hby, hlt⟩ := h
  refine ⟨A, c, (hb.block g hg).trans hk, ⟨hr1.1, hr1.2.1, fun hp => ?_⟩, hlc, hby, hlt⟩
  obtain ⟨ad, e, hc⟩ := hr1.2.2 hp
  refine ⟨ad, e, fun i hi => ?_⟩
  rw [← hc i hi]
  refine World.cell?_of_block (hb.block _ ?_)
  rw [add_block]; have := hlt ad e hp; omega
section
variable {α : Type} {d : Kd α} {e : TypeId} {w w1 : World} {base N : Nat} {v : Value} {l : List α}
/-- a row of one's own that lies below N -/
theorem KN_of (h : d.R e w base (fun _ => True) v l) : d.R e w base (fun k => k < w.heap.size) v l := Kd.R_mono (Kd.R_bound h) (fun k hk => hk.2.2.1)
theorem KN_grown {g : Nat} (h : d.R e w base (fun k => k < N) v l) (hg : w.grownBy w1 (some g)) (hlt : g < base) : d.R e w1 base (fun k => k < N) v l :=
  Kd.R_mono (Kd.R_move (Kd.R_bound h) (fun k hk => hg.block k hk.2.2.1 (by intro e; injection e; have := hk.2.1; omega))) (fun k hk => hk.1)
theorem KN_stay (h : d.R e w base (fun k => k < N) v l) (hb : Below N w w1) : d.R e w1 base (fun k => k < N) v l :=
  Kd.R_mono (Kd.R_move (Kd.R_bound h) (fun k hk => hb.block k hk.1)) (fun k hk => hk.1)
theorem KN_set (h : d.R e w base (fun k => k < N) v l) {p : Addr} (hlt : p.block < base) (u : Value) : d.R e (w.setCell p u) base (fun k => k < N) v l :=
  Kd.R_mono (Kd.R_far (Kd.R_bound h) (fun k hk => by have := hk.2.1; omega) u) (fun k hk => hk.1)
end
theorem metaS_len {s : St} {t : Meta} {l : List Nat} {e : Int} (h : metaS s = (t, (l, e))) : l.length ≤ s.1.length := by
  simp only [metaS] at h
  obtain ⟨a, l1, e1, h1⟩ : ∃ n l1 e1, numS 1099511627776 1 s = (n, (l1, e1)) := ⟨_, _, _, rfl⟩
  rw [h1] at h
  simp only at h
  obtain ⟨b, l2, e2, h2⟩ : ∃ n l2 e2, numS 1099511627776 1 (l1, e1) = (n, (l2, e2)) := ⟨_, _, _, rfl⟩
  rw [h2] at h
  simp only at h
  obtain ⟨c, l3, e3, h3⟩ : ∃ n l3 e3, numS 1099511627776 1 (l2, e2) = (n, (l3, e3)) := ⟨_, _, _, rfl⟩
  rw [h3] at h
  simp only at h
  obtain ⟨u, l4, e4, h4⟩ : ∃ s l4 e4, textS (l3, e3) = (s, (l4, e4)) := ⟨_, _, _, rfl⟩
  rw [h4] at h
  simp only at h
  obtain ⟨v, l5, e5, h5⟩ : ∃ s l5 e5, textS (l4, e4) = (s, (l5, e5)) := ⟨_, _, _, rfl⟩
  rw [h5] at h
  have h6 := (Prod.mk.inj (Prod.mk.inj h).2).1
  have := numS_len h1
  have := numS_len h2
  have := numS_len h3
  have := textS_len h4
  have := textS_len h5
  simp only at *
  rw [← h6]
  omega
theorem infoIx : (Try.prog.info? 3).map (fun i => (i.zero, i.size, i.bytes)) = some (some (.int .i64 0), 1, 8) := by kernel_rfl

set_option maxRecDepth 100000 in
set_option maxHeartbeats 16000000 in
theorem decode_any (A : Option Addr) (c : Nat) (l : List Nat) (w : World) (hby : Bytes l) (hr : ReadsInt w .u8 A l.length (nb l)) (hl : l.length ≤ 1048576) (hc : l.length ≤ c) (hlt : ∀ ad, A = some ad → 0 < l.length → ad.block < w.heap.size) :
    Calls Try.prog 36 #[.slice A l.length c] w fun e w' => ∃ D dn dc A' n c' a b, e = .returned (.tuple #[.agg #[.slice D dn dc, .slice A' n c', .int .i64 a, .int .i64 b], .int .i64 (decS l).err]) ∧ Aside0 (((decS l).err = 0 → dn = (decS l).drop.length ∧ n = (decS l).add.length ∧ a = (decS l).seq ∧ b = (decS l).next ∧ RI w' w.heap.size (.slice D dn dc) (decS l).drop ∧ RM 63 w' w.heap.size (.slice A' n c') (decS l).add) ∧ ((decS l).err ≠ 0 → D = none ∧ dn = 0 ∧ dc = 0 ∧ A' = none ∧ n = 0 ∧ c' = 0 ∧ a = 0 ∧ b = 0) ∧ Below w.heap.size w w') := by
  obtain ⟨seq, s1, h1⟩ : ∃ a q, numS 1099511627776 1 (l, 0) = (a, q) := ⟨_, _, rfl⟩
  obtain ⟨next, s2, h2⟩ : ∃ a q, numS 1099511627776 1 s1 = (a, q) := ⟨_, _, rfl⟩
  obtain ⟨n, s3, h3⟩ : ∃ a q, numS 256 3 s2 = (a, q) := ⟨_, _, rfl⟩
  obtain ⟨drop, s4, h4⟩ : ∃ a q, manyS (numS 1099511627776 1) n.toNat s3 = (a, q) := ⟨_, _, rfl⟩
  obtain ⟨k, s5, h5⟩ : ∃ a q, numS 256 3 s4 = (a, q) := ⟨_, _, rfl⟩
  obtain ⟨add, s6, h6⟩ : ∃ a q, manyS metaS k.toNat s5 = (a, q) := ⟨_, _, rfl⟩
  have hdec : decS l = ⟨if s6.2 = 0 then (if s6.1.length = 0 then 0 else 23) else s6.2, drop, add, seq, next⟩ := by
    rw [decS, h1, decS1]
    simp only
    rw [h2, decS2]
    simp only
    rw [h3, decS3]
    simp only
    rw [h4, decS4]
    simp only
    rw [h5, decS5]
    simp only
    rw [h6, decS6]
  rw [hdec]
  simp only
  obtain ⟨E, hE⟩ := named (if s6.2 = 0 then (if s6.1.length = 0 then (0 : Int) else 23) else s6.2)
  rw [← hE.out]
  have l1 : s1.1.length ≤ 1048576 := Nat.le_trans (numS_len (l := s1.1) (e := s1.2) h1) hl
  have l2 : s2.1.length ≤ 1048576 := Nat.le_trans (numS_len (l := s2.1) (e := s2.2) h2) l1
  have l3 : s3.1.length ≤ 1048576 := Nat.le_trans (numS_len (l := s3.1) (e := s3.2) h3) l2
  have hn := numS_range (l := s3.1) (e := s3.2) h3 (by omega)
  have hk := numS_range (l := s5.1) (e := s5.2) h5 (by omega)
  obtain ⟨nn, rfl⟩ : ∃ nn : Nat, n = nn := ⟨n.toNat, by omega⟩
  obtain ⟨kk, rfl⟩ : ∃ kk : Nat, k = kk := ⟨k.toNat, by omega⟩
  rw [Int.toNat_natCast] at h4 h6
  have H1 := Aside0.mk h1
  have H2 := Aside0.mk h2
  have H3 := Aside0.mk h3
  have H4 := Aside0.mk h4
  have H5 := Aside0.mk h5
  have H6 := Aside0.mk h6
  have HR := Aside0.mk hr
  clear h1 h2 h3 h4 h5 h6 hdec hr
  go_enter Try.func36, Try.ntmps36
  go_upto_region 2 with (fail)
  obtain ⟨W, hW⟩ : ∃ W, W = ((w.alloc (Obj.cells #[.slice none 0 0, .slice none 0 0, .int .i64 0, .int .i64 0] 61)).alloc (Obj.cells #[.slice A l.length c, .int .i64 0] 124)) := ⟨_, rfl⟩
  have HS0 : Aside0 (Scan W (w.heap.size + 1) (l, 0)) := ⟨⟨A, c, by rw [hW]; exact blk_new1 _ _ _ _, HR.out.below (by rw [hW]; exact below_alloc (below_alloc (Below.refl _ _) _) _), hc, hby, fun ad h h0 => by have := hlt ad h h0; omega⟩⟩
  have HB0 : Aside0 (Below w.heap.size w W) := ⟨by rw [hW]; exact below_alloc (below_alloc (Below.refl _ _) _) _⟩
  have HK0 : Aside0 (W.heap[w.heap.size]? = some (.cells #[.slice none 0 0, .slice none 0 0, .int .i64 0, .int .i64 0] 61 (0, 0))) := ⟨by rw [hW]; exact blk_alloc (blk_new _ _) _⟩
  rw [← hW]
  clear hW
  go_wp2_with fail
  refine (number_any (w.heap.size + 1) (l, 0) 1099511627776 1 _ HS0.out hl (by omega) (by omega) (by omega)).mono ?_
  rw [H1.out]
  rintro e w1 ⟨rfl, hs1, hg1⟩
  have HS1 := Aside0.mk hs1
  have HB1 := Aside0.mk (below_of_grown HB0.out hg1 (by intro k hk; injection hk; omega))
  have HK1 := Aside0.mk (blk_grown HK0.out hg1 (by intro e; injection e; omega))
  clear hs1 hg1
  go_wp2_with fail
  refine (number_any (w.heap.size + 1) s1 1099511627776 1 _ HS1.out l1 (by omega) (by omega) (by omega)).mono ?_
  rw [H2.out]
  rintro e w2 ⟨rfl, hs2, hg2⟩
  have HS2 := Aside0.mk hs2
  have HB2 := Aside0.mk (below_of_grown HB1.out hg2 (by intro k hk; injection hk; omega))
  have HK2 := Aside0.mk (blk_grown HK1.out hg2 (by intro e; injection e; omega))
  have hgd : w.heap.size + 1 < w2.heap.size := hs2.lt
  clear hs2 hg2
  obtain ⟨gd, hgdd⟩ : ∃ gd, gd = w2.heap.size := ⟨_, rfl⟩
  obtain ⟨Wd, hWd⟩ : ∃ Wd, Wd = w2.alloc (Obj.cells #[.slice none 0 0, .slice none 0 0, .int .i64 seq, .int .i64 next] 61) := ⟨_, rfl⟩
  have HSd : Aside0 (Scan Wd (w.heap.size + 1) s2) := ⟨by rw [hWd]; exact HS2.out.below (below_alloc (Below.refl _ _) _)⟩
  have HBd : Aside0 (Below w.heap.size w Wd) := ⟨by rw [hWd]; exact below_alloc HB2.out _⟩
  have HKd : Aside0 (Wd.heap[w.heap.size]? = some (.cells #[.slice none 0 0, .slice none 0 0, .int .i64 0, .int .i64 0] 61 (0, 0))) := ⟨by rw [hWd]; exact blk_alloc HK2.out _⟩
  have HGd : Aside0 (Wd.heap[gd]? = some (.cells #[.slice none 0 0, .slice none 0 0, .int .i64 seq, .int .i64 next] 61 (0, 0))) := ⟨by rw [hWd, hgdd]; exact blk_new _ _⟩
  go_wp2_with fail
  rw [← hWd, ← hgdd]
  rw [← hgdd] at hgd
  clear hWd hgdd
  refine (number_any (w.heap.size + 1) s2 256 3 _ HSd.out l2 (by omega) (by omega) (by omega)).mono ?_
  rw [H3.out]
  rintro e w3 ⟨rfl, hs3, hg3⟩
  have HS3 := Aside0.mk hs3
  have HB3 := Aside0.mk (below_of_grown HBd.out hg3 (by intro k hk; injection hk; omega))
  have HK3 := Aside0.mk (blk_grown HKd.out hg3 (by intro e; injection e; omega))
  have HG3 := Aside0.mk (blk_grown HGd.out hg3 (by intro e; injection e; omega))
  have hgd3 : gd < w3.heap.size := blk_lt HG3.out
  clear hs3 hg3
  go_wp2
  go_loopg [6] nn (fun gk v6 wr => ∃ (m : Nat) (A0 : Option Addr) (c0 : Nat) (xs : List Int) (st : St), v6 = .int .i64 m ∧ gk = m ∧ xs.length + m = nn ∧ st.1.length ≤ 1048576 ∧ Aside0 (manyS (numS 1099511627776 1) nn s3 = (xs ++ (manyS (numS 1099511627776 1) m st).1, (manyS (numS 1099511627776 1) m st).2)) ∧ Aside0 (Scan wr (w.heap.size + 1) st) ∧ Aside0 (wr.heap[gd]? = some (.cells #[.slice A0 xs.length c0, .slice none 0 0, .int .i64 seq, .int .i64 next] 61 (0, 0))) ∧ Aside0 (kI.R 3 wr w3.heap.size (fun _ => True) (.slice A0 xs.length c0) xs) ∧ Aside0 (wr.heap[w.heap.size]? = some (.cells #[.slice none 0 0, .slice none 0 0, .int .i64 0, .int .i64 0] 61 (0, 0))) ∧ Aside0 (Below w.heap.size w wr) ∧ w3.heap.size ≤ wr.heap.size)
  case atStart => exact ⟨nn, none, 0, [], s3, rfl, rfl, by simp, l3, ⟨by simp⟩, HS3, HG3, ⟨Kd.R_nil kI _ _ _ _⟩, HK3, HB3, Nat.le_refl _⟩
  case round =>
    clear HS3 HG3 HK3 HB3
    obtain ⟨m, A0, c0, xs, st, rfl, hgm, hxs, hst, HM, HS, HG, HX, HK, HB, hsz⟩ := hrel
    obtain ⟨y0, y1, y2, y3, g0, g1, g2, g3⟩ := all4 HG.out
    obtain ⟨As, cs, hks, hrs, hlcs, hbys, hlts⟩ := HS.out
    have z0 := blk_cell hks 0
    have z1 := blk_cell hks 1
    have HKS := Aside0.mk hks
    have HRS := Aside0.mk (And.intro hrs (And.intro hlcs (And.intro hbys hlts)))
    clear hks hrs hlcs hbys hlts
    have hgd0 : (w.heap.size + 1 : Nat) ≠ gd := by omega
    by_cases hgo : 0 < m ∧ st.2 = 0
    · obtain ⟨hm0, hst0⟩ := hgo
      obtain ⟨m, rfl⟩ : ∃ j, m = j + 1 := ⟨m - 1, by omega⟩
      obtain ⟨x, q, hx⟩ : ∃ a q, numS 1099511627776 1 st = (a, q) := ⟨_, _, rfl⟩
      have hq : q.1.length ≤ 1048576 := Nat.le_trans (numS_len (l := q.1) (e := q.2) hx) hst
      have HX1 := Aside0.mk hx
      have HM1 : Aside0 (manyS (numS 1099511627776 1) nn s3 = ((xs ++ [x]) ++ (manyS (numS 1099511627776 1) m q).1, (manyS (numS 1099511627776 1) m q).2)) := ⟨by
        rw [HM.out, manyS, if_neg (by simp [hst0]), hx]; simp⟩
      have hm1 : (0 : Int) < (m : Int) + 1 := by omega
      clear hx
      rw [hst0] at z1
      go_wp2_with fail
      have yd0 : wr.drew.cell? ⟨gd, 0, none⟩ = some (.slice A0 xs.length c0) := y0
      have HSd := Aside0.mk (HS.out.below (below_drew (Below.refl _ _)))
      go_region_law (first | (refine Kd.R_append_step kI (w0 := w4) w3.heap.size (by rfl) (.tmp 30) (.tmp 33) 55 3 (.int .i64 0) 8 rfl Try.underlying55 infoIx rfl (by decide) (by omega) (.slice A0 xs.length c0) xs x [.int .i64 x] (fun _ => True) (fun _ => False) rfl rfl ?aP (fun _ hk => hk.elim) (fun _ _ => trivial) ?aO ?aB ?aS ?c1 ?_; (case aP => rfl); (case aO => exact HX4.out); (case aB => exact Below.refl _ _); (case aS => exact hsz4); (case c1 => omega); intro v5 w5 hown hB5 hg5 hat; obtain ⟨A5, c5, rfl, hc5, _⟩ := Kd.R_reads hown; have HX5 := Aside0.mk hown; have HB5 := Aside0.mk hB5; have hk5 := (hB5.block gd hgd3).trans HG4.out; obtain ⟨t0, t1, t2, t3, r0, r1, r2, r3⟩ := all4 hk5; clear hown hB5 hg5 hat) | (go_simp; go_wp2_with (go_at_call 65; refine (number_any (w.heap.size + 1) st 1099511627776 1 _ HSd.out hst (by omega) (by omega) (by omega)).mono ?_; rw [HX1.out]; rintro e w4 ⟨rfl, hs4, hg4⟩; have HS4 := Aside0.mk hs4; have HGr := Aside0.mk hg4; have hsz4 : w3.heap.size ≤ w4.heap.size := Nat.le_trans hsz hg4.size; have HG4 := Aside0.mk (blk_grown (w := wr.drew) HG.out hg4 (by intro e; injection e; omega)); have HX4 := Aside0.mk (KR_grown (w := wr.drew) HX.out hg4 (by omega)); obtain ⟨p0, p1, p2, p3, b0, b1, b2, b3⟩ := all4 HG4.out; have hlt4 : gd < w4.heap.size := blk_lt HG4.out; clear hs4 hg4)))
      all_goals go_wp2
      all_goals go_roundg m
      all_goals first
        | (guard_target =~ (_ : Nat) < _; omega)
        | exact ⟨m, A5, c5, xs ++ [x], q, by go_num, rfl, by rw [List.length_append, List.length_singleton]; omega, hq, HM1, ⟨(HS4.out.stays HB5.out (by omega)).far (p := ⟨gd, 0, none⟩) (by show w.heap.size + 1 < gd; omega) _⟩, ⟨blk_put hk5 0 _ (by rw [List.length_append, List.length_singleton]; rfl)⟩, ⟨KR_set HX5.out (p := ⟨gd, 0, none⟩) hgd3 _⟩, ⟨blk_far ((HB5.out.block w.heap.size (by omega)).trans (blk_grown (w := wr.drew) HK.out HGr.out (by intro e; injection e; omega))) (p := ⟨gd, 0, none⟩) (by show w.heap.size ≠ gd; omega) _⟩, ⟨(below_weaken (below_of_grown (below_drew HB.out) HGr.out (by intro k hk; injection hk; omega)) (by omega) HB5.out).setCell (p := ⟨gd, 0, none⟩) (by show w.heap.size ≤ gd; omega) _⟩, by rw [World.size_setCell]; have := HB5.out.size; omega⟩
    · have hdone : manyS (numS 1099511627776 1) m st = ([], st) := by
        cases m with
        | zero => rfl
        | succ m => rw [manyS, if_pos (fun h => hgo ⟨by omega, h⟩)]
      have hds : drop = xs ∧ s4 = st := by
        have h1 := HM.out
        rw [hdone, H4.out] at h1
        exact ⟨by have := (Prod.mk.inj h1).1; simpa using this, (Prod.mk.inj h1).2⟩
      obtain ⟨rfl, rfl⟩ := hds
      have hgo' : m = 0 ∨ s4.2 ≠ 0 := by
        by_cases h0 : m = 0
        · exact .inl h0
        · exact .inr (fun h => hgo ⟨by omega, h⟩)
      clear HM hdone
      go_upto_region 4 with (fail)
      go_cut [26] (fun v26 wc => v26 = .bool false ∧ wr = wc)
      case first =>
        rcases hgo' with rfl | hne
        · go_wp2
          go_meet
          exact ⟨rfl, rfl⟩
        · by_cases h0 : m = 0
          · subst h0
            go_wp2
            go_meet
            exact ⟨rfl, rfl⟩
          · have hmp : (0 : Int) < m := by omega
            have hne' : (s4.2 == 0) = false := by simp [hne]
            go_wp2
            go_meet
            exact ⟨rfl, rfl⟩
      case rest =>
        obtain ⟨rfl, rfl⟩ := hcut
        have l4 := hst
        have hxl : drop.length ≤ 256 := by omega
        have HS6' := HS
        go_wp2_with fail
        refine (number_any (w.heap.size + 1) s4 256 3 _ HS.out l4 (by omega) (by omega) (by omega)).mono ?_
        rw [H5.out]
        rintro e w6 ⟨rfl, hs6, hg6⟩
        have l5 : s5.1.length ≤ 1048576 := Nat.le_trans (numS_len (l := s5.1) (e := s5.2) H5.out) l4
        have HS6 := Aside0.mk hs6
        have HB6 := Aside0.mk (below_of_grown HB.out hg6 (by intro k hk; injection hk; omega))
        have HK6 := Aside0.mk (blk_grown HK.out hg6 (by intro e; injection e; omega))
        have HG6 := Aside0.mk (blk_grown HG.out hg6 (by intro e; injection e; omega))
        have HX6 := Aside0.mk (KN_of (KR_grown HX.out hg6 (by omega)))
        have hgd6 : gd < w6.heap.size := blk_lt HG6.out
        have h36 : w3.heap.size ≤ w6.heap.size := Nat.le_trans hsz hg6.size
        clear hs6 hg6 HS HB HK HG HX HS6' y0 y1 y2 y3 g0 g1 g2 g3 z0 z1 HKS HRS hsz
        go_wp2
        go_loopg [7] kk (fun gk v7 wr => ∃ (m : Nat) (A1 : Option Addr) (c1 : Nat) (ys : List Meta) (st : St), v7 = .int .i64 m ∧ gk = m ∧ ys.length + m = kk ∧ st.1.length ≤ 1048576 ∧ Aside0 (manyS metaS kk s5 = (ys ++ (manyS metaS m st).1, (manyS metaS m st).2)) ∧ Aside0 (Scan wr (w.heap.size + 1) st) ∧ Aside0 (wr.heap[gd]? = some (.cells #[.slice A0 drop.length c0, .slice A1 ys.length c1, .int .i64 seq, .int .i64 next] 61 (0, 0))) ∧ Aside0 (kI.R 3 wr w3.heap.size (fun k => k < w6.heap.size) (.slice A0 drop.length c0) drop) ∧ Aside0 (RM 63 wr w6.heap.size (.slice A1 ys.length c1) ys) ∧ Aside0 (wr.heap[w.heap.size]? = some (.cells #[.slice none 0 0, .slice none 0 0, .int .i64 0, .int .i64 0] 61 (0, 0))) ∧ Aside0 (Below w.heap.size w wr) ∧ w6.heap.size ≤ wr.heap.size)
        case atStart => exact ⟨kk, none, 0, [], s5, rfl, rfl, by simp, l5, ⟨by simp⟩, HS6, HG6, HX6, ⟨Kd.R_nil kMeta _ _ _ _⟩, HK6, HB6, Nat.le_refl _⟩
        case round =>
          clear HS6 HG6 HX6 HK6 HB6
          obtain ⟨m, A1, c1, ys, st, rfl, hgm2, hys, hst, HM, HS, HG, HX, HY, HK, HB, hsz⟩ := hrel
          obtain ⟨y0, y1, y2, y3, g0, g1, g2, g3⟩ := all4 HG.out
          obtain ⟨As, cs, hks, hrs, hlcs, hbys, hlts⟩ := HS.out
          have z0 := blk_cell hks 0
          have z1 := blk_cell hks 1
          have zf1 := blk_frozen hks 1
          have HKS := Aside0.mk hks
          clear hks hrs hlcs hbys hlts
          by_cases hgo2 : 0 < m ∧ st.2 = 0
          · obtain ⟨hm0, hst0⟩ := hgo2
            obtain ⟨m, rfl⟩ : ∃ j, m = j + 1 := ⟨m - 1, by omega⟩
            obtain ⟨x, q, hx⟩ : ∃ a q, metaS st = (a, q) := ⟨_, _, rfl⟩
            have hq : q.1.length ≤ 1048576 := Nat.le_trans (metaS_len (l := q.1) (e := q.2) hx) hst
            have HX1 := Aside0.mk hx
            have HM1 : Aside0 (manyS metaS kk s5 = ((ys ++ [x]) ++ (manyS metaS m q).1, (manyS metaS m q).2)) := ⟨by
              rw [HM.out, manyS, if_neg (by simp [hst0]), hx]; simp⟩
            have hm1 : (0 : Int) < (m : Int) + 1 := by omega
            clear hx
            rw [hst0] at z1
            go_wp2_with fail
            have yd1 : wr.drew.cell? ⟨gd, 1, none⟩ = some (.slice A1 ys.length c1) := y1
            have HSd := Aside0.mk (HS.out.below (below_drew (Below.refl _ _)))
            go_region_law (first | (refine Kd.R_append_step kMeta (w0 := w4) w6.heap.size (by rfl) (.tmp 50) (.tmp 53) 47 63 (.agg #[(.int .i64 0), (.int .i64 0), (.int .i64 0), (.string ⟨#[]⟩), (.string ⟨#[]⟩)]) 56 rfl Try.underlying47 infoM rfl (by decide) (by omega) (.slice A1 ys.length c1) ys x x.cs (fun _ => True) (fun _ => False) rfl rfl ?aP (fun _ hk => hk.elim) (fun _ _ => trivial) ?aO ?aB ?aS ?c1 ?_; (case aP => exact kMeta_mkM _ _ _ x); (case aO => exact HY4.out); (case aB => exact Below.refl _ _); (case aS => exact hsz4); (case c1 => omega); intro v5 w5 hown hB5 hg5 hat; obtain ⟨A5, c5, rfl, hc5, _⟩ := Kd.R_reads hown; have HY5 := Aside0.mk hown; have HB5 := Aside0.mk hB5; have hk5 := (hB5.block gd hgd6).trans HG4.out; obtain ⟨t0, t1, t2, t3, r0, r1, r2, r3⟩ := all4 hk5; clear hown hB5 hg5 hat) | (go_simp; go_wp2_with (go_at_call 66; refine (scanMeta_any (w.heap.size + 1) st _ HSd.out hst).mono ?_; rw [HX1.out]; rintro e w4 ⟨rfl, hs4, hg4⟩; have HS4 := Aside0.mk hs4; have HGr := Aside0.mk hg4; have hsz4 : w6.heap.size ≤ w4.heap.size := Nat.le_trans hsz hg4.size; have HG4 := Aside0.mk (blk_grown (w := wr.drew) HG.out hg4 (by intro e; injection e; omega)); have HY4 := Aside0.mk (KR_grown (w := wr.drew) HY.out hg4 (by omega)); have HX4 := Aside0.mk (KN_grown (w := wr.drew) HX.out hg4 (by omega)); obtain ⟨p0, p1, p2, p3, b0, b1, b2, b3⟩ := all4 HG4.out; have hlt4 : gd < w4.heap.size := blk_lt HG4.out; clear hs4 hg4)))
            all_goals go_wp2
            all_goals go_roundg m
            all_goals first
              | (guard_target =~ (_ : Nat) < _; omega)
              | exact ⟨m, A5, c5, ys ++ [x], q, by go_num, rfl, by rw [List.length_append, List.length_singleton]; omega, hq, HM1, ⟨(HS4.out.stays HB5.out (by omega)).far (p := ⟨gd, 1, none⟩) (by show w.heap.size + 1 < gd; omega) _⟩, ⟨blk_put hk5 1 _ (by rw [List.length_append, List.length_singleton]; rfl)⟩, ⟨KN_set (KN_stay HX4.out HB5.out) (p := ⟨gd, 1, none⟩) hgd3 _⟩, ⟨KR_set HY5.out (p := ⟨gd, 1, none⟩) hgd6 _⟩, ⟨blk_far ((HB5.out.block w.heap.size (by omega)).trans (blk_grown (w := wr.drew) HK.out HGr.out (by intro e; injection e; omega))) (p := ⟨gd, 1, none⟩) (by show w.heap.size ≠ gd; omega) _⟩, ⟨(below_weaken (below_of_grown (below_drew HB.out) HGr.out (by intro k hk; injection hk; omega)) (by omega) HB5.out).setCell (p := ⟨gd, 1, none⟩) (by show w.heap.size ≤ gd; omega) _⟩, by rw [World.size_setCell]; have := HB5.out.size; omega⟩
          · have hdone : manyS metaS m st = ([], st) := by
              cases m with
              | zero => rfl
              | succ m => rw [manyS, if_pos (fun h => hgo2 ⟨by omega, h⟩)]
            have hds : add = ys ∧ s6 = st := by
              have h1 := HM.out
              rw [hdone, H6.out] at h1
              exact ⟨by have := (Prod.mk.inj h1).1; simpa using this, (Prod.mk.inj h1).2⟩
            obtain ⟨rfl, rfl⟩ := hds
            have hgo' : m = 0 ∨ s6.2 ≠ 0 := by
              by_cases h0 : m = 0
              · exact .inl h0
              · exact .inr (fun h => hgo2 ⟨by omega, h⟩)
            clear HM hdone
            go_upto_region 8 with (fail)
            go_cut [46] (fun v46 wc => v46 = .bool false ∧ wr = wc)
            case first =>
              rcases hgo' with rfl | hne
              · go_wp2
                go_meet
                exact ⟨rfl, rfl⟩
              · by_cases h0 : m = 0
                · subst h0
                  go_wp2
                  go_meet
                  exact ⟨rfl, rfl⟩
                · have hmp : (0 : Int) < m := by omega
                  have hne' : (s6.2 == 0) = false := by simp [hne]
                  go_wp2
                  go_meet
                  exact ⟨rfl, rfl⟩
            case rest =>
              obtain ⟨rfl, rfl⟩ := hcut
              obtain ⟨k0, k1, k2, k3, j0, j1, j2, j3⟩ := all4 HK.out
              have hne01 : (gd : Nat) ≠ w.heap.size := by omega
              have hne02 : (w.heap.size : Nat) ≠ gd := by omega
              have hne03 : (w.heap.size + 1 : Nat) ≠ w.heap.size := by omega
              by_cases hz : s6.2 = 0
              · rw [hz] at z1
                by_cases hlen : s6.1.length = 0
                · have hE0 : Aside0 (E = 0) := ⟨by rw [hE.out, if_pos hz, if_pos hlen]⟩
                  rw [hlen] at z0
                  go_wp2
                  refine bodyPost_ret (results_ct rfl _ _ w.heap.size 61 #[.slice A0 drop.length c0, .slice A1 add.length c1, .int .i64 seq, .int .i64 next] (0, 0) _ rfl (blk4 HK.out) Try.underlying61 rfl (by kernel_rfl)) rfl ?_
                  refine ⟨A0, drop.length, c0, A1, add.length, c1, seq, next, by rw [hE0.out]; rfl, ⟨fun _ => ⟨rfl, rfl, rfl, rfl, ?_, ?_⟩, fun h => absurd hE0.out h, below_set4 HB.out (Nat.le_refl _) _ _ _ _⟩⟩
                  · have h1 := Kd.own_of_R HX.out
                    exact own_weaken (RIset4 h1 (by omega) _ _ _ _) (by omega)
                  · exact Kd.R_lower (Rset4 HY.out (by omega) _ _ _ _) (by omega)
                · have hE0 : Aside0 (E = 23) := ⟨by rw [hE.out, if_pos hz, if_neg hlen]⟩
                  have hlp : (0 : Int) < s6.1.length := by omega
                  obtain ⟨W8, hW8⟩ : ∃ W8, W8 = wr.setCell ⟨w.heap.size + 1, 1, none⟩ (.int .i64 23) := ⟨_, rfl⟩
                  have HS8 : Aside0 (W8.heap[w.heap.size + 1]? = some (.cells #[.slice As s6.1.length cs, .int .i64 23] 124 (0, 0))) := ⟨by rw [hW8]; exact blk_put HKS.out 1 _ rfl⟩
                  have HK8 : Aside0 (W8.heap[w.heap.size]? = some (.cells #[.slice none 0 0, .slice none 0 0, .int .i64 0, .int .i64 0] 61 (0, 0))) := ⟨by rw [hW8]; exact blk_far HK.out (p := ⟨w.heap.size + 1, 1, none⟩) (by show w.heap.size ≠ w.heap.size + 1; omega) _⟩
                  have HB8 : Aside0 (Below w.heap.size w W8) := ⟨by rw [hW8]; exact HB.out.setCell (p := ⟨w.heap.size + 1, 1, none⟩) (by show w.heap.size ≤ w.heap.size + 1; omega) _⟩
                  have hE23 := hE0.out
                  subst hE23
                  go_upto_region 14 with (fail)
                  rw [← hW8]
                  clear hW8 k0 k1 k2 k3 j0 j1 j2 j3
                  have e1 : W8.drew.cell? ⟨w.heap.size + 1, 1, none⟩ = some (.int .i64 23) := blk_cell (blk_drew HS8.out) 1
                  have e2 : W8.cell? ⟨w.heap.size + 1, 1, none⟩ = some (.int .i64 23) := blk_cell HS8.out 1
                  obtain ⟨k0, k1, k2, k3, j0, j1, j2, j3⟩ := all4 (blk_drew HK8.out)
                  obtain ⟨m0, m1, m2, m3, n0, n1, n2, n3⟩ := all4 HK8.out
                  have hEn : ¬ ((23 : Int) = 0) := by omega
                  go_region
                  go_wp2
                  refine bodyPost_ret (results_ct rfl _ _ w.heap.size 61 #[.slice none 0 0, .slice none 0 0, .int .i64 0, .int .i64 0] (0, 0) _ rfl (blk4 (blk_drew HK8.out)) Try.underlying61 rfl (by kernel_rfl)) rfl ?_
                  exact ⟨none, 0, 0, none, 0, 0, 0, 0, rfl, ⟨⟨rfl, rfl, rfl, rfl, rfl, rfl, rfl, rfl⟩, below_set4 (below_drew HB8.out) (Nat.le_refl _) _ _ _ _⟩⟩
              · have hEe : E = s6.2 := by rw [hE.out, if_neg hz]
                subst hEe
                have HS8 := HKS
                have HK8 := HK
                have HB8 := HB
                have hz' : (s6.2 == 0) = false := by simp [hz]
                clear k0 k1 k2 k3 j0 j1 j2 j3
                go_upto_region 14 with (fail)
                have e1 : wr.drew.cell? ⟨w.heap.size + 1, 1, none⟩ = some (.int .i64 s6.2) := blk_cell (blk_drew HS8.out) 1
                have e2 : wr.cell? ⟨w.heap.size + 1, 1, none⟩ = some (.int .i64 s6.2) := blk_cell HS8.out 1
                obtain ⟨k0, k1, k2, k3, j0, j1, j2, j3⟩ := all4 (blk_drew HK8.out)
                obtain ⟨m0, m1, m2, m3, n0, n1, n2, n3⟩ := all4 HK8.out
                go_region
                go_wp2
                refine bodyPost_ret (results_ct rfl _ _ w.heap.size 61 #[.slice none 0 0, .slice none 0 0, .int .i64 0, .int .i64 0] (0, 0) _ rfl (blk4 (blk_drew HK8.out)) Try.underlying61 rfl (by kernel_rfl)) rfl ?_
                exact ⟨none, 0, 0, none, 0, 0, 0, 0, rfl, ⟨fun h => absurd h hz, fun _ => ⟨rfl, rfl, rfl, rfl, rfl, rfl, rfl, rfl⟩, below_set4 (below_drew HB8.out) (Nat.le_refl _) _ _ _ _⟩⟩
end Go.Proofs.Ytelnhecpcjoonaa.Var
