/- edit.Encode's put: walked. -/
import Derived.Test.YtelnhecpcjoonaaScanA
import Derived.Test.YtelnhecpcjoonaaEditB
import Derived.Test.YtelnhecpcjoonaaCells
import Derived.Deep.RegionLaw
namespace Go.Proofs.Ytelnhecpcjoonaa.Var
set_option linter.unusedVariables false
set_option linter.unusedSimpArgs false
open Go.RowKit Go.Proofs.YtelnhecpcjoonaaW.PrintWords Go.Proofs.YtelnhecpcjoonaaW.PrintLast Go.Proofs.Ytelnhecpcjoonaa.Base Go.Proofs.Ytelnhecpcjoonaa.Cells Go.Proofs.Ytelnhecpcjoonaa.Ints Go.Proofs.Ytelnhecpcjoonaa.VarPure Go.Proofs.Ytelnhecpcjoonaa.Codec Go.Proofs.Ytelnhecpcjoonaa.EditPure Go.Proofs.Ytelnhecpcjoonaa.Edit Go.Proofs.Ytelnhecpcjoonaa.Sets

abbrev kB : Kd Int := Kd.int .u8
/-- what is written so far: is all well, and the octets -/
structure EncS (w : World) (gb go base : Nat) (okp : Nat → Prop) (ok : Bool) (L : List Int) : Prop where
  ho : w.heap[go]? = some (.cells #[.bool ok] 4 (0, 0))
  hb : ∃ A c, w.heap[gb]? = some (.cells #[.slice A L.length c] 83 (0, 0)) ∧ kB.R 5 w base okp (.slice A L.length c) L
  hg : gb < go
  hbase : go < base
  hsz : base ≤ w.heap.size

theorem EncS.below {w w1 : World} {gb go base : Nat} {okp : Nat → Prop} {ok : Bool} {L : List Int} (h : EncS w gb go base okp ok L) (hb : Below w.heap.size w w1) : EncS w1 gb go base okp ok L := by
  obtain ⟨A, c, hk, hr⟩ := h.hb
  exact ⟨blk_keep h.ho hb, ⟨A, c, blk_keep hk hb, Kd.R_below hr hb⟩, h.hg, h.hbase, Nat.le_trans h.hsz hb.size⟩
theorem KB_set {w : World} {base : Nat} {okp : Nat → Prop} {v : Value} {l : List Int} (h : kB.R 5 w base okp v l) {p : Addr} (hlt : p.block < base) (u : Value) : kB.R 5 (w.setCell p u) base okp v l :=
  Kd.R_mono (Kd.R_far (Kd.R_bound h) (fun k hk => by have := hk.2.1; omega) u) (fun k hk => hk.1)
theorem EncS.setOk {w : World} {gb go base : Nat} {okp : Nat → Prop} {ok : Bool} {L : List Int} (h : EncS w gb go base okp ok L) (b : Bool) : EncS (w.setCell ⟨go, 0, none⟩ (.bool b)) gb go base okp b L := by
  obtain ⟨A, c, hk, hr⟩ := h.hb
  exact ⟨blk_put h.ho 0 _ rfl, ⟨A, c, blk_far hk (p := ⟨go, 0, none⟩) (by have := h.hg; show gb ≠ go; omega) _, KB_set hr (p := ⟨go, 0, none⟩) h.hbase _⟩, h.hg, h.hbase, by rw [World.size_setCell]; exact h.hsz⟩
theorem EncS.mono {w : World} {gb go base : Nat} {okp okp' : Nat → Prop} {ok : Bool} {L : List Int} (h : EncS w gb go base okp ok L) (hm : ∀ k, okp k → base ≤ k → k < w.heap.size → okp' k) : EncS w gb go base okp' ok L := by
  obtain ⟨A, c, hk, hr⟩ := h.hb
  exact ⟨h.ho, ⟨A, c, hk, Kd.R_mono (Kd.R_bound hr) (fun k hk => hm k hk.1 hk.2.1 hk.2.2.1)⟩, h.hg, h.hbase, h.hsz⟩
theorem below_drew0 {w w1 : World} (h : Below w.drew.heap.size w.drew w1) : Below w.heap.size w w1 := ⟨h.os, h.tape, h.output, h.size, h.block⟩
theorem below_sub {B B' : Nat} {w w1 : World} (h : Below B w w1) (hB : B' ≤ B) : Below B' w w1 := ⟨h.os, h.tape, h.output, h.size, fun i hi => h.block i (by omega)⟩
theorem below_join {B : Nat} {a b c : World} (h : Below B a b) (k : Below B b c) : Below B a c := ⟨k.os.trans h.os, k.tape.trans h.tape, k.output.trans h.output, Nat.le_trans h.size k.size, fun i hi => (k.block i hi).trans (h.block i hi)⟩
theorem reads_keep {w w1 : World} {A : Option Addr} {n : Nat} {xs : List Int} (h : ReadsInt w .i64 A n xs) (hk : ∀ ad, A = some ad → 0 < n → w1.heap[ad.block]? = w.heap[ad.block]?) : ReadsInt w1 .i64 A n xs := by
  refine ⟨h.1, h.2.1, fun hp => ?_⟩
  obtain ⟨ad, e, hc⟩ := h.2.2 hp
  refine ⟨ad, e, fun i hi => ?_⟩
  rw [← hc i hi]
  refine World.cell?_of_block ?_
  rw [add_block]; exact hk ad e hp

/-- all blocks but a Bool's, a row's of octets, a variable's of such a row, are as they were -/
def Oth (w w' : World) : Prop := ∀ (k : Nat) (cs : Array Value) (t : TypeId), w.heap[k]? = some (.cells cs t (0, 0)) → t ≠ 5 → t ≠ 4 → t ≠ 83 → w'.heap[k]? = some (.cells cs t (0, 0))
theorem Oth.refl (w : World) : Oth w w := fun _ _ _ h _ _ _ => h
theorem Oth.trans {a b c : World} (h : Oth a b) (k : Oth b c) : Oth a c := fun i cs t h1 h2 h3 h4 => k i cs t (h i cs t h1 h2 h3 h4) h2 h3 h4
theorem Oth.of_below {a b : World} (h : Below a.heap.size a b) : Oth a b := fun _ _ _ h1 _ _ _ => blk_keep h1 h
theorem Oth.set {a b : World} (h : Oth a b) {g j : Nat} {cs : Array Value} {t : TypeId} (hg : b.heap[g]? = some (.cells cs t (0, 0))) (ht : t = 4 ∨ t = 83) (v : Value) : Oth a (b.setCell ⟨g, j, none⟩ v) := fun i cs' t' h1 h2 h3 h4 => by
  have hi := h i cs' t' h1 h2 h3 h4
  exact blk_far hi (p := ⟨g, j, none⟩) (blk_ne hi hg (by rcases ht with rfl | rfl; exact h3; exact h4)) _
theorem Oth.grown {a b c : World} (h : Oth a b) {base : Nat} {okp : Nat → Prop} {v : Value} {L : List Int} (hR : kB.R 5 b base okp v L) (hg : b.grownBy c v.ownBlock) : Oth a c := fun i cs' t' h1 h2 h3 h4 => by
  have hi := h i cs' t' h1 h2 h3 h4
  refine blk_grown hi hg ?_
  obtain ⟨inner, ho⟩ := Kd.R_own hR
  exact own_ne ho hi (Ne.symm h2)

set_option maxRecDepth 100000 in
set_option maxHeartbeats 8000000 in
theorem putC_any (gb go base : Nat) (A : Option Addr) (c : Nat) (xs : List Int) (ok : Bool) (L : List Int) (w : World) (hs : EncS w gb go base (fun k => ∀ ad, A = some ad → 0 < xs.length → k ≠ ad.block) ok L) (hr : ReadsInt w .i64 A xs.length xs) (hw : ∀ x ∈ xs, inI64 x) (hA : ∀ ad, A = some ad → 0 < xs.length → ad.block ≠ gb ∧ ad.block ≠ go ∧ ad.block < w.heap.size) (hx : xs.length ≤ 1048576) (hL : L.length + 9 * xs.length ≤ 137438953472) :
    Calls Try.prog 62 #[.slice A xs.length c, .pointer (some ⟨go, 0, none⟩), .pointer (some ⟨gb, 0, none⟩)] w fun e w' => e = .returned (.tuple #[]) ∧ ∃ L', EncS w' gb go base (fun _ => True) (ok && xs.all okN) L' ∧ L'.length ≤ L.length + 9 * xs.length ∧ ((ok && xs.all okN) = true → L' = L ++ nb (xs.flatMap putI)) ∧ Below gb w w' ∧ Oth w w' := by
  have HS := Aside0.mk hs
  have HR := Aside0.mk hr
  have HA := Aside0.mk hA
  have hgo := hs.hg
  have hbs := hs.hbase
  clear hs hr hA
  go_enter Try.func62, Try.ntmps62
  go_wp2
  go_loopg [8] xs.length (fun gk v8 wr => ∃ (i : Nat) (ok' : Bool) (L' : List Int), v8 = .int .i64 i ∧ gk + i = xs.length ∧ Aside0 (ok' = (ok && (xs.take i).all okN)) ∧ Aside0 (EncS wr gb go base (fun k => ∀ ad, A = some ad → 0 < xs.length → k ≠ ad.block) ok' L') ∧ L'.length ≤ L.length + 9 * i ∧ Aside0 (ok' = true → L' = L ++ nb ((xs.take i).flatMap putI)) ∧ Aside0 (ReadsInt wr .i64 A xs.length xs) ∧ Aside0 (Below gb w wr) ∧ Aside0 (Oth w wr))
  case atStart => exact ⟨0, ok, L, rfl, by omega, ⟨by simp⟩, HS, by omega, ⟨fun _ => by simp [nb]⟩, HR, ⟨⟨rfl, rfl, rfl, Nat.le_refl _, fun _ _ => rfl⟩⟩, ⟨Oth.refl _⟩⟩
  case round =>
    clear HS HR
    obtain ⟨i, ok', L', rfl, hg, HOK, HS, hLl, HLL, HR, HB, HO⟩ := hrel
    by_cases hlt : i < xs.length
    · obtain ⟨x, hx1⟩ : ∃ x, xs[i]? = some x := ⟨_, List.getElem?_eq_getElem hlt⟩
      have hxm : x ∈ xs := List.mem_of_getElem? hx1
      have hxw := hw x hxm
      obtain ⟨ad, rfl, c0⟩ := HR.out.at_ i (by omega) (by omega)
      have hrd : rd xs i = x := by simp [rd, List.getD_eq_getElem?_getD, hx1]
      rw [Int.toNat_natCast, hrd] at c0
      have HT : Aside0 (xs.take (i + 1) = xs.take i ++ [x]) := ⟨by rw [List.take_add_one, hx1]; rfl⟩
      obtain ⟨Ab, cb, hkb, hrb⟩ := HS.out.hb
      have q0 := blk_cell HS.out.ho 0
      have qf := blk_frozen HS.out.ho 0
      have b0 := blk_cell hkb 0
      have bf := blk_frozen hkb 0
      have HKB := Aside0.mk hkb
      have HRB := Aside0.mk hrb
      have hab := HA.out ad rfl (by omega)
      have hn1 : (ad.add i).block ≠ go := by rw [add_block]; exact hab.2.1
      clear hx1 hrd hkb hrb
      obtain ⟨wi, hwi⟩ := named (within x 0 1099511627776)
      go_upto_region 3 with (fail)
      go_cut [16] (fun v16 wc => v16 = .bool (ok' && wi) ∧ wr.setCell ⟨go, 0, none⟩ (.bool (ok' && wi)) = wc)
      case first =>
        cases hok : ok' with
        | false =>
          rw [hok] at q0
          go_wp2
          go_meet
          exact ⟨by rw [hok]; rfl, by rw [hok]; rfl⟩
        | true =>
          rw [hok] at q0
          go_wp2_with (go_at_call 54; refine (within_any x 0 1099511627776 _).mono ?_; rw [← hwi.out]; rintro e w2 ⟨rfl, rfl⟩)
          go_meet
          exact ⟨by rw [hok, Bool.true_and], by rw [hok, Bool.true_and]⟩
      case rest =>
        obtain ⟨rfl, hW3⟩ := hcut
        obtain ⟨ok3, hok3⟩ := named (ok' && wi)
        rw [← hok3.out] at hW3 ⊢
        have HS3 : Aside0 (EncS wc gb go base (fun k => ∀ ad', (some ad) = some ad' → 0 < xs.length → k ≠ ad'.block) ok3 L') := ⟨by rw [← hW3]; exact HS.out.setOk ok3⟩
        have HKB3 : Aside0 (wc.heap[gb]? = some (.cells #[.slice Ab L'.length cb] 83 (0, 0))) := ⟨by rw [← hW3]; exact blk_far HKB.out (p := ⟨go, 0, none⟩) (by show gb ≠ go; omega) _⟩
        have HRB3 : Aside0 (kB.R 5 wc base (fun k => ∀ ad', (some ad) = some ad' → 0 < xs.length → k ≠ ad'.block) (.slice Ab L'.length cb) L') := ⟨by rw [← hW3]; exact KB_set HRB.out (p := ⟨go, 0, none⟩) hbs _⟩
        have HR3 : Aside0 (ReadsInt wc .i64 (some ad) xs.length xs) := ⟨reads_keep HR.out (fun ad' e _ => by injection e with e; subst e; rw [← hW3]; exact Below.heap_setCell wr ⟨go, 0, none⟩ _ _ (by show ad.block ≠ go; exact hab.2.1))⟩
        have HB3 : Aside0 (Below gb w wc) := ⟨by rw [← hW3]; exact HB.out.setCell (p := ⟨go, 0, none⟩) (by show gb ≤ go; omega) _⟩
        have HO3 : Aside0 (Oth w wc) := ⟨by rw [← hW3]; exact HO.out.set HS.out.ho (.inl rfl) _⟩
        have hab3 : ad.block < wc.heap.size := Nat.lt_of_lt_of_le hab.2.2 HB3.out.size
        obtain ⟨W3, hWW⟩ : ∃ W3, W3 = wc := ⟨_, rfl⟩
        subst hWW
        have hu0 : 0 ≤ IntKind.u64.wrap x := by rw [IntKind.wrap_u64]; omega
        have hu1 : IntKind.u64.wrap x ≤ 18446744073709551615 := by rw [IntKind.wrap_u64]; omega
        have HW : Aside0 (ok3 = true → okN x = true) := ⟨fun h => by
          have h1 := hok3.out
          rw [h] at h1
          have h2 : ok' = true ∧ wi = true := by simpa using h1.symm
          rw [okN, ← hwi.out]; exact h2.2⟩
        clear hW3 q0 qf b0 bf c0 HS HKB HRB HR HB HO
        have b0 := blk_cell HKB3.out 0
        go_wp2_with fail
        have bd : W3.drew.cell? ⟨gb, 0, none⟩ = some (.slice Ab L'.length cb) := b0
        go_region_law (first | (refine Kd.R_append_rows_step kB (Rr := kB.K w4) (w0 := w4) base (by rfl) (.tmp 17) (.tmp 20) 83 5 (.int .u8 0) 1 rfl Try.underlying83 infoB rfl (by decide) (by omega) (.slice Ab L'.length cb) L' Lp Ap Lp.length cp (fun k => ∀ ad', (some ad) = some ad' → 0 < xs.length → k ≠ ad'.block) (fun _ => False) rfl rfl ?aO ?aR ?aK (fun _ hk => hk.elim) ?aF ?aB ?aS ?c1 ?_; (case aO => exact HRB4.out); (case aR => exact HCp.out); (case aK => intro x cs hx; exact hx); (case aF => intro k hk ad' e _; injection e with e; subst e; omega); (case aB => exact Below.refl _ _); (case aS => exact hsz4); (case c1 => omega); intro v5 w5 hown hB5 hg5 hat; obtain ⟨A5, c5, rfl, hc5, _⟩ := Kd.R_reads hown; have HR5 := Aside0.mk hown; have HB5 := Aside0.mk hB5; have HG5 := Aside0.mk hg5; have hk5 := (hB5.block gb (by omega)).trans HKB4.out; have t0 := blk_cell hk5 0; have tf := blk_frozen hk5 0; have HK5 := Aside0.mk hk5; clear hown hB5 hg5 hat hk5) | (go_simp; go_wp2_with (go_at_call 63; refine (put_any (IntKind.u64.wrap x) hu0 hu1 _).mono ?_; rintro e w4 ⟨vp, Lp, rfl, hop, hl1, hl9, hLp, hb4⟩; have hRp : kB.R 5 w4 W3.drew.heap.size (fun _ => True) vp Lp := Kd.R_of_own hop (fun _ _ => trivial); obtain ⟨Ap, cp, rfl, _, hCp⟩ := Kd.R_reads hRp; have HCp := Aside0.mk hCp; have HLp := Aside0.mk hLp; have HB4 := Aside0.mk hb4; have hsz4 : base ≤ w4.heap.size := Nat.le_trans HS3.out.hsz hb4.size; have had4 : ad.block < w4.heap.size := Nat.lt_of_lt_of_le hab3 hb4.size; have HKB4 := Aside0.mk (blk_keep (w := W3.drew) HKB3.out hb4); have HRB4 := Aside0.mk (Kd.R_below (w := W3.drew) HRB3.out hb4); have p0 := blk_cell HKB4.out 0; have pf := blk_frozen HKB4.out 0; have hlt4 : gb < w4.heap.size := blk_lt HKB4.out; clear hop hRp hCp hLp hb4)))
        all_goals go_wp2
        all_goals go_roundg (xs.length - (i + 1))
        all_goals first
          | (guard_target =~ (_ : Nat) < _; omega)
          | exact ⟨i + 1, ok3, L' ++ Lp, by go_num, by omega, ⟨by
              rw [HT.out, List.all_append, hok3.out, HOK.out, hwi.out]
              simp [okN, Bool.and_assoc]⟩, ⟨blk_far ((HB5.out.block go (by omega)).trans (blk_keep (w := W3.drew) HS3.out.ho HB4.out)) (p := ⟨gb, 0, none⟩) (by show go ≠ gb; omega) _, ⟨A5, c5, blk_put HK5.out 0 _ (by rw [List.length_append]; rfl), KB_set HR5.out (p := ⟨gb, 0, none⟩) (by show gb < base; omega) _⟩, hgo, hbs, by rw [World.size_setCell]; have := HB5.out.size; omega⟩, by rw [List.length_append]; omega, ⟨fun h => by
              have h1 := hok3.out
              rw [h] at h1
              have h2 : ok' = true ∧ wi = true := by simpa using h1.symm
              have h3 := (okN_iff x).1 (HW.out h)
              have h4 : IntKind.u64.wrap x = x := by rw [IntKind.wrap_u64]; omega
              rw [HLL.out h2.1, HLp.out (by omega), h4, HT.out, List.flatMap_append, List.append_assoc]
              congr 1
              simp [nb, putI]⟩, ⟨reads_keep HR3.out (fun ad' e h0 => by
              injection e with e
              subst e
              have e1 := Below.heap_setCell w5 ⟨gb, 0, none⟩ (Value.slice A5 (L' ++ Lp).length c5) ad.block (by show ad.block ≠ gb; exact hab.1)
              have e2 := HG5.out.block ad.block had4 (fun e => HRB4.out.1 ad.block e.symm ad rfl h0 rfl)
              have e3 := HB4.out.block ad.block hab3
              first | exact e1.trans (e2.trans e3) | (rw [List.length_append] at e1; exact e1.trans (e2.trans e3)))⟩, ⟨(below_join HB3.out (below_join (below_sub (B' := gb) (w := W3) (below_drew0 HB4.out) (by have := blk_lt HKB3.out; exact Nat.le_of_lt this)) (below_sub (B' := gb) HB5.out (by omega)))).setCell (p := ⟨gb, 0, none⟩) (Nat.le_refl _) _⟩, ⟨((HO3.out.trans (Oth.of_below (below_drew0 HB4.out))).grown HRB4.out HG5.out).set HK5.out (.inr rfl) _⟩⟩
    · have hpk : Aside0 (xs.take i = xs) := ⟨List.take_of_length_le (by omega)⟩
      go_wp2
      go_end0
      refine ⟨rfl, L', ?_, by omega, ?_, HB.out, HO.out⟩
      · have := HS.out.mono (okp' := fun _ => True) (fun _ _ _ _ => trivial)
        rwa [HOK.out, hpk.out] at this
      · intro h
        have := HLL.out (by rw [HOK.out, hpk.out]; exact h)
        rwa [hpk.out] at this
end Go.Proofs.Ytelnhecpcjoonaa.Var
