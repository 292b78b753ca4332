/- A part of the proof: varint.Get: walked. -/
import Derived.Test.YtfakfgblaakgdaaGreatPkActs3
import Derived.Test.YtfakfgblaakgdaaGreatPkActs2
import Derived.Test.YtfakfgblaakgdaaGreatPkActs1
import Derived.Laws.Bits64b
import Derived.Deep.RegionLaw

/- varint.Get: walked. -/
namespace Go.Proofs.YtfakfgblaakgdaaGreat.Var
set_option linter.unusedVariables false
set_option linter.unusedSimpArgs false
open Go.RowKit Go.Proofs.YtfakfgblaakgdaaGreatW.PrintWords Go.Proofs.YtfakfgblaakgdaaGreatW.PrintLast Go.Proofs.YtfakfgblaakgdaaGreat.Base Go.Proofs.YtfakfgblaakgdaaGreat.Cells Go.Proofs.YtfakfgblaakgdaaGreat.Ints Go.Proofs.YtfakfgblaakgdaaGreat.VarPure

theorem infoBx : ∃ i0, Tryz.prog.info? 5 = some i0 ∧ i0.size = 1 := by
  have h := infoB
  obtain ⟨i0, h1, h2⟩ := Option.map_eq_some_iff.1 h
  exact ⟨i0, h1, congrArg (fun x => x.2.1) h2⟩
end Go.Proofs.YtfakfgblaakgdaaGreat.Var

/- An edit's octets (chapter 11), on lists: encode, decode, and that each undoes the other. No program. -/
namespace Go.Proofs.YtfakfgblaakgdaaGreat.Codec
open Go.RowKit Go.Proofs.YtfakfgblaakgdaaGreatW.PrintWords Go.Proofs.YtfakfgblaakgdaaGreatW.PrintLast Go.Proofs.YtfakfgblaakgdaaGreat.Base Go.Proofs.YtfakfgblaakgdaaGreat.EditPure Go.Proofs.YtfakfgblaakgdaaGreat.VarPure
set_option linter.unusedVariables false
set_option linter.unusedSimpArgs false

/-- a number's, a text's, a table's, an edit's octets -/
def putI (n : Int) : List Nat := putN n.toNat
def strB (s : ByteArray) : List Nat := s.data.toList.map UInt8.toNat
def putS (s : ByteArray) : List Nat := putI s.size ++ strB s
def putM (m : Meta) : List Nat := putI m.id ++ (putI m.level ++ (putI m.count ++ (putS m.low ++ putS m.high)))
def encB (drop : List Int) (add : List Meta) (seq next : Int) : List Nat := putI seq ++ (putI next ++ (putI drop.length ++ (drop.flatMap putI ++ (putI add.length ++ add.flatMap putM))))
def okN (n : Int) : Bool := within n 0 1099511627776
def okM (m : Meta) : Bool := okN m.id && (okN m.level && (okN m.count && (decide (m.low.size ≤ 96) && decide (m.high.size ≤ 96))))
def encOk (drop : List Int) (add : List Meta) (seq next : Int) : Bool := okN seq && (okN next && (drop.all okN && add.all okM))

/-- what is left, and the first error -/
abbrev St := List Nat × Int
def numS (most code : Int) (s : St) : Int × St :=
  if s.2 ≠ 0 then (0, s)
  else if (getN s.1).2.2 ≠ 0 then (0, (s.1, ((getN s.1).2.2 : Int)))
  else if most < ((getN s.1).1 : Int) then (0, (s.1, code))
  else (((getN s.1).1 : Int), (s.1.drop (getN s.1).2.1, 0))
def ofB (l : List Nat) : ByteArray := ⟨(l.map (fun n => UInt8.ofNat n)).toArray⟩
def textS (s : St) : ByteArray × St :=
  let r := numS 96 1 s
  if r.2.2 ≠ 0 then (⟨#[]⟩, r.2)
  else if (r.2.1.length : Int) < r.1 then (⟨#[]⟩, (r.2.1, 8))
  else (ofB (r.2.1.take r.1.toNat), (r.2.1.drop r.1.toNat, 0))
def metaS (s : St) : Meta × St :=
  let a := numS 1099511627776 1 s
  let b := numS 1099511627776 1 a.2
  let c := numS 1099511627776 1 b.2
  let d := textS c.2
  let e := textS d.2
  (⟨a.1, b.1, c.1, d.1, e.1⟩, e.2)
def manyS {α : Type} (f : St → α × St) : Nat → St → List α × St
  | 0, s => ([], s)
  | k + 1, s => if s.2 ≠ 0 then ([], s) else (((f s).1 :: (manyS f k (f s).2).1), (manyS f k (f s).2).2)
structure Dec where
  err : Int
  drop : List Int
  add : List Meta
  seq : Int
  next : Int
def decS6 (seq next : Int) (drop : List Int) (e : List Meta × St) : Dec := ⟨if e.2.2 = 0 then (if e.2.1.length = 0 then 0 else 23) else e.2.2, drop, e.1, seq, next⟩
def decS5 (seq next : Int) (drop : List Int) (k : Int × St) : Dec := decS6 seq next drop (manyS metaS k.1.toNat k.2)
def decS4 (seq next : Int) (d : List Int × St) : Dec := decS5 seq next d.1 (numS 256 3 d.2)
def decS3 (seq next : Int) (n : Int × St) : Dec := decS4 seq next (manyS (numS 1099511627776 1) n.1.toNat n.2)
def decS2 (seq : Int) (c : Int × St) : Dec := decS3 seq c.1 (numS 256 3 c.2)
def decS1 (a : Int × St) : Dec := decS2 a.1 (numS 1099511627776 1 a.2)
def decS (b : List Nat) : Dec := decS1 (numS 1099511627776 1 (b, 0))

theorem strB_bytes (s : ByteArray) : Bytes (strB s) := fun x hx => by
  obtain ⟨u, _, rfl⟩ := List.mem_map.1 hx
  exact u.toNat_lt
theorem strB_len (s : ByteArray) : (strB s).length = s.size := by simp [strB]
theorem okN_iff (n : Int) : okN n = true ↔ 0 ≤ n ∧ n ≤ 1099511627776 := by simp [okN, within]
end Go.Proofs.YtfakfgblaakgdaaGreat.Codec

/- The scanner of chapter 11: number, text: walked. -/
namespace Go.Proofs.YtfakfgblaakgdaaGreat.Var
set_option linter.unusedVariables false
set_option linter.unusedSimpArgs false
open Go.RowKit Go.Proofs.YtfakfgblaakgdaaGreatW.PrintWords Go.Proofs.YtfakfgblaakgdaaGreatW.PrintLast Go.Proofs.YtfakfgblaakgdaaGreat.Base Go.Proofs.YtfakfgblaakgdaaGreat.Cells Go.Proofs.YtfakfgblaakgdaaGreat.Ints Go.Proofs.YtfakfgblaakgdaaGreat.VarPure Go.Proofs.YtfakfgblaakgdaaGreat.Codec Go.Proofs.YtfakfgblaakgdaaGreat.EditPure

/-- a scanner: what is left, and the first error -/
def Scan (w : World) (g : Nat) (s : St) : Prop := ∃ A c, w.heap[g]? = some (.cells #[.slice A s.1.length c, .int .i64 s.2] 219 (0, 0)) ∧ ReadsInt w .u8 A s.1.length (nb s.1) ∧ s.1.length ≤ c ∧ Bytes s.1 ∧ (∀ ad, A = some ad → 0 < s.1.length → ad.block < g)
theorem reads_set {w : World} {A : Option Addr} {n g : Nat} {xs : List Int} (h : ReadsInt w .u8 A n xs) (hf : ∀ ad, A = some ad → 0 < n → ad.block < g) (j : Nat) (v : Value) : ReadsInt (w.setCell ⟨g, j, none⟩ v) .u8 A n xs := by
  refine ⟨h.1, h.2.1, fun hp => ?_⟩
  obtain ⟨ad, e, hc⟩ := h.2.2 hp
  refine ⟨ad, e, fun i hi => ?_⟩
  rw [World.cell?_setCell_far _ _ _ _ (by have := hf ad e hp; show g ≠ (ad.add i).block; rw [add_block]; omega)]
  exact hc i hi
theorem Scan.below {w w1 : World} {g : Nat} {s : St} (h : Scan w g s) (hb : Below w.heap.size w w1) : Scan w1 g s := by
  obtain ⟨A, c, hk, hr, hlc, hby, hlt⟩ := h
  exact ⟨A, c, blk_keep hk hb, hr.below hb, hlc, hby, hlt⟩
theorem Scan.err {w : World} {g : Nat} {l : List Nat} {e : Int} (h : Scan w g (l, e)) (e' : Int) : Scan (w.setCell ⟨g, 1, none⟩ (.int .i64 e')) g (l, e') := by
  obtain ⟨A, c, hk, hr, hlc, hby, hlt⟩ := h
  exact ⟨A, c, blk_put hk 1 _ rfl, reads_set hr hlt _ _, hlc, hby, hlt⟩
theorem nb_drop (l : List Nat) (k : Nat) : nb (l.drop k) = (nb l).drop k := by simp [nb, List.map_drop]
/-- so many octets further on -/
theorem Scan.on {w : World} {g : Nat} {l : List Nat} {e : Int} {A : Option Addr} {c k : Nat} (h : Scan w g (l, e)) (hk : w.heap[g]? = some (.cells #[.slice A l.length c, .int .i64 e] 219 (0, 0))) (hkl : k ≤ l.length) :
    Scan (w.setCell ⟨g, 0, none⟩ (.slice (if c = k then A else A.map (·.add (k * 1))) (l.length - k) (c - k))) g (l.drop k, e) := by
  obtain ⟨A', c', hk', hr, hlc, hby, hlt⟩ := h
  rw [hk] at hk'
  injection hk' with h1
  injection h1 with h2 _ _
  have h3 := congrArg (fun a : Array Value => a[0]?) h2
  simp at h3
  obtain ⟨rfl, rfl⟩ := h3
  simp only at hr hlc hby
  have hlt2 : ∀ ad, (if c = k then A else A.map (·.add (k * 1))) = some ad → 0 < l.length - k → ad.block < g := by
    intro ad h h0
    by_cases hc : c = k
    · rw [if_pos hc] at h; exact hlt ad h (show 0 < l.length by omega)
    · rw [if_neg hc] at h
      obtain ⟨a0, ha, rfl⟩ := Option.map_eq_some_iff.1 h
      rw [add_block]; exact hlt a0 ha (show 0 < l.length by omega)
  have hd := hr.drop_ (c := c) k (by simpa [nb_len] using hkl) hlc
  rw [Nat.mul_one] at *
  refine ⟨(if c = k then A else A.map (·.add k)), c - k, ?_, ?_, ?_, fun x hx => hby x (List.mem_of_mem_drop hx), fun ad e h0 => hlt2 ad e (by simpa using h0)⟩
  · rw [List.length_drop]; exact blk_put hk 0 _ rfl
  · simp only [List.length_drop]
    rw [nb_drop]
    exact reads_set hd hlt2 _ _
  · simp only [List.length_drop]; omega

end Go.Proofs.YtfakfgblaakgdaaGreat.Var

/- edit.Encode's put: walked. -/
namespace Go.Proofs.YtfakfgblaakgdaaGreat.Var
set_option linter.unusedVariables false
set_option linter.unusedSimpArgs false
open Go.RowKit Go.Proofs.YtfakfgblaakgdaaGreatW.PrintWords Go.Proofs.YtfakfgblaakgdaaGreatW.PrintLast Go.Proofs.YtfakfgblaakgdaaGreat.Base Go.Proofs.YtfakfgblaakgdaaGreat.Cells Go.Proofs.YtfakfgblaakgdaaGreat.Ints Go.Proofs.YtfakfgblaakgdaaGreat.VarPure Go.Proofs.YtfakfgblaakgdaaGreat.Codec Go.Proofs.YtfakfgblaakgdaaGreat.EditPure Go.Proofs.YtfakfgblaakgdaaGreat.Edit Go.Proofs.YtfakfgblaakgdaaGreat.Sets

abbrev kB : Kd Int := Kd.int .u8
/-- what is written so far: is all well, and the octets -/
structure EncS (w : World) (gb go base : Nat) (okp : Nat → Prop) (ok : Bool) (L : List Int) : Prop where
  ho : w.heap[go]? = some (.cells #[.bool ok] 4 (0, 0))
  hb : ∃ A c, w.heap[gb]? = some (.cells #[.slice A L.length c] 88 (0, 0)) ∧ kB.R 5 w base okp (.slice A L.length c) L
  hg : gb < go
  hbase : go < base
  hsz : base ≤ w.heap.size

theorem EncS.below {w w1 : World} {gb go base : Nat} {okp : Nat → Prop} {ok : Bool} {L : List Int} (h : EncS w gb go base okp ok L) (hb : Below w.heap.size w w1) : EncS w1 gb go base okp ok L := by
  obtain ⟨A, c, hk, hr⟩ := h.hb
  exact ⟨blk_keep h.ho hb, ⟨A, c, blk_keep hk hb, Kd.R_below hr hb⟩, h.hg, h.hbase, Nat.le_trans h.hsz hb.size⟩
theorem KB_set {w : World} {base : Nat} {okp : Nat → Prop} {v : Value} {l : List Int} (h : kB.R 5 w base okp v l) {p : Addr} (hlt : p.block < base) (u : Value) : kB.R 5 (w.setCell p u) base okp v l :=
  Kd.R_mono (Kd.R_far (Kd.R_bound h) (fun k hk => by have := hk.2.1; omega) u) (fun k hk => hk.1)
theorem EncS.setOk {w : World} {gb go base : Nat} {okp : Nat → Prop} {ok : Bool} {L : List Int} (h : EncS w gb go base okp ok L) (b : Bool) : EncS (w.setCell ⟨go, 0, none⟩ (.bool b)) gb go base okp b L := by
  obtain ⟨A, c, hk, hr⟩ := h.hb
  exact ⟨blk_put h.ho 0 _ rfl, ⟨A, c, blk_far hk (p := ⟨go, 0, none⟩) (by have := h.hg; show gb ≠ go; omega) _, KB_set hr (p := ⟨go, 0, none⟩) h.hbase _⟩, h.hg, h.hbase, by rw [World.size_setCell]; exact h.hsz⟩
theorem EncS.mono {w : World} {gb go base : Nat} {okp okp' : Nat → Prop} {ok : Bool} {L : List Int} (h : EncS w gb go base okp ok L) (hm : ∀ k, okp k → base ≤ k → k < w.heap.size → okp' k) : EncS w gb go base okp' ok L := by
  obtain ⟨A, c, hk, hr⟩ := h.hb
  exact ⟨h.ho, ⟨A, c, hk, Kd.R_mono (Kd.R_bound hr) (fun k hk => hm k hk.1 hk.2.1 hk.2.2.1)⟩, h.hg, h.hbase, h.hsz⟩
theorem below_drew0 {w w1 : World} (h : Below w.drew.heap.size w.drew w1) : Below w.heap.size w w1 := ⟨h.os, h.tape, h.output, h.size, h.block⟩
theorem below_sub {B B' : Nat} {w w1 : World} (h : Below B w w1) (hB : B' ≤ B) : Below B' w w1 := ⟨h.os, h.tape, h.output, h.size, fun i hi => h.block i (by omega)⟩
theorem below_join {B : Nat} {a b c : World} (h : Below B a b) (k : Below B b c) : Below B a c := ⟨k.os.trans h.os, k.tape.trans h.tape, k.output.trans h.output, Nat.le_trans h.size k.size, fun i hi => (k.block i hi).trans (h.block i hi)⟩
theorem reads_keep {w w1 : World} {A : Option Addr} {n : Nat} {xs : List Int} (h : ReadsInt w .i64 A n xs) (hk : ∀ ad, A = some ad → 0 < n → w1.heap[ad.block]? = w.heap[ad.block]?) : ReadsInt w1 .i64 A n xs := by
  refine ⟨h.1, h.2.1, fun hp => ?_⟩
  obtain ⟨ad, e, hc⟩ := h.2.2 hp
  refine ⟨ad, e, fun i hi => ?_⟩
  rw [← hc i hi]
  refine World.cell?_of_block ?_
  rw [add_block]; exact hk ad e hp

/-- all blocks but a Bool's, a row's of octets, a variable's of such a row, are as they were -/
def Oth (w w' : World) : Prop := ∀ (k : Nat) (cs : Array Value) (t : TypeId), w.heap[k]? = some (.cells cs t (0, 0)) → t ≠ 5 → t ≠ 4 → t ≠ 88 → w'.heap[k]? = some (.cells cs t (0, 0))
theorem Oth.refl (w : World) : Oth w w := fun _ _ _ h _ _ _ => h
theorem Oth.trans {a b c : World} (h : Oth a b) (k : Oth b c) : Oth a c := fun i cs t h1 h2 h3 h4 => k i cs t (h i cs t h1 h2 h3 h4) h2 h3 h4
theorem Oth.of_below {a b : World} (h : Below a.heap.size a b) : Oth a b := fun _ _ _ h1 _ _ _ => blk_keep h1 h
theorem Oth.set {a b : World} (h : Oth a b) {g j : Nat} {cs : Array Value} {t : TypeId} (hg : b.heap[g]? = some (.cells cs t (0, 0))) (ht : t = 4 ∨ t = 88) (v : Value) : Oth a (b.setCell ⟨g, j, none⟩ v) := fun i cs' t' h1 h2 h3 h4 => by
  have hi := h i cs' t' h1 h2 h3 h4
  exact blk_far hi (p := ⟨g, j, none⟩) (blk_ne hi hg (by rcases ht with rfl | rfl; exact h3; exact h4)) _
theorem Oth.grown {a b c : World} (h : Oth a b) {base : Nat} {okp : Nat → Prop} {v : Value} {L : List Int} (hR : kB.R 5 b base okp v L) (hg : b.grownBy c v.ownBlock) : Oth a c := fun i cs' t' h1 h2 h3 h4 => by
  have hi := h i cs' t' h1 h2 h3 h4
  refine blk_grown hi hg ?_
  obtain ⟨inner, ho⟩ := Kd.R_own hR
  exact own_ne ho hi (Ne.symm h2)

set_option maxRecDepth 100000 in
set_option maxHeartbeats 8000000 in
theorem putC_any (gb go base : Nat) (A : Option Addr) (c : Nat) (xs : List Int) (ok : Bool) (L : List Int) (w : World) (hs : EncS w gb go base (fun k => ∀ ad, A = some ad → 0 < xs.length → k ≠ ad.block) ok L) (hr : ReadsInt w .i64 A xs.length xs) (hw : ∀ x ∈ xs, inI64 x) (hA : ∀ ad, A = some ad → 0 < xs.length → ad.block ≠ gb ∧ ad.block ≠ go ∧ ad.block < w.heap.size) (hx : xs.length ≤ 1048576) (hL : L.length + 9 * xs.length ≤ 137438953472) :
    Calls Tryz.prog 78 #[.slice A xs.length c, .pointer (some ⟨go, 0, none⟩), .pointer (some ⟨gb, 0, none⟩)] w fun e w' => e = .returned (.tuple #[]) ∧ ∃ L', EncS w' gb go base (fun _ => True) (ok && xs.all okN) L' ∧ L'.length ≤ L.length + 9 * xs.length ∧ ((ok && xs.all okN) = true → L' = L ++ nb (xs.flatMap putI)) ∧ Below gb w w' ∧ Oth w w' := by
  have HS := Aside0.mk hs
  have HR := Aside0.mk hr
  have HA := Aside0.mk hA
  have hgo := hs.hg
  have hbs := hs.hbase
  clear hs hr hA
  go_enter Tryz.func78, Tryz.ntmps78
  go_wp2
  go_loopg [8] xs.length (fun gk v8 wr => ∃ (i : Nat) (ok' : Bool) (L' : List Int), v8 = .int .i64 i ∧ gk + i = xs.length ∧ Aside0 (ok' = (ok && (xs.take i).all okN)) ∧ Aside0 (EncS wr gb go base (fun k => ∀ ad, A = some ad → 0 < xs.length → k ≠ ad.block) ok' L') ∧ L'.length ≤ L.length + 9 * i ∧ Aside0 (ok' = true → L' = L ++ nb ((xs.take i).flatMap putI)) ∧ Aside0 (ReadsInt wr .i64 A xs.length xs) ∧ Aside0 (Below gb w wr) ∧ Aside0 (Oth w wr))
  case atStart => exact ⟨0, ok, L, rfl, by omega, ⟨by simp⟩, HS, by omega, ⟨fun _ => by simp [nb]⟩, HR, ⟨⟨rfl, rfl, rfl, Nat.le_refl _, fun _ _ => rfl⟩⟩, ⟨Oth.refl _⟩⟩
  case round =>
    clear HS HR
    obtain ⟨i, ok', L', rfl, hg, HOK, HS, hLl, HLL, HR, HB, HO⟩ := hrel
    by_cases hlt : i < xs.length
    · obtain ⟨x, hx1⟩ : ∃ x, xs[i]? = some x := ⟨_, List.getElem?_eq_getElem hlt⟩
      have hxm : x ∈ xs := List.mem_of_getElem? hx1
      have hxw := hw x hxm
      obtain ⟨ad, rfl, c0⟩ := HR.out.at_ i (by omega) (by omega)
      have hrd : rd xs i = x := by simp [rd, List.getD_eq_getElem?_getD, hx1]
      rw [Int.toNat_natCast, hrd] at c0
      have HT : Aside0 (xs.take (i + 1) = xs.take i ++ [x]) := ⟨by rw [List.take_add_one, hx1]; rfl⟩
      obtain ⟨Ab, cb, hkb, hrb⟩ := HS.out.hb
      have q0 := blk_cell HS.out.ho 0
      have qf := blk_frozen HS.out.ho 0
      have b0 := blk_cell hkb 0
      have bf := blk_frozen hkb 0
      have HKB := Aside0.mk hkb
      have HRB := Aside0.mk hrb
      have hab := HA.out ad rfl (by omega)
      have hn1 : (ad.add i).block ≠ go := by rw [add_block]; exact hab.2.1
      clear hx1 hrd hkb hrb
      obtain ⟨wi, hwi⟩ := named (within x 0 1099511627776)
      go_upto_region 3 with (fail)
      go_cut [16] (fun v16 wc => v16 = .bool (ok' && wi) ∧ wr.setCell ⟨go, 0, none⟩ (.bool (ok' && wi)) = wc)
      case first =>
        cases hok : ok' with
        | false =>
          rw [hok] at q0
          go_wp2
          go_meet
          exact ⟨by rw [hok]; rfl, by rw [hok]; rfl⟩
        | true =>
          rw [hok] at q0
          go_wp2_with (go_at_call 79; refine (within_any x 0 1099511627776 _).mono ?_; rw [← hwi.out]; rintro e w2 ⟨rfl, rfl⟩)
          go_meet
          exact ⟨by rw [hok, Bool.true_and], by rw [hok, Bool.true_and]⟩
      case rest =>
        obtain ⟨rfl, hW3⟩ := hcut
        obtain ⟨ok3, hok3⟩ := named (ok' && wi)
        rw [← hok3.out] at hW3 ⊢
        have HS3 : Aside0 (EncS wc gb go base (fun k => ∀ ad', (some ad) = some ad' → 0 < xs.length → k ≠ ad'.block) ok3 L') := ⟨by rw [← hW3]; exact HS.out.setOk ok3⟩
        have HKB3 : Aside0 (wc.heap[gb]? = some (.cells #[.slice Ab L'.length cb] 88 (0, 0))) := ⟨by rw [← hW3]; exact blk_far HKB.out (p := ⟨go, 0, none⟩) (by show gb ≠ go; omega) _⟩
        have HRB3 : Aside0 (kB.R 5 wc base (fun k => ∀ ad', (some ad) = some ad' → 0 < xs.length → k ≠ ad'.block) (.slice Ab L'.length cb) L') := ⟨by rw [← hW3]; exact KB_set HRB.out (p := ⟨go, 0, none⟩) hbs _⟩
        have HR3 : Aside0 (ReadsInt wc .i64 (some ad) xs.length xs) := ⟨reads_keep HR.out (fun ad' e _ => by injection e with e; subst e; rw [← hW3]; exact Below.heap_setCell wr ⟨go, 0, none⟩ _ _ (by show ad.block ≠ go; exact hab.2.1))⟩
        have HB3 : Aside0 (Below gb w wc) := ⟨by rw [← hW3]; exact HB.out.setCell (p := ⟨go, 0, none⟩) (by show gb ≤ go; omega) _⟩
        have HO3 : Aside0 (Oth w wc) := ⟨by rw [← hW3]; exact HO.out.set HS.out.ho (.inl rfl) _⟩
        have hab3 : ad.block < wc.heap.size := Nat.lt_of_lt_of_le hab.2.2 HB3.out.size
        obtain ⟨W3, hWW⟩ : ∃ W3, W3 = wc := ⟨_, rfl⟩
        subst hWW
        have hu0 : 0 ≤ IntKind.u64.wrap x := by rw [IntKind.wrap_u64]; omega
        have hu1 : IntKind.u64.wrap x ≤ 18446744073709551615 := by rw [IntKind.wrap_u64]; omega
        have HW : Aside0 (ok3 = true → okN x = true) := ⟨fun h => by
          have h1 := hok3.out
          rw [h] at h1
          have h2 : ok' = true ∧ wi = true := by simpa using h1.symm
          rw [okN, ← hwi.out]; exact h2.2⟩
        clear hW3 q0 qf b0 bf c0 HS HKB HRB HR HB HO
        have b0 := blk_cell HKB3.out 0
        go_wp2_with fail
        have bd : W3.drew.cell? ⟨gb, 0, none⟩ = some (.slice Ab L'.length cb) := b0
        go_region_law (first | (refine Kd.R_append_rows_step kB (Rr := kB.K w4) (w0 := w4) base (by rfl) (.tmp 17) (.tmp 20) 88 5 (.int .u8 0) 1 rfl Tryz.underlying88 infoB rfl (by decide) (by omega) (.slice Ab L'.length cb) L' Lp Ap Lp.length cp (fun k => ∀ ad', (some ad) = some ad' → 0 < xs.length → k ≠ ad'.block) (fun _ => False) rfl rfl ?aO ?aR ?aK (fun _ hk => hk.elim) ?aF ?aB ?aS ?c1 ?_; (case aO => exact HRB4.out); (case aR => exact HCp.out); (case aK => intro x cs hx; exact hx); (case aF => intro k hk ad' e _; injection e with e; subst e; omega); (case aB => exact Below.refl _ _); (case aS => exact hsz4); (case c1 => omega); intro v5 w5 hown hB5 hg5 hat; obtain ⟨A5, c5, rfl, hc5, _⟩ := Kd.R_reads hown; have HR5 := Aside0.mk hown; have HB5 := Aside0.mk hB5; have HG5 := Aside0.mk hg5; have hk5 := (hB5.block gb (by omega)).trans HKB4.out; have t0 := blk_cell hk5 0; have tf := blk_frozen hk5 0; have HK5 := Aside0.mk hk5; clear hown hB5 hg5 hat hk5) | (go_simp; go_wp2_with (go_at_call 40; refine (put_any (IntKind.u64.wrap x) hu0 hu1 _).mono ?_; rintro e w4 ⟨vp, Lp, rfl, hop, hl1, hl9, hLp, hb4⟩; have hRp : kB.R 5 w4 W3.drew.heap.size (fun _ => True) vp Lp := Kd.R_of_own hop (fun _ _ => trivial); obtain ⟨Ap, cp, rfl, _, hCp⟩ := Kd.R_reads hRp; have HCp := Aside0.mk hCp; have HLp := Aside0.mk hLp; have HB4 := Aside0.mk hb4; have hsz4 : base ≤ w4.heap.size := Nat.le_trans HS3.out.hsz hb4.size; have had4 : ad.block < w4.heap.size := Nat.lt_of_lt_of_le hab3 hb4.size; have HKB4 := Aside0.mk (blk_keep (w := W3.drew) HKB3.out hb4); have HRB4 := Aside0.mk (Kd.R_below (w := W3.drew) HRB3.out hb4); have p0 := blk_cell HKB4.out 0; have pf := blk_frozen HKB4.out 0; have hlt4 : gb < w4.heap.size := blk_lt HKB4.out; clear hop hRp hCp hLp hb4)))
        all_goals go_wp2
        all_goals go_roundg (xs.length - (i + 1))
        all_goals first
          | (guard_target =~ (_ : Nat) < _; omega)
          | exact ⟨i + 1, ok3, L' ++ Lp, by go_num, by omega, ⟨by
              rw [HT.out, List.all_append, hok3.out, HOK.out, hwi.out]
              simp [okN, Bool.and_assoc]⟩, ⟨blk_far ((HB5.out.block go (by omega)).trans (blk_keep (w := W3.drew) HS3.out.ho HB4.out)) (p := ⟨gb, 0, none⟩) (by show go ≠ gb; omega) _, ⟨A5, c5, blk_put HK5.out 0 _ (by rw [List.length_append]; rfl), KB_set HR5.out (p := ⟨gb, 0, none⟩) (by show gb < base; omega) _⟩, hgo, hbs, by rw [World.size_setCell]; have := HB5.out.size; omega⟩, by rw [List.length_append]; omega, ⟨fun h => by
              have h1 := hok3.out
              rw [h] at h1
              have h2 : ok' = true ∧ wi = true := by simpa using h1.symm
              have h3 := (okN_iff x).1 (HW.out h)
              have h4 : IntKind.u64.wrap x = x := by rw [IntKind.wrap_u64]; omega
              rw [HLL.out h2.1, HLp.out (by omega), h4, HT.out, List.flatMap_append, List.append_assoc]
              congr 1
              simp [nb, putI]⟩, ⟨reads_keep HR3.out (fun ad' e h0 => by
              injection e with e
              subst e
              have e1 := Below.heap_setCell w5 ⟨gb, 0, none⟩ (Value.slice A5 (L' ++ Lp).length c5) ad.block (by show ad.block ≠ gb; exact hab.1)
              have e2 := HG5.out.block ad.block had4 (fun e => HRB4.out.1 ad.block e.symm ad rfl h0 rfl)
              have e3 := HB4.out.block ad.block hab3
              first | exact e1.trans (e2.trans e3) | (rw [List.length_append] at e1; exact e1.trans (e2.trans e3)))⟩, ⟨(below_join HB3.out (below_join (below_sub (B' := gb) (w := W3) (below_drew0 HB4.out) (by have := blk_lt HKB3.out; exact Nat.le_of_lt this)) (below_sub (B' := gb) HB5.out (by omega)))).setCell (p := ⟨gb, 0, none⟩) (Nat.le_refl _) _⟩, ⟨((HO3.out.trans (Oth.of_below (below_drew0 HB4.out))).grown HRB4.out HG5.out).set HK5.out (.inr rfl) _⟩⟩
    · have hpk : Aside0 (xs.take i = xs) := ⟨List.take_of_length_le (by omega)⟩
      go_wp2
      go_end0
      refine ⟨rfl, L', ?_, by omega, ?_, HB.out, HO.out⟩
      · have := HS.out.mono (okp' := fun _ => True) (fun _ _ _ _ => trivial)
        rwa [HOK.out, hpk.out] at this
      · intro h
        have := HLL.out (by rw [HOK.out, hpk.out]; exact h)
        rwa [hpk.out] at this
end Go.Proofs.YtfakfgblaakgdaaGreat.Var

/- The document's Check of chapter 11, walked. -/
namespace Go.Proofs.YtfakfgblaakgdaaGreat.Edit
set_option linter.unusedVariables false
set_option linter.unusedSimpArgs false
open Go.RowKit Go.Proofs.YtfakfgblaakgdaaGreatW.PrintWords Go.Proofs.YtfakfgblaakgdaaGreatW.PrintLast Go.Proofs.YtfakfgblaakgdaaGreat.Base Go.Proofs.YtfakfgblaakgdaaGreat.EditPure Go.Proofs.YtfakfgblaakgdaaGreat.Sets Go.Proofs.YtfakfgblaakgdaaGreat.Wide

theorem refKey_any (s : ByteArray) (w : World) :
    Calls Tryz.prog 112 #[.string s] w fun e w' => e = .returned (.bool (keyOk s)) ∧ w = w' := by
  by_cases h1 : 1 ≤ s.size
  · by_cases h2 : s.size ≤ 96
    · have hw : Aside0 (keyOk s = true) := ⟨by simp [keyOk, h1, h2]⟩
      go_enter Tryz.func112, Tryz.ntmps112
      go_wp2
      go_ret
      exact ⟨by rw [hw.out]; simp; omega, rfl⟩
    · have hw : Aside0 (keyOk s = false) := ⟨by simp [keyOk, h2]⟩
      go_enter Tryz.func112, Tryz.ntmps112
      go_wp2
      go_ret
      exact ⟨by rw [hw.out]; simp; omega, rfl⟩
  · have hw : Aside0 (keyOk s = false) := ⟨by simp [keyOk, h1]⟩
    go_enter Tryz.func112, Tryz.ntmps112
    go_wp2
    go_ret
    exact ⟨by rw [hw.out]; rfl, rfl⟩

set_option maxRecDepth 100000 in
set_option maxHeartbeats 1000000 in
theorem refMay_any (m : Meta) (w : World) :
    Calls Tryz.prog 67 #[.agg m.cs.toArray] w fun e w' => e = .returned (.bool (mayM m)) ∧ ∃ o, w' = w.alloc o := by
  obtain ⟨a1, a2, a3, a4, a5⟩ := m
  simp only [Meta.cs]
  obtain ⟨r, hr⟩ := named (mayM ⟨a1, a2, a3, a4, a5⟩)
  rw [← hr.out]
  have hr1 : Aside0 (r = (decide (1 ≤ a1) && (decide (a1 ≤ 2147483647) && (decide (0 ≤ a2) && (decide (a2 ≤ 3) && (decide (1 ≤ a3) && (decide (a3 ≤ 4096) && (keyOk a4 && (keyOk a5 && !Op.bytesLess a5.toList a4.toList))))))))) := ⟨by rw [hr.out, mayM, within, within, within]; simp only [Bool.and_assoc]; rfl⟩
  go_enter Tryz.func67, Tryz.ntmps67
  go_wp2_with (go_at_call 112; refine (refKey_any _ _).mono ?_; rintro e w' ⟨rfl, rfl⟩)
  all_goals go_ret
  all_goals refine ⟨?_, _, rfl⟩
  all_goals rw [hr1.out]
  all_goals first | (simp [*, leq_bytes, -Bool.or_eq_true]; done) | (simp [*, leq_bytes, -Bool.or_eq_true]; intros; omega)

def befB (a b : Meta) : Bool := decide (ord a b < 0)
theorem befB_lev (a b : Meta) (h : a.level ≠ b.level) : befB a b = decide (a.level < b.level) := by
  unfold befB ord cmpI
  by_cases h1 : a.level < b.level
  · simp [h1]
  · have : b.level < a.level := by omega
    simp [h1, this]
theorem befB_zero (a b : Meta) (h : a.level = b.level) (h0 : a.level = 0) : befB a b = decide (b.id < a.id) := by
  have e : cmpI a.level b.level = 0 := by rw [h]; simp [cmpI]
  unfold befB ord
  rw [if_neg (by rw [e]; decide), if_pos (by rw [h0]; decide)]
  unfold cmpI
  by_cases h1 : b.id < a.id
  · simp [h1]
  · by_cases h2 : a.id < b.id <;> simp [h1, h2]
theorem befB_low (a b : Meta) (h : a.level = b.level) (h0 : a.level ≠ 0) : befB a b = sLt a.low b.low := by
  have e : cmpI a.level b.level = 0 := by rw [h]; simp [cmpI]
  unfold befB ord
  rw [if_neg (by rw [e]; decide), if_neg (by simpa using h0)]
  unfold cmpS
  cases h1 : sLt a.low b.low with
  | true => simp
  | false => by_cases h2 : sLt b.low a.low = true <;> simp [h2]

set_option maxRecDepth 100000 in
theorem before_any (a b : Meta) (w : World) :
    Calls Tryz.prog 68 #[.agg a.cs.toArray, .agg b.cs.toArray] w fun e w' => e = .returned (.bool (befB a b)) ∧ ∃ o1 o2, w' = (w.alloc o1).alloc o2 := by
  by_cases h : a.level = b.level
  · by_cases h2 : a.level = 0
    · have hw := Aside0.mk (befB_zero a b h h2)
      obtain ⟨a1, a2, a3, a4, a5⟩ := a
      obtain ⟨b1, b2, b3, b4, b5⟩ := b
      simp only [Meta.cs]
      simp only at h h2
      have h' : (a2 != b2) = false := by simp [h]
      have h2' : (a2 == 0) = true := by simp [h2]
      clear h h2
      go_enter Tryz.func68, Tryz.ntmps68
      go_wp2
      go_ret
      exact ⟨by rw [hw.out]; rfl, _, _, rfl⟩
    · have hw := Aside0.mk (befB_low a b h h2)
      obtain ⟨a1, a2, a3, a4, a5⟩ := a
      obtain ⟨b1, b2, b3, b4, b5⟩ := b
      simp only [Meta.cs]
      simp only at h h2
      have h' : (a2 != b2) = false := by simp [h]
      have h2' : (a2 == 0) = false := by simp [h2]
      clear h h2
      go_enter Tryz.func68, Tryz.ntmps68
      go_wp2
      go_ret
      exact ⟨by rw [hw.out]; rfl, _, _, rfl⟩
  · have hw := Aside0.mk (befB_lev a b h)
    obtain ⟨a1, a2, a3, a4, a5⟩ := a
    obtain ⟨b1, b2, b3, b4, b5⟩ := b
    simp only [Meta.cs]
    simp only at h
    have h' : (a2 != b2) = true := by simp [h]
    clear h
    go_enter Tryz.func68, Tryz.ntmps68
    go_wp2
    go_ret
    exact ⟨by rw [hw.out]; rfl, _, _, rfl⟩
end Go.Proofs.YtfakfgblaakgdaaGreat.Edit
