/- edit.Encode: walked. -/
import Derived.Test.YtelnhecpcjoonaaEncodeB
namespace Go.Proofs.Ytelnhecpcjoonaa.Var
set_option linter.unusedVariables false
set_option linter.unusedSimpArgs false
open Go.RowKit Go.Proofs.YtelnhecpcjoonaaW.PrintWords Go.Proofs.YtelnhecpcjoonaaW.PrintLast Go.Proofs.Ytelnhecpcjoonaa.Base Go.Proofs.Ytelnhecpcjoonaa.Cells Go.Proofs.Ytelnhecpcjoonaa.Ints Go.Proofs.Ytelnhecpcjoonaa.VarPure Go.Proofs.Ytelnhecpcjoonaa.Codec Go.Proofs.Ytelnhecpcjoonaa.EditPure Go.Proofs.Ytelnhecpcjoonaa.Edit Go.Proofs.Ytelnhecpcjoonaa.Sets

/-- an edit's octets: an error's number -/
def encE (drop : List Int) (add : List Meta) (seq next : Int) : Int := if 256 < drop.length ∨ 256 < add.length then 3 else if encOk drop add seq next then 0 else 1
/-- what is written, and whether all is well -/
structure EncT (w0 wr : World) (gb go base : Nat) (ok : Bool) (P : List Nat) (N : Nat) : Prop where
  st : ∃ L, EncS wr gb go base (fun _ => True) ok L ∧ (ok = true → L = nb P) ∧ L.length ≤ N
  below : Below w0.heap.size w0 wr

theorem EncT.stays {w0 wr wr' : World} {gb go base : Nat} {ok : Bool} {P : List Nat} {N : Nat} (h : EncT w0 wr gb go base ok P N) (hb : Below wr.heap.size wr wr') : EncT w0 wr' gb go base ok P N := by
  obtain ⟨L, hS, hL, hN⟩ := h.st
  exact ⟨⟨L, hS.below hb, hL, hN⟩, bthen h.below hb⟩
theorem EncT.setOk {w0 wr : World} {gb go base : Nat} {ok : Bool} {P : List Nat} {N : Nat} (h : EncT w0 wr gb go base ok P N) (hw : w0.heap.size ≤ go) (b : Bool) : EncT w0 (wr.setCell ⟨go, 0, none⟩ (.bool (ok && b))) gb go base (ok && b) P N := by
  obtain ⟨L, hS, hL, hN⟩ := h.st
  refine ⟨⟨L, hS.setOk _, fun h => hL ?_, hN⟩, h.below.setCell (p := ⟨go, 0, none⟩) hw _⟩
  cases ok with
  | true => rfl
  | false => simp at h
theorem nb_app (a b : List Nat) : nb (a ++ b) = nb a ++ nb b := by simp [nb]
theorem nb_str (s : ByteArray) : bytesOf s = nb (strB s) := by
  simp [bytesOf, nb, strB, List.map_map]
/-- behind a text -/
def txOk (ok : Bool) (s : ByteArray) : Bool := (ok && decide (s.size ≤ 96)) && [(s.size : Int)].all okN
def txP (P : List Nat) (s : ByteArray) : List Nat := (P ++ [(s.size : Int)].flatMap putI) ++ strB s
theorem okN_nat {k : Nat} (h : k ≤ 1099511627776) : okN (k : Int) = true := (okN_iff _).2 ⟨by omega, by omega⟩
theorem txOk_M (ok : Bool) (m : Meta) (h1 : m.low.size ≤ 1048576) (h2 : m.high.size ≤ 1048576) : txOk (txOk (ok && [m.id, m.level, m.count].all okN) m.low) m.high = (ok && okM m) := by
  have e1 := okN_nat (k := m.low.size) (by omega)
  have e2 := okN_nat (k := m.high.size) (by omega)
  simp only [txOk, okM, List.all_cons, List.all_nil, e1, e2, Bool.and_true]
  simp only [Bool.and_assoc]
theorem txP_M (P : List Nat) (m : Meta) : txP (txP (P ++ [m.id, m.level, m.count].flatMap putI) m.low) m.high = P ++ putM m := by
  simp [txP, putM, putS, List.append_assoc]
/-- a text appended -/
theorem EncT.app {w0 wr w1 : World} {gb go base : Nat} {ok : Bool} {P : List Nat} {N : Nat} {L : List Int} {A A1 : Option Addr} {c c1 : Nat} {s : ByteArray} (hS : EncS wr gb go base (fun _ => True) ok L) (hL : ok = true → L = nb P) (hN : L.length ≤ N) (hB0 : Below w0.heap.size w0 wr) (hw : w0.heap.size ≤ gb)
    (hk : wr.heap[gb]? = some (.cells #[.slice A L.length c] 83 (0, 0))) (hown : w1.ownsRow base 5 1 (.slice A1 (L ++ bytesOf s).length c1) (L ++ bytesOf s).length (nums .u8 (L ++ bytesOf s))) (hB : Below base wr w1) :
    EncT w0 (w1.setCell ⟨gb, 0, none⟩ (.slice A1 (L ++ bytesOf s).length c1)) gb go base ok (P ++ strB s) (N + s.size) := by
  have h1 := hS.hg
  have h2 := hS.hbase
  have hkb := (hB.block gb (by omega)).trans hk
  have hko := (hB.block go (by omega)).trans hS.ho
  have hsz : wr.heap.size ≤ w1.heap.size := hB.size
  refine ⟨⟨L ++ bytesOf s, ⟨blk_far hko (p := ⟨gb, 0, none⟩) (by show go ≠ gb; omega) _, ⟨A1, c1, blk_put hkb 0 _ rfl, KB_set (Kd.R_of_own hown (fun _ _ => trivial)) (p := ⟨gb, 0, none⟩) (by show gb < base; omega) _⟩, h1, h2, by rw [World.size_setCell]; have := hS.hsz; omega⟩, fun h => by rw [hL h, nb_str, nb_app], by rw [List.length_append, bytesOf_length]; omega⟩, ?_⟩
  exact (below_join hB0 (below_sub hB (by omega))).setCell (p := ⟨gb, 0, none⟩) hw _
theorem idxS_0 (a b : ByteArray) (W : World) : (Instr.index 119 (.agg #[.string a, .string b]) (.int .i64 0)).run Try.prog W = .ok (.string a) W := by kernel_rfl
theorem idxS_1 (a b : ByteArray) (W : World) : (Instr.index 119 (.agg #[.string a, .string b]) (.int .i64 1)).run Try.prog W = .ok (.string b) W := by kernel_rfl
/-- the numbers in a block of one's own, put -/
theorem putBlk_any (w0 : World) (gb go base g : Nat) (c : Nat) (xs : List Int) (ok : Bool) (P : List Nat) (N : Nat) (w : World) (hT : EncT w0 w gb go base ok P N) (hw0 : w0.heap.size ≤ gb) {t : TypeId} (hg : w.heap[g]? = some (.cells (xs.map (Value.int .i64)).toArray t (0, 0))) (ht : t ≠ 5) (ht2 : t ≠ 4) (ht3 : t ≠ 83) (hw : ∀ x ∈ xs, inI64 x) (hx : xs.length ≤ 1048576) (hN : N + 9 * xs.length ≤ 137438953472) :
    Calls Try.prog 62 #[.slice (some ⟨g, 0, none⟩) xs.length c, .pointer (some ⟨go, 0, none⟩), .pointer (some ⟨gb, 0, none⟩)] w fun e w' => e = .returned (.tuple #[]) ∧ EncT w0 w' gb go base (ok && xs.all okN) (P ++ xs.flatMap putI) (N + 9 * xs.length) ∧ Below gb w w' ∧ Oth w w' := by
  obtain ⟨L, hS, hL, hN2⟩ := hT.st
  have hr : ReadsInt w .i64 (some ⟨g, 0, none⟩) xs.length xs := ⟨rfl, by omega, fun _ => ⟨_, rfl, fun j hj => by
    rw [show ((⟨g, 0, none⟩ : Addr).add j) = ⟨g, j, none⟩ by rw [Addr.add_lit, Nat.zero_add], blk_cell hg]
    simp [List.getElem?_toArray, List.getElem?_map, List.getElem?_eq_getElem hj, List.getD_eq_getElem?_getD]⟩⟩
  obtain ⟨A, cA, hk, hR⟩ := hS.hb
  have hown : ∀ k, (Value.slice A L.length cA).ownBlock = some k → k ≠ g := fun k hk1 e => by
    obtain ⟨inner, ho⟩ := Kd.R_own hR
    exact own_ne ho hg (Ne.symm ht) (by rw [hk1, e])
  have hS2 : EncS w gb go base (fun k => ∀ ad, some (⟨g, 0, none⟩ : Addr) = some ad → 0 < xs.length → k ≠ ad.block) ok L := by
    refine ⟨hS.ho, ⟨A, cA, hk, ?_⟩, hS.hg, hS.hbase, hS.hsz⟩
    exact ⟨fun k hk1 ad e _ => by injection e with e; subst e; exact hown k hk1, hR.2.imp_ (fun _ _ hp => hp)⟩
  refine (putC_any gb go base (some ⟨g, 0, none⟩) c xs ok L w hS2 hr hw (fun ad e _ => by injection e with e; subst e; exact ⟨blk_ne hg hk ht3, blk_ne hg hS.ho ht2, blk_lt hg⟩) hx (by omega)).mono fun e w' ⟨he, L', h1, h2, h3, h4, h5o⟩ => ⟨he, ⟨⟨L', h1, fun h => ?_, by omega⟩, below_join hT.below (below_sub h4 hw0)⟩, h4, h5o⟩
  have h5 : ok = true := by
    cases ok with
    | true => rfl
    | false => simp at h
  rw [h3 h, hL h5, nb_app]
/-- numbers that lie below, put -/
theorem putMem_any (w0 : World) (gb go base : Nat) (A : Option Addr) (c : Nat) (xs : List Int) (ok : Bool) (P : List Nat) (N : Nat) (w : World) (hT : EncT w0 w gb go base ok P N) (hw0 : w0.heap.size ≤ gb) (hr : ReadsInt w .i64 A xs.length xs) (hA : ∀ ad, A = some ad → 0 < xs.length → ad.block < w0.heap.size) (hw : ∀ x ∈ xs, inI64 x) (hx : xs.length ≤ 1048576) (hN : N + 9 * xs.length ≤ 137438953472) :
    Calls Try.prog 62 #[.slice A xs.length c, .pointer (some ⟨go, 0, none⟩), .pointer (some ⟨gb, 0, none⟩)] w fun e w' => e = .returned (.tuple #[]) ∧ EncT w0 w' gb go base (ok && xs.all okN) (P ++ xs.flatMap putI) (N + 9 * xs.length) ∧ Below gb w w' ∧ Oth w w' := by
  obtain ⟨L, hS, hL, hN2⟩ := hT.st
  have hgo := hS.hg
  have hbs := hS.hbase
  have hS2 := hS.mono (okp' := fun k => ∀ ad, A = some ad → 0 < xs.length → k ≠ ad.block) (fun k _ hk _ ad e h0 => by have := hA ad e h0; omega)
  have hsz := hT.below.size
  refine (putC_any gb go base A c xs ok L w hS2 hr hw (fun ad e h0 => by have := hA ad e h0; exact ⟨by omega, by omega, by omega⟩) hx (by omega)).mono fun e w' ⟨he, L', h1, h2, h3, h4, h5o⟩ => ⟨he, ⟨⟨L', h1, fun h => ?_, by omega⟩, below_join hT.below (below_sub h4 hw0)⟩, h4, h5o⟩
  have h5 : ok = true := by
    cases ok with
    | true => rfl
    | false => simp at h
  rw [h3 h, hL h5, nb_app]

theorem reads_lt {w : World} {A : Option Addr} {n : Nat} {xs : List Int} (h : ReadsInt w .i64 A n xs) : ∀ ad, A = some ad → 0 < n → ad.block < w.heap.size := fun ad e h0 => by
  obtain ⟨ad', e', hc⟩ := h.2.2 h0
  rw [e] at e'
  injection e' with e'
  subst e'
  have := World.block_lt_of_cell? w _ (hc 0 (by have := h.1; omega))
  rwa [add_block] at this

set_option maxRecDepth 100000 in
set_option maxHeartbeats 16000000 in
theorem encode_any (D B : Option Addr) (dc bc : Nat) (drop : List Int) (add : List Meta) (seq next : Int) (w : World) (hd : ReadsInt w .i64 D drop.length drop) (hr : Kd.C kMeta w B add.length add) (hsq : inI64 seq) (hnx : inI64 next) (hdw : ∀ x ∈ drop, inI64 x) (hmw : ∀ m ∈ add, inI64 m.id ∧ inI64 m.level ∧ inI64 m.count) (hms : ∀ m ∈ add, m.low.size ≤ 1048576 ∧ m.high.size ≤ 1048576) (hdl : drop.length ≤ 1048576) (hal : add.length ≤ 1048576) :
    Calls Try.prog 35 #[.agg #[.slice D drop.length dc, .slice B add.length bc, .int .i64 seq, .int .i64 next]] w fun e w' => ∃ A n c, e = .returned (.tuple #[.slice A n c, .int .i64 (encE drop add seq next)]) ∧ Aside0 ((encE drop add seq next = 0 → n = (encB drop add seq next).length ∧ RB w' w.heap.size (.slice A n c) (nb (encB drop add seq next))) ∧ (encE drop add seq next ≠ 0 → A = none ∧ n = 0 ∧ c = 0) ∧ Below w.heap.size w w') := by
  have HD := Aside0.mk hd
  have HR := Aside0.mk hr
  have HDlt := Aside0.mk (reads_lt hd)
  obtain ⟨E, hE⟩ := named (encE drop add seq next)
  rw [← hE.out]
  clear hd hr
  by_cases h256 : 256 < drop.length ∨ 256 < add.length
  · have hE3 : Aside0 (E = 3) := ⟨by rw [hE.out, encE, if_pos h256]⟩
    have hmax : decide ((256 : Int) < max (drop.length : Int) (add.length : Int)) = true := by simp; omega
    have hmax2 : (256 : Int) < max (drop.length : Int) (add.length : Int) := by omega
    go_enter Try.func35, Try.ntmps35
    go_wp2
    refine bodyPost_ret (results_tmp2 rfl _ _ _) rfl ?_
    refine ⟨none, 0, 0, by rw [hE3.out]; rfl, ⟨fun h => absurd h (by rw [hE3.out]; decide), fun _ => ⟨rfl, rfl, rfl⟩, below_alloc (Below.refl _ _) _⟩⟩
  · have hd256 : drop.length ≤ 256 := by omega
    have ha256 : add.length ≤ 256 := by omega
    have hE1 : Aside0 (E = if encOk drop add seq next then 0 else 1) := ⟨by rw [hE.out, encE, if_neg h256]⟩
    have hmax : decide ((256 : Int) < max (drop.length : Int) (add.length : Int)) = false := by simp; omega
    have hmax2 : ¬ ((256 : Int) < max (drop.length : Int) (add.length : Int)) := by omega
    clear h256
    go_enter Try.func35, Try.ntmps35
    go_wp2_with fail
    obtain ⟨W, hW⟩ : ∃ W, W = (((w.alloc (Obj.cells #[Value.slice D drop.length dc, Value.slice B add.length bc, Value.int IntKind.i64 seq, Value.int IntKind.i64 next] 61)).alloc (Obj.cells #[Value.slice none 0 0] 83)).alloc (Obj.cells #[Value.bool true] 4)) := ⟨_, rfl⟩
    have hWs : W.heap.size = w.heap.size + 1 + 1 + 1 := by rw [hW]; simp
    have k1 : W.heap[w.heap.size]? = some (.cells #[Value.slice D drop.length dc, Value.slice B add.length bc, Value.int IntKind.i64 seq, Value.int IntKind.i64 next] 61 (0, 0)) := by rw [hW]; exact blk_alloc (blk_alloc (blk_new _ _) _) _
    have k2 : W.heap[w.heap.size + 1]? = some (.cells #[Value.slice none 0 0] 83 (0, 0)) := by rw [hW]; exact blk_alloc (blk_new1 _ _ _ _) _
    have k3 : W.heap[w.heap.size + 1 + 1]? = some (.cells #[Value.bool true] 4 (0, 0)) := by
      have := blk_new1 (w.alloc (Obj.cells #[Value.slice D drop.length dc, Value.slice B add.length bc, Value.int IntKind.i64 seq, Value.int IntKind.i64 next] 61)) (Obj.cells #[Value.slice none 0 0] 83) #[Value.bool true] 4
      rw [hW]; simpa using this
    have hBW : Below w.heap.size w W := by rw [hW]; exact below_alloc (below_alloc (below_alloc (Below.refl _ _) _) _) _
    have HT0 : Aside0 (EncT w W (w.heap.size + 1) (w.heap.size + 1 + 1) (w.heap.size + 1 + 1 + 1) true [] 0) := ⟨⟨⟨[], ⟨k3, ⟨none, 0, k2, Kd.R_nil kB _ _ _ _⟩, by omega, by omega, by omega⟩, fun _ => rfl, Nat.le_refl _⟩, hBW⟩⟩
    have HK0 := Aside0.mk k1
    rw [← hW, ← hWs]
    obtain ⟨gb, hgb⟩ : ∃ gb, gb = w.heap.size + 1 := ⟨_, rfl⟩
    obtain ⟨go, hgo⟩ : ∃ go, go = w.heap.size + 1 + 1 := ⟨_, rfl⟩
    obtain ⟨base, hbase⟩ : ∃ base, base = w.heap.size + 1 + 1 + 1 := ⟨_, rfl⟩
    rw [← hbase, ← hgo, ← hgb] at HT0
    rw [← hgo, ← hgb]
    have hwgb : w.heap.size ≤ gb := by omega
    have hwgb2 : w.heap.size < gb := by omega
    have hI : ∀ k : Nat, k ≤ 1048576 → inI64 (k : Int) := fun k hk => ⟨by omega, by omega⟩
    clear hW hWs k1 k2 k3 hBW hgb hgo hbase hmax hmax2
    refine (putBlk_any w gb go base W.heap.size 3 [seq, next, (drop.length : Int)] true [] 0 _ (HT0.out.stays (below_alloc (Below.refl _ _) _)) hwgb (blk_new W (Obj.cells #[.int .i64 seq, .int .i64 next, .int .i64 drop.length] 3)) (by decide) (by decide) (by decide) (fun x hx => by
      rcases List.mem_cons.1 hx with rfl | hx
      · exact hsq
      · rcases List.mem_cons.1 hx with rfl | hx
        · exact hnx
        · rw [List.mem_singleton.1 hx]; exact hI _ hdl) (by simp) (by simp)).mono ?_
    rintro e w1 ⟨rfl, hT1, hb1, _⟩
    obtain ⟨ok1, hok1⟩ := named (true && [seq, next, (drop.length : Int)].all okN)
    obtain ⟨P1, hP1⟩ := named ([] ++ [seq, next, (drop.length : Int)].flatMap putI)
    rw [← hok1.out, ← hP1.out] at hT1
    have HT1 := Aside0.mk hT1
    have HK1 := Aside0.mk ((hb1.block _ hwgb2).trans (blk_alloc HK0.out _))
    obtain ⟨y0, y1, y2, y3, _, _, _, _⟩ := all4 HK1.out
    clear hT1 hb1
    go_wp2_with fail
    refine (putMem_any w gb go base D dc drop ok1 P1 (0 + 9 * 3) _ HT1.out hwgb (HD.out.below HT1.out.below) HDlt.out hdw hdl (by omega)).mono ?_
    rintro e w2 ⟨rfl, hT2, hb2, _⟩
    obtain ⟨ok2, hok2⟩ := named (ok1 && drop.all okN)
    obtain ⟨P2, hP2⟩ := named (P1 ++ drop.flatMap putI)
    rw [← hok2.out, ← hP2.out] at hT2
    have HT2 := Aside0.mk hT2
    have HK2 := Aside0.mk ((hb2.block _ hwgb2).trans HK1.out)
    clear y0 y1 y2 y3
    obtain ⟨y0, y1, y2, y3, _, _, _, _⟩ := all4 HK2.out
    clear hT2 hb2
    go_wp2_with fail
    refine (putBlk_any w gb go base w2.heap.size 1 [(add.length : Int)] ok2 P2 (0 + 9 * 3 + 9 * drop.length) _ (HT2.out.stays (below_alloc (Below.refl _ _) _)) hwgb (blk_new w2 (Obj.cells #[.int .i64 add.length] 3)) (by decide) (by decide) (by decide) (fun x hx => by rw [List.mem_singleton.1 hx]; exact hI _ hal) (by simp) (by simp; omega)).mono ?_
    rintro e w3 ⟨rfl, hT3, hb3, _⟩
    obtain ⟨ok3, hok3⟩ := named (ok2 && [(add.length : Int)].all okN)
    obtain ⟨P3, hP3⟩ := named (P2 ++ [(add.length : Int)].flatMap putI)
    rw [← hok3.out, ← hP3.out] at hT3
    obtain ⟨N3, hN3⟩ : ∃ N3, N3 = 0 + 9 * 3 + 9 * drop.length + 9 * [(add.length : Int)].length := ⟨_, rfl⟩
    rw [← hN3] at hT3
    have hN3b : N3 ≤ 9437220 := by rw [hN3]; simp; omega
    have HT3 := Aside0.mk hT3
    have HK3 := Aside0.mk ((hb3.block _ hwgb2).trans (blk_alloc HK2.out _))
    clear y0 y1 y2 y3
    obtain ⟨y0, y1, y2, y3, _, _, _, _⟩ := all4 HK3.out
    clear hT3 hb3 hN3
    go_wp2
    go_loopg [45] add.length (fun gk v45 wr => ∃ (i : Nat) (ok : Bool) (P : List Nat) (N : Nat), v45 = .int .i64 i ∧ gk + i = add.length ∧ N ≤ 9437220 + 3000000 * i ∧ Aside0 (ok = (ok3 && (add.take i).all okM)) ∧ Aside0 (P = P3 ++ (add.take i).flatMap putM) ∧ Aside0 (EncT w wr gb go base ok P N))
    case atStart => exact ⟨0, ok3, P3, N3, rfl, by omega, by omega, ⟨by simp⟩, ⟨by simp⟩, HT3⟩
    case round =>
      clear HT3 HK3 y0 y1 y2 y3
      obtain ⟨i, ok, P, N, rfl, hg, hNi, HOK, HP, HT⟩ := hrel
      by_cases hlt : i < add.length
      · obtain ⟨m, hm⟩ : ∃ m, add[i]? = some m := ⟨_, List.getElem?_eq_getElem hlt⟩
        have hmm := List.mem_of_getElem? hm
        obtain ⟨ad, rfl, c0, c1, c2, c3, c4⟩ := atMeta (Kd.C_below HR.out HT.out.below) i m hm
        have HTK : Aside0 (add.take (i + 1) = add.take i ++ [m]) := ⟨by rw [List.take_add_one, hm]; rfl⟩
        clear hm
        go_wp2_with fail
        refine (fields_any m _).mono ?_
        rintro e w4 ⟨rfl, hb4⟩
        have hb4' : Below wr.heap.size wr w4 := bthen (below_alloc (Below.refl _ _) _) hb4
        obtain ⟨W5, hW5⟩ : ∃ W5, W5 = ((w4.alloc (Obj.cells #[.int .i64 m.id, .int .i64 m.level, .int .i64 m.count] 118)).alloc (Obj.cells #[.string m.low, .string m.high] 119)) := ⟨_, rfl⟩
        have hk9 : W5.heap[w4.heap.size]? = some (.cells #[.int .i64 m.id, .int .i64 m.level, .int .i64 m.count] 118 (0, 0)) := by rw [hW5]; exact blk_alloc (blk_new _ _) _
        have hk10 : W5.heap[w4.heap.size + 1]? = some (.cells #[.string m.low, .string m.high] 119 (0, 0)) := by rw [hW5]; exact blk_new1 _ _ _ _
        have HT5 := Aside0.mk (HT.out.stays (wr' := W5) (by rw [hW5]; exact below_alloc (below_alloc hb4' _) _))
        clear c0 c1 c2 c3 c4 hb4 hb4'
        go_wp2_with fail
        rw [← hW5]
        refine (putBlk_any w gb go base w4.heap.size 3 [m.id, m.level, m.count] ok P N _ HT5.out hwgb hk9 (by decide) (by decide) (by decide) (fun x hx => by
          rcases List.mem_cons.1 hx with rfl | hx
          · exact (hmw m hmm).1
          · rcases List.mem_cons.1 hx with rfl | hx
            · exact (hmw m hmm).2.1
            · rw [List.mem_singleton.1 hx]; exact (hmw m hmm).2.2) (by simp) (by simp; omega)).mono ?_
        rintro e w6 ⟨rfl, hT6, hb6, ho6⟩
        obtain ⟨ok6, hok6⟩ := named (ok && [m.id, m.level, m.count].all okN)
        obtain ⟨P6, hP6⟩ := named (P ++ [m.id, m.level, m.count].flatMap putI)
        rw [← hok6.out, ← hP6.out] at hT6
        have HT6 := Aside0.mk hT6
        have hk10' := ho6 _ _ _ hk10 (by decide) (by decide) (by decide)
        obtain ⟨t0, t1, _, _⟩ := all2 hk10'
        clear hT6 hb6 ho6 hk9 hk10 hk10' hW5
        have hwgo : w.heap.size ≤ go := by obtain ⟨L, hS, _⟩ := HT6.out.st; have := hS.hg; omega
        go_wp2
        go_loopg [58] 2 (fun gk v58 wx => (v58 = .int .i64 0 ∧ gk = 2 ∧ Aside0 (EncT w wx gb go base ok6 P6 (N + 27))) ∨ (v58 = .int .i64 1 ∧ gk = 1 ∧ Aside0 (EncT w wx gb go base (txOk ok6 m.low) (txP P6 m.low) (N + 27 + 9 + m.low.size))) ∨ (v58 = .int .i64 2 ∧ gk = 0 ∧ Aside0 (EncT w wx gb go base (txOk (txOk ok6 m.low) m.high) (txP (txP P6 m.low) m.high) (N + 27 + 9 + m.low.size + 9 + m.high.size))))
        case atStart => exact .inl ⟨rfl, rfl, HT6⟩
        case round =>
          clear HT6 t0 t1
          rcases hrel with ⟨rfl, rfl, HX⟩ | ⟨rfl, rfl, HX⟩ | ⟨rfl, rfl, HX⟩
          · have hix := idxS_0 m.low m.high
            have hsz := (hms m hmm).1
            obtain ⟨sz, hszz⟩ := named m.low.size
            rw [← hszz.out] at hsz
            obtain ⟨L, hS, _⟩ := HX.out.st
            have q0 := blk_cell hS.ho 0
            have qf := blk_frozen hS.ho 0
            obtain ⟨okj, hokj⟩ := named ok6
            rw [← hokj.out] at q0
            clear hS
            go_upto_region 17 with (fail)
            go_cut [66] (fun v66 wc => v66 = .bool (okj && decide (sz ≤ 96)) ∧ wr.setCell ⟨go, 0, none⟩ (.bool (okj && decide (sz ≤ 96))) = wc)
            case first =>
              have hszI : (m.low.size : Int) = sz := by rw [hszz.out]
              cases hok : okj with
              | false =>
                rw [hok] at q0
                go_wp2
                go_meet
                exact ⟨by rw [hok]; rfl, by rw [hok]; rfl⟩
              | true =>
                rw [hok] at q0
                by_cases h96 : sz ≤ 96
                · have h96' : decide (sz ≤ 96) = true := by simp [h96]
                  have h96i : decide ((sz : Int) ≤ 96) = true := by simp; omega
                  go_wp2
                  go_meet
                  exact ⟨by rw [hok, h96']; first | rfl | (rw [h96i]; rfl), by rw [hok, h96']; first | rfl | (rw [h96i]; rfl)⟩
                · have h96' : decide (sz ≤ 96) = false := by simp [h96]
                  have h97 : (96 : Int) < sz := by omega
                  have h96i : decide ((sz : Int) ≤ 96) = false := by simp; omega
                  go_wp2
                  go_meet
                  exact ⟨by rw [hok, h96']; first | rfl | (rw [h96i]; rfl), by rw [hok, h96']; first | rfl | (rw [h96i]; rfl)⟩
            case rest =>
              obtain ⟨rfl, hwc⟩ := hcut
              have HTa : Aside0 (EncT w wc gb go base (okj && decide (sz ≤ 96)) P6 (N + 27)) := ⟨by rw [← hwc, hokj.out]; exact HX.out.setOk (by have := hwgo; omega) _⟩
              obtain ⟨okk, hokk⟩ := named (okj && decide (sz ≤ 96))
              rw [← hokk.out] at HTa ⊢
              clear hwc q0 qf HX
              go_wp2_with fail
              refine (putBlk_any w gb go base wc.heap.size 1 [(m.low.size : Int)] okk P6 (N + 27) _ (HTa.out.stays (below_alloc (Below.refl _ _) _)) hwgb (blk_new wc (Obj.cells #[.int .i64 m.low.size] 3)) (by decide) (by decide) (by decide) (fun x hx => by rw [List.mem_singleton.1 hx]; exact hI _ (by have := hszz.out; omega)) (by simp) (by have := (hms m hmm).1; simp; omega)).mono ?_
              rintro e w7 ⟨rfl, hT7, _, _⟩
              obtain ⟨L7, hS7, hL7, hN7⟩ := hT7.st
              obtain ⟨A7, c7, hk7, hR7⟩ := hS7.hb
              have HS7 := Aside0.mk hS7
              have HL7 := Aside0.mk hL7
              have HK7 := Aside0.mk hk7
              have HR7 := Aside0.mk hR7
              have HB7 := Aside0.mk hT7.below
              have z0 := blk_cell hk7 0
              have zsz := hS7.hsz
              have zgb : gb < base := by have := hS7.hg; have := hS7.hbase; omega
              have hN7b : L7.length ≤ 900000000 := by have := (hms m hmm).1; have h1 : [(m.low.size : Int)].length = 1 := rfl; rw [h1] at hN7; omega
              clear hS7 hL7 hk7 hR7 hT7
              go_wp2_with (at_builtin; refine print_append_str (w0 := w7) base rfl (.tmp 72) (.tmp 73) 83 9 5 rfl Try.underlying83 Try.underlying9 infoB (.slice A7 L7.length c7) L7 m.low rfl rfl ?aO ?aB ?aS ?c1 ?_; (case aO => exact Kd.own_of_R HR7.out); (case aB => exact Below.refl _ _); (case aS => exact zsz); (case c1 => have := hszz.out; omega); intro v8 w8 hown hB8 hg8; obtain ⟨A8, c8, rfl, _⟩ := RB_reads hown; have HO8 := Aside0.mk hown; have HB8 := Aside0.mk hB8; have hk8 := (hB8.block gb zgb).trans HK7.out; have r0 := blk_cell hk8 0; have rf := blk_frozen hk8 0; clear hown hB8 hg8 hk8)
              go_roundg 1
              case measure => omega
              case rel =>
                have hfin := EncT.app (w0 := w) HS7.out HL7.out hN7 HB7.out hwgb HK7.out HO8.out HB8.out
                rw [hokk.out, hokj.out, hszz.out] at hfin
                exact .inr (.inl ⟨rfl, rfl, ⟨by first | exact hfin | simpa [txOk, txP] using hfin⟩⟩)
          · have hix := idxS_1 m.low m.high
            have hsz := (hms m hmm).2
            obtain ⟨sz, hszz⟩ := named m.high.size
            rw [← hszz.out] at hsz
            obtain ⟨L, hS, _⟩ := HX.out.st
            have q0 := blk_cell hS.ho 0
            have qf := blk_frozen hS.ho 0
            obtain ⟨okj, hokj⟩ := named (txOk ok6 m.low)
            rw [← hokj.out] at q0
            clear hS
            go_upto_region 17 with (fail)
            go_cut [66] (fun v66 wc => v66 = .bool (okj && decide (sz ≤ 96)) ∧ wr.setCell ⟨go, 0, none⟩ (.bool (okj && decide (sz ≤ 96))) = wc)
            case first =>
              have hszI : (m.high.size : Int) = sz := by rw [hszz.out]
              cases hok : okj with
              | false =>
                rw [hok] at q0
                go_wp2
                go_meet
                exact ⟨by rw [hok]; rfl, by rw [hok]; rfl⟩
              | true =>
                rw [hok] at q0
                by_cases h96 : sz ≤ 96
                · have h96' : decide (sz ≤ 96) = true := by simp [h96]
                  have h96i : decide ((sz : Int) ≤ 96) = true := by simp; omega
                  go_wp2
                  go_meet
                  exact ⟨by rw [hok, h96']; first | rfl | (rw [h96i]; rfl), by rw [hok, h96']; first | rfl | (rw [h96i]; rfl)⟩
                · have h96' : decide (sz ≤ 96) = false := by simp [h96]
                  have h97 : (96 : Int) < sz := by omega
                  have h96i : decide ((sz : Int) ≤ 96) = false := by simp; omega
                  go_wp2
                  go_meet
                  exact ⟨by rw [hok, h96']; first | rfl | (rw [h96i]; rfl), by rw [hok, h96']; first | rfl | (rw [h96i]; rfl)⟩
            case rest =>
              obtain ⟨rfl, hwc⟩ := hcut
              have HTa : Aside0 (EncT w wc gb go base (okj && decide (sz ≤ 96)) (txP P6 m.low) (N + 27 + 9 + m.low.size)) := ⟨by rw [← hwc, hokj.out]; exact HX.out.setOk (by have := hwgo; omega) _⟩
              obtain ⟨okk, hokk⟩ := named (okj && decide (sz ≤ 96))
              rw [← hokk.out] at HTa ⊢
              clear hwc q0 qf HX
              go_wp2_with fail
              refine (putBlk_any w gb go base wc.heap.size 1 [(m.high.size : Int)] okk (txP P6 m.low) (N + 27 + 9 + m.low.size) _ (HTa.out.stays (below_alloc (Below.refl _ _) _)) hwgb (blk_new wc (Obj.cells #[.int .i64 m.high.size] 3)) (by decide) (by decide) (by decide) (fun x hx => by rw [List.mem_singleton.1 hx]; exact hI _ (by have := hszz.out; omega)) (by simp) (by have := (hms m hmm).1; simp; omega)).mono ?_
              rintro e w7 ⟨rfl, hT7, _, _⟩
              obtain ⟨L7, hS7, hL7, hN7⟩ := hT7.st
              obtain ⟨A7, c7, hk7, hR7⟩ := hS7.hb
              have HS7 := Aside0.mk hS7
              have HL7 := Aside0.mk hL7
              have HK7 := Aside0.mk hk7
              have HR7 := Aside0.mk hR7
              have HB7 := Aside0.mk hT7.below
              have z0 := blk_cell hk7 0
              have zsz := hS7.hsz
              have zgb : gb < base := by have := hS7.hg; have := hS7.hbase; omega
              have hN7b : L7.length ≤ 900000000 := by have := (hms m hmm).1; have h1 : [(m.high.size : Int)].length = 1 := rfl; rw [h1] at hN7; omega
              clear hS7 hL7 hk7 hR7 hT7
              go_wp2_with (at_builtin; refine print_append_str (w0 := w7) base rfl (.tmp 72) (.tmp 73) 83 9 5 rfl Try.underlying83 Try.underlying9 infoB (.slice A7 L7.length c7) L7 m.high rfl rfl ?aO ?aB ?aS ?c1 ?_; (case aO => exact Kd.own_of_R HR7.out); (case aB => exact Below.refl _ _); (case aS => exact zsz); (case c1 => have := hszz.out; omega); intro v8 w8 hown hB8 hg8; obtain ⟨A8, c8, rfl, _⟩ := RB_reads hown; have HO8 := Aside0.mk hown; have HB8 := Aside0.mk hB8; have hk8 := (hB8.block gb zgb).trans HK7.out; have r0 := blk_cell hk8 0; have rf := blk_frozen hk8 0; clear hown hB8 hg8 hk8)
              go_roundg 0
              case measure => omega
              case rel =>
                have hfin := EncT.app (w0 := w) HS7.out HL7.out hN7 HB7.out hwgb HK7.out HO8.out HB8.out
                rw [hokk.out, hokj.out, hszz.out] at hfin
                exact .inr (.inr ⟨rfl, rfl, ⟨by first | exact hfin | simpa [txOk, txP] using hfin⟩⟩)
          · go_wp2
            go_roundg (add.length - (i + 1))
            case measure => omega
            case rel =>
              have h1 := (hms m hmm).1
              have h2 := (hms m hmm).2
              refine ⟨i + 1, _, _, _, by go_num, by omega, ?_, ⟨?_⟩, ⟨?_⟩, HX⟩
              · omega
              · rw [hok6.out, txOk_M ok m h1 h2, HTK.out, List.all_append, HOK.out]
                simp [Bool.and_assoc]
              · rw [hP6.out, txP_M, HTK.out, List.flatMap_append, HP.out]
                simp [List.append_assoc]
      · have hpk : Aside0 (add.take i = add) := ⟨List.take_of_length_le (by omega)⟩
        have hok : Aside0 (ok = encOk drop add seq next) := ⟨by
          have e1 := okN_nat (k := drop.length) (by omega)
          have e2 := okN_nat (k := add.length) (by omega)
          rw [HOK.out, hpk.out, hok3.out, hok2.out, hok1.out, encOk]
          simp only [List.all_cons, List.all_nil, e1, e2, Bool.and_true, Bool.true_and, Bool.and_assoc]⟩
        have hPP : Aside0 (P = encB drop add seq next) := ⟨by
          rw [HP.out, hpk.out, hP3.out, hP2.out, hP1.out, encB]
          simp [List.append_assoc]⟩
        obtain ⟨L, hS, hL, hN⟩ := HT.out.st
        obtain ⟨A9, c9, hk9, hR9⟩ := hS.hb
        have q0 := blk_cell hS.ho 0
        have b0 := blk_cell hk9 0
        have HL := Aside0.mk hL
        have HR9 := Aside0.mk (And.intro hR9 hS)
        clear hS hL hk9 hR9
        cases hokk : ok with
        | true =>
          rw [hokk] at q0
          have hE0 : Aside0 (E = 0) := ⟨by rw [hE1.out, ← hok.out, hokk]; rfl⟩
          have hLe : Aside0 (L = nb (encB drop add seq next)) := ⟨by rw [HL.out hokk, hPP.out]⟩
          go_wp2
          refine bodyPost_ret (results_tmp2 rfl _ _ _) rfl ?_
          refine ⟨A9, L.length, c9, by rw [hE0.out]; rfl, ⟨fun _ => ⟨by rw [hLe.out, nb_len], ?_⟩, fun h => absurd hE0.out h, HT.out.below⟩⟩
          have h1 := Kd.own_of_R HR9.out.1
          have h2 := own_weaken h1 (show w.heap.size ≤ base by have := HR9.out.2.hbase; have := HR9.out.2.hg; omega)
          rw [← hLe.out]
          exact h2
        | false =>
          rw [hokk] at q0
          have hE0 : Aside0 (E = 1) := ⟨by rw [hE1.out, ← hok.out, hokk]; rfl⟩
          go_wp2
          refine bodyPost_ret (results_tmp2 rfl _ _ _) rfl ?_
          exact ⟨none, 0, 0, by rw [hE0.out]; rfl, ⟨fun h => absurd h (by rw [hE0.out]; decide), fun _ => ⟨rfl, rfl, rfl⟩, HT.out.below⟩⟩
end Go.Proofs.Ytelnhecpcjoonaa.Var
