/- edit.At and the document's At; edits compared; Whole's result: walked. -/
import Derived.Test.YtelnhecpcjoonaaAtA
import Derived.Test.YtelnhecpcjoonaaApplyOut
import Derived.Test.YtelnhecpcjoonaaApplyE
import Derived.Test.YtelnhecpcjoonaaInts
namespace Go.Proofs.Ytelnhecpcjoonaa.Edit
set_option linter.unusedVariables false
set_option linter.unusedSimpArgs false
open Go.RowKit Go.Proofs.YtelnhecpcjoonaaW.PrintWords Go.Proofs.YtelnhecpcjoonaaW.PrintLast Go.Proofs.Ytelnhecpcjoonaa.Base Go.Proofs.Ytelnhecpcjoonaa.EditPure Go.Proofs.Ytelnhecpcjoonaa.Sets Go.Proofs.Ytelnhecpcjoonaa.Wide Go.Proofs.Ytelnhecpcjoonaa.Cells Go.Proofs.Ytelnhecpcjoonaa.Ints

set_option maxRecDepth 100000 in
set_option maxHeartbeats 1000000 in
theorem delAtNil_any (lev : Int) (pa : Addr) (w : World) (hp : w.cell? pa = some (.int .i64 lev)) :
    Calls Try.prog 59 #[.slice none 0 0, .func (.func 60) #[] #[.pointer (some pa)]] w fun e w' => e = .returned (.slice none 0 0) ∧ Below w.heap.size w w' := by
  go_enter Try.func59, Try.ntmps59
  go_wp2_with fail
  refine (indexAt_any none 0 [] lev pa _ (C_nil _) (by simp) hp).mono ?_
  rintro e w1 ⟨⟨r, rfl, hres⟩, hb1⟩
  rcases hres with ⟨rfl, hno⟩ | ⟨i, m, hri, him, _⟩
  · go_wp2
    go_ret
    exact ⟨rfl, hb1⟩
  · simp at him
theorem delRM_any (base : Nat) (v : Value) (L : List Meta) (lev : Int) (pa : Addr) (w : World) (hl : L.length ≤ 1048576) (h : RM 63 w base v L) (hp : w.cell? pa = some (.int .i64 lev)) (hpb : pa.block < base) :
    Calls Try.prog 59 #[v, .func (.func 60) #[] #[.pointer (some pa)]] w fun e w' => ∃ A' c', e = .returned (.slice A' (atL L lev).length c') ∧ RM 63 w' base (.slice A' (atL L lev).length c') (atL L lev) ∧ ∃ gg : Option Nat, w.grownBy w' gg ∧ ∀ k, gg = some k → base ≤ k := by
  rcases RM_cases h with ⟨rfl, rfl⟩ | ⟨g, cap, rfl, hb, hcm, hm⟩
  · exact (delAtNil_any lev pa w hp).mono fun e w' ⟨he, hb⟩ => ⟨none, 0, he, Kd.R_nil _ _ _ _ _, none, grown_of_below hb none, fun k hk => by cases hk⟩
  · exact (delAt_any g cap L L.length lev pa w rfl hl hcm hm hp (by omega)).mono fun e w' ⟨k, he, hk, hr, hg⟩ => ⟨_, cap, by rw [he, hk], RM_mk hb hcm hr, some g, hg, fun k hk => by injection hk with hk; omega⟩

/-- a row of tables that is a result, or none and an error's number -/
structure Row (t : TypeId) (E : Int) (L : List Meta) (base : Nat) (w : World) (A : Option Addr) (n c : Nat) : Prop where
  yes : E = 0 → n = L.length ∧ RM t w base (.slice A n c) L
  no : E ≠ 0 → A = none ∧ n = 0 ∧ c = 0
theorem Row.below {t : TypeId} {E : Int} {L : List Meta} {base : Nat} {w w' : World} {A : Option Addr} {n c : Nat} (h : Row t E L base w A n c) (hb : Below w.heap.size w w') : Row t E L base w' A n c :=
  ⟨fun e => ⟨(h.yes e).1, Kd.R_below (h.yes e).2 hb⟩, h.no⟩
theorem rows_same {E : Int} {L : List Meta} {b1 b2 : Nat} {w : World} {A1 A2 : Option Addr} {n1 n2 c1 c2 : Nat} (h1 : Row 63 E L b1 w A1 n1 c1) (h2 : Row 53 E L b2 w A2 n2 c2) (hL : L.length ≤ 1048576) :
    Calls Try.prog 34 #[.slice A1 n1 c1, .slice A2 n2 c2] w fun e w' => e = .returned (.bool true) ∧ Below w.heap.size w w' := by
  by_cases hE : E = 0
  · obtain ⟨rfl, o1⟩ := h1.yes hE
    obtain ⟨rfl, o2⟩ := h2.yes hE
    exact sameMetas_any A1 A2 c1 c2 L w (Kd.R_reads' o1).2.2 (Kd.R_reads' o2).2.2 hL
  · obtain ⟨rfl, rfl, rfl⟩ := h1.no hE
    obtain ⟨rfl, rfl, rfl⟩ := h2.no hE
    exact sameMetas_any none none 0 0 [] w (C_nil _) (C_nil _) (by simp)

set_option maxRecDepth 100000 in
set_option maxHeartbeats 2000000 in
theorem at_out (A : Option Addr) (c : Nat) (l : List Meta) (seq next lev E : Int) (w : World) (hE : E = verE l seq next) (hr : Kd.C kMeta w A l.length l) (hc : l.length ≤ c) (hw : ∀ m ∈ l, inI64 m.id) (hb : l.length ≤ 1048576) :
    Calls Try.prog 31 #[.agg #[.slice A l.length c, .int .i64 seq, .int .i64 next], .int .i64 lev] w fun e w' => (∃ A' n c', e = .returned (.tuple #[.slice A' n c', .int .i64 E]) ∧ Row 63 E (atL l lev) w.heap.size w' A' n c') ∧ Below w.heap.size w w' := by
  have HR := Aside0.mk hr
  have HE := Aside0.mk hE
  clear hr hE
  go_enter Try.func31, Try.ntmps31
  go_wp2_with fail
  have hb0 := below_alloc (below_alloc (Below.refl w.heap.size w) (Obj.cells #[.slice A l.length c, .int .i64 seq, .int .i64 next] 49)) (Obj.cells #[.int .i64 lev] 3)
  refine (check_any A c l seq next _ (Kd.C_below HR.out hb0) hc hw).mono ?_
  rintro e w1 ⟨rfl, hb1⟩
  have hk1 := blk_keep (blk_alloc (blk_new w (Obj.cells #[.slice A l.length c, .int .i64 seq, .int .i64 next] 49)) _) hb1
  have hk2 := blk_keep (blk_new1 w (Obj.cells #[.slice A l.length c, .int .i64 seq, .int .i64 next] 49) #[.int .i64 lev] 3) hb1
  have HB := Aside0.mk (bthen hb0 hb1)
  rw [← HE.out]
  obtain ⟨x0, x1, x2, _, _, _⟩ := all3 hk1
  have HK2 := Aside0.mk hk2
  clear hb0 hb1 hk1 hk2
  by_cases h0 : E = 0
  · subst h0
    go_wp2_with fail
    refine (clone_any A c l _ (Kd.C_below HR.out HB.out) hb).mono ?_
    rintro e w2 ⟨v2, rfl, ho, hb2⟩
    have HO := Aside0.mk ho
    have HB2 := Aside0.mk hb2
    have hp : w2.cell? ⟨w.heap.size + 1, 0, none⟩ = some (.int .i64 lev) := blk_cell (blk_keep HK2.out hb2) 0
    have hlt : w.heap.size + 1 < w1.heap.size := blk_lt HK2.out
    clear ho hb2
    go_wp2_with fail
    refine (delRM_any w1.heap.size v2 l lev ⟨w.heap.size + 1, 0, none⟩ _ hb HO.out hp hlt).mono ?_
    rintro e w3 ⟨A3, c3, rfl, hr3, gg, hg3, hgb⟩
    have HR3 := Aside0.mk (And.intro hr3 (below_of_grown HB2.out hg3 hgb))
    clear hr3 hg3 hgb x0 x1 x2 hp
    go_wp2
    refine bodyPost_ret (results_tmp2 rfl _ _ _) rfl ?_
    exact ⟨⟨A3, _, c3, rfl, ⟨fun _ => ⟨rfl, Kd.R_lower HR3.out.1 HB.out.size⟩, fun h => absurd rfl h⟩⟩, bthen HB.out HR3.out.2⟩
  · go_wp2
    refine bodyPost_ret (results_tmp2 rfl _ _ _) rfl ?_
    exact ⟨⟨none, 0, 0, rfl, ⟨fun h => absurd h h0, fun _ => ⟨rfl, rfl, rfl⟩⟩⟩, HB.out⟩

set_option maxRecDepth 100000 in
set_option maxHeartbeats 2000000 in
theorem refAt_out (A : Option Addr) (c : Nat) (l : List Meta) (seq next lev E : Int) (w : World) (hE : E = verE l seq next) (hr : Kd.C kMeta w A l.length l) (hc : l.length ≤ c) (hb : l.length ≤ 1048576) :
    Calls Try.prog 32 #[.agg #[.slice A l.length c, .int .i64 seq, .int .i64 next], .int .i64 lev] w fun e w' => (∃ A' n c', e = .returned (.tuple #[.slice A' n c', .int .i64 E]) ∧ Row 53 E (atL l lev) w.heap.size w' A' n c') ∧ Below w.heap.size w w' := by
  have HR := Aside0.mk hr
  have HE := Aside0.mk hE
  clear hr hE
  go_enter Try.func32, Try.ntmps32
  go_wp2_with fail
  have hb0 := below_alloc (Below.refl w.heap.size w) (Obj.cells #[.slice A l.length c, .int .i64 seq, .int .i64 next] 38)
  refine (refCheck_any A c l seq next _ (Kd.C_below HR.out hb0) hc).mono ?_
  rintro e w1 ⟨rfl, hb1⟩
  have HK1 := Aside0.mk (blk_keep (blk_new w (Obj.cells #[.slice A l.length c, .int .i64 seq, .int .i64 next] 38)) hb1)
  have HB := Aside0.mk (bthen hb0 hb1)
  rw [← HE.out]
  clear hb0 hb1
  by_cases h0 : E = 0
  · subst h0
    go_wp2
    go_loopg [6, 7] l.length (fun g v6 v7 wr => ∃ i : Nat, v7 = .int .i64 i ∧ g + i = l.length ∧ Aside0 (RM 53 wr w1.heap.size v6 (atL (l.take i) lev)) ∧ Aside0 (Below w1.heap.size w1 wr))
    case atStart => exact ⟨0, rfl, by omega, ⟨Kd.R_nil kMeta _ _ _ _⟩, ⟨Below.refl _ _⟩⟩
    case round =>
      obtain ⟨i, rfl, hg, HO, HBr⟩ := hrel
      obtain ⟨x0, x1, x2, _, _, _⟩ := all3 (blk_keep HK1.out HBr.out)
      by_cases hlt : i < l.length
      · obtain ⟨m, hm⟩ : ∃ m, l[i]? = some m := ⟨_, List.getElem?_eq_getElem hlt⟩
        obtain ⟨ad, rfl, c0, c1, c2, c3, c4⟩ := atMeta (Kd.C_below HR.out (bthen HB.out HBr.out)) i m hm
        have ht : Aside0 (l.take (i + 1) = l.take i ++ [m]) := ⟨by rw [List.take_add_one, hm]; rfl⟩
        have HL : Aside0 ((atL (l.take i) lev).length ≤ i) := ⟨Nat.le_trans (List.length_filter_le _ _) (by rw [List.length_take]; omega)⟩
        clear hm
        by_cases he : m.level = lev
        · have he' : (m.level == lev) = true := by simp [he]
          clear he
          go_wp2_with (first | (at_builtin; refine Kd.R_append kMeta (w0 := w1) w1.heap.size rfl (.tmp 26) (.tmp 32) 36 53 (.agg #[(.int .i64 0), (.int .i64 0), (.int .i64 0), (.string ⟨#[]⟩), (.string ⟨#[]⟩)]) 56 rfl Try.underlying36 infoMr rfl (by decide) (by omega) u6 (atL (l.take i) lev) m m.cs (fun _ => True) (fun _ => False) rfl rfl ?aP (fun _ hk => hk.elim) (fun _ _ => trivial) ?aO ?aB ?aS ?c1 ?_; (case aP => exact kMeta_mkM _ _ _ m); (case aO => exact HO.out); (case aB => exact HBr.out); (case aS => exact HBr.out.size); (case c1 => have := HL.out; omega); intro v3 w3 hown hB1 hg1 hat; have HO9 := Aside0.mk hown; have HB9 := Aside0.mk hB1; clear hown hB1 hg1 hat))
          go_roundg (l.length - (i + 1))
          case measure => omega
          case rel => exact ⟨i + 1, by go_num, by omega, ⟨by rw [ht.out, atL, List.filter_append, List.filter_cons_of_pos (p := fun x : Meta => x.level == lev) he', List.filter_nil]; exact HO9.out⟩, HB9⟩
        · have he' : (m.level == lev) = false := by simp [he]
          clear he
          go_wp2
          go_roundg (l.length - (i + 1))
          case measure => omega
          case rel => exact ⟨i + 1, by go_num, by omega, ⟨by rw [ht.out, atL, List.filter_append, List.filter_cons_of_neg (p := fun x : Meta => x.level == lev) (by rw [he']; simp), List.filter_nil, List.append_nil]; exact HO.out⟩, HBr⟩
      · have hpk : Aside0 (l.take i = l) := ⟨List.take_of_length_le (by omega)⟩
        have HF : Aside0 (RM 53 wr w1.heap.size u6 (atL l lev)) := ⟨by rw [← hpk.out]; rw [hpk.out]; have := HO.out; rwa [hpk.out] at this⟩
        obtain ⟨A6, c6, rfl, _, _⟩ := RM_reads HF.out
        go_wp2
        refine bodyPost_ret (results_tmp2 rfl _ _ _) rfl ?_
        exact ⟨⟨A6, _, c6, rfl, ⟨fun _ => ⟨rfl, Kd.R_lower HF.out HB.out.size⟩, fun h => absurd rfl h⟩⟩, bthen HB.out HBr.out⟩
  · have h9 : E = 9 := by
      rw [HE.out] at h0 ⊢
      rw [verE] at h0 ⊢
      by_cases hv : verOk l seq next = true
      · rw [if_pos hv] at h0; exact absurd rfl h0
      · rw [if_neg hv]
    subst h9
    go_wp2
    refine bodyPost_ret (results_tmp2 rfl _ _ _) rfl ?_
    exact ⟨⟨none, 0, 0, rfl, ⟨fun h => absurd h h0, fun _ => ⟨rfl, rfl, rfl⟩⟩⟩, HB.out⟩

set_option maxRecDepth 100000 in
set_option maxHeartbeats 1000000 in
/-- the same numbers -/
theorem sameInts_any (A B : Option Addr) (c d : Nat) (l : List Int) (w : World) (hA : ReadsInt w .i64 A l.length l) (hB : ReadsInt w .i64 B l.length l) (hb : l.length ≤ 1048576) :
    Calls Try.prog 61 #[.slice A l.length c, .slice B l.length d] w fun e w' => e = .returned (.bool true) ∧ Below w.heap.size w w' := by
  have HA := Aside0.mk hA
  have HB := Aside0.mk hB
  clear hA hB
  go_enter Try.func61, Try.ntmps61
  go_wp2
  go_loopg [5] l.length (fun g v5 wr => ∃ i : Nat, v5 = .int .i64 i ∧ g + i = l.length ∧ Aside0 (Below w.heap.size w wr))
  case atStart => exact ⟨0, rfl, by omega, ⟨Below.refl _ _⟩⟩
  case round =>
    obtain ⟨i, rfl, hg, HW⟩ := hrel
    by_cases hlt : i < l.length
    · obtain ⟨x, hx⟩ : ∃ x, rd l i = x := ⟨_, rfl⟩
      obtain ⟨ad, rfl, a0⟩ := (HA.out.below HW.out).at_ i (by omega) (by omega)
      obtain ⟨bd, rfl, b0⟩ := (HB.out.below HW.out).at_ i (by omega) (by omega)
      rw [Int.toNat_natCast, hx] at a0 b0
      clear hx
      go_wp2_with fail
      go_quiet (fail)
      go_wp2
      go_roundg (l.length - (i + 1))
      case measure => omega
      case rel => exact ⟨i + 1, by go_num, by omega, ⟨pw_below_drewN HW.out nq⟩⟩
    · go_wp2
      go_ret
      exact ⟨rfl, HW.out⟩

/-- an edit read: numbers and tables -/
structure EditAt (w : World) (D : Option Addr) (dn : Nat) (A : Option Addr) (n : Nat) (drop : List Int) (add : List Meta) : Prop where
  dl : dn = drop.length
  al : n = add.length
  rd : ReadsInt w .i64 D drop.length drop
  ra : Kd.C kMeta w A add.length add
theorem EditAt.below {w w' : World} {D : Option Addr} {dn : Nat} {A : Option Addr} {n : Nat} {drop : List Int} {add : List Meta} (h : EditAt w D dn A n drop add) (hb : Below w.heap.size w w') : EditAt w' D dn A n drop add :=
  ⟨h.dl, h.al, h.rd.below hb, Kd.C_below h.ra hb⟩

set_option maxRecDepth 100000 in
set_option maxHeartbeats 1000000 in
/-- the same edits -/
theorem sameEdit_any {D1 D2 A1 A2 : Option Addr} {dn1 dn2 n1 n2 : Nat} (d1 d2 c1 c2 : Nat) {drop : List Int} {add : List Meta} (seq next : Int) (w : World) (h1 : EditAt w D1 dn1 A1 n1 drop add) (h2 : EditAt w D2 dn2 A2 n2 drop add) (hb : add.length ≤ 1048576) (hdl : drop.length ≤ 1048576) :
    Calls Try.prog 33 #[.agg #[.slice D1 dn1 d1, .slice A1 n1 c1, .int .i64 seq, .int .i64 next], .agg #[.slice D2 dn2 d2, .slice A2 n2 c2, .int .i64 seq, .int .i64 next]] w fun e w' => e = .returned (.bool true) ∧ Below w.heap.size w w' := by
  obtain rfl := h1.dl
  obtain rfl := h1.al
  obtain rfl := h2.dl
  obtain rfl := h2.al
  have H1 := Aside0.mk h1
  have H2 := Aside0.mk h2
  clear h1 h2
  go_enter Try.func33, Try.ntmps33
  go_upto_region 1 with (fail)
  obtain ⟨W, hW⟩ : ∃ W, W = ((w.alloc (Obj.cells #[.slice D1 drop.length d1, .slice A1 add.length c1, .int .i64 seq, .int .i64 next] 61)).alloc
      (Obj.cells #[.slice D2 drop.length d2, .slice A2 add.length c2, .int .i64 seq, .int .i64 next] 57)) := ⟨_, rfl⟩
  have HW : Aside0 (Below w.heap.size w W) := ⟨by rw [hW]; exact below_alloc (below_alloc (Below.refl _ _) _) _⟩
  have hk1 : W.heap[w.heap.size]? = some (.cells #[.slice D1 drop.length d1, .slice A1 add.length c1, .int .i64 seq, .int .i64 next] 61 (0, 0)) := by rw [hW]; exact blk_alloc (blk_new _ _) _
  have hk2 : W.heap[w.heap.size + 1]? = some (.cells #[.slice D2 drop.length d2, .slice A2 add.length c2, .int .i64 seq, .int .i64 next] 57 (0, 0)) := by
    rw [hW]; exact blk_new1 _ _ _ _
  rw [← hW]
  clear hW
  obtain ⟨x0, x1, x2, x3, _, _, _, _⟩ := all4 hk1
  obtain ⟨y0, y1, y2, y3, _, _, _, _⟩ := all4 hk2
  have K1 := Aside0.mk hk1
  have K2 := Aside0.mk hk2
  clear hk1 hk2
  go_wp2_with fail
  refine (sameInts_any D1 D2 d1 d2 drop _ (H1.out.rd.below HW.out) (H2.out.rd.below HW.out) hdl).mono ?_
  rintro e w1 ⟨rfl, hb1⟩
  have HB1 := Aside0.mk (bthen HW.out hb1)
  have K3 := Aside0.mk (blk_keep K1.out hb1)
  have K4 := Aside0.mk (blk_keep K2.out hb1)
  clear x0 x1 x2 x3 y0 y1 y2 y3
  obtain ⟨x0, x1, x2, x3, _, _, _, _⟩ := all4 K3.out
  obtain ⟨y0, y1, y2, y3, _, _, _, _⟩ := all4 K4.out
  clear hb1
  go_wp2_with fail
  refine (sameMetas_any A1 A2 c1 c2 add _ (Kd.C_below H1.out.ra HB1.out) (Kd.C_below H2.out.ra HB1.out) hb).mono ?_
  rintro e w2 ⟨rfl, hb2⟩
  have K5 := Aside0.mk (blk_keep K3.out hb2)
  have K6 := Aside0.mk (blk_keep K4.out hb2)
  clear x0 x1 x2 x3 y0 y1 y2 y3
  obtain ⟨x0, x1, x2, x3, _, _, _, _⟩ := all4 K5.out
  obtain ⟨y0, y1, y2, y3, _, _, _, _⟩ := all4 K6.out
  go_wp2
  go_ret
  exact ⟨rfl, bthen HB1.out hb2⟩

/-- the edit that makes a version: Whole's result -/
theorem whole_out (A : Option Addr) (c : Nat) (l : List Meta) (seq next E : Int) (w : World) (hE : E = verE l seq next) (hr : Kd.C kMeta w A l.length l) (hc : l.length ≤ c) (hw : ∀ m ∈ l, inI64 m.id) (hb : l.length ≤ 1048576) :
    Calls Try.prog 27 #[.agg #[.slice A l.length c, .int .i64 seq, .int .i64 next]] w fun e w' => (∃ A' n c' a b, e = .returned (.tuple #[.agg #[.slice none 0 0, .slice A' n c', .int .i64 a, .int .i64 b], .int .i64 E]) ∧ Out 63 E l seq next w.heap.size w' A' n c' a b) ∧ Below w.heap.size w w' := by
  cases hv : verOk l seq next with
  | true =>
    have h0 : E = 0 := by rw [hE, verE, if_pos hv]
    refine (whole_yes A c l seq next w hr hc hw hb hv).mono fun e w' ⟨v, he, ho, hbl⟩ => ?_
    obtain ⟨A', c', rfl, h1, h2⟩ := RM_reads ho
    exact ⟨⟨A', _, c', _, _, by rw [he, h0], fun _ => ⟨rfl, rfl, rfl, ho⟩, fun h => absurd h0 h⟩, hbl⟩
  | false =>
    have h0 : E = 9 := by rw [hE, verE, if_neg (by simp [hv])]
    exact (whole_no A c l seq next w hr hc hw hv).mono fun e w' ⟨he, hbl⟩ => ⟨⟨none, 0, 0, 0, 0, by rw [he, h0], fun h => absurd (h0.symm.trans h) (by decide), fun _ => ⟨rfl, rfl, rfl, rfl, rfl⟩⟩, hbl⟩
theorem refWhole_out (A : Option Addr) (c : Nat) (l : List Meta) (seq next E : Int) (w : World) (hE : E = verE l seq next) (hr : Kd.C kMeta w A l.length l) (hc : l.length ≤ c) (hw : ∀ m ∈ l, inI64 m.id) (hb : l.length ≤ 1048576) :
    Calls Try.prog 30 #[.agg #[.slice A l.length c, .int .i64 seq, .int .i64 next]] w fun e w' => (∃ A' n c' a b, e = .returned (.tuple #[.agg #[.slice none 0 0, .slice A' n c', .int .i64 a, .int .i64 b], .int .i64 E]) ∧ Out 53 E l seq next w.heap.size w' A' n c' a b) ∧ Below w.heap.size w w' := by
  cases hv : verOk l seq next with
  | true =>
    have h0 : E = 0 := by rw [hE, verE, if_pos hv]
    refine (refWhole_yes A c l seq next w hr hc hw hb hv).mono fun e w' ⟨v, he, ho, hbl⟩ => ?_
    obtain ⟨A', c', rfl, h1, h2⟩ := RM_reads ho
    exact ⟨⟨A', _, c', _, _, by rw [he, h0], fun _ => ⟨rfl, rfl, rfl, ho⟩, fun h => absurd h0 h⟩, hbl⟩
  | false =>
    have h0 : E = 9 := by rw [hE, verE, if_neg (by simp [hv])]
    exact (refWhole_no A c l seq next w hr hc hw hv).mono fun e w' ⟨he, hbl⟩ => ⟨⟨none, 0, 0, 0, 0, by rw [he, h0], fun h => absurd (h0.symm.trans h) (by decide), fun _ => ⟨rfl, rfl, rfl, rfl, rfl⟩⟩, hbl⟩
/-- edits that Whole makes, compared -/
theorem wholes_same {E : Int} {L : List Meta} {seq next : Int} {base1 base2 : Nat} {w : World} {A1 A2 : Option Addr} {n1 n2 c1 c2 : Nat} {a1 a2 b1 b2 : Int}
    (h1 : Out 63 E L seq next base1 w A1 n1 c1 a1 b1) (h2 : Out 53 E L seq next base2 w A2 n2 c2 a2 b2) (hL : L.length ≤ 1048576) :
    Calls Try.prog 33 #[.agg #[.slice none 0 0, .slice A1 n1 c1, .int .i64 a1, .int .i64 b1], .agg #[.slice none 0 0, .slice A2 n2 c2, .int .i64 a2, .int .i64 b2]] w fun e w' => e = .returned (.bool true) ∧ Below w.heap.size w w' := by
  by_cases hE : E = 0
  · obtain ⟨rfl, rfl, rfl, o1⟩ := h1.yes hE
    obtain ⟨rfl, rfl, rfl, o2⟩ := h2.yes hE
    exact sameEdit_any (drop := []) (add := L) 0 0 c1 c2 _ _ w ⟨rfl, rfl, ReadsInt.nil _ _, (Kd.R_reads' o1).2.2⟩ ⟨rfl, rfl, ReadsInt.nil _ _, (Kd.R_reads' o2).2.2⟩ hL (by simp)
  · obtain ⟨rfl, rfl, rfl, rfl, rfl⟩ := h1.no hE
    obtain ⟨rfl, rfl, rfl, rfl, rfl⟩ := h2.no hE
    exact sameEdit_any (drop := []) (add := []) 0 0 0 0 _ _ w ⟨rfl, rfl, ReadsInt.nil _ _, C_nil _⟩ ⟨rfl, rfl, ReadsInt.nil _ _, C_nil _⟩ (by simp) (by simp)
end Go.Proofs.Ytelnhecpcjoonaa.Edit
