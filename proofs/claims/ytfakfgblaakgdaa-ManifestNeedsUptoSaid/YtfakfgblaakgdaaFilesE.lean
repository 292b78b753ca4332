/- files: may a list of names be: walked. -/
import Derived.Test.YtfakfgblaakgdaaFilesD
import Derived.Test.YtfakfgblaakgdaaWide
import Derived.Deep.RegionLaw
namespace Go.Proofs.Ytfakfgblaakgdaa.Files
set_option linter.unusedVariables false
set_option linter.unusedSimpArgs false
open Go.RowKit Go.Proofs.YtfakfgblaakgdaaW.PrintWords Go.Proofs.YtfakfgblaakgdaaW.PrintLast Go.Proofs.Ytfakfgblaakgdaa.Base Go.Proofs.Ytfakfgblaakgdaa.Cells Go.Proofs.Ytfakfgblaakgdaa.Ints Go.Proofs.Ytfakfgblaakgdaa.Var Go.Proofs.Ytfakfgblaakgdaa.EditPure Go.Proofs.Ytfakfgblaakgdaa.Edit Go.Proofs.Ytfakfgblaakgdaa.Sets Go.Proofs.Ytfakfgblaakgdaa.Wide

/-- every cell stands -/
def Cell (w w1 : World) : Prop := ∀ a v, w.cell? a = some v → w1.cell? a = some v
theorem Cell.refl (w : World) : Cell w w := fun _ _ h => h
theorem Cell.trans {a b c : World} (h : Cell a b) (k : Cell b c) : Cell a c := fun x v hv => k x v (h x v hv)
theorem Cell.of_below {w w1 : World} (h : Below w.heap.size w w1) : Cell w w1 := fun a v hv => (h.cell (World.block_lt_of_cell? w a hv)).trans hv
theorem Cell.of_map {w w1 : World} {b : Nat} {es : Array MapEntry} {k : Nat} (hm : w.heap[b]? = some (.map es k)) (hg : w.grownBy w1 (some b)) : Cell w w1 := fun a v hv => by
  by_cases hb : a.block = b
  · exfalso
    subst hb
    unfold World.cell? at hv
    rw [hm] at hv
    cases hv
  · exact hg.cell hv (by intro e; injection e with e; exact hb e)
theorem SetL.isMapBlock {P : Program} {k e : TypeId} {w : World} {b : Nat} {l : List Lit} (h : SetL P k e w b l) : ∃ es c, w.heap[b]? = some (.map es c) := by
  obtain ⟨es, c, h1, _⟩ := h.1
  exact ⟨es, c, h1⟩
theorem readsInt_cell {w w1 : World} {k : IntKind} {A : Option Addr} {n : Nat} {xs : List Int} (h : ReadsInt w k A n xs) (hc : Cell w w1) : ReadsInt w1 k A n xs :=
  ⟨h.1, h.2.1, fun hn => by obtain ⟨ad, e, hh⟩ := h.2.2 hn; exact ⟨ad, e, fun j hj => hc _ _ (hh j hj)⟩⟩
theorem kFl_cell {w w1 : World} {A : Option Addr} {n : Nat} {xs : List Fl} (h : kFl.C w A n xs) (hc : Cell w w1) : kFl.C w1 A n xs := by
  refine ⟨h.1, h.2.1, fun hn => ?_⟩
  obtain ⟨ad, e, hh⟩ := h.2.2 hn
  refine ⟨ad, e, fun j p hj => ?_⟩
  obtain ⟨c, h1, h2, h3⟩ := hh j p hj
  obtain ⟨D, dc, rfl, h4, h5⟩ := kFl_open h2
  exact ⟨_, h1, kFl_mk h4 (readsInt_cell h5 hc), fun i u hu => hc _ _ (h3 i u hu)⟩
theorem kNm_cell {w w1 : World} {A : Option Addr} {n : Nat} {xs : List Nm} (h : kNm.C w A n xs) (hc : Cell w w1) : kNm.C w1 A n xs := by
  refine ⟨h.1, h.2.1, fun hn => ?_⟩
  obtain ⟨ad, e, hh⟩ := h.2.2 hn
  refine ⟨ad, e, fun j p hj => ?_⟩
  obtain ⟨c, h1, h2, h3⟩ := hh j p hj
  obtain rfl := kNm_open h2
  exact ⟨_, h1, kNm_mk _ p, fun i u hu => hc _ _ (h3 i u hu)⟩

/-- of a name behind others: what a list that may be asks of it -/
def nmOk (files : List Fl) (pre : List Nm) (n : Nm) : Bool :=
  mayF n.name && ((match pre.getLast? with | none => true | some p => sLt p.name n.name) && (hasId files n.id && !(pre.any fun x => x.id == n.id)))
def nmTo (files : List Fl) (l : List Nm) : Nat → Bool
  | 0 => true
  | i + 1 => nmTo files l i && nmOk files (l.take i) (l.getD i zNm)
/-- may a list of names be -/
def namesOk (files : List Fl) (l : List Nm) : Bool := nmTo files l l.length
theorem nmTo_false {files : List Fl} (l : List Nm) {i : Nat} (h : nmTo files l i = false) {n : Nat} (hn : i ≤ n) : nmTo files l n = false := by
  induction n with
  | zero => obtain rfl : i = 0 := by omega
            exact h
  | succ n ih =>
    by_cases e : i = n + 1
    · subst e; exact h
    · rw [nmTo, ih (by omega), Bool.false_and]
theorem fileP_some {w : World} {F : Option Addr} {l : List Fl} {x : Int} {n : Nat} (hr : kFl.C w F n l) (h : hasId l x = true) : ∃ a, fileP F l x = some a := by
  obtain ⟨f, hf, hx⟩ := List.any_eq_true.1 h
  obtain ⟨k, hk⟩ := List.mem_iff_getElem?.1 hf
  obtain ⟨ad, _, _, rfl, _⟩ := atFl hr k f hk
  cases hq : l.findIdx? (fun f => f.id == x) with
  | none =>
    rw [List.findIdx?_eq_none_iff] at hq
    have := hq f hf
    rw [this] at hx; cases hx
  | some r => exact ⟨_, by rw [fileP, hq]; rfl⟩
/-- the numbers of names -/
def idsN (l : List Nm) : List Int := l.map (·.id)

theorem grown_of_new {w a c : World} {r : Option Nat} (h : w.grownBy a r) (k : a.grownBy c (some w.heap.size)) : w.grownBy c r :=
  ⟨k.os.trans h.os, k.tape.trans h.tape, k.output.trans h.output, Nat.le_trans h.size k.size, fun i hi hr => (k.block i (Nat.lt_of_lt_of_le hi h.size) (by intro e; injection e with e; omega)).trans (h.block i hi hr)⟩
theorem geq_bytes (a b : List UInt8) : (Op.bytesLess b a || a == b) = !Op.bytesLess a b := by
  have := leq_bytes b a
  rw [← this]
  congr 1
  rw [Bool.eq_iff_iff]
  simp only [beq_iff_eq]
  exact eq_comm

theorem bytesLess_irrefl (a : List UInt8) : Op.bytesLess a a = false := by
  cases h : Op.bytesLess a a with
  | false => rfl
  | true => have := bytesLess_asymm _ _ h; rw [h] at this; cases this

set_option maxRecDepth 100000 in
set_option maxHeartbeats 4000000 in
theorem namesF_any (g b : Nat) (F N : Option Addr) (fc nc : Nat) (files : List Fl) (l : List Nm) (S : List Int) (w : World) (hx : w.cell? ⟨g, 1, none⟩ = some (.slice F files.length fc)) (hr : kFl.C w F files.length files) (hf : files.length ≤ 1048576) (ha : Asc files)
    (hn : kNm.C w N l.length l) (hl : l.length ≤ 1048576) (hw : ∀ n ∈ l, inI64 n.id) (hS : SetL Try.prog 3 4 w b (ilits S)) (hSl : S.length ≤ 1048576) :
    Calls Try.prog 58 #[.pointer (some ⟨g, 0, none⟩), .slice N l.length nc, .map (some b)] w fun e w' => e = .returned (.bool (namesOk files l)) ∧ (namesOk files l = true → SetL Try.prog 3 4 w' b (ilits (S ++ idsN l))) ∧ w.grownBy w' (some b) := by
  have HR := Aside0.mk hr
  have HN := Aside0.mk hn
  have HA := Aside0.mk ha
  have HW := Aside0.mk hw
  have HX := Aside0.mk hx
  obtain ⟨es0, k0, hmap⟩ := SetL.isMapBlock hS
  have HMAP := Aside0.mk hmap
  have hbw : b < w.heap.size := hS.lt
  have HS0 : Aside0 (SetL Try.prog 3 4 w b (ilits S)) := ⟨hS⟩
  obtain ⟨q, hq⟩ := named (namesOk files l)
  rw [← hq.out]
  clear hr hn ha hw hx hS hmap
  have hmm := @run_makeMap Try.prog
  go_enter Try.func58, Try.ntmps58
  go_wp2
  go_loopg [13] l.length (fun gk v13 wr => ∃ i : Nat, v13 = .int .i64 i ∧ gk + i = l.length ∧ Aside0 (nmTo files l i = true) ∧ Aside0 (SetL Try.prog 3 4 wr w.heap.size (ilits (idsN (l.take i)))) ∧ Aside0 (SetL Try.prog 3 4 wr b (ilits (S ++ idsN (l.take i)))) ∧ Aside0 (Cell w wr) ∧ Aside0 (w.grownBy wr (some b)) ∧ w.heap.size < wr.heap.size)
  case atStart => exact ⟨0, rfl, by omega, ⟨rfl⟩, ⟨SetL.made w _ _ _⟩, ⟨by have := HS0.out.alloc (.map #[] 0); simpa [idsN] using this⟩, ⟨Cell.of_below (below_alloc (Below.refl _ _) _)⟩, ⟨grown_alloc (grown_refl _ _) _⟩, by simp⟩
  case round =>
    obtain ⟨i, rfl, hg, HT, HO, HS, HC, HG, hsz⟩ := hrel
    by_cases hlt : i < l.length
    · have hlt' : (i : Int) < l.length := by omega
      obtain ⟨m, hm⟩ : ∃ m, l[i]? = some m := ⟨_, List.getElem?_eq_getElem hlt⟩
      obtain ⟨ad, rfl, c0, c1⟩ := atNm (kNm_cell HN.out HC.out) i m hm
      have hgd : l.getD i zNm = m := by rw [List.getD_eq_getElem?_getD, hm]; rfl
      have HM := Aside0.mk hm
      have hxr := HC.out _ _ HX.out
      have hid : inI64 m.id := HW.out m (List.mem_of_getElem? hm)
      have HID := Aside0.mk hid
      have hto : nmTo files l (i + 1) = nmOk files (l.take i) m := by rw [nmTo, HT.out, hgd, Bool.true_and]
      obtain ⟨ok, hok⟩ := named (nmOk files (l.take i) m)
      rw [← hok.out] at hto
      have HTO := Aside0.mk hto
      clear hm hto hgd hid
      go_upto_region 5 with (fail)
      obtain ⟨W5, hW5⟩ : ∃ W5, W5 = wr.alloc (.cells #[.string m.name, .int .i64 m.id] 81) := ⟨_, rfl⟩
      have k0 : W5.cell? ⟨wr.heap.size, 0, none⟩ = some (.string m.name) := by rw [hW5]; exact new_cell _ _ _ 0 _ rfl
      have k1 : W5.cell? ⟨wr.heap.size, 1, none⟩ = some (.int .i64 m.id) := by rw [hW5]; exact new_cell _ _ _ 1 _ rfl
      have HB5 : Aside0 (Below wr.heap.size wr W5) := ⟨by rw [hW5]; exact below_alloc (Below.refl _ _) _⟩
      have HZ5 : Aside0 (W5.heap.size = wr.heap.size + 1) := ⟨by rw [hW5]; simp⟩
      have K0 := wb_cell k0
      have K1 := wb_cell k1
      have x1 := (HB5.out.cell (World.block_lt_of_cell? wr _ hxr)).trans hxr
      have HK0 := Aside0.mk k0
      have HK1 := Aside0.mk k1
      rw [← hW5]
      clear hW5 hxr c0 c1 k0 k1
      obtain ⟨my, hmy⟩ := named (mayF m.name)
      obtain ⟨hi, hhi⟩ := named (hasId files m.id)
      obtain ⟨sn, hsn⟩ := named ((l.take i).any fun x => x.id == m.id)
      obtain ⟨fp, hfp⟩ := named (fileP F files m.id)
      have HFP : Aside0 ((hi = false → fp = none) ∧ (hi = true → ∃ a, fp = some a)) := ⟨⟨fun h => by rw [hfp.out]; exact fileP_none (by rw [← hhi.out]; exact h), fun h => by rw [hfp.out]; exact fileP_some HR.out (by rw [← hhi.out]; exact h)⟩⟩
      obtain ⟨lnk, hlnk⟩ := named (match (l.take i).getLast? with | none => true | some p => sLt p.name m.name)
      have HK : Aside0 (ok = (my && (lnk && (hi && !sn)))) := ⟨by rw [hok.out, nmOk, hmy.out, hhi.out, hsn.out, hlnk.out]⟩
      have CM : ∀ W, Calls Try.prog 82 #[.string m.name] W fun e w' => e = .returned (.bool my) ∧ Below W.heap.size W w' := fun W => by rw [hmy.out]; exact may_any m.name W
      have CF : ∀ x : Later W5, Calls Try.prog 51 #[.pointer (some ⟨g, 0, none⟩), .int .i64 m.id] (wb W5 x) fun e w' => e = .returned (.pointer fp) ∧ Below (wb W5 x).heap.size (wb W5 x) w' := fun x => by
        rw [hfp.out]
        exact file_any g F fc files m.id _ ((wb_below _ x).cell (World.block_lt_of_cell? W5 _ x1) |>.trans x1) (kFl_cell HR.out (HC.out.trans (Cell.of_below (bthen HB5.out (wb_below _ x))))) hf HA.out
      have LK : ∀ x : Later W5, (Instr.lookup 116 (.map (some w.heap.size)) (.int .i64 m.id) false).run Try.prog (wb W5 x) = .ok (.bool sn) (wb W5 x) := fun x => by
        have h1 := (HO.out.below (bthen HB5.out (wb_below _ x))).lookup (t := 116) (Maps.int_keyed Try.underlying3) Try.underlying116 Try.underlying4 (zeroBool _) (Maps.keyOf_int_mk Try.underlying3 (wf_i64' HID.out)) trivial
        rw [h1, any_ilits, idsN, List.any_map, hsn.out]; rfl
      go_cut [49] (fun v49 wc => v49 = .bool (!ok) ∧ Aside0 (Below W5.heap.size W5 wc))
      case first =>
        cases hmv : my with
        | false =>
          rw [hmv] at CM HK
          have HV : Aside0 ((!ok) = true) := ⟨by rw [HK.out]; rfl⟩
          clear hmv
          refine wp_region_wide (by kernel_rfl) (by kernel_rfl) ?_
          repeat (go_big_quiet_step ((first | (go_at_call 82; exact wide_of (CM _)) | (go_at_call 51; exact wide_of (CF _)))))
          refine wpQuiet_nil ?_
          rintro w' ⟨x, rfl⟩
          go_wp2
          go_meet
          exact ⟨by rw [HV.out], ⟨wb_below _ x⟩⟩
        | true =>
          rw [hmv] at CM HK
          clear hmv
          by_cases hi0 : i = 0
          · have hi1 : decide (0 < i) = false := by simp [hi0]
            have hi2 : ¬ (0 < i) := by omega
            have HL : Aside0 (lnk = true) := ⟨by rw [hlnk.out, hi0]; rfl⟩
            rw [HL.out] at HK
            clear hi0 HL
            cases hh : hi with
            | false =>
              rw [hh] at HK
              obtain rfl : fp = none := HFP.out.1 hh
              have HV : Aside0 ((!ok) = true) := ⟨by rw [HK.out]; rfl⟩
              clear hh
              refine wp_region_wide (by kernel_rfl) (by kernel_rfl) ?_
              repeat (go_big_quiet_step ((first | (go_at_call 82; exact wide_of (CM _)) | (go_at_call 51; exact wide_of (CF _)))))
              refine wpQuiet_nil ?_
              rintro w' ⟨x, rfl⟩
              go_wp2
              go_meet
              exact ⟨by rw [HV.out], ⟨wb_below _ x⟩⟩
            | true =>
              rw [hh] at HK
              obtain ⟨pa, rfl⟩ := HFP.out.2 hh
              have HV : Aside0 ((!ok) = sn) := ⟨by rw [HK.out]; simp⟩
              clear hh
              refine wp_region_wide (by kernel_rfl) (by kernel_rfl) ?_
              repeat (go_big_quiet_step ((first | (go_at_call 82; exact wide_of (CM _)) | (go_at_call 51; exact wide_of (CF _)))))
              refine wpQuiet_nil ?_
              rintro w' ⟨x, rfl⟩
              go_wp2
              go_meet
              exact ⟨by rw [HV.out], ⟨wb_below _ x⟩⟩
          · obtain ⟨k, rfl⟩ : ∃ k, i = k + 1 := ⟨i - 1, by omega⟩
            clear hi0
            obtain ⟨p, hp⟩ : ∃ p, l[k]? = some p := ⟨_, List.getElem?_eq_getElem (by omega)⟩
            have HL : Aside0 (lnk = sLt p.name m.name) := ⟨by rw [hlnk.out, List.take_add_one, hp]; simp⟩
            obtain ⟨ad', had, d0, d1⟩ := atNm (kNm_cell HN.out (HC.out.trans (Cell.of_below HB5.out))) k p hp
            obtain rfl : ad = ad' := by injection had
            have D0 := wb_cell d0
            have D1 := wb_cell d1
            clear hp had d0 d1
            cases hlv : lnk with
            | false =>
              rw [hlv] at HK HL
              have HV : Aside0 ((!ok) = true) := ⟨by rw [HK.out]; rfl⟩
              have hs2 : Op.bytesLess p.name.toList m.name.toList = false := HL.out.symm
              clear hlv
              refine wp_region_wide (by kernel_rfl) (by kernel_rfl) ?_
              repeat (go_big_quiet_step ((first | (go_at_call 82; exact wide_of (CM _)) | (go_at_call 51; exact wide_of (CF _)))))
              refine wpQuiet_nil ?_
              rintro w' ⟨x, rfl⟩
              go_wp2
              go_meet
              exact ⟨by rw [HV.out], ⟨wb_below _ x⟩⟩
            | true =>
              rw [hlv] at HK HL
              have hs2 := HL.out.symm
              unfold sLt at hs2
              have hs3 : (p.name.toList == m.name.toList) = false := by rw [beq_eq_false_iff_ne]; intro e; rw [e, bytesLess_irrefl] at hs2; cases hs2
              have hs5 : (!Op.bytesLess p.name.toList m.name.toList) = false := by rw [hs2]; rfl
              clear hs3
              clear hlv
              cases hh : hi with
              | false =>
                rw [hh] at HK
                obtain rfl : fp = none := HFP.out.1 hh
                have HV : Aside0 ((!ok) = true) := ⟨by rw [HK.out]; rfl⟩
                clear hh
                refine wp_region_wide (by kernel_rfl) (by kernel_rfl) ?_
                repeat (go_big_quiet_step ((first | (go_at_call 82; exact wide_of (CM _)) | (go_at_call 51; exact wide_of (CF _)))))
                refine wpQuiet_nil ?_
                rintro w' ⟨x, rfl⟩
                go_wp2
                go_meet
                exact ⟨by rw [HV.out], ⟨wb_below _ x⟩⟩
              | true =>
                rw [hh] at HK
                obtain ⟨pa, rfl⟩ := HFP.out.2 hh
                have HV : Aside0 ((!ok) = sn) := ⟨by rw [HK.out]; simp⟩
                clear hh
                refine wp_region_wide (by kernel_rfl) (by kernel_rfl) ?_
                repeat (go_big_quiet_step ((first | (go_at_call 82; exact wide_of (CM _)) | (go_at_call 51; exact wide_of (CF _)))))
                refine wpQuiet_nil ?_
                rintro w' ⟨x, rfl⟩
                go_wp2
                go_meet
                exact ⟨by rw [HV.out], ⟨wb_below _ x⟩⟩
      case rest =>
        obtain ⟨rfl, HB6⟩ := hcut
        have HB7 := Aside0.mk (bthen HB5.out HB6.out)
        have HG7 := Aside0.mk (grown_trans HG.out (Go.Proofs.YtfakfgblaakgdaaW.PrintWords.grown_of_below HB7.out (some b)))
        cases ok with
        | false =>
          have HQ : Aside0 (q = false) := ⟨by rw [hq.out]; exact nmTo_false l HTO.out (by omega)⟩
          clear K0 K1 x1 CM CF LK
          go_wp2
          go_ret
          exact ⟨by rw [HQ.out]; rfl, fun h => (by rw [HQ.out] at h; cases h), HG7.out⟩
        | true =>
          have hc7 : Cell w wc := HC.out.trans (Cell.of_below HB7.out)
          have hbn : some b ≠ some w.heap.size := by intro e; injection e with e; omega
          have hnb : some w.heap.size ≠ some b := fun e => hbn e.symm
          have hcn : wr.heap.size < wc.heap.size := by have := HB6.out.size; have := HZ5.out; omega
          have y1 : wc.cell? ⟨wr.heap.size, 1, none⟩ = some (.int .i64 m.id) := (HB6.out.cell (World.block_lt_of_cell? W5 _ HK1.out)).trans HK1.out
          have hwk := Maps.keyOf_int_mk Try.underlying3 (wf_i64' HID.out)
          have htl : (idsN (l.take i)).length ≤ 1048576 := by rw [idsN, List.length_map, List.length_take]; omega
          have SO : SetL Try.prog 3 4 wc.drew w.heap.size (ilits (idsN (l.take i))) := (HO.out.below HB7.out).drew
          have SB : SetL Try.prog 3 4 wc.drew b (ilits (S ++ idsN (l.take i))) := (HS.out.below HB7.out).drew
          have n1 : (ilits (idsN (l.take i))).length < maxLen := by simp [ilits, maxLen]; omega
          have n2 : (ilits (S ++ idsN (l.take i))).length < maxLen := by simp [ilits, maxLen]; omega
          obtain ⟨wA, runA, SA, gA⟩ := SO.update (t := 116) (Maps.int_keyed Try.underlying3) Try.underlying116 Try.underlying4 n1 hwk trivial
          obtain ⟨wB, runB, SBB, gB⟩ := SB.update (t := 116) (Maps.int_keyed Try.underlying3) Try.underlying116 Try.underlying4 n2 hwk trivial
          obtain ⟨wAB, runAB, SAB, gAB⟩ := (SB.grown gA hbn).update (t := 116) (Maps.int_keyed Try.underlying3) Try.underlying116 Try.underlying4 n2 hwk trivial
          obtain ⟨wBA, runBA, SBA, gBA⟩ := (SO.grown gB hnb).update (t := 116) (Maps.int_keyed Try.underlying3) Try.underlying116 Try.underlying4 n1 hwk trivial
          have a1 : wA.cell? ⟨wr.heap.size, 1, none⟩ = some (.int .i64 m.id) := gA.cell (w := wc.drew) y1 (by simp; omega)
          have b1 : wB.cell? ⟨wr.heap.size, 1, none⟩ = some (.int .i64 m.id) := gB.cell (w := wc.drew) y1 (by simp; omega)
          have y2 : wc.drew.cell? ⟨wr.heap.size, 1, none⟩ = some (.int .i64 m.id) := y1
          have HI1 : Aside0 (ilits (idsN (l.take (i + 1))) = ilits (idsN (l.take i)) ++ [.int .i64 m.id]) := ⟨by rw [List.take_add_one, HM.out]; simp [ilits, idsN]⟩
          have HI2 : Aside0 (ilits (S ++ idsN (l.take (i + 1))) = ilits (S ++ idsN (l.take i)) ++ [.int .i64 m.id]) := ⟨by rw [List.take_add_one, HM.out]; simp [ilits, idsN]⟩
          have EA : Aside0 (SetL Try.prog 3 4 wAB w.heap.size (ilits (idsN (l.take (i + 1)))) ∧ SetL Try.prog 3 4 wAB b (ilits (S ++ idsN (l.take (i + 1)))) ∧ Cell w wAB ∧ w.grownBy wAB (some b) ∧ w.heap.size < wAB.heap.size) := ⟨by
            obtain ⟨e1, k1, h1⟩ := SetL.isMapBlock SO
            obtain ⟨e2, k2, h2⟩ := SetL.isMapBlock (SB.grown gA hbn)
            have z1 := gA.size
            have z2 := gAB.size
            have z0 : wc.drew.heap.size = wc.heap.size := rfl
            exact ⟨by rw [HI1.out]; exact SA.grown gAB hnb, by rw [HI2.out]; exact SAB, hc7.trans ((Cell.of_map (w := wc.drew) h1 gA).trans (Cell.of_map h2 gAB)), grown_trans (grown_of_new (grown_drew HG7.out) gA) gAB, by omega⟩⟩
          have EB : Aside0 (SetL Try.prog 3 4 wBA w.heap.size (ilits (idsN (l.take (i + 1)))) ∧ SetL Try.prog 3 4 wBA b (ilits (S ++ idsN (l.take (i + 1)))) ∧ Cell w wBA ∧ w.grownBy wBA (some b) ∧ w.heap.size < wBA.heap.size) := ⟨by
            obtain ⟨e1, k1, h1⟩ := SetL.isMapBlock SB
            obtain ⟨e2, k2, h2⟩ := SetL.isMapBlock (SO.grown gB hnb)
            have z1 := gB.size
            have z2 := gBA.size
            have z0 : wc.drew.heap.size = wc.heap.size := rfl
            exact ⟨by rw [HI1.out]; exact SBA, by rw [HI2.out]; exact SBB.grown gBA hbn, hc7.trans ((Cell.of_map (w := wc.drew) h1 gB).trans (Cell.of_map h2 gBA)), grown_of_new (grown_trans (grown_drew HG7.out) gB) gBA, by omega⟩⟩
          clear K0 K1 x1 CM CF LK SO SB SA SBB SAB SBA gA gB gAB gBA hc7 n1 n2 hwk htl
          go_wp2_with fail
          go_region
          all_goals go_wp2
          all_goals go_roundg (l.length - (i + 1))
          all_goals first
            | (guard_target =~ (_ : Nat) < _; omega)
            | exact ⟨i + 1, by go_num, by omega, HTO, ⟨EA.out.1⟩, ⟨EA.out.2.1⟩, ⟨EA.out.2.2.1⟩, ⟨EA.out.2.2.2.1⟩, EA.out.2.2.2.2⟩
            | exact ⟨i + 1, by go_num, by omega, HTO, ⟨EB.out.1⟩, ⟨EB.out.2.1⟩, ⟨EB.out.2.2.1⟩, ⟨EB.out.2.2.2.1⟩, EB.out.2.2.2.2⟩
    · have hi : Aside0 (l.take i = l) := ⟨List.take_of_length_le (by omega)⟩
      have hil : i = l.length := by omega
      have HQ : Aside0 (q = true) := ⟨by rw [hq.out, namesOk, ← hil]; exact HT.out⟩
      have hlt' : ¬ ((i : Int) < l.length) := by omega
      clear hil
      go_wp2
      go_ret
      exact ⟨by rw [HQ.out]; rfl, fun _ => by rw [← hi.out]; exact HS.out, HG.out⟩
end Go.Proofs.Ytfakfgblaakgdaa.Files
