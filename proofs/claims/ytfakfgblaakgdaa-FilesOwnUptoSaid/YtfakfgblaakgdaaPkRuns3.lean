/- A part of the proof: files: may a list of names be: walked. -/
import Derived.Test.YtfakfgblaakgdaaPkRuns2
import Derived.Deep.RegionLaw
import Derived.Laws.Strings
import Derived.Laws.IdiomCopy
import Derived.Lib.SliceRun

/- files: may a list of names be: walked. -/
namespace Go.Proofs.Ytfakfgblaakgdaa.Files
set_option linter.unusedVariables false
set_option linter.unusedSimpArgs false
open Go.RowKit Go.Proofs.YtfakfgblaakgdaaW.PrintWords Go.Proofs.YtfakfgblaakgdaaW.PrintLast Go.Proofs.Ytfakfgblaakgdaa.Base Go.Proofs.Ytfakfgblaakgdaa.Cells Go.Proofs.Ytfakfgblaakgdaa.Ints Go.Proofs.Ytfakfgblaakgdaa.Var Go.Proofs.Ytfakfgblaakgdaa.EditPure Go.Proofs.Ytfakfgblaakgdaa.Edit Go.Proofs.Ytfakfgblaakgdaa.Sets Go.Proofs.Ytfakfgblaakgdaa.Wide

/-- every cell stands -/
def Cell (w w1 : World) : Prop := ∀ a v, w.cell? a = some v → w1.cell? a = some v
theorem Cell.refl (w : World) : Cell w w := fun _ _ h => h
theorem Cell.trans {a b c : World} (h : Cell a b) (k : Cell b c) : Cell a c := fun x v hv => k x v (h x v hv)
theorem Cell.of_below {w w1 : World} (h : Below w.heap.size w w1) : Cell w w1 := fun a v hv => (h.cell (World.block_lt_of_cell? w a hv)).trans hv
theorem Cell.of_map {w w1 : World} {b : Nat} {es : Array MapEntry} {k : Nat} (hm : w.heap[b]? = some (.map es k)) (hg : w.grownBy w1 (some b)) : Cell w w1 := fun a v hv => by
  by_cases hb : a.block = b
  · exfalso
    subst hb
    unfold World.cell? at hv
    rw [hm] at hv
    cases hv
  · exact hg.cell hv (by intro e; injection e with e; exact hb e)
theorem SetL.isMapBlock {P : Program} {k e : TypeId} {w : World} {b : Nat} {l : List Lit} (h : SetL P k e w b l) : ∃ es c, w.heap[b]? = some (.map es c) := by
  obtain ⟨es, c, h1, _⟩ := h.1
  exact ⟨es, c, h1⟩
theorem readsInt_cell {w w1 : World} {k : IntKind} {A : Option Addr} {n : Nat} {xs : List Int} (h : ReadsInt w k A n xs) (hc : Cell w w1) : ReadsInt w1 k A n xs :=
  ⟨h.1, h.2.1, fun hn => by obtain ⟨ad, e, hh⟩ := h.2.2 hn; exact ⟨ad, e, fun j hj => hc _ _ (hh j hj)⟩⟩
theorem kFl_cell {w w1 : World} {A : Option Addr} {n : Nat} {xs : List Fl} (h : kFl.C w A n xs) (hc : Cell w w1) : kFl.C w1 A n xs := by
  refine ⟨h.1, h.2.1, fun hn => ?_⟩
  obtain ⟨ad, e, hh⟩ := h.2.2 hn
  refine ⟨ad, e, fun j p hj => ?_⟩
  obtain ⟨c, h1, h2, h3⟩ := hh j p hj
  obtain ⟨D, dc, rfl, h4, h5⟩ := kFl_open h2
  exact ⟨_, h1, kFl_mk h4 (readsInt_cell h5 hc), fun i u hu => hc _ _ (h3 i u hu)⟩
theorem kNm_cell {w w1 : World} {A : Option Addr} {n : Nat} {xs : List Nm} (h : kNm.C w A n xs) (hc : Cell w w1) : kNm.C w1 A n xs := by
  refine ⟨h.1, h.2.1, fun hn => ?_⟩
  obtain ⟨ad, e, hh⟩ := h.2.2 hn
  refine ⟨ad, e, fun j p hj => ?_⟩
  obtain ⟨c, h1, h2, h3⟩ := hh j p hj
  obtain rfl := kNm_open h2
  exact ⟨_, h1, kNm_mk _ p, fun i u hu => hc _ _ (h3 i u hu)⟩

/-- of a name behind others: what a list that may be asks of it -/
def nmOk (files : List Fl) (pre : List Nm) (n : Nm) : Bool :=
  mayF n.name && ((match pre.getLast? with | none => true | some p => sLt p.name n.name) && (hasId files n.id && !(pre.any fun x => x.id == n.id)))
def nmTo (files : List Fl) (l : List Nm) : Nat → Bool
  | 0 => true
  | i + 1 => nmTo files l i && nmOk files (l.take i) (l.getD i zNm)
/-- may a list of names be -/
def namesOk (files : List Fl) (l : List Nm) : Bool := nmTo files l l.length
theorem nmTo_false {files : List Fl} (l : List Nm) {i : Nat} (h : nmTo files l i = false) {n : Nat} (hn : i ≤ n) : nmTo files l n = false := by
  induction n with
  | zero => obtain rfl : i = 0 := by omega
            exact h
  | succ n ih =>
    by_cases e : i = n + 1
    · subst e; exact h
    · rw [nmTo, ih (by omega), Bool.false_and]
theorem fileP_some {w : World} {F : Option Addr} {l : List Fl} {x : Int} {n : Nat} (hr : kFl.C w F n l) (h : hasId l x = true) : ∃ a, fileP F l x = some a := by
  obtain ⟨f, hf, hx⟩ := List.any_eq_true.1 h
  obtain ⟨k, hk⟩ := List.mem_iff_getElem?.1 hf
  obtain ⟨ad, _, _, rfl, _⟩ := atFl hr k f hk
  cases hq : l.findIdx? (fun f => f.id == x) with
  | none =>
    rw [List.findIdx?_eq_none_iff] at hq
    have := hq f hf
    rw [this] at hx; cases hx
  | some r => exact ⟨_, by rw [fileP, hq]; rfl⟩
/-- the numbers of names -/
def idsN (l : List Nm) : List Int := l.map (·.id)

theorem grown_of_new {w a c : World} {r : Option Nat} (h : w.grownBy a r) (k : a.grownBy c (some w.heap.size)) : w.grownBy c r :=
  ⟨k.os.trans h.os, k.tape.trans h.tape, k.output.trans h.output, Nat.le_trans h.size k.size, fun i hi hr => (k.block i (Nat.lt_of_lt_of_le hi h.size) (by intro e; injection e with e; omega)).trans (h.block i hi hr)⟩
theorem geq_bytes (a b : List UInt8) : (Op.bytesLess b a || a == b) = !Op.bytesLess a b := by
  have := leq_bytes b a
  rw [← this]
  congr 1
  rw [Bool.eq_iff_iff]
  simp only [beq_iff_eq]
  exact eq_comm

theorem bytesLess_irrefl (a : List UInt8) : Op.bytesLess a a = false := by
  cases h : Op.bytesLess a a with
  | false => rfl
  | true => have := bytesLess_asymm _ _ h; rw [h] at this; cases this

set_option maxRecDepth 100000 in
set_option maxHeartbeats 4000000 in
theorem namesF_any (g b : Nat) (F N : Option Addr) (fc nc : Nat) (files : List Fl) (l : List Nm) (S : List Int) (w : World) (hx : w.cell? ⟨g, 1, none⟩ = some (.slice F files.length fc)) (hr : kFl.C w F files.length files) (hf : files.length ≤ 1048576) (ha : Asc files)
    (hn : kNm.C w N l.length l) (hl : l.length ≤ 1048576) (hw : ∀ n ∈ l, inI64 n.id) (hS : SetL Try.prog 3 4 w b (ilits S)) (hSl : S.length ≤ 1048576) :
    Calls Try.prog 58 #[.pointer (some ⟨g, 0, none⟩), .slice N l.length nc, .map (some b)] w fun e w' => e = .returned (.bool (namesOk files l)) ∧ (namesOk files l = true → SetL Try.prog 3 4 w' b (ilits (S ++ idsN l))) ∧ w.grownBy w' (some b) := by
  have HR := Aside0.mk hr
  have HN := Aside0.mk hn
  have HA := Aside0.mk ha
  have HW := Aside0.mk hw
  have HX := Aside0.mk hx
  obtain ⟨es0, k0, hmap⟩ := SetL.isMapBlock hS
  have HMAP := Aside0.mk hmap
  have hbw : b < w.heap.size := hS.lt
  have HS0 : Aside0 (SetL Try.prog 3 4 w b (ilits S)) := ⟨hS⟩
  obtain ⟨q, hq⟩ := named (namesOk files l)
  rw [← hq.out]
  clear hr hn ha hw hx hS hmap
  have hmm := @run_makeMap Try.prog
  go_enter Try.func58, Try.ntmps58
  go_wp2
  go_loopg [13] l.length (fun gk v13 wr => ∃ i : Nat, v13 = .int .i64 i ∧ gk + i = l.length ∧ Aside0 (nmTo files l i = true) ∧ Aside0 (SetL Try.prog 3 4 wr w.heap.size (ilits (idsN (l.take i)))) ∧ Aside0 (SetL Try.prog 3 4 wr b (ilits (S ++ idsN (l.take i)))) ∧ Aside0 (Cell w wr) ∧ Aside0 (w.grownBy wr (some b)) ∧ w.heap.size < wr.heap.size)
  case atStart => exact ⟨0, rfl, by omega, ⟨rfl⟩, ⟨SetL.made w _ _ _⟩, ⟨by have := HS0.out.alloc (.map #[] 0); simpa [idsN] using this⟩, ⟨Cell.of_below (below_alloc (Below.refl _ _) _)⟩, ⟨grown_alloc (grown_refl _ _) _⟩, by simp⟩
  case round =>
    obtain ⟨i, rfl, hg, HT, HO, HS, HC, HG, hsz⟩ := hrel
    by_cases hlt : i < l.length
    · have hlt' : (i : Int) < l.length := by omega
      obtain ⟨m, hm⟩ : ∃ m, l[i]? = some m := ⟨_, List.getElem?_eq_getElem hlt⟩
      obtain ⟨ad, rfl, c0, c1⟩ := atNm (kNm_cell HN.out HC.out) i m hm
      have hgd : l.getD i zNm = m := by rw [List.getD_eq_getElem?_getD, hm]; rfl
      have HM := Aside0.mk hm
      have hxr := HC.out _ _ HX.out
      have hid : inI64 m.id := HW.out m (List.mem_of_getElem? hm)
      have HID := Aside0.mk hid
      have hto : nmTo files l (i + 1) = nmOk files (l.take i) m := by rw [nmTo, HT.out, hgd, Bool.true_and]
      obtain ⟨ok, hok⟩ := named (nmOk files (l.take i) m)
      rw [← hok.out] at hto
      have HTO := Aside0.mk hto
      clear hm hto hgd hid
      go_upto_region 5 with (fail)
      obtain ⟨W5, hW5⟩ : ∃ W5, W5 = wr.alloc (.cells #[.string m.name, .int .i64 m.id] 81) := ⟨_, rfl⟩
      have k0 : W5.cell? ⟨wr.heap.size, 0, none⟩ = some (.string m.name) := by rw [hW5]; exact new_cell _ _ _ 0 _ rfl
      have k1 : W5.cell? ⟨wr.heap.size, 1, none⟩ = some (.int .i64 m.id) := by rw [hW5]; exact new_cell _ _ _ 1 _ rfl
      have HB5 : Aside0 (Below wr.heap.size wr W5) := ⟨by rw [hW5]; exact below_alloc (Below.refl _ _) _⟩
      have HZ5 : Aside0 (W5.heap.size = wr.heap.size + 1) := ⟨by rw [hW5]; simp⟩
      have K0 := wb_cell k0
      have K1 := wb_cell k1
      have x1 := (HB5.out.cell (World.block_lt_of_cell? wr _ hxr)).trans hxr
      have HK0 := Aside0.mk k0
      have HK1 := Aside0.mk k1
      rw [← hW5]
      clear hW5 hxr c0 c1 k0 k1
      obtain ⟨my, hmy⟩ := named (mayF m.name)
      obtain ⟨hi, hhi⟩ := named (hasId files m.id)
      obtain ⟨sn, hsn⟩ := named ((l.take i).any fun x => x.id == m.id)
      obtain ⟨fp, hfp⟩ := named (fileP F files m.id)
      have HFP : Aside0 ((hi = false → fp = none) ∧ (hi = true → ∃ a, fp = some a)) := ⟨⟨fun h => by rw [hfp.out]; exact fileP_none (by rw [← hhi.out]; exact h), fun h => by rw [hfp.out]; exact fileP_some HR.out (by rw [← hhi.out]; exact h)⟩⟩
      obtain ⟨lnk, hlnk⟩ := named (match (l.take i).getLast? with | none => true | some p => sLt p.name m.name)
      have HK : Aside0 (ok = (my && (lnk && (hi && !sn)))) := ⟨by rw [hok.out, nmOk, hmy.out, hhi.out, hsn.out, hlnk.out]⟩
      have CM : ∀ W, Calls Try.prog 82 #[.string m.name] W fun e w' => e = .returned (.bool my) ∧ Below W.heap.size W w' := fun W => by rw [hmy.out]; exact may_any m.name W
      have CF : ∀ x : Later W5, Calls Try.prog 51 #[.pointer (some ⟨g, 0, none⟩), .int .i64 m.id] (wb W5 x) fun e w' => e = .returned (.pointer fp) ∧ Below (wb W5 x).heap.size (wb W5 x) w' := fun x => by
        rw [hfp.out]
        exact file_any g F fc files m.id _ ((wb_below _ x).cell (World.block_lt_of_cell? W5 _ x1) |>.trans x1) (kFl_cell HR.out (HC.out.trans (Cell.of_below (bthen HB5.out (wb_below _ x))))) hf HA.out
      have LK : ∀ x : Later W5, (Instr.lookup 116 (.map (some w.heap.size)) (.int .i64 m.id) false).run Try.prog (wb W5 x) = .ok (.bool sn) (wb W5 x) := fun x => by
        have h1 := (HO.out.below (bthen HB5.out (wb_below _ x))).lookup (t := 116) (Maps.int_keyed Try.underlying3) Try.underlying116 Try.underlying4 (zeroBool _) (Maps.keyOf_int_mk Try.underlying3 (wf_i64' HID.out)) trivial
        rw [h1, any_ilits, idsN, List.any_map, hsn.out]; rfl
      go_cut [49] (fun v49 wc => v49 = .bool (!ok) ∧ Aside0 (Below W5.heap.size W5 wc))
      case first =>
        cases hmv : my with
        | false =>
          rw [hmv] at CM HK
          have HV : Aside0 ((!ok) = true) := ⟨by rw [HK.out]; rfl⟩
          clear hmv
          refine wp_region_wide (by kernel_rfl) (by kernel_rfl) ?_
          repeat (go_big_quiet_step ((first | (go_at_call 82; exact wide_of (CM _)) | (go_at_call 51; exact wide_of (CF _)))))
          refine wpQuiet_nil ?_
          rintro w' ⟨x, rfl⟩
          go_wp2
          go_meet
          exact ⟨by rw [HV.out], ⟨wb_below _ x⟩⟩
        | true =>
          rw [hmv] at CM HK
          clear hmv
          by_cases hi0 : i = 0
          · have hi1 : decide (0 < i) = false := by simp [hi0]
            have hi2 : ¬ (0 < i) := by omega
            have HL : Aside0 (lnk = true) := ⟨by rw [hlnk.out, hi0]; rfl⟩
            rw [HL.out] at HK
            clear hi0 HL
            cases hh : hi with
            | false =>
              rw [hh] at HK
              obtain rfl : fp = none := HFP.out.1 hh
              have HV : Aside0 ((!ok) = true) := ⟨by rw [HK.out]; rfl⟩
              clear hh
              refine wp_region_wide (by kernel_rfl) (by kernel_rfl) ?_
              repeat (go_big_quiet_step ((first | (go_at_call 82; exact wide_of (CM _)) | (go_at_call 51; exact wide_of (CF _)))))
              refine wpQuiet_nil ?_
              rintro w' ⟨x, rfl⟩
              go_wp2
              go_meet
              exact ⟨by rw [HV.out], ⟨wb_below _ x⟩⟩
            | true =>
              rw [hh] at HK
              obtain ⟨pa, rfl⟩ := HFP.out.2 hh
              have HV : Aside0 ((!ok) = sn) := ⟨by rw [HK.out]; simp⟩
              clear hh
              refine wp_region_wide (by kernel_rfl) (by kernel_rfl) ?_
              repeat (go_big_quiet_step ((first | (go_at_call 82; exact wide_of (CM _)) | (go_at_call 51; exact wide_of (CF _)))))
              refine wpQuiet_nil ?_
              rintro w' ⟨x, rfl⟩
              go_wp2
              go_meet
              exact ⟨by rw [HV.out], ⟨wb_below _ x⟩⟩
          · obtain ⟨k, rfl⟩ : ∃ k, i = k + 1 := ⟨i - 1, by omega⟩
            clear hi0
            obtain ⟨p, hp⟩ : ∃ p, l[k]? = some p := ⟨_, List.getElem?_eq_getElem (by omega)⟩
            have HL : Aside0 (lnk = sLt p.name m.name) := ⟨by rw [hlnk.out, List.take_add_one, hp]; simp⟩
            obtain ⟨ad', had, d0, d1⟩ := atNm (kNm_cell HN.out (HC.out.trans (Cell.of_below HB5.out))) k p hp
            obtain rfl : ad = ad' := by injection had
            have D0 := wb_cell d0
            have D1 := wb_cell d1
            clear hp had d0 d1
            cases hlv : lnk with
            | false =>
              rw [hlv] at HK HL
              have HV : Aside0 ((!ok) = true) := ⟨by rw [HK.out]; rfl⟩
              have hs2 : Op.bytesLess p.name.toList m.name.toList = false := HL.out.symm
              clear hlv
              refine wp_region_wide (by kernel_rfl) (by kernel_rfl) ?_
              repeat (go_big_quiet_step ((first | (go_at_call 82; exact wide_of (CM _)) | (go_at_call 51; exact wide_of (CF _)))))
              refine wpQuiet_nil ?_
              rintro w' ⟨x, rfl⟩
              go_wp2
              go_meet
              exact ⟨by rw [HV.out], ⟨wb_below _ x⟩⟩
            | true =>
              rw [hlv] at HK HL
              have hs2 := HL.out.symm
              unfold sLt at hs2
              have hs3 : (p.name.toList == m.name.toList) = false := by rw [beq_eq_false_iff_ne]; intro e; rw [e, bytesLess_irrefl] at hs2; cases hs2
              have hs5 : (!Op.bytesLess p.name.toList m.name.toList) = false := by rw [hs2]; rfl
              clear hs3
              clear hlv
              cases hh : hi with
              | false =>
                rw [hh] at HK
                obtain rfl : fp = none := HFP.out.1 hh
                have HV : Aside0 ((!ok) = true) := ⟨by rw [HK.out]; rfl⟩
                clear hh
                refine wp_region_wide (by kernel_rfl) (by kernel_rfl) ?_
                repeat (go_big_quiet_step ((first | (go_at_call 82; exact wide_of (CM _)) | (go_at_call 51; exact wide_of (CF _)))))
                refine wpQuiet_nil ?_
                rintro w' ⟨x, rfl⟩
                go_wp2
                go_meet
                exact ⟨by rw [HV.out], ⟨wb_below _ x⟩⟩
              | true =>
                rw [hh] at HK
                obtain ⟨pa, rfl⟩ := HFP.out.2 hh
                have HV : Aside0 ((!ok) = sn) := ⟨by rw [HK.out]; simp⟩
                clear hh
                refine wp_region_wide (by kernel_rfl) (by kernel_rfl) ?_
                repeat (go_big_quiet_step ((first | (go_at_call 82; exact wide_of (CM _)) | (go_at_call 51; exact wide_of (CF _)))))
                refine wpQuiet_nil ?_
                rintro w' ⟨x, rfl⟩
                go_wp2
                go_meet
                exact ⟨by rw [HV.out], ⟨wb_below _ x⟩⟩
      case rest =>
        obtain ⟨rfl, HB6⟩ := hcut
        have HB7 := Aside0.mk (bthen HB5.out HB6.out)
        have HG7 := Aside0.mk (grown_trans HG.out (Go.Proofs.YtfakfgblaakgdaaW.PrintWords.grown_of_below HB7.out (some b)))
        cases ok with
        | false =>
          have HQ : Aside0 (q = false) := ⟨by rw [hq.out]; exact nmTo_false l HTO.out (by omega)⟩
          clear K0 K1 x1 CM CF LK
          go_wp2
          go_ret
          exact ⟨by rw [HQ.out]; rfl, fun h => (by rw [HQ.out] at h; cases h), HG7.out⟩
        | true =>
          have hc7 : Cell w wc := HC.out.trans (Cell.of_below HB7.out)
          have hbn : some b ≠ some w.heap.size := by intro e; injection e with e; omega
          have hnb : some w.heap.size ≠ some b := fun e => hbn e.symm
          have hcn : wr.heap.size < wc.heap.size := by have := HB6.out.size; have := HZ5.out; omega
          have y1 : wc.cell? ⟨wr.heap.size, 1, none⟩ = some (.int .i64 m.id) := (HB6.out.cell (World.block_lt_of_cell? W5 _ HK1.out)).trans HK1.out
          have hwk := Maps.keyOf_int_mk Try.underlying3 (wf_i64' HID.out)
          have htl : (idsN (l.take i)).length ≤ 1048576 := by rw [idsN, List.length_map, List.length_take]; omega
          have SO : SetL Try.prog 3 4 wc.drew w.heap.size (ilits (idsN (l.take i))) := (HO.out.below HB7.out).drew
          have SB : SetL Try.prog 3 4 wc.drew b (ilits (S ++ idsN (l.take i))) := (HS.out.below HB7.out).drew
          have n1 : (ilits (idsN (l.take i))).length < maxLen := by simp [ilits, maxLen]; omega
          have n2 : (ilits (S ++ idsN (l.take i))).length < maxLen := by simp [ilits, maxLen]; omega
          obtain ⟨wA, runA, SA, gA⟩ := SO.update (t := 116) (Maps.int_keyed Try.underlying3) Try.underlying116 Try.underlying4 n1 hwk trivial
          obtain ⟨wB, runB, SBB, gB⟩ := SB.update (t := 116) (Maps.int_keyed Try.underlying3) Try.underlying116 Try.underlying4 n2 hwk trivial
          obtain ⟨wAB, runAB, SAB, gAB⟩ := (SB.grown gA hbn).update (t := 116) (Maps.int_keyed Try.underlying3) Try.underlying116 Try.underlying4 n2 hwk trivial
          obtain ⟨wBA, runBA, SBA, gBA⟩ := (SO.grown gB hnb).update (t := 116) (Maps.int_keyed Try.underlying3) Try.underlying116 Try.underlying4 n1 hwk trivial
          have a1 : wA.cell? ⟨wr.heap.size, 1, none⟩ = some (.int .i64 m.id) := gA.cell (w := wc.drew) y1 (by simp; omega)
          have b1 : wB.cell? ⟨wr.heap.size, 1, none⟩ = some (.int .i64 m.id) := gB.cell (w := wc.drew) y1 (by simp; omega)
          have y2 : wc.drew.cell? ⟨wr.heap.size, 1, none⟩ = some (.int .i64 m.id) := y1
          have HI1 : Aside0 (ilits (idsN (l.take (i + 1))) = ilits (idsN (l.take i)) ++ [.int .i64 m.id]) := ⟨by rw [List.take_add_one, HM.out]; simp [ilits, idsN]⟩
          have HI2 : Aside0 (ilits (S ++ idsN (l.take (i + 1))) = ilits (S ++ idsN (l.take i)) ++ [.int .i64 m.id]) := ⟨by rw [List.take_add_one, HM.out]; simp [ilits, idsN]⟩
          have EA : Aside0 (SetL Try.prog 3 4 wAB w.heap.size (ilits (idsN (l.take (i + 1)))) ∧ SetL Try.prog 3 4 wAB b (ilits (S ++ idsN (l.take (i + 1)))) ∧ Cell w wAB ∧ w.grownBy wAB (some b) ∧ w.heap.size < wAB.heap.size) := ⟨by
            obtain ⟨e1, k1, h1⟩ := SetL.isMapBlock SO
            obtain ⟨e2, k2, h2⟩ := SetL.isMapBlock (SB.grown gA hbn)
            have z1 := gA.size
            have z2 := gAB.size
            have z0 : wc.drew.heap.size = wc.heap.size := rfl
            exact ⟨by rw [HI1.out]; exact SA.grown gAB hnb, by rw [HI2.out]; exact SAB, hc7.trans ((Cell.of_map (w := wc.drew) h1 gA).trans (Cell.of_map h2 gAB)), grown_trans (grown_of_new (grown_drew HG7.out) gA) gAB, by omega⟩⟩
          have EB : Aside0 (SetL Try.prog 3 4 wBA w.heap.size (ilits (idsN (l.take (i + 1)))) ∧ SetL Try.prog 3 4 wBA b (ilits (S ++ idsN (l.take (i + 1)))) ∧ Cell w wBA ∧ w.grownBy wBA (some b) ∧ w.heap.size < wBA.heap.size) := ⟨by
            obtain ⟨e1, k1, h1⟩ := SetL.isMapBlock SB
            obtain ⟨e2, k2, h2⟩ := SetL.isMapBlock (SO.grown gB hnb)
            have z1 := gB.size
            have z2 := gBA.size
            have z0 : wc.drew.heap.size = wc.heap.size := rfl
            exact ⟨by rw [HI1.out]; exact SBA, by rw [HI2.out]; exact SBB.grown gBA hbn, hc7.trans ((Cell.of_map (w := wc.drew) h1 gB).trans (Cell.of_map h2 gBA)), grown_of_new (grown_trans (grown_drew HG7.out) gB) gBA, by omega⟩⟩
          clear K0 K1 x1 CM CF LK SO SB SA SBB SAB SBA gA gB gAB gBA hc7 n1 n2 hwk htl
          go_wp2_with fail
          go_region
          all_goals go_wp2
          all_goals go_roundg (l.length - (i + 1))
          all_goals first
            | (guard_target =~ (_ : Nat) < _; omega)
            | exact ⟨i + 1, by go_num, by omega, HTO, ⟨EA.out.1⟩, ⟨EA.out.2.1⟩, ⟨EA.out.2.2.1⟩, ⟨EA.out.2.2.2.1⟩, EA.out.2.2.2.2⟩
            | exact ⟨i + 1, by go_num, by omega, HTO, ⟨EB.out.1⟩, ⟨EB.out.2.1⟩, ⟨EB.out.2.2.1⟩, ⟨EB.out.2.2.2.1⟩, EB.out.2.2.2.2⟩
    · have hi : Aside0 (l.take i = l) := ⟨List.take_of_length_le (by omega)⟩
      have hil : i = l.length := by omega
      have HQ : Aside0 (q = true) := ⟨by rw [hq.out, namesOk, ← hil]; exact HT.out⟩
      have hlt' : ¬ ((i : Int) < l.length) := by omega
      clear hil
      go_wp2
      go_ret
      exact ⟨by rw [HQ.out]; rfl, fun _ => by rw [← hi.out]; exact HS.out, HG.out⟩
end Go.Proofs.Ytfakfgblaakgdaa.Files

/- Texts compared; lists of names in order; what an act makes of files: plain data. No program. -/
namespace Go.Proofs.Ytfakfgblaakgdaa.Files
set_option linter.unusedVariables false
set_option linter.unusedSimpArgs false
open Go.RowKit Go.Proofs.YtfakfgblaakgdaaW.PrintWords Go.Proofs.YtfakfgblaakgdaaW.PrintLast Go.Proofs.Ytfakfgblaakgdaa.Base Go.Proofs.Ytfakfgblaakgdaa.Cells Go.Proofs.Ytfakfgblaakgdaa.EditPure Go.Proofs.Ytfakfgblaakgdaa.Edit

theorem bytesLess_neg : ∀ (a b c : List UInt8), Op.bytesLess b a = false → Op.bytesLess c b = false → Op.bytesLess c a = false
  | [], _, [], _, _ => by simp [Op.bytesLess]
  | _ :: _, [], [], h, _ => by simp [Op.bytesLess] at h
  | _ :: _, _ :: _, [], _, h => by simp [Op.bytesLess] at h
  | [], _, _ :: _, _, _ => by simp [Op.bytesLess]
  | _ :: _, [], _ :: _, h, _ => by simp [Op.bytesLess] at h
  | a :: x, b :: y, c :: z, h, k => by
    simp only [Op.bytesLess, Bool.or_eq_false_iff, decide_eq_false_iff_not, Bool.and_eq_false_iff, beq_eq_false_iff_ne] at h k ⊢
    obtain ⟨h1, h2⟩ := h
    obtain ⟨k1, k2⟩ := k
    rw [UInt8.lt_iff_toNat_lt] at h1 k1 ⊢
    refine ⟨by omega, ?_⟩
    by_cases e : c = a
    · subst e
      have e2 : b = c := UInt8.toNat_inj.1 (by omega)
      subst e2
      exact .inr (bytesLess_neg x y z (h2.resolve_left (fun h => h rfl)) (k2.resolve_left (fun h => h rfl)))
    · exact .inl e
def sameB (y s : ByteArray) : Bool := y.data.toList == s.data.toList
theorem sameB_iff {y s : ByteArray} : sameB y s = true ↔ y = s := by
  unfold sameB
  rw [beq_iff_eq]
  constructor
  · intro h
    obtain ⟨⟨y⟩⟩ := y
    obtain ⟨⟨s⟩⟩ := s
    simp at h
    rw [h]
  · intro h; rw [h]
theorem sameB_not {y s : ByteArray} : sameB y s = false ↔ y ≠ s := by
  rw [← Bool.not_eq_true, sameB_iff]
theorem sameB_list (y s : ByteArray) : (y.toList == s.toList) = sameB y s := by rw [ByteArray.toList_eq, ByteArray.toList_eq]; rfl
theorem toList_inj {a b : ByteArray} (h : a.toList = b.toList) : a = b := sameB_iff.1 (by rw [← sameB_list, beq_iff_eq]; exact h)
theorem sLt_asymm {a b : ByteArray} (h : sLt a b = true) : sLt b a = false := bytesLess_asymm _ _ h
theorem sLt_irrefl (a : ByteArray) : sLt a a = false := bytesLess_irrefl _
theorem sLt_total {a b : ByteArray} (h : sLt a b = false) (k : sLt b a = false) : a = b := toList_inj (bytesLess_total _ _ h k)
theorem sLt_trans {a b c : ByteArray} (h : sLt a b = true) (k : sLt b c = true) : sLt a c = true := by
  cases h1 : sLt a c with
  | true => rfl
  | false =>
    have h2 : Op.bytesLess a.toList b.toList = false := bytesLess_neg b.toList c.toList a.toList (sLt_asymm k) h1
    rw [sLt, h2] at h; cases h
theorem sLt_ne {a b : ByteArray} (h : sLt a b = true) : a ≠ b := by intro e; rw [e, sLt_irrefl] at h; cases h

/-- names in order -/
def AscN (l : List Nm) : Prop := l.Pairwise (fun a b => sLt a.name b.name = true)
theorem AscN.lt {l : List Nm} (h : AscN l) {i j : Nat} {a b : Nm} (hij : i < j) (ha : l[i]? = some a) (hb : l[j]? = some b) : sLt a.name b.name = true := by
  obtain ⟨h1, rfl⟩ := List.getElem?_eq_some_iff.1 ha
  obtain ⟨h2, rfl⟩ := List.getElem?_eq_some_iff.1 hb
  exact List.pairwise_iff_getElem.1 h i j h1 h2 hij
def PlaceN (l : List Nm) (s : ByteArray) (r : Nat) : Prop := r ≤ l.length ∧ (∀ k f, l[k]? = some f → k < r → sLt f.name s = true) ∧ (∀ k f, l[k]? = some f → r ≤ k → sLt f.name s = false)
def hasN (l : List Nm) (s : ByteArray) : Bool := l.any (fun n => sameB n.name s)
theorem hasN_place {l : List Nm} {x : ByteArray} {r : Nat} (ha : AscN l) (h : PlaceN l x r) : hasN l x = (match l[r]? with | none => false | some f => sameB f.name x) := by
  rw [Bool.eq_iff_iff]
  constructor
  · intro h1
    obtain ⟨f, hf, hx⟩ := List.any_eq_true.1 h1
    have hx' : f.name = x := sameB_iff.1 hx
    obtain ⟨k, hk⟩ := List.mem_iff_getElem?.1 hf
    have hkr : r ≤ k := by
      rcases Nat.lt_or_ge k r with hlt | hge
      · have := h.2.1 k f hk hlt; rw [hx', sLt_irrefl] at this; cases this
      · exact hge
    rcases Nat.eq_or_lt_of_le hkr with rfl | hlt
    · rw [hk]; exact hx
    · have hkl := (List.getElem?_eq_some_iff.1 hk).1
      have hr : l[r]? = some (l[r]'(by omega)) := List.getElem?_eq_getElem (by omega)
      have h2 := ha.lt hlt hr hk
      have h3 := h.2.2 r _ hr (Nat.le_refl _)
      rw [hx'] at h2; rw [h2] at h3; cases h3
  · intro h1
    cases hr : l[r]? with
    | none => rw [hr] at h1; simp at h1
    | some f =>
      rw [hr] at h1
      exact List.any_eq_true.2 ⟨f, List.mem_of_getElem? hr, h1⟩
/-- names, and x in its place (instead of one of that name) -/
def giveN (l : List Nm) (x : Nm) : List Nm := l.filter (fun n => sLt n.name x.name) ++ x :: l.filter (fun n => sLt x.name n.name)
def withoutN (l : List Nm) (s : ByteArray) : List Nm := l.filter (fun n => !sameB n.name s)
theorem take_place {l : List Nm} {s : ByteArray} {r : Nat} (h : PlaceN l s r) : l.take r = l.filter (fun n => sLt n.name s) := by
  have h1 : (l.take r).filter (fun n => sLt n.name s) = l.take r := by
    rw [List.filter_eq_self]
    intro n hn
    obtain ⟨k, hk⟩ := List.mem_iff_getElem?.1 hn
    rw [List.getElem?_take] at hk
    split at hk
    · exact h.2.1 k n hk (by assumption)
    · cases hk
  have h2 : (l.drop r).filter (fun n => sLt n.name s) = [] := by
    rw [List.filter_eq_nil_iff]
    intro n hn
    obtain ⟨k, hk⟩ := List.mem_iff_getElem?.1 hn
    rw [List.getElem?_drop] at hk
    rw [h.2.2 (r + k) n hk (by omega)]; decide
  calc l.take r = (l.take r).filter (fun n => sLt n.name s) ++ (l.drop r).filter (fun n => sLt n.name s) := by rw [h1, h2, List.append_nil]
    _ = l.filter (fun n => sLt n.name s) := by rw [← List.filter_append, List.take_append_drop]
theorem drop_absent {l : List Nm} {s : ByteArray} {r : Nat} (h : PlaceN l s r) (hn : hasN l s = false) : l.drop r = l.filter (fun n => sLt s n.name) := by
  have h1 : (l.take r).filter (fun n => sLt s n.name) = [] := by
    rw [List.filter_eq_nil_iff]
    intro n hm
    rw [take_place h] at hm
    rw [sLt_asymm (List.mem_filter.1 hm).2]; decide
  have h2 : (l.drop r).filter (fun n => sLt s n.name) = l.drop r := by
    rw [List.filter_eq_self]
    intro n hm
    obtain ⟨k, hk⟩ := List.mem_iff_getElem?.1 hm
    rw [List.getElem?_drop] at hk
    have h3 := h.2.2 (r + k) n hk (by omega)
    cases h4 : sLt s n.name with
    | true => rfl
    | false =>
      have h5 := sLt_total h3 h4
      have : hasN l s = true := List.any_eq_true.2 ⟨n, List.mem_of_getElem? hk, sameB_iff.2 h5⟩
      rw [hn] at this; cases this
  calc l.drop r = (l.take r).filter (fun n => sLt s n.name) ++ (l.drop r).filter (fun n => sLt s n.name) := by rw [h1, h2, List.nil_append]
    _ = l.filter (fun n => sLt s n.name) := by rw [← List.filter_append, List.take_append_drop]
theorem drop_there {l : List Nm} {s : ByteArray} {r : Nat} {x : Nm} (ha : AscN l) (h : PlaceN l s r) (hx : l[r]? = some x) (hs : x.name = s) : l.drop (r + 1) = l.filter (fun n => sLt s n.name) := by
  have hd : l.drop r = x :: l.drop (r + 1) := by
    obtain ⟨hl, he⟩ := List.getElem?_eq_some_iff.1 hx
    rw [List.drop_eq_getElem_cons hl, he]
  have h1 : (l.take r).filter (fun n => sLt s n.name) = [] := by
    rw [List.filter_eq_nil_iff]
    intro n hm
    rw [take_place h] at hm
    rw [sLt_asymm (List.mem_filter.1 hm).2]; decide
  have h2 : (l.drop (r + 1)).filter (fun n => sLt s n.name) = l.drop (r + 1) := by
    rw [List.filter_eq_self]
    intro n hm
    obtain ⟨k, hk⟩ := List.mem_iff_getElem?.1 hm
    rw [List.getElem?_drop] at hk
    have := ha.lt (by omega : r < r + 1 + k) hx hk
    rwa [hs] at this
  calc l.drop (r + 1) = (l.take r).filter (fun n => sLt s n.name) ++ (l.drop r).filter (fun n => sLt s n.name) := by rw [h1, hd, List.filter_cons_of_neg (by rw [hs, sLt_irrefl]; decide), h2, List.nil_append]
    _ = l.filter (fun n => sLt s n.name) := by rw [← List.filter_append, List.take_append_drop]
theorem give_absent {l : List Nm} {x : Nm} {r : Nat} (h : PlaceN l x.name r) (hn : hasN l x.name = false) : l.take r ++ x :: l.drop r = giveN l x := by
  rw [giveN, take_place h, drop_absent h hn]
theorem give_there {l : List Nm} {x y : Nm} {r : Nat} (ha : AscN l) (h : PlaceN l x.name r) (hy : l[r]? = some y) (hs : y.name = x.name) : l.set r x = giveN l x := by
  have hl := (List.getElem?_eq_some_iff.1 hy).1
  rw [giveN, ← take_place h, ← drop_there ha h hy hs, List.set_eq_take_append_cons_drop, if_pos hl]
theorem erase_there {l : List Nm} {s : ByteArray} {y : Nm} {r : Nat} (ha : AscN l) (h : PlaceN l s r) (hy : l[r]? = some y) (hs : y.name = s) : l.take r ++ l.drop (r + 1) = withoutN l s := by
  have hd : l.drop r = y :: l.drop (r + 1) := by
    obtain ⟨hl, he⟩ := List.getElem?_eq_some_iff.1 hy
    rw [List.drop_eq_getElem_cons hl, he]
  have h1 : (l.take r).filter (fun n => !sameB n.name s) = l.take r := by
    rw [List.filter_eq_self]
    intro n hm
    rw [take_place h] at hm
    rw [sameB_not.2 (sLt_ne (List.mem_filter.1 hm).2)]; rfl
  have h2 : (l.drop (r + 1)).filter (fun n => !sameB n.name s) = l.drop (r + 1) := by
    rw [List.filter_eq_self]
    intro n hm
    rw [drop_there ha h hy hs] at hm
    rw [sameB_not.2 (sLt_ne (List.mem_filter.1 hm).2).symm]; rfl
  calc l.take r ++ l.drop (r + 1) = (l.take r).filter (fun n => !sameB n.name s) ++ (l.drop r).filter (fun n => !sameB n.name s) := by rw [h1, hd, List.filter_cons_of_neg (by rw [sameB_iff.2 hs]; decide), h2]
    _ = withoutN l s := by rw [withoutN, ← List.filter_append, List.take_append_drop]

/-- an act -/
structure Ac where
  what : Int
  name : ByteArray
  dest : ByteArray
  data : List Int
def stands (l : List Nm) (id : Int) : Bool := l.any (fun n => n.id == id)
/-- without files that nobody names -/
def sweepP (s : St) : St := { s with files := s.files.filter fun f => stands s.names f.id || stands s.safe f.id }
def updF (l : List Fl) (id : Int) (g : Fl → Fl) : List Fl := l.map fun f => if f.id == id then g f else f
def findN (l : List Nm) (s : ByteArray) : Option Nm := l.find? fun n => sameB n.name s
def createP (s : St) (a : Ac) : Int × St :=
  if mayF a.name = false then (31, s)
  else if hasN s.names a.name = true then (6, s)
  else if (256 : Int) ≤ s.files.length ∨ 2147483647 ≤ s.next then (51, s)
  else (0, { s with names := giveN s.names ⟨a.name, s.next⟩, files := s.files ++ [⟨s.next, [], 0⟩], next := s.next + 1 })
def actP (s : St) (a : Ac) : Int × St :=
  match findN s.names a.name with
  | none => (71, s)
  | some n =>
    if a.what = 2 then (if s.cap - usedF s.files < a.data.length then (51, s) else (0, { s with files := updF s.files n.id fun f => { f with data := f.data ++ a.data } }))
    else if a.what = 3 then (0, { s with files := updF s.files n.id fun f => { f with sync := f.data.length } })
    else if a.what = 4 then (if mayF a.dest = false then (31, s) else (0, { s with names := giveN (withoutN s.names a.name) ⟨a.dest, n.id⟩ }))
    else (0, { s with names := withoutN s.names a.name })
/-- an act done: the error's number, and what it makes -/
def doP (s : St) (a : Ac) : Int × St :=
  if a.what < 1 ∨ 6 < a.what then (22, s)
  else if a.what = 1 then createP s a
  else if a.what = 6 then (0, sweepP { s with safe := s.names })
  else ((actP s a).1, if (actP s a).1 = 0 then sweepP (actP s a).2 else (actP s a).2)
end Go.Proofs.Ytfakfgblaakgdaa.Files

/- files.find: a binary search among names: walked. -/
namespace Go.Proofs.Ytfakfgblaakgdaa.Files
set_option linter.unusedVariables false
set_option linter.unusedSimpArgs false
open Go.RowKit Go.Proofs.YtfakfgblaakgdaaW.PrintWords Go.Proofs.YtfakfgblaakgdaaW.PrintLast Go.Proofs.Ytfakfgblaakgdaa.Base Go.Proofs.Ytfakfgblaakgdaa.Cells Go.Proofs.Ytfakfgblaakgdaa.Ints Go.Proofs.Ytfakfgblaakgdaa.Var Go.Proofs.Ytfakfgblaakgdaa.EditPure Go.Proofs.Ytfakfgblaakgdaa.Edit

theorem sLt_up {a b x : ByteArray} (hab : sLt a b = true) (ha : sLt a x = false) : sLt b x = false := by
  cases h : sLt b x with
  | false => rfl
  | true => rw [sLt_trans hab h] at ha; cases ha
theorem byName_any (n : ByteArray) (id : Int) (x : ByteArray) (w : World) :
    Calls Try.prog 75 #[.agg #[.string n, .int .i64 id], .string x] w fun e w' => e = .returned (.int .i64 (cmpS n x)) ∧ Below w.heap.size w w' := by
  go_enter Try.func75, Try.ntmps75
  go_wp2_with (go_at_call 86; refine (cmpS_any _ _ _).mono ?_; rintro e w' ⟨rfl, rfl⟩)
  go_ret
  exact ⟨rfl, below_alloc (Below.refl _ _) _⟩

def nameV : Value := .func (.func 75) #[] #[]

set_option maxRecDepth 100000 in
set_option maxHeartbeats 2000000 in
theorem bsearchN_any (F : Option Addr) (fc : Nat) (l : List Nm) (x : ByteArray) (w : World) (hr : kNm.C w F l.length l) (hb : l.length ≤ 1048576) (ha : AscN l) :
    Calls Try.prog 74 #[.slice F l.length fc, .string x, nameV] w fun e w' => (∃ r : Int, e = .returned (.tuple #[.int .i64 r, .bool (hasN l x)]) ∧ 0 ≤ r ∧ PlaceN l x r.toNat) ∧ Below w.heap.size w w' := by
  have HR := Aside0.mk hr
  have HA := Aside0.mk ha
  obtain ⟨b, HBv⟩ := named (hasN l x)
  rw [← HBv.out]
  obtain ⟨fv, hfv⟩ : ∃ fv, fv = nameV := ⟨_, rfl⟩
  have HF := Aside0.mk hfv
  rw [← hfv]
  have CF : Aside0 (∀ (m : Nm) (W : World), Calls Try.prog 75 #[.agg #[.string m.name, .int .i64 m.id], .string x] W fun e w' => e = .returned (.int .i64 (cmpS m.name x)) ∧ Below W.heap.size W w') := ⟨fun m W => byName_any _ _ _ _⟩
  clear hr ha hfv
  go_enter Try.func74, Try.ntmps74
  rw [HF.out, nameV]
  go_wp2
  go_loopg [9, 10] l.length (fun gk v9 v10 wr => ∃ i j : Nat, v9 = .int .i64 i ∧ v10 = .int .i64 j ∧ gk + i = j ∧ j ≤ l.length ∧ Aside0 ((∀ k f, l[k]? = some f → k < i → sLt f.name x = true) ∧ (∀ k f, l[k]? = some f → j ≤ k → sLt f.name x = false)) ∧ Aside0 (Below w.heap.size w wr))
  case atStart => exact ⟨0, l.length, rfl, rfl, by omega, Nat.le_refl _, ⟨fun k f _ h => by omega, fun k f h1 h2 => by have := (List.getElem?_eq_some_iff.1 h1).1; omega⟩, ⟨Below.refl _ _⟩⟩
  case round =>
    obtain ⟨i, j, rfl, rfl, hg, hjl, HP, HB⟩ := hrel
    by_cases hij : i < j
    · have hij' : (i : Int) < j := by omega
      obtain ⟨c, hc⟩ : ∃ c : Nat, c = (i + j) / 2 := ⟨_, rfl⟩
      have hcc : ((i : Int) + j) / 2 = c := by omega
      have hcl : (c : Int) < l.length := by omega
      have hic : i ≤ c := by omega
      have hcj : c < j := by omega
      have hij2 : (i : Int) + j ≤ 3000000 := by omega
      have HC := Aside0.mk (Kd.C_below HR.out HB.out)
      obtain ⟨m, hm⟩ : ∃ m, l[c]? = some m := ⟨_, List.getElem?_eq_getElem (by omega)⟩
      obtain ⟨ad, rfl, c0, c1⟩ := atNm HC.out c m hm
      have HM := Aside0.mk hm
      clear hm hc
      by_cases hlt : sLt m.name x = true
      · have hcm : Aside0 (cmpS m.name x = -1) := ⟨by simp [cmpS, hlt]⟩
        have HL := Aside0.mk hlt
        clear hlt
        go_wp2_with fail
        refine (CF.out m _).mono ?_
        rw [hcm.out]
        rintro e w1 ⟨rfl, hb1⟩
        have HB1 := Aside0.mk (bthen HB.out hb1)
        clear hb1
        go_wp2
        go_roundg (j - (c + 1))
        case measure => omega
        case rel =>
          refine ⟨c + 1, j, by go_num, rfl, by omega, hjl, ⟨fun k f hk hkc => ?_, HP.out.2⟩, HB1⟩
          rcases Nat.lt_or_ge k c with h1 | h1
          · exact sLt_trans (HA.out.lt h1 hk HM.out) HL.out
          · obtain rfl : k = c := by omega
            rw [HM.out] at hk; injection hk with hk; rw [← hk]; exact HL.out
      · have HL := Aside0.mk (Bool.eq_false_iff.2 hlt)
        obtain ⟨o, ho⟩ : ∃ o, cmpS m.name x = o := ⟨_, rfl⟩
        have ho0 : ¬ (o < 0) := by rw [← ho]; unfold cmpS; rw [if_neg hlt]; split <;> decide
        clear hlt
        go_wp2_with fail
        refine (CF.out m _).mono ?_
        rw [ho]
        rintro e w1 ⟨rfl, hb1⟩
        have HB1 := Aside0.mk (bthen HB.out hb1)
        clear hb1
        go_wp2
        go_roundg (c - i)
        case measure => omega
        case rel =>
          refine ⟨i, c, rfl, rfl, by omega, by omega, ⟨HP.out.1, fun k f hk hkc => ?_⟩, HB1⟩
          rcases Nat.eq_or_lt_of_le hkc with rfl | h1
          · rw [HM.out] at hk; injection hk with hk; rw [← hk]; exact HL.out
          · exact sLt_up (HA.out.lt h1 HM.out hk) HL.out
    · obtain rfl : i = j := by omega
      have HPl : Aside0 (PlaceN l x i) := ⟨⟨hjl, HP.out.1, HP.out.2⟩⟩
      have hh := hasN_place HA.out HPl.out
      rw [← HBv.out] at hh
      clear HP
      by_cases hil : i < l.length
      · have hil' : (i : Int) < l.length := by omega
        have HC := Aside0.mk (Kd.C_below HR.out HB.out)
        obtain ⟨m, hm⟩ : ∃ m, l[i]? = some m := ⟨_, List.getElem?_eq_getElem hil⟩
        obtain ⟨ad, rfl, c0, c1⟩ := atNm HC.out i m hm
        rw [hm] at hh
        obtain ⟨o, ho⟩ : ∃ o, cmpS m.name x = o := ⟨_, rfl⟩
        have HO : Aside0 (b = (o == 0)) := ⟨by
          rw [hh, ← ho]; unfold cmpS
          cases h1 : sLt m.name x with
          | true => rw [if_pos rfl]; exact sameB_not.2 (sLt_ne h1)
          | false =>
            rw [if_neg (by decide)]
            cases h2 : sLt x m.name with
            | true => rw [if_pos rfl]; exact sameB_not.2 (sLt_ne h2).symm
            | false => rw [if_neg (by decide)]; exact sameB_iff.2 (sLt_total h1 h2)⟩
        clear hm hh
        go_wp2_with fail
        refine (CF.out m _).mono ?_
        rw [ho]
        rintro e w1 ⟨rfl, hb1⟩
        have HB1 := Aside0.mk (bthen HB.out hb1)
        clear hb1
        go_wp2
        refine bodyPost_ret (results_tmp2 rfl _ _ _) rfl ?_
        exact ⟨⟨i, by rw [HO.out]; rfl, by omega, by simpa using HPl.out⟩, HB1.out⟩
      · have hil' : ¬ ((i : Int) < l.length) := by omega
        have hb0 : b = false := by rw [hh, List.getElem?_eq_none (by omega)]
        subst hb0
        clear hh
        go_wp2
        refine bodyPost_ret (results_tmp2 rfl _ _ _) rfl ?_
        exact ⟨⟨i, rfl, by omega, by simpa using HPl.out⟩, HB.out⟩


theorem find_any (N : Option Addr) (nc : Nat) (l : List Nm) (x : ByteArray) (w : World) (hr : kNm.C w N l.length l) (hb : l.length ≤ 1048576) (ha : AscN l) :
    Calls Try.prog 49 #[.slice N l.length nc, .string x] w fun e w' => (∃ r : Int, e = .returned (.tuple #[.int .i64 r, .bool (hasN l x)]) ∧ 0 ≤ r ∧ PlaceN l x r.toNat) ∧ Below w.heap.size w w' := by
  have HR := Aside0.mk hr
  have HA := Aside0.mk ha
  obtain ⟨b, HBv⟩ := named (hasN l x)
  rw [← HBv.out]
  have CB : Aside0 (∀ W, kNm.C W N l.length l → Calls Try.prog 74 #[.slice N l.length nc, .string x, .func (.func 75) #[] #[]] W fun e w' => (∃ r : Int, e = .returned (.tuple #[.int .i64 r, .bool b]) ∧ 0 ≤ r ∧ PlaceN l x r.toNat) ∧ Below W.heap.size W w') := ⟨fun W hW => by rw [HBv.out]; exact bsearchN_any N nc l x W hW hb HA.out⟩
  clear hr ha
  go_enter Try.func49, Try.ntmps49
  go_wp2_with fail
  refine (CB.out _ HR.out).mono ?_
  rintro e w1 ⟨⟨r, rfl, hr0, hpl⟩, hb1⟩
  have HP := Aside0.mk hpl
  have HB1 := Aside0.mk hb1
  clear hpl hb1
  go_wp2
  refine bodyPost_ret (results_tmp2 rfl _ _ _) rfl ?_
  exact ⟨⟨r, rfl, hr0, HP.out⟩, HB1.out⟩
end Go.Proofs.Ytfakfgblaakgdaa.Files

/- A block of elements of so many cells each, that is written in place (cells alone; what they lead to is not said). -/
namespace Go.Proofs.Ytfakfgblaakgdaa.RowsC
set_option linter.unusedVariables false
set_option linter.unusedSimpArgs false
open Go.RowKit Go.Proofs.YtfakfgblaakgdaaW.PrintWords Go.Proofs.YtfakfgblaakgdaaW.PrintLast Go.Proofs.Ytfakfgblaakgdaa.Base Go.Proofs.Ytfakfgblaakgdaa.Cells

/-- block g holds the elements L (sz cells each), and room behind them -/
def CRow (e : TypeId) (sz : Nat) (w : World) (g cap : Nat) (L : List (List Value)) : Prop :=
  ∃ cur : Array Value, w.heap[g]? = some (.cells cur e (0, 0)) ∧ cur.size = cap * sz ∧ L.length ≤ cap ∧ cur.toList.take (L.length * sz) = L.flatten ∧ ∀ r ∈ L, r.length = sz

theorem flatten_len {sz : Nat} (L : List (List Value)) (h : ∀ r ∈ L, r.length = sz) : L.flatten.length = L.length * sz := by
  induction L with
  | nil => simp
  | cons m L ih => rw [List.flatten_cons, List.length_append, ih (fun r hr => h r (List.mem_cons_of_mem _ hr)), h m List.mem_cons_self, List.length_cons, Nat.succ_mul, Nat.add_comm]
theorem flatten_get {sz : Nat} (L : List (List Value)) (hs : ∀ r ∈ L, r.length = sz) (i : Nat) (r : List Value) (h : L[i]? = some r) (j : Nat) (hj : j < sz) : L.flatten[i * sz + j]? = r[j]? := by
  induction L generalizing i with
  | nil => simp at h
  | cons a L ih =>
    have ha := hs a List.mem_cons_self
    rw [List.flatten_cons]
    cases i with
    | zero =>
      simp at h
      subst h
      rw [Nat.zero_mul, Nat.zero_add, List.getElem?_append_left (by omega)]
    | succ i =>
      have := ih (fun r hr => hs r (List.mem_cons_of_mem _ hr)) i (by simpa using h)
      rw [← this, Nat.succ_mul, List.getElem?_append_right (by omega)]
      congr 1
      omega
theorem flatten_set {sz : Nat} (L : List (List Value)) (hs : ∀ r ∈ L, r.length = sz) (i : Nat) (r : List Value) (h : i < L.length) (hr : r.length = sz) :
    (L.set i r).flatten = L.flatten.take (i * sz) ++ (r ++ L.flatten.drop (i * sz + sz)) := by
  induction L generalizing i with
  | nil => simp at h
  | cons a L ih =>
    have ha := hs a List.mem_cons_self
    cases i with
    | zero =>
      simp only [List.set_cons_zero, List.flatten_cons, Nat.zero_mul, List.take_zero, List.nil_append, Nat.zero_add]
      rw [List.drop_append_of_le_length (by omega), List.drop_of_length_le (by omega), List.nil_append]
    | succ i =>
      have := ih (fun r hr => hs r (List.mem_cons_of_mem _ hr)) i (by simpa using h)
      have t1 : (a ++ L.flatten).take (i * sz + sz) = a ++ L.flatten.take (i * sz) := by
        rw [List.take_append, List.take_of_length_le (l := a) (by omega), show i * sz + sz - a.length = i * sz by omega]
      have t2 : (a ++ L.flatten).drop (i * sz + sz + sz) = L.flatten.drop (i * sz + sz) := by
        rw [List.drop_append, List.drop_of_length_le (l := a) (by omega), List.nil_append, show i * sz + sz + sz - a.length = i * sz + sz by omega]
      rw [List.set_cons_succ, List.flatten_cons, List.flatten_cons, this, Nat.succ_mul, t1, t2, List.append_assoc]
section
variable {e sz : Nat} {w w1 : World} {g cap : Nat} {L A B : List (List Value)}
theorem CRow.cell (h : CRow e sz w g cap L) (i : Nat) (r : List Value) (hi : L[i]? = some r) (j : Nat) (hj : j < sz) : w.cell? ⟨g, i * sz + j, none⟩ = r[j]? := by
  obtain ⟨cur, h1, h2, h3, h4, h5⟩ := h
  rw [blk_cell h1]
  have hil : i < L.length := (List.getElem?_eq_some_iff.1 hi).1
  have : i * sz + j < L.length * sz := by have := Nat.mul_le_mul_right sz (Nat.succ_le_of_lt hil); rw [Nat.succ_mul] at this; omega
  rw [← flatten_get L h5 i r hi j hj, ← h4, List.getElem?_take, if_pos this, Array.getElem?_toList]
theorem CRow.froz (h : CRow e sz w g cap L) (i : Nat) : w.frozen? ⟨g, i, none⟩ = false := by
  obtain ⟨cur, h1, _⟩ := h
  exact blk_frozen h1 i
theorem CRow.lt (h : CRow e sz w g cap L) : g < w.heap.size := by
  obtain ⟨cur, h1, _⟩ := h
  exact blk_lt h1
theorem CRow.len (h : CRow e sz w g cap L) : L.length ≤ cap := by
  obtain ⟨cur, _, _, h3, _⟩ := h
  exact h3
theorem CRow.keep (h : CRow e sz w g cap L) (hb : Below w.heap.size w w1) : CRow e sz w1 g cap L := by
  obtain ⟨cur, h1, h2⟩ := h
  exact ⟨cur, blk_keep h1 hb, h2⟩
theorem CRow.same (h : CRow e sz w g cap L) (hb : w1.heap[g]? = w.heap[g]?) : CRow e sz w1 g cap L := by
  obtain ⟨cur, h1, h2⟩ := h
  exact ⟨cur, hb.trans h1, h2⟩
theorem CRow.drew (h : CRow e sz w g cap L) : CRow e sz w.drew g cap L := h
theorem CRow.there (h : CRow e sz w g cap L) (o : Nat) (ho : o < cap * sz) : (w.cell? ⟨g, o, none⟩).isSome = true := by
  obtain ⟨cur, h1, h2, h3, h4⟩ := h
  rw [blk_cell h1, Array.getElem?_eq_getElem (by omega)]
  rfl
theorem CRow.set (h : CRow e sz w g cap L) (i : Nat) (r : List Value) (hi : i < L.length) (hr : r.length = sz) : CRow e sz (w.setCells g (i * sz) r) g cap (L.set i r) := by
  obtain ⟨cur, h1, h2, h3, h4, h5⟩ := h
  have hm := Nat.mul_le_mul_right sz (Nat.succ_le_of_lt hi)
  have hc := Nat.mul_le_mul_right sz h3
  rw [Nat.succ_mul] at hm
  have hcl : cur.toList.length = cap * sz := by rw [← h2]; exact Array.length_toList
  obtain ⟨cur', e1, e2, e3⟩ := setCells_row r (i * sz) w cur h1 (by omega)
  refine ⟨cur', e1, by rw [e2]; exact h2, by simpa using h3, ?_, fun x hx => ?_⟩
  · rw [flatten_set L h5 i r hi hr, ← h4, List.length_set, e3, List.append_assoc, List.take_append, List.take_take, List.length_take, hcl, List.take_append, hr, List.take_take]
    rw [Nat.min_eq_left (show i * sz ≤ cap * sz by omega), Nat.min_eq_right (show i * sz ≤ L.length * sz by omega), Nat.min_eq_left (show i * sz ≤ L.length * sz by omega), List.take_of_length_le (l := r) (by omega)]
    congr 2
    rw [List.drop_take]
    congr 1
    omega
  · rcases List.mem_or_eq_of_mem_set hx with hx | hx
    · exact h5 x hx
    · rw [hx]; exact hr
theorem CRow.front (h : CRow e sz w g cap (A ++ B)) : CRow e sz w g cap A := by
  obtain ⟨cur, h1, h2, h3, h4, h5⟩ := h
  have h6 : ∀ r ∈ A, r.length = sz := fun r hr => h5 r (List.mem_append_left _ hr)
  refine ⟨cur, h1, h2, by simp at h3; omega, ?_, h6⟩
  have h7 := congrArg (List.take (A.length * sz)) h4
  rw [List.take_take, List.flatten_append, List.take_left' (flatten_len A h6), Nat.min_eq_left (by rw [List.length_append, Nat.add_mul]; omega)] at h7
  exact h7
theorem CRow.beyond (h : CRow e sz w g cap L) (o : Nat) (vs : List Value) (ho : L.length * sz ≤ o) (hv : o + vs.length ≤ cap * sz) : CRow e sz (w.setCells g o vs) g cap L := by
  obtain ⟨cur, h1, h2, h3, h4, h5⟩ := h
  obtain ⟨cur', e1, e2, e3⟩ := setCells_row vs o w cur h1 (by rw [h2]; exact hv)
  refine ⟨cur', e1, by rw [e2]; exact h2, h3, ?_, h5⟩
  have hle : L.length * sz ≤ (cur.toList.take o).length := by
    have hc : cur.toList.length = cap * sz := by rw [← h2]; exact Array.length_toList
    rw [List.length_take]; omega
  rw [e3, List.append_assoc, List.take_append_of_le_length hle, List.take_take, Nat.min_eq_left ho, h4]
/-- elements written behind the first ones (over what was there) -/
theorem CRow.over (h : CRow e sz w g cap (A ++ B)) (C : List (List Value)) (hC : ∀ r ∈ C, r.length = sz) (hl : A.length + C.length ≤ cap) : CRow e sz (w.setCells g (A.length * sz) C.flatten) g cap (A ++ C) := by
  obtain ⟨cur, h1, h2, h3, h4, h5⟩ := h.front
  have hm := Nat.mul_le_mul_right sz hl
  rw [Nat.add_mul] at hm
  have hcl : cur.toList.length = cap * sz := by rw [← h2]; exact Array.length_toList
  obtain ⟨cur', e1, e2, e3⟩ := setCells_row C.flatten (A.length * sz) w cur h1 (by rw [flatten_len C hC, h2]; omega)
  refine ⟨cur', e1, by rw [e2]; exact h2, by simpa using hl, ?_, fun r hr => (List.mem_append.1 hr).elim (h5 r) (hC r)⟩
  rw [e3, List.flatten_append, h4, List.length_append, Nat.add_mul]
  have hf := flatten_len C hC
  have hfa := flatten_len A h5
  rw [List.take_append_of_le_length (by simp only [List.length_append]; omega), List.take_of_length_le (by simp only [List.length_append]; omega)]
end
theorem flatten_put {sz : Nat} (L : List (List Value)) (hs : ∀ r ∈ L, r.length = sz) (i j : Nat) (r : List Value) (u : Value) (h : L[i]? = some r) (hj : j < sz) : (L.set i (r.set j u)).flatten = L.flatten.set (i * sz + j) u := by
  induction L generalizing i with
  | nil => simp at h
  | cons a L ih =>
    have ha := hs a List.mem_cons_self
    cases i with
    | zero =>
      simp at h
      subst h
      rw [List.set_cons_zero, List.flatten_cons, List.flatten_cons, Nat.zero_mul, Nat.zero_add, List.set_append_left _ _ (by omega)]
    | succ i =>
      have := ih (fun r hr => hs r (List.mem_cons_of_mem _ hr)) i (by simpa using h)
      rw [List.set_cons_succ, List.flatten_cons, List.flatten_cons, this, Nat.succ_mul, List.set_append_right _ _ (by omega)]
      congr 2
      omega
/-- one cell of an element is written -/
theorem CRow.put {e sz : Nat} {w : World} {g cap : Nat} {L : List (List Value)} (h : CRow e sz w g cap L) (i j : Nat) (r : List Value) (u : Value) (hi : L[i]? = some r) (hj : j < sz) : CRow e sz (w.setCell ⟨g, i * sz + j, none⟩ u) g cap (L.set i (r.set j u)) := by
  obtain ⟨cur, h1, h2, h3, h4, h5⟩ := h
  refine ⟨cur.setIfInBounds (i * sz + j) u, blk_put h1 _ _ rfl, by simpa using h2, by simpa using h3, ?_, fun x hx => ?_⟩
  · rw [flatten_put L h5 i j r u hi hj, ← h4, List.length_set, Array.toList_setIfInBounds, List.take_set]
  · rcases List.mem_or_eq_of_mem_set hx with hx | hx
    · exact h5 x hx
    · rw [hx, List.length_set]; exact h5 r (List.mem_of_getElem? hi)
theorem setCells_grown (w : World) (g o : Nat) (vs : List Value) : w.grownBy (w.setCells g o vs) (some g) := by
  obtain ⟨h1, h2, h3, h4⟩ := setCells_same g vs o w
  exact ⟨h1, h2, h3, by rw [h4]; exact Nat.le_refl _, fun k _ hk => setCells_far vs o k (fun e => hk (by rw [e]))⟩
theorem grown_cell {w w1 : World} {g : Nat} {a : Addr} {v : Value} (h : w.grownBy w1 (some g)) (hne : a.block ≠ g) (hc : w.cell? a = some v) : w1.cell? a = some v := by
  have := h.block a.block (World.block_lt_of_cell? w a hc) (fun e => hne (by injection e))
  simpa [World.cell?, this] using hc
theorem get_mid {α : Type} (P S : List α) (x : α) (n : Nat) (h : n = P.length) : (P ++ x :: S)[n]? = some x := by subst h; simp
theorem set_mid {α : Type} (P S : List α) (x y : α) (n : Nat) (h : n = P.length) : (P ++ x :: S).set n y = P ++ y :: S := by subst h; simp

section
variable {α : Type} {d : Kd α} {enc : α → List Value} {w : World} {e base : Nat} {ok : Nat → Prop} {v : Value} {xs : List α}
theorem reps_flat (hM : ∀ {x cs}, d.M w base (fun k => ok k ∧ some k ≠ v.ownBlock) x cs → cs = enc x) (hsz : ∀ x, (enc x).length = d.sz) : ∀ (l : List α) (cs : List Value), Reps (d.M w base (fun k => ok k ∧ some k ≠ v.ownBlock)) d.sz l cs → cs = (l.map enc).flatten := by
  intro l
  induction l with
  | nil => intro cs h; exact List.eq_nil_of_length_eq_zero (by rw [h.1]; simp)
  | cons m l ih =>
    intro cs h
    have hl : cs.length = (l.length + 1) * d.sz := h.1
    rw [Nat.succ_mul] at hl
    have h0 := h.2 0 m rfl
    have h1 : cs.take d.sz = enc m := by
      have := hM h0
      rw [Nat.zero_mul, List.drop_zero] at this
      exact this
    have h2 := ih (cs.drop d.sz) ⟨by rw [List.length_drop, hl]; omega, fun j p hj => by
      have := h.2 (j + 1) p (by simpa using hj)
      rw [List.drop_drop]
      rw [Nat.succ_mul, Nat.add_comm] at this
      exact this⟩
    rw [List.map_cons, List.flatten_cons, ← h1, ← h2, List.take_append_drop]
/-- a row of one's own, as cells -/
theorem R_rows (hM : ∀ {ok' : Nat → Prop} {x cs}, d.M w base ok' x cs → cs = enc x) (hsz : ∀ x, (enc x).length = d.sz) (h : d.R e w base ok v xs) :
    (v = .slice none 0 0 ∧ xs = []) ∨ ∃ g cap, v = .slice (some ⟨g, 0, none⟩) xs.length cap ∧ base ≤ g ∧ ok g ∧ cap ≤ 9223372036854775807 ∧ CRow e d.sz w g cap (xs.map enc) := by
  obtain ⟨h0, inner, hown, hr⟩ := h
  have hi := reps_flat (v := v) (ok := ok) hM hsz xs inner hr
  rcases hown.2 with ⟨rfl, hn⟩ | ⟨g, cap, cur, rfl, hb, hh, hnc, hcm, hcs, htake⟩
  · exact .inl ⟨rfl, List.eq_nil_of_length_eq_zero hn⟩
  · exact .inr ⟨g, cap, rfl, hb, h0 g rfl, by simpa [maxLen] using hcm, cur, hh, hcs, by simpa using hnc, by rw [← hi, List.length_map]; exact htake, fun r hr => by obtain ⟨x, _, rfl⟩ := List.mem_map.1 hr; exact hsz x⟩
theorem reps_map {ok' : Nat → Prop} (hsz : ∀ x, (enc x).length = d.sz) : ∀ l : List α, (∀ x ∈ l, d.M w base ok' x (enc x)) → Reps (d.M w base ok') d.sz l (l.map enc).flatten := by
  intro l hM
  refine ⟨by rw [flatten_len (l.map enc) (sz := d.sz) (fun r hr => by obtain ⟨x, _, rfl⟩ := List.mem_map.1 hr; exact hsz x), List.length_map], ?_⟩
  induction l with
  | nil => intro j p hj; simp at hj
  | cons a l ih =>
    intro j p hj
    rw [List.map_cons, List.flatten_cons]
    cases j with
    | zero =>
      simp at hj
      subst hj
      rw [Nat.zero_mul, List.drop_zero, List.take_left' (hsz a)]
      exact hM a List.mem_cons_self
    | succ j =>
      have := ih (fun x hx => hM x (List.mem_cons_of_mem _ hx)) j p (by simpa using hj)
      rw [Nat.succ_mul, Nat.add_comm, List.drop_append, List.drop_of_length_le (l := enc a) (by rw [hsz]; omega), List.nil_append, hsz, Nat.add_sub_cancel_left]
      exact this
theorem R_of_rows (hM : ∀ {ok' : Nat → Prop}, ∀ x ∈ xs, d.M w base ok' x (enc x)) (hsz : ∀ x, (enc x).length = d.sz) {g cap : Nat} (hb : base ≤ g) (ho : ok g) (hcm : cap ≤ 9223372036854775807) (h : CRow e d.sz w g cap (xs.map enc)) : d.R e w base ok (.slice (some ⟨g, 0, none⟩) xs.length cap) xs := by
  obtain ⟨cur, h1, h2, h3, h4, h5⟩ := h
  rw [List.length_map] at h3 h4
  exact ⟨fun k hk => by simp [Value.ownBlock] at hk; rw [← hk]; exact ho, _, ⟨by rw [flatten_len _ h5, List.length_map], .inr ⟨g, cap, cur, rfl, hb, h1, h3, by simpa [maxLen] using hcm, h2, h4⟩⟩, reps_map hsz xs hM⟩
end

/-- a row of one's own, by its elements' cells -/
def CR (e : TypeId) (sz : Nat) (w : World) (base : Nat) (v : Value) (rows : List (List Value)) : Prop :=
  (v = .slice none 0 0 ∧ rows = []) ∨ ∃ g cap, v = .slice (some ⟨g, 0, none⟩) rows.length cap ∧ base ≤ g ∧ cap ≤ 9223372036854775807 ∧ CRow e sz w g cap rows
section
variable {e sz base : Nat} {w w1 : World} {v : Value} {rows : List (List Value)}
theorem CR.nil : CR e sz w base (.slice none 0 0) [] := .inl ⟨rfl, rfl⟩
theorem CR.block (h : CR e sz w base v rows) : ∀ k, v.ownBlock = some k → base ≤ k ∧ k < w.heap.size ∧ ∃ cs, w.heap[k]? = some (.cells cs e (0, 0)) := by
  intro k hk
  rcases h with ⟨rfl, _⟩ | ⟨g, cap, rfl, hb, _, hr⟩
  · simp [Value.ownBlock] at hk
  · have : g = k := by simpa [Value.ownBlock] using hk
    subst this
    obtain ⟨cur, h1, _⟩ := hr
    exact ⟨hb, blk_lt h1, cur, h1⟩
theorem CR.step (h : CR e sz w base v rows) (hm : ∀ k, v.ownBlock = some k → w1.heap[k]? = w.heap[k]?) : CR e sz w1 base v rows := by
  rcases h with h | ⟨g, cap, rfl, hb, hc, hr⟩
  · exact .inl h
  · exact .inr ⟨g, cap, rfl, hb, hc, hr.same (hm g (by simp [Value.ownBlock]))⟩
theorem CR.below (h : CR e sz w base v rows) (hb : Below w.heap.size w w1) : CR e sz w1 base v rows := h.step (fun k hk => hb.block k (h.block k hk).2.1)
theorem CR.other (h : CR e sz w base v rows) {row : Option Nat} (hg : w.grownBy w1 row) (hne : ∀ k, v.ownBlock = some k → some k ≠ row) : CR e sz w1 base v rows := h.step (fun k hk => hg.block k (h.block k hk).2.1 (hne k hk))
theorem CR.lower {base' : Nat} (h : CR e sz w base v rows) (hb : base' ≤ base) : CR e sz w base' v rows := by
  rcases h with h | ⟨g, cap, rfl, h1, hc, hr⟩
  · exact .inl h
  · exact .inr ⟨g, cap, rfl, by omega, hc, hr⟩
theorem CR.form (h : CR e sz w base v rows) : ∃ A c, v = .slice A rows.length c ∧ rows.length ≤ c := by
  rcases h with ⟨rfl, rfl⟩ | ⟨g, cap, rfl, _, _, hr⟩
  · exact ⟨none, 0, rfl, Nat.le_refl _⟩
  · exact ⟨_, cap, rfl, hr.len⟩
end
section
variable {α : Type} {d : Kd α} {enc : α → List Value} {w : World} {e base : Nat} {v : Value} {xs : List α}
theorem CR_of_R (hM : ∀ {ok' : Nat → Prop} {x cs}, d.M w base ok' x cs → cs = enc x) (hsz : ∀ x, (enc x).length = d.sz) (h : d.R e w base (fun _ => True) v xs) : CR e d.sz w base v (xs.map enc) := by
  rcases R_rows hM hsz h with ⟨h1, h2⟩ | ⟨g, cap, h1, h2, _, h3, h4⟩
  · exact .inl ⟨h1, by rw [h2]; rfl⟩
  · exact .inr ⟨g, cap, by rw [h1, List.length_map], h2, h3, h4⟩
theorem R_of_CR (hM : ∀ {ok' : Nat → Prop}, ∀ x ∈ xs, d.M w base ok' x (enc x)) (hsz : ∀ x, (enc x).length = d.sz) (h : CR e d.sz w base v (xs.map enc)) : d.R e w base (fun _ => True) v xs := by
  rcases h with ⟨rfl, h2⟩ | ⟨g, cap, rfl, hb, hc, hr⟩
  · rw [List.map_eq_nil_iff] at h2
    subst h2
    exact Kd.R_nil _ _ _ _ _
  · rw [List.length_map]
    exact R_of_rows hM hsz hb trivial hc hr
end
end Go.Proofs.Ytfakfgblaakgdaa.RowsC

/- Files and names of one's own: a row of files no two of which share octets. -/
namespace Go.Proofs.Ytfakfgblaakgdaa.Files
set_option linter.unusedVariables false
set_option linter.unusedSimpArgs false
open Go.RowKit Go.Proofs.YtfakfgblaakgdaaW.PrintWords Go.Proofs.YtfakfgblaakgdaaW.PrintLast Go.Proofs.Ytfakfgblaakgdaa.Base Go.Proofs.Ytfakfgblaakgdaa.Cells Go.Proofs.Ytfakfgblaakgdaa.Var Go.Proofs.Ytfakfgblaakgdaa.EditPure Go.Proofs.Ytfakfgblaakgdaa.Edit Go.Proofs.Ytfakfgblaakgdaa.RowsC

/-- a file's cells, its octets' slice told -/
def rowF (x : Fl × Value) : List Value := [.int .i64 x.1.id, x.2, .int .i64 x.1.sync]
theorem rowF_len (x : Fl × Value) : (rowF x).length = 3 := rfl
theorem rows_len (L : List (Fl × Value)) : (L.map rowF).length = L.length := by simp
/-- a file with its octets' slice: its cells, and no more -/
def kFd : Kd (Fl × Value) where
  sz := 3
  E := []
  K := fun _ x cs => cs = rowF x ∧ x.2.oneCell' = true
  M := fun _ _ _ x cs => cs = rowF x ∧ x.2.oneCell' = true
  K_len := fun h => by rw [h.1]; rfl
  K_one := fun h u hu => by
    rw [h.1] at hu
    simp only [rowF, List.mem_cons, List.not_mem_nil, or_false] at hu
    rcases hu with rfl | rfl | rfl
    · rfl
    · exact h.2
    · rfl
  K_below := fun _ h => h
  K_of_M := fun h => h
  M_mono := fun _ h => h
  M_bound := fun h => h
  M_move := fun _ h => h
  M_lower := fun _ h => h

/-- a row of files of one's own, each with octets of its own -/
structure OF (e : TypeId) (w : World) (base : Nat) (v : Value) (L : List (Fl × Value)) : Prop where
  row : CR e 3 w base v (L.map rowF)
  own : ∀ x ∈ L, RB w base x.2 x.1.data
  apart : (L.filterMap fun x => x.2.ownBlock).Nodup
section
variable {e : TypeId} {w w1 : World} {base : Nat} {v : Value} {L : List (Fl × Value)}
theorem RB_step {u : Value} {l : List Int} (h : RB w base u l) (hm : ∀ k, u.ownBlock = some k → w1.heap[k]? = w.heap[k]?) : RB w1 base u l := own_move h hm
theorem RB_below {u : Value} {l : List Int} (h : RB w base u l) (hb : Below w.heap.size w w1) : RB w1 base u l := own_move h (fun k hk => hb.block k (own_lt h k hk))
theorem RB_one {u : Value} {l : List Int} (h : RB w base u l) : u.oneCell' = true := by
  obtain ⟨A, c, rfl⟩ := own_slice h
  rfl
theorem OF.step (h : OF e w base v L) (hr : ∀ k, v.ownBlock = some k → w1.heap[k]? = w.heap[k]?) (hd : ∀ x ∈ L, ∀ k, x.2.ownBlock = some k → w1.heap[k]? = w.heap[k]?) : OF e w1 base v L :=
  ⟨h.row.step hr, fun x hx => RB_step (h.own x hx) (hd x hx), h.apart⟩
theorem OF.below (h : OF e w base v L) (hb : Below w.heap.size w w1) : OF e w1 base v L :=
  h.step (fun k hk => hb.block k (h.row.block k hk).2.1) (fun x hx k hk => hb.block k (own_lt (h.own x hx) k hk))
theorem OF.lower {base' : Nat} (h : OF e w base v L) (hb : base' ≤ base) : OF e w base' v L := ⟨h.row.lower hb, fun x hx => own_weaken (h.own x hx) hb, h.apart⟩
/-- something else has been written: a block of another type, or a map -/
theorem OF.other (h : OF e w base v L) {row : Option Nat} (hg : w.grownBy w1 row) (hne : ∀ k, row = some k → ∀ q cs, (q = e ∨ q = 5) → w.heap[k]? ≠ some (.cells cs q (0, 0))) : OF e w1 base v L :=
  h.step (fun k hk => by obtain ⟨_, h2, cs, h3⟩ := h.row.block k hk; exact hg.block k h2 (fun e1 => hne k e1.symm e cs (.inl rfl) h3))
    (fun x hx k hk => by obtain ⟨cs, h3⟩ := own_typed (h.own x hx) k hk; exact hg.block k (own_lt (h.own x hx) k hk) (fun e1 => hne k e1.symm _ cs (.inr rfl) h3))
theorem OF.reads (h : OF e w base v L) : ∃ A c, v = .slice A L.length c ∧ L.length ≤ c ∧ kFl.C w A L.length (L.map (·.1)) := by
  rcases h.row with ⟨rfl, h2⟩ | ⟨g, cap, rfl, hb, hc, hr⟩
  · rw [List.map_eq_nil_iff] at h2
    subst h2
    exact ⟨none, 0, rfl, Nat.le_refl _, Kd.C_nil kFl w⟩
  · have hl := hr.len
    rw [rows_len] at hl
    refine ⟨some ⟨g, 0, none⟩, cap, by rw [rows_len], hl, by rw [List.length_map], by omega, fun _ => ⟨⟨g, 0, none⟩, rfl, fun j p hj => ?_⟩⟩
    rw [List.getElem?_map] at hj
    obtain ⟨x, hx, rfl⟩ := Option.map_eq_some_iff.1 hj
    obtain ⟨A, c, h1, h2⟩ := RB_reads (h.own x (List.mem_of_getElem? hx))
    have h3 : x.1.data.length ≤ c := by have := h.own x (List.mem_of_getElem? hx); rw [h1] at this; exact own_le this
    refine ⟨[.int .i64 x.1.id, .slice A x.1.data.length c, .int .i64 x.1.sync], rfl, kFl_mk h3 h2, fun i u hu => ?_⟩
    have h4 := hr.cell j (rowF x) (by rw [List.getElem?_map, hx]; rfl) i (by have := (List.getElem?_eq_some_iff.1 hu).1; simpa using this)
    rw [add_plain]
    refine h4.trans ?_
    rw [rowF, h1]
    exact hu
end
end Go.Proofs.Ytfakfgblaakgdaa.Files

/- slices.Clone of names and of files, bytes.Clone: walked. -/
namespace Go.Proofs.Ytfakfgblaakgdaa.Files
set_option linter.unusedVariables false
set_option linter.unusedSimpArgs false
open Go.RowKit Go.Proofs.YtfakfgblaakgdaaW.PrintWords Go.Proofs.YtfakfgblaakgdaaW.PrintLast Go.Proofs.Ytfakfgblaakgdaa.Base Go.Proofs.Ytfakfgblaakgdaa.Cells Go.Proofs.Ytfakfgblaakgdaa.Ints Go.Proofs.Ytfakfgblaakgdaa.Var Go.Proofs.Ytfakfgblaakgdaa.EditPure Go.Proofs.Ytfakfgblaakgdaa.Edit Go.Proofs.Ytfakfgblaakgdaa.RowsC

theorem empty_row {α : Type} (d : Kd α) (e : TypeId) (w : World) : d.R e (w.alloc (.cells #[] e)) w.heap.size (fun _ => True) (.slice (some ⟨w.heap.size, 0, none⟩) 0 0) [] :=
  R_of_rows (xs := []) (enc := fun _ => List.replicate d.sz (.bool true)) (fun x hx => by simp at hx) (fun _ => by simp) (Nat.le_refl _) trivial (by omega) ⟨#[], blk_new _ _, by simp, by simp, by simp, by simp⟩
theorem C_none {α : Type} {d : Kd α} {w : World} {l : List α} (h : d.C w none l.length l) : l = [] := by
  rcases l with _ | ⟨x, l⟩
  · rfl
  · obtain ⟨ad, _, h, _⟩ := Kd.C_get h x 0 (by omega) (by simp)
    cases h

set_option maxRecDepth 100000 in
set_option maxHeartbeats 1000000 in
theorem cloneN_any (A : Option Addr) (c : Nat) (l : List Nm) (w : World) (hr : kNm.C w A l.length l) (hb : l.length ≤ 1048576) :
    Calls Try.prog 55 #[.slice A l.length c] w fun e w' => ∃ v, e = .returned v ∧ RN w' w.heap.size v l ∧ Below w.heap.size w w' := by
  have HR := Aside0.mk hr
  clear hr
  cases A with
  | none =>
    have h0 : l = [] := C_none HR.out
    subst h0
    clear HR
    have hnil : ∀ W, (binOp .eql 31 (.slice none 0 c) (.slice none 0 0)).run Try.prog W = .ok (.bool true) W := fun W => Lib.run_eql_slice_nil (P := Try.prog) W 31 81 none 0 c 0 0 Try.underlying31
    simp only [List.length_nil]
    go_enter Try.func55, Try.ntmps55
    go_wp2
    go_ret
    exact ⟨_, rfl, Kd.R_nil _ _ _ _ _, Below.refl _ _⟩
  | some ad =>
    have hnil : ∀ W, (binOp .eql 31 (.slice (some ad) l.length c) (.slice none 0 0)).run Try.prog W = .ok (.bool false) W := fun W => Lib.run_eql_slice_nil (P := Try.prog) W 31 81 (some ad) l.length c 0 0 Try.underlying31
    have HO : Aside0 (RN (w.alloc (.cells #[] 81)) w.heap.size (.slice (some ⟨w.heap.size, 0, none⟩) 0 0) []) := ⟨empty_row kNm _ w⟩
    have HB : Aside0 (Below w.heap.size w (w.alloc (.cells #[] 81))) := ⟨below_alloc (Below.refl _ _) _⟩
    have HC := Aside0.mk (Kd.C_below HR.out HB.out)
    go_enter Try.func55, Try.ntmps55
    go_wp2_with (at_builtin; refine Kd.R_append_rows kNm (Rr := kNm.K (w.alloc (.cells #[] 81))) (w0 := w) w.heap.size rfl (.tmp 5) (.tmp 6) 31 81 (.agg #[.string ⟨#[]⟩, .int .i64 0]) 24 rfl Try.underlying31 infoNm rfl (by decide) (by omega) (.slice (some ⟨w.heap.size, 0, none⟩) 0 0) [] l (some ad) l.length c (fun _ => True) (fun _ => False) rfl rfl ?aO ?aR ?aK (fun _ hk => hk.elim) (fun _ _ => trivial) ?aB ?aS ?c1 ?_; (case aO => exact HO.out); (case aR => exact HC.out); (case aK => intro x cs hx; rw [kNm_open hx]; exact kNm_mkM _ _ _ x); (case aB => exact HB.out); (case aS => exact HB.out.size); (case c1 => simp only [List.length_nil]; omega); intro v1 w1 hown hB1 hg1 hat; have HO1 := Aside0.mk hown; have HB1 := Aside0.mk hB1; clear hown hB1 hg1 hat)
    go_ret
    exact ⟨_, rfl, by have := HO1.out; rwa [List.nil_append] at this, HB1.out⟩

/-- a row of files, its cells of one's own -/
abbrev RFd (w : World) (base : Nat) (v : Value) (L : List (Fl × Value)) : Prop := kFd.R 79 w base (fun _ => True) v L
set_option maxRecDepth 100000 in
set_option maxHeartbeats 1000000 in
theorem cloneF_any (A : Option Addr) (c : Nat) (l : List (Fl × Value)) (w : World) (hr : kFd.C w A l.length l) (hb : l.length ≤ 1048576) :
    Calls Try.prog 71 #[.slice A l.length c] w fun e w' => ∃ v, e = .returned v ∧ RFd w' w.heap.size v l ∧ Below w.heap.size w w' := by
  have HR := Aside0.mk hr
  clear hr
  cases A with
  | none =>
    have h0 : l = [] := C_none HR.out
    subst h0
    clear HR
    have hnil : ∀ W, (binOp .eql 30 (.slice none 0 c) (.slice none 0 0)).run Try.prog W = .ok (.bool true) W := fun W => Lib.run_eql_slice_nil (P := Try.prog) W 30 79 none 0 c 0 0 Try.underlying30
    simp only [List.length_nil]
    go_enter Try.func71, Try.ntmps71
    go_wp2
    go_ret
    exact ⟨_, rfl, Kd.R_nil _ _ _ _ _, Below.refl _ _⟩
  | some ad =>
    have hnil : ∀ W, (binOp .eql 30 (.slice (some ad) l.length c) (.slice none 0 0)).run Try.prog W = .ok (.bool false) W := fun W => Lib.run_eql_slice_nil (P := Try.prog) W 30 79 (some ad) l.length c 0 0 Try.underlying30
    have HO : Aside0 (RFd (w.alloc (.cells #[] 79)) w.heap.size (.slice (some ⟨w.heap.size, 0, none⟩) 0 0) []) := ⟨empty_row kFd _ w⟩
    have HB : Aside0 (Below w.heap.size w (w.alloc (.cells #[] 79))) := ⟨below_alloc (Below.refl _ _) _⟩
    have HC := Aside0.mk (Kd.C_below HR.out HB.out)
    go_enter Try.func71, Try.ntmps71
    go_wp2_with (at_builtin; refine Kd.R_append_rows kFd (Rr := kFd.K (w.alloc (.cells #[] 79))) (w0 := w) w.heap.size rfl (.tmp 5) (.tmp 6) 30 79 (.agg #[.int .i64 0, .slice none 0 0, .int .i64 0]) 40 rfl Try.underlying30 infoFl rfl (by decide) (by omega) (.slice (some ⟨w.heap.size, 0, none⟩) 0 0) [] l (some ad) l.length c (fun _ => True) (fun _ => False) rfl rfl ?aO ?aR ?aK (fun _ hk => hk.elim) (fun _ _ => trivial) ?aB ?aS ?c1 ?_; (case aO => exact HO.out); (case aR => exact HC.out); (case aK => intro x cs hx; exact hx); (case aB => exact HB.out); (case aS => exact HB.out.size); (case c1 => simp only [List.length_nil]; omega); intro v1 w1 hown hB1 hg1 hat; have HO1 := Aside0.mk hown; have HB1 := Aside0.mk hB1; clear hown hB1 hg1 hat)
    go_ret
    exact ⟨_, rfl, by have := HO1.out; rwa [List.nil_append] at this, HB1.out⟩

set_option maxRecDepth 100000 in
theorem cloneO_any (A : Option Addr) (c : Nat) (l : List Int) (w : World) (hr : ReadsInt w .u8 A l.length l) (hb : l.length ≤ 1048576) :
    Calls Try.prog 50 #[.slice A l.length c] w fun e w' => ∃ v, e = .returned v ∧ RB w' w.heap.size v l ∧ Below w.heap.size w w' := by
  cases A with
  | some ad => exact cloneB_any ad c l w hr hb
  | none =>
    have h0 : l = [] := by
      rcases l with _ | ⟨x, l⟩
      · rfl
      · obtain ⟨ad, h, _⟩ := hr.2.2 (by simp)
        cases h
    subst h0
    clear hr
    have hnil : ∀ W, (binOp .eql 62 (.slice none 0 c) (.slice none 0 0)).run Try.prog W = .ok (.bool true) W := fun W => Lib.run_eql_slice_nil (P := Try.prog) W 62 5 none 0 c 0 0 Try.underlying62
    simp only [List.length_nil]
    go_enter Try.func50, Try.ntmps50
    go_wp2
    go_ret
    exact ⟨_, rfl, own_nil _ _ _ _, Below.refl _ _⟩

theorem list_of {α : Type} (n : Nat) (Q : Nat → α → Prop) (h : ∀ i, i < n → ∃ x, Q i x) : ∃ l : List α, l.length = n ∧ ∀ (i : Nat) (x : α), l[i]? = some x → Q i x := by
  induction n with
  | zero => exact ⟨[], rfl, fun i x hx => by simp at hx⟩
  | succ n ih =>
    obtain ⟨l, h1, h2⟩ := ih (fun i hi => h i (by omega))
    obtain ⟨x, hx⟩ := h n (by omega)
    refine ⟨l ++ [x], by simp [h1], fun i y hy => ?_⟩
    by_cases hi : i < l.length
    · rw [List.getElem?_append_left hi] at hy; exact h2 i y hy
    · rw [List.getElem?_append_right (by omega)] at hy
      have h3 : i - l.length < 1 := (List.getElem?_eq_some_iff.1 hy).1
      have h4 : i = n := by omega
      rw [show i - l.length = 0 by omega] at hy
      have h5 : x = y := by simpa using hy
      rw [← h5, h4]; exact hx
/-- files that are read, their octets' slices told -/
theorem fd_of {w : World} {A : Option Addr} {n : Nat} {files : List Fl} (h : kFl.C w A n files) :
    ∃ L : List (Fl × Value), L.map (·.1) = files ∧ kFd.C w A n L ∧ ∀ x ∈ L, ∃ D c, x.2 = .slice D x.1.data.length c ∧ x.1.data.length ≤ c ∧ ReadsInt w .u8 D x.1.data.length x.1.data := by
  obtain ⟨h1, h2, h3⟩ := h
  by_cases hn : 0 < n
  · obtain ⟨ad, e, hh⟩ := h3 hn
    obtain ⟨L, l1, l2⟩ := list_of n (fun i (x : Fl × Value) => files[i]? = some x.1 ∧ (∃ D c, x.2 = .slice D x.1.data.length c ∧ x.1.data.length ≤ c ∧ ReadsInt w .u8 D x.1.data.length x.1.data) ∧ ∀ j u, (rowF x)[j]? = some u → w.cell? (ad.add (i * 3 + j)) = some u) (fun i hi => by
      have hf : files[i]? = some (files[i]'(by omega)) := List.getElem?_eq_getElem (by omega)
      obtain ⟨cs, q1, q2, q3⟩ := hh i _ hf
      obtain ⟨D, c, rfl, q4, q5⟩ := kFl_open q2
      exact ⟨(files[i], .slice D files[i].data.length c), hf, ⟨D, c, rfl, q4, q5⟩, q3⟩)
    have hm : L.map (·.1) = files := by
      apply List.ext_getElem?
      intro i
      rw [List.getElem?_map]
      cases hq : L[i]? with
      | none =>
        rw [List.getElem?_eq_none_iff] at hq
        rw [List.getElem?_eq_none (by omega)]
        rfl
      | some x => rw [(l2 i x hq).1]; rfl
    refine ⟨L, hm, ⟨by omega, h2, fun _ => ⟨ad, e, fun j p hj => ?_⟩⟩, fun x hx => ?_⟩
    · obtain ⟨_, ⟨D, c, q1, _⟩, q3⟩ := l2 j p hj
      exact ⟨rowF p, rfl, ⟨rfl, by rw [q1]; rfl⟩, q3⟩
    · obtain ⟨i, hi⟩ := List.mem_iff_getElem?.1 hx
      exact (l2 i x hi).2.1
  · have h0 : files = [] := List.eq_nil_of_length_eq_zero (by omega)
    subst h0
    exact ⟨[], rfl, ⟨h1, h2, fun h => absurd h hn⟩, fun x hx => by simp at hx⟩
end Go.Proofs.Ytfakfgblaakgdaa.Files

/- Of of chapter 4: a state for the program: walked. -/
namespace Go.Proofs.Ytfakfgblaakgdaa.Files
set_option linter.unusedVariables false
set_option linter.unusedSimpArgs false
open Go.RowKit Go.Proofs.YtfakfgblaakgdaaW.PrintWords Go.Proofs.YtfakfgblaakgdaaW.PrintLast Go.Proofs.Ytfakfgblaakgdaa.Base Go.Proofs.Ytfakfgblaakgdaa.Cells Go.Proofs.Ytfakfgblaakgdaa.Ints Go.Proofs.Ytfakfgblaakgdaa.Var

theorem Rset5 {α : Type} {k : Kd α} {e : TypeId} {base g : Nat} {w : World} {v : Value} {l : List α} (h : k.R e w base (fun _ => True) v l) (hp : ∀ b, (∃ q ∈ e :: k.E, ∃ cells, w.heap[b]? = some (.cells cells q (0, 0))) → b ≠ g) (x y z u t : Value) : k.R e (((((w.setCell ⟨g, 0, none⟩ x).setCell ⟨g, 1, none⟩ y).setCell ⟨g, 2, none⟩ z).setCell ⟨g, 3, none⟩ u).setCell ⟨g, 4, none⟩ t) base (fun _ => True) v l := by
  have h0 : k.R e w base (fun b => b ≠ g) v l := Kd.R_mono (Kd.R_bound h) (fun b hb => hp b hb.2.2.2)
  exact Kd.R_mono (Kd.R_far (p := ⟨g, 4, none⟩) (Kd.R_far (p := ⟨g, 3, none⟩) (Kd.R_far (p := ⟨g, 2, none⟩) (Kd.R_far (p := ⟨g, 1, none⟩) (Kd.R_far (p := ⟨g, 0, none⟩) h0 (fun _ h => h) _) (fun _ h => h) _) (fun _ h => h) _) (fun _ h => h) _) (fun _ h => h) _) (fun _ _ => trivial)
theorem apart_of {w : World} {g : Nat} {t : TypeId} {cells : Array Value} {E : List Nat} (hg : w.heap[g]? = some (.cells cells t (0, 0))) (ht : ∀ q ∈ E, q ≠ t) : ∀ b, (∃ q ∈ E, ∃ cells, w.heap[b]? = some (.cells cells q (0, 0))) → b ≠ g := by
  rintro b ⟨q, hq, cs, hc⟩ rfl
  rw [hc] at hg
  injection hg with hg
  injection hg with _ hg
  exact ht q hq hg
theorem RF_types : ∀ q ∈ (79 :: kFl.E : List Nat), q ≠ 33 := by decide
theorem RN_types : ∀ q ∈ (81 :: kNm.E : List Nat), q ≠ 33 := by decide

structure SrcN (w : World) (A : Option Addr) (n c : Nat) (l : List Nm) : Prop where
  len : l.length = n
  row : kNm.C w A l.length l
  few : l.length ≤ 1048576

set_option maxRecDepth 100000 in
set_option maxHeartbeats 4000000 in
theorem of_any (s : St) (F N S : Option Addr) (fc nc sc : Nat) (w : World) (h : Hd w s F fc N nc S sc) (hs : Small s) :
    Calls Try.prog 11 #[.agg #[.int .i64 s.cap, .slice F s.files.length fc, .slice N s.names.length nc, .slice S s.safe.length sc, .int .i64 s.next]] w fun e w' => ∃ vF vN vS, e = .returned (.agg #[.int .i64 s.cap, vF, vN, vS, .int .i64 s.next]) ∧ RF w' w.heap.size vF s.files ∧ RN w' w.heap.size vN s.names ∧ RN w' w.heap.size vS s.safe ∧ Below w.heap.size w w' := by
  have HH := Aside0.mk h
  have HS := Aside0.mk hs
  obtain ⟨cap, files, names, safe, next⟩ := s
  obtain ⟨lf, hlf⟩ : ∃ n, files.length = n := ⟨_, rfl⟩
  obtain ⟨ln, hln⟩ : ∃ n, names.length = n := ⟨_, rfl⟩
  obtain ⟨ls, hls⟩ : ∃ n, safe.length = n := ⟨_, rfl⟩
  simp only [hlf, hln, hls]
  have CF : Aside0 (∀ W, Below w.heap.size w W → Calls Try.prog 38 #[.slice F lf fc] W fun e w' => ∃ A c, e = .returned (.slice A lf c) ∧ RF w' w.heap.size (.slice A lf c) files ∧ Below W.heap.size W w') := ⟨by
    subst hlf
    intro W hW
    refine (some_any F fc files W (Kd.C_below HH.out.hF hW) HS.out.lf HS.out.ld).mono ?_
    rintro e w' ⟨v, rfl, hv, hb⟩
    obtain ⟨A, c, rfl, _⟩ := Kd.R_reads hv
    exact ⟨A, c, rfl, Kd.R_lower hv hW.size, hb⟩⟩
  have CN : Aside0 (∀ W A n c l, SrcN w A n c l → Below w.heap.size w W → Calls Try.prog 39 #[.slice A n c] W fun e w' => ∃ A c, e = .returned (.slice A n c) ∧ RN w' w.heap.size (.slice A n c) l ∧ Below W.heap.size W w') := ⟨by
    rintro W A n c l ⟨hn, hC, hl⟩ hW
    subst hn
    refine (names_any A c l W (Kd.C_below hC hW) hl).mono ?_
    rintro e w' ⟨v, rfl, hv, hb⟩
    obtain ⟨A, c, rfl, _⟩ := Kd.R_reads hv
    exact ⟨A, c, rfl, Kd.R_lower hv hW.size, hb⟩⟩
  have XN : SrcN w N ln nc names := ⟨hln, HH.out.hN, HS.out.ln⟩
  have XS : SrcN w S ls sc safe := ⟨hls, HH.out.hS, HS.out.ls⟩
  clear h hs HH HS hlf hln hls
  go_enter Try.func11, Try.ntmps11
  go_upto_region 1 with (fail)
  obtain ⟨W, hW⟩ : ∃ W, W = ((w.alloc (Obj.cells #[.int .i64 cap, .slice F lf fc, .slice N ln nc, .slice S ls sc, .int .i64 next] 25)).alloc
      (Obj.cells #[.int .i64 0, .slice none 0 0, .slice none 0 0, .slice none 0 0, .int .i64 0] 33)) := ⟨_, rfl⟩
  have hj : W.heap[w.heap.size]? = some (.cells #[.int .i64 cap, .slice F lf fc, .slice N ln nc, .slice S ls sc, .int .i64 next] 25 (0, 0)) := by rw [hW]; exact blk_alloc (blk_new _ _) _
  have hk : W.heap[w.heap.size + 1]? = some (.cells #[.int .i64 0, .slice none 0 0, .slice none 0 0, .slice none 0 0, .int .i64 0] 33 (0, 0)) := by rw [hW]; exact blk_new1 _ _ _ _
  have HB : Aside0 (Below w.heap.size w W) := ⟨by rw [hW]; exact below_alloc (below_alloc (Below.refl _ _) _) _⟩
  rw [← hW]
  clear hW
  have FJ := Aside0.mk (fun (w' : World) (b : Below W.heap.size W w') => all5 (blk_keep hj b))
  have FK := Aside0.mk (fun (w' : World) (b : Below W.heap.size W w') => all5 (blk_keep hk b))
  obtain ⟨d0, d1, d2, d3, d4, _, _, _, _, _⟩ := FJ.out W.drew (below_drew (Below.refl _ _))
  have HK := Aside0.mk hk
  have HD : Aside0 (Below W.heap.size W W.drew) := ⟨below_drew (Below.refl _ _)⟩
  clear hj hk
  go_region_held3 (fun w' => w'.cell? ⟨w.heap.size, 0, none⟩ = some (.int .i64 cap) ∧ w'.cell? ⟨w.heap.size, 1, none⟩ = some (.slice F lf fc) ∧ w'.cell? ⟨w.heap.size, 2, none⟩ = some (.slice N ln nc) ∧ w'.cell? ⟨w.heap.size, 3, none⟩ = some (.slice S ls sc) ∧ w'.cell? ⟨w.heap.size, 4, none⟩ = some (.int .i64 next)) (first | with_reducible exact ⟨d0, d1, d2, d3, d4⟩ | with_reducible exact ⟨i0, i1, i2, i3, i4⟩ | with_reducible exact ⟨m0, m1, m2, m3, m4⟩ | with_reducible exact ⟨n0, n1, n2, n3, n4⟩ | go_keep) (first
    | (go_at_call 38; refine (CF.out _ (bthen HB.out (by first | with_reducible exact hwn | with_reducible exact hwm | with_reducible exact HD.out))).mono ?_; rintro e wi ⟨Ai, ci, rfl, hi, bi⟩; (have hwi : Below W.heap.size W wi := bthen (by first | with_reducible exact hwn | with_reducible exact hwm | with_reducible exact HD.out) bi); obtain ⟨i0, i1, i2, i3, i4, _, _, _, _, _⟩ := FJ.out _ hwi; obtain ⟨zi0, zi1, zi2, zi3, zi4, fi0, fi1, fi2, fi3, fi4⟩ := FK.out _ hwi)
    | (go_at_call 39; refine Calls.mono (CN.out _ _ _ _ names ?src ?bel) ?_; (case src => exact XN); (case bel => exact bthen HB.out (by first | with_reducible exact hwn | with_reducible exact hwi | with_reducible exact HD.out)); rintro e wm ⟨Am, cm, rfl, hm, bm⟩; (have hwm : Below W.heap.size W wm := bthen (by first | with_reducible exact hwn | with_reducible exact hwi | with_reducible exact HD.out) bm); obtain ⟨m0, m1, m2, m3, m4, _, _, _, _, _⟩ := FJ.out _ hwm; obtain ⟨zm0, zm1, zm2, zm3, zm4, fm0, fm1, fm2, fm3, fm4⟩ := FK.out _ hwm)
    | (go_at_call 39; refine Calls.mono (CN.out _ _ _ _ safe ?src ?bel) ?_; (case src => exact XS); (case bel => exact bthen HB.out (by first | with_reducible exact hwm | with_reducible exact hwi | with_reducible exact HD.out)); rintro e wn ⟨An, cn, rfl, hn, bn⟩; (have hwn : Below W.heap.size W wn := bthen (by first | with_reducible exact hwm | with_reducible exact hwi | with_reducible exact HD.out) bn); obtain ⟨n0, n1, n2, n3, n4, _, _, _, _, _⟩ := FJ.out _ hwn; obtain ⟨zn0, zn1, zn2, zn3, zn4, fn0, fn1, fn2, fn3, fn4⟩ := FK.out _ hwn))
  all_goals go_wp2
  all_goals first
    | refine bodyPost_ret (results_cell_row rfl _ _ (w.heap.size + 1) 33 #[.int .i64 cap, .slice Ai lf ci, .slice Am ln cm, .slice An ls cn, .int .i64 next] (0, 0) _ rfl (blk5 (blk_keep HK.out hwi)) Try.underlying33 rfl (by kernel_rfl)) rfl ?_
    | refine bodyPost_ret (results_cell_row rfl _ _ (w.heap.size + 1) 33 #[.int .i64 cap, .slice Ai lf ci, .slice Am ln cm, .slice An ls cn, .int .i64 next] (0, 0) _ rfl (blk5 (blk_keep HK.out hwm)) Try.underlying33 rfl (by kernel_rfl)) rfl ?_
    | refine bodyPost_ret (results_cell_row rfl _ _ (w.heap.size + 1) 33 #[.int .i64 cap, .slice Ai lf ci, .slice Am ln cm, .slice An ls cn, .int .i64 next] (0, 0) _ rfl (blk5 (blk_keep HK.out hwn)) Try.underlying33 rfl (by kernel_rfl)) rfl ?_
  all_goals refine ⟨_, _, _, rfl, Rset5 ?_ (apart_of (blk_keep HK.out ?_) RF_types) _ _ _ _ _, Rset5 ?_ (apart_of (blk_keep HK.out ?_) RN_types) _ _ _ _ _, Rset5 ?_ (apart_of (blk_keep HK.out ?_) RN_types) _ _ _ _ _, below_set5 (bthen HB.out ?_) (Nat.le_succ _) _ _ _ _ _⟩
  all_goals first
    | with_reducible exact hwi
    | with_reducible exact hwm
    | with_reducible exact hwn
    | (repeat (first | with_reducible exact hi | with_reducible exact hm | with_reducible exact hn | with_reducible refine Kd.R_below ?_ bi | with_reducible refine Kd.R_below ?_ bm | with_reducible refine Kd.R_below ?_ bn))
end Go.Proofs.Ytfakfgblaakgdaa.Files

/- (files.State).clone: walked. -/
namespace Go.Proofs.Ytfakfgblaakgdaa.Files
set_option linter.unusedVariables false
set_option linter.unusedSimpArgs false
open Go.RowKit Go.Proofs.YtfakfgblaakgdaaW.PrintWords Go.Proofs.YtfakfgblaakgdaaW.PrintLast Go.Proofs.Ytfakfgblaakgdaa.Base Go.Proofs.Ytfakfgblaakgdaa.Cells Go.Proofs.Ytfakfgblaakgdaa.Ints Go.Proofs.Ytfakfgblaakgdaa.Var Go.Proofs.Ytfakfgblaakgdaa.EditPure Go.Proofs.Ytfakfgblaakgdaa.Edit Go.Proofs.Ytfakfgblaakgdaa.RowsC

/-- what a clone's first assignment leaves -/
structure Cl1 (w0 : World) (g : Nat) (s : St) (L : List (Fl × Value)) (w : World) (vF vN vS : Value) : Prop where
  blk : w.heap[g]? = some (.cells #[.int .i64 s.cap, vF, vN, vS, .int .i64 s.next] 33 (0, 0))
  rF : CR 79 3 w w0.heap.size vF (L.map rowF)
  rN : CR 81 2 w w0.heap.size vN (s.names.map Nm.cs)
  rS : CR 81 2 w w0.heap.size vS (s.safe.map Nm.cs)
  ap : ∀ k, vN.ownBlock = some k → vS.ownBlock ≠ some k
  bel : Below w0.heap.size w0 w
theorem CR_of_RN {w : World} {base : Nat} {v : Value} {l : List Nm} (h : RN w base v l) : CR 81 2 w base v (l.map Nm.cs) := CR_of_R (d := kNm) (fun h => kNm_openM h) (fun _ => rfl) h
theorem RN_of_CR {w : World} {base : Nat} {v : Value} {l : List Nm} (h : CR 81 2 w base v (l.map Nm.cs)) : RN w base v l := R_of_CR (d := kNm) (fun x _ => kNm_mkM _ _ _ x) (fun _ => rfl) h
theorem CR_of_RFd {w : World} {base : Nat} {v : Value} {L : List (Fl × Value)} (h : RFd w base v L) : CR 79 3 w base v (L.map rowF) := CR_of_R (d := kFd) (fun h => h.1) (fun _ => rfl) h
/-- three stores into a state's block -/
theorem blk_put3 {w : World} {g : Nat} {t : TypeId} {a b c d e x y z : Value} (h : w.heap[g]? = some (.cells #[a, b, c, d, e] t (0, 0))) : (((w.setCell ⟨g, 1, none⟩ x).setCell ⟨g, 2, none⟩ y).setCell ⟨g, 3, none⟩ z).heap[g]? = some (.cells #[a, x, y, z, e] t (0, 0)) :=
  blk_put (blk_put (blk_put h 1 x rfl) 2 y rfl) 3 z rfl
theorem keep3 {w : World} {g k : Nat} (x y z : Value) (h : k ≠ g) : (((w.setCell ⟨g, 1, none⟩ x).setCell ⟨g, 2, none⟩ y).setCell ⟨g, 3, none⟩ z).heap[k]? = w.heap[k]? := by
  rw [Below.heap_setCell _ _ _ _ h, Below.heap_setCell _ _ _ _ h, Below.heap_setCell _ _ _ _ h]
theorem CR_keep3 {e sz base g : Nat} {w : World} {v x y z : Value} {rows : List (List Value)} {t : TypeId} {cs : Array Value} (h : CR e sz w base v rows) (hg : w.heap[g]? = some (.cells cs t (0, 0))) (hne : e ≠ t) : CR e sz (((w.setCell ⟨g, 1, none⟩ x).setCell ⟨g, 2, none⟩ y).setCell ⟨g, 3, none⟩ z) base v rows := by
  refine h.step (fun k hk => keep3 _ _ _ ?_)
  rintro rfl
  obtain ⟨_, _, cs', h2⟩ := h.block k hk
  rw [h2] at hg
  injection hg with hg
  injection hg with _ hg
  exact hne hg
theorem below_put3 {B : Nat} {w0 w : World} {g : Nat} (h : Below B w0 w) (hg : B ≤ g) (x y z : Value) : Below B w0 (((w.setCell ⟨g, 1, none⟩ x).setCell ⟨g, 2, none⟩ y).setCell ⟨g, 3, none⟩ z) :=
  ((h.setCell (p := ⟨g, 1, none⟩) hg x).setCell (p := ⟨g, 2, none⟩) hg y).setCell (p := ⟨g, 3, none⟩) hg z

theorem type_ne {w : World} {k g : Nat} {q t : TypeId} {cs ds : Array Value} (hk : w.heap[k]? = some (.cells cs q (0, 0))) (hg : w.heap[g]? = some (.cells ds t (0, 0))) (hne : q ≠ t) : k ≠ g := by
  rintro rfl
  rw [hk] at hg
  injection hg with hg
  injection hg with _ hg
  exact hne hg
theorem keep5 {w : World} {g k : Nat} (a b c d e : Value) (h : k ≠ g) : (((((w.setCell ⟨g, 0, none⟩ a).setCell ⟨g, 1, none⟩ b).setCell ⟨g, 2, none⟩ c).setCell ⟨g, 3, none⟩ d).setCell ⟨g, 4, none⟩ e).heap[k]? = w.heap[k]? := by
  rw [Below.heap_setCell _ _ _ _ h, Below.heap_setCell _ _ _ _ h, Below.heap_setCell _ _ _ _ h, Below.heap_setCell _ _ _ _ h, Below.heap_setCell _ _ _ _ h]
theorem OF.far5 {e t : TypeId} {w : World} {base g : Nat} {v : Value} {L : List (Fl × Value)} {cs : Array Value} (h : OF e w base v L) (hg : w.heap[g]? = some (.cells cs t (0, 0))) (h1 : e ≠ t) (h2 : 5 ≠ t) (a b c d f : Value) :
    OF e (((((w.setCell ⟨g, 0, none⟩ a).setCell ⟨g, 1, none⟩ b).setCell ⟨g, 2, none⟩ c).setCell ⟨g, 3, none⟩ d).setCell ⟨g, 4, none⟩ f) base v L :=
  h.step (fun k hk => keep5 _ _ _ _ _ (by obtain ⟨_, _, cs', h3⟩ := h.row.block k hk; exact type_ne h3 hg h1))
    (fun x hx k hk => keep5 _ _ _ _ _ (by obtain ⟨cs', h3⟩ := own_typed (h.own x hx) k hk; exact type_ne h3 hg h2))
theorem RB_set {w : World} {base g o t : Nat} {v u : Value} {l : List Int} {cs : Array Value} (h : RB w base v l) (hg : w.heap[g]? = some (.cells cs t (0, 0))) (hne : 5 ≠ t) : RB (w.setCell ⟨g, o, none⟩ u) base v l :=
  RB_step h (fun k hk => Below.heap_setCell _ _ _ _ (by obtain ⟨cs', h2⟩ := own_typed h k hk; exact type_ne h2 hg hne))
theorem map_fst_set {L : List (Fl × Value)} {i : Nat} {x : Fl × Value} (v : Value) (h : L[i]? = some x) : (L.set i (x.1, v)).map (·.1) = L.map (·.1) := by
  apply List.ext_getElem?
  intro j
  rw [List.getElem?_map, List.getElem?_map, List.getElem?_set]
  split
  · rename_i e
    subst e
    rw [h]
    split
    · rfl
    · rename_i hn; exact absurd (List.getElem?_eq_some_iff.1 h).1 hn
  · rfl
theorem row_set {L : List (Fl × Value)} {i : Nat} {x : Fl × Value} (v : Value) : (L.set i (x.1, v)).map rowF = (L.map rowF).set i ((rowF x).set 1 v) := by
  rw [List.map_set]; rfl

set_option maxRecDepth 100000 in
set_option maxHeartbeats 4000000 in
theorem clone_any (s : St) (F N S : Option Addr) (fc nc sc : Nat) (w : World) (h : Hd w s F fc N nc S sc) (hs : Small s) :
    Calls Try.prog 44 #[.agg #[.int .i64 s.cap, .slice F s.files.length fc, .slice N s.names.length nc, .slice S s.safe.length sc, .int .i64 s.next]] w fun e w' => ∃ vF vN vS L, e = .returned (.agg #[.int .i64 s.cap, vF, vN, vS, .int .i64 s.next]) ∧ OF 79 w' w.heap.size vF L ∧ L.map (·.1) = s.files ∧ RN w' w.heap.size vN s.names ∧ RN w' w.heap.size vS s.safe ∧ (∀ k, vN.ownBlock = some k → vS.ownBlock ≠ some k) ∧ Below w.heap.size w w' := by
  obtain ⟨L, hL, hC, hD⟩ := fd_of h.hF
  have hll : L.length = s.files.length := by rw [← hL, List.length_map]
  have HH := Aside0.mk h
  have HS := Aside0.mk hs
  have HLL := Aside0.mk hll
  have HCL := Aside0.mk hC
  have HDL := Aside0.mk hD
  have HLM := Aside0.mk hL
  obtain ⟨cap, files, names, safe, next⟩ := s
  obtain ⟨lf, hlf⟩ : ∃ n, files.length = n := ⟨_, rfl⟩
  obtain ⟨ln, hln⟩ : ∃ n, names.length = n := ⟨_, rfl⟩
  obtain ⟨ls, hls⟩ : ∃ n, safe.length = n := ⟨_, rfl⟩
  have hsf : files.length ≤ 1048576 := hs.lf
  have hlL : L.length = lf := hll.trans hlf
  have HLF : Aside0 (lf ≤ 1048576) := ⟨by omega⟩
  have HLn := Aside0.mk hlL
  simp only [hlf, hln, hls]
  have CF : Aside0 (∀ W, Below w.heap.size w W → Calls Try.prog 71 #[.slice F lf fc] W fun e w' => ∃ A c, e = .returned (.slice A lf c) ∧ RFd w' W.heap.size (.slice A lf c) L ∧ Below W.heap.size W w') := ⟨by
    intro W hW
    have hc : kFd.C W F L.length L := by have := Kd.C_below HCL.out hW; rwa [← hll] at this
    refine ((hlL ▸ cloneF_any F fc L W hc (by omega)) : Calls Try.prog 71 #[.slice F lf fc] W _).mono ?_
    rintro e w' ⟨v, rfl, hv, hb⟩
    obtain ⟨A, c, rfl⟩ := Kd.R_slice hv
    rw [hlL] at hv
    exact ⟨A, c, by rw [hlL], hv, hb⟩⟩
  have CN : Aside0 (∀ W A n c l, SrcN w A n c l → Below w.heap.size w W → Calls Try.prog 55 #[.slice A n c] W fun e w' => ∃ A c, e = .returned (.slice A n c) ∧ RN w' W.heap.size (.slice A n c) l ∧ Below W.heap.size W w') := ⟨by
    rintro W A n c l ⟨hn, hC, hl⟩ hW
    subst hn
    refine (cloneN_any A c l W (Kd.C_below hC hW) hl).mono ?_
    rintro e w' ⟨v, rfl, hv, hb⟩
    obtain ⟨A, c, rfl, _⟩ := Kd.R_reads hv
    exact ⟨A, c, rfl, hv, hb⟩⟩
  have XN : SrcN w N ln nc names := ⟨hln, HH.out.hN, HS.out.ln⟩
  have XS : SrcN w S ls sc safe := ⟨hls, HH.out.hS, HS.out.ls⟩
  clear h hs hL hC hD hll hlL hsf hlf
  go_enter Try.func44, Try.ntmps44
  go_upto_region 1 with (fail)
  obtain ⟨W, hW⟩ : ∃ W, W = ((w.alloc (Obj.cells #[.int .i64 cap, .slice F lf fc, .slice N ln nc, .slice S ls sc, .int .i64 next] 33)).alloc
      (Obj.cells #[.int .i64 0, .slice none 0 0, .slice none 0 0, .slice none 0 0, .int .i64 0] 33)) := ⟨_, rfl⟩
  have hj : W.heap[w.heap.size]? = some (.cells #[.int .i64 cap, .slice F lf fc, .slice N ln nc, .slice S ls sc, .int .i64 next] 33 (0, 0)) := by rw [hW]; exact blk_alloc (blk_new _ _) _
  have hk : W.heap[w.heap.size + 1]? = some (.cells #[.int .i64 0, .slice none 0 0, .slice none 0 0, .slice none 0 0, .int .i64 0] 33 (0, 0)) := by rw [hW]; exact blk_new1 _ _ _ _
  have HB : Aside0 (Below w.heap.size w W) := ⟨by rw [hW]; exact below_alloc (below_alloc (Below.refl _ _) _) _⟩
  have HZ : Aside0 (w.heap.size + 2 = W.heap.size) := ⟨by rw [hW]; simp⟩
  rw [← hW]
  clear hW
  have HJ := Aside0.mk hj
  have HK := Aside0.mk hk
  have FJ := Aside0.mk (fun (w' : World) (b : Below W.heap.size W w') => all5 (blk_keep hj b))
  clear hj hk
  go_cut [2] (fun v2 wc => v2 = .pointer (some ⟨w.heap.size + 1, 0, none⟩) ∧ ∃ A1 c1 A2 c2 A3 c3, Aside0 (Cl1 w w.heap.size ⟨cap, files, names, safe, next⟩ L wc (.slice A1 lf c1) (.slice A2 ln c2) (.slice A3 ls c3) ∧ wc.heap[w.heap.size + 1]? = some (.cells #[.int .i64 0, .slice none 0 0, .slice none 0 0, .slice none 0 0, .int .i64 0] 33 (0, 0))))
  case first =>
    have HD : Aside0 (Below W.heap.size W W.drew) := ⟨below_drew (Below.refl _ _)⟩
    have sd : W.drew.heap.size = W.heap.size := rfl
    obtain ⟨_, d1, d2, d3, _, _, fd1, fd2, fd3, _⟩ := FJ.out W.drew HD.out
    go_region_law (go_simp; go_wp2_with (first
      | (go_at_call 71; refine (CF.out _ (bthen HB.out (by first | with_reducible exact hwn | with_reducible exact hwm | with_reducible exact HD.out))).mono ?_; rintro e wi ⟨Ai, ci, rfl, hi, bi⟩; (have si := bi.size); (have hwi : Below W.heap.size W wi := bthen (by first | with_reducible exact hwn | with_reducible exact hwm | with_reducible exact HD.out) bi); obtain ⟨_, i1, i2, i3, _, _, fi1, fi2, fi3, _⟩ := FJ.out _ hwi)
      | (go_at_call 55; refine Calls.mono (CN.out _ _ _ _ names ?src ?bel) ?_; (case src => exact XN); (case bel => exact bthen HB.out (by first | with_reducible exact hwn | with_reducible exact hwi | with_reducible exact HD.out)); rintro e wm ⟨Am, cm, rfl, hm, bm⟩; (have sm := bm.size); (have hwm : Below W.heap.size W wm := bthen (by first | with_reducible exact hwn | with_reducible exact hwi | with_reducible exact HD.out) bm); obtain ⟨_, m1, m2, m3, _, _, fm1, fm2, fm3, _⟩ := FJ.out _ hwm)
      | (go_at_call 55; refine Calls.mono (CN.out _ _ _ _ safe ?src ?bel) ?_; (case src => exact XS); (case bel => exact bthen HB.out (by first | with_reducible exact hwm | with_reducible exact hwi | with_reducible exact HD.out)); rintro e wn ⟨An, cn, rfl, hn, bn⟩; (have sn := bn.size); (have hwn : Below W.heap.size W wn := bthen (by first | with_reducible exact hwm | with_reducible exact hwi | with_reducible exact HD.out) bn); obtain ⟨_, n1, n2, n3, _, _, fn1, fn2, fn3, _⟩ := FJ.out _ hwn)))
    all_goals go_wp2_with fail
    all_goals go_meet
    all_goals exact ⟨rfl, Ai, ci, Am, cm, An, cn, ⟨⟨blk_put3 (blk_keep HJ.out hwn), CR_keep3 ((((CR_of_RFd hi).below bm).below bn).lower (by have := HB.out.size; omega)) (blk_keep HJ.out hwn) (by decide), CR_keep3 (((CR_of_RN hm).below bn).lower (by have := HB.out.size; omega)) (blk_keep HJ.out hwn) (by decide), CR_keep3 ((CR_of_RN hn).lower (by have := HB.out.size; omega)) (blk_keep HJ.out hwn) (by decide), fun k h1 h2 => (by have := Kd.R_lt hm k h1; have := Kd.R_base hn k h2; omega), below_put3 (bthen HB.out hwn) (Nat.le_refl _) _ _ _⟩, (keep3 _ _ _ (by omega)).trans (blk_keep HK.out hwn)⟩⟩
  case rest =>
    obtain ⟨rfl, A1, c1, A2, c2, A3, c3, HC1⟩ := hcut
    obtain ⟨_, x1, _, _, _, _, _, _, _, _⟩ := all5 HC1.out.1.blk
    clear CF CN XN XS
    go_wp2
    go_loopg [20] lf (fun gk v20 wr => ∃ (i : Nat) (L' : List (Fl × Value)), v20 = .int .i64 i ∧ gk + i = lf ∧ Aside0 (CR 79 3 wr w.heap.size (.slice A1 lf c1) (L'.map rowF) ∧ L'.map (·.1) = files ∧ L'.drop i = L.drop i ∧ (∀ x ∈ L'.take i, RB wr w.heap.size x.2 x.1.data) ∧ ((L'.take i).filterMap fun x => x.2.ownBlock).Nodup) ∧ Aside0 (wc.grownBy wr (Value.slice A1 lf c1).ownBlock ∧ Below w.heap.size w wr))
    case atStart => exact ⟨0, L, rfl, by omega, ⟨HC1.out.1.rF, HLM.out, rfl, by simp, by simp⟩, ⟨grown_refl _ _, HC1.out.1.bel⟩⟩
    case round =>
      clear x1
      obtain ⟨i, L', rfl, hg, HR', HG⟩ := hrel
      have hL'l : L'.length = lf := by have := congrArg List.length HR'.out.2.1; have := congrArg List.length HLM.out; rw [List.length_map] at *; have := HLn.out; omega
      by_cases hlt : i < lf
      · obtain ⟨x, hx'⟩ : ∃ x, L'[i]? = some x := ⟨_, List.getElem?_eq_getElem (by omega)⟩
        have hx : L[i]? = some x := by have := congrArg (fun l => l[0]?) HR'.out.2.2.1; simp only [List.getElem?_drop, Nat.add_zero] at this; rw [← this]; exact hx'
        obtain ⟨D, dc, hxv, hdl, hrd⟩ := HDL.out x (List.mem_of_getElem? hx)
        have hxm : x.1 ∈ files := by rw [← HLM.out]; exact List.mem_map.2 ⟨x, List.mem_of_getElem? hx, rfl⟩
        have hdm := HS.out.ld x.1 hxm
        obtain ⟨gF, cap', hA, hbg, hcm, hrow⟩ : ∃ g cap, Value.slice A1 lf c1 = .slice (some ⟨g, 0, none⟩) (L'.map rowF).length cap ∧ w.heap.size ≤ g ∧ cap ≤ 9223372036854775807 ∧ CRow 79 3 wr g cap (L'.map rowF) := by
          rcases HR'.out.1 with ⟨_, h2⟩ | h
          · rw [List.map_eq_nil_iff] at h2; rw [h2] at hL'l; simp at hL'l; omega
          · exact h
        injection hA with hA1 hA2 hA3
        subst hA1 hA3
        have hrx : (L'.map rowF)[i]? = some (rowF x) := by rw [List.getElem?_map, hx']; rfl
        have d0 : wr.cell? ⟨gF, i * 3, none⟩ = some (.int .i64 x.1.id) := hrow.cell i _ hrx 0 (by omega)
        have d1 : wr.cell? ⟨gF, i * 3 + 1, none⟩ = some (.slice D x.1.data.length dc) := by have := hrow.cell i _ hrx 1 (by omega); rw [rowF, hxv] at this; exact this
        have d2 : wr.cell? ⟨gF, i * 3 + 2, none⟩ = some (.int .i64 x.1.sync) := hrow.cell i _ hrx 2 (by omega)
        have hfr := hrow.froz (i * 3 + 1)
        have hgt : ∃ cs, wr.heap[gF]? = some (.cells cs 79 (0, 0)) := by obtain ⟨cs, h1, _⟩ := hrow; exact ⟨cs, h1⟩
        have hlg : gF < wr.heap.size := hrow.lt
        have hgc : gF < wc.heap.size ∧ ∃ cs, wc.heap[gF]? = some (.cells cs 79 (0, 0)) := by
          obtain ⟨_, h2, cs, h3⟩ := HC1.out.1.rF.block gF (by simp [Value.ownBlock])
          exact ⟨h2, cs, h3⟩
        obtain ⟨csF, hcF⟩ := hgc.2
        have hgw : w.heap.size ≠ gF := fun e => type_ne HC1.out.1.blk hcF (by decide) e
        have hst : wr.heap[w.heap.size]? = some (.cells #[.int .i64 cap, .slice (some ⟨gF, 0, none⟩) lf c1, .slice A2 ln c2, .slice A3 ls c3, .int .i64 next] 33 (0, 0)) :=
          (HG.out.1.block w.heap.size (blk_lt HC1.out.1.blk) (by simpa [Value.ownBlock] using hgw)).trans HC1.out.1.blk
        have y1 := (all5 hst).2.1
        have HX' := Aside0.mk hx'
        have HRow := Aside0.mk hrow
        have HRD := Aside0.mk (hrd.below HG.out.2)
        have HDM := Aside0.mk hdm
        have HST := Aside0.mk hst
        have hlt' : (i : Int) < lf := by omega
        have hlf2 := HLF.out
        have HLl := Aside0.mk hL'l
        clear hx' hx hrow hxv hxm hrd hdm hrx hcF hst hA2 hL'l hgt hgc
        go_upto_region 5 with (fail)
        obtain ⟨W5, hW5⟩ : ∃ W5, W5 = wr.alloc (.cells #[.int .i64 x.1.id, .slice D x.1.data.length dc, .int .i64 x.1.sync] 79) := ⟨_, rfl⟩
        have HB5 : Aside0 (Below wr.heap.size wr W5) := ⟨by rw [hW5]; exact below_alloc (Below.refl _ _) _⟩
        have HZ5 : Aside0 (W5.heap.size = wr.heap.size + 1) := ⟨by rw [hW5]; simp⟩
        have k1 : W5.cell? ⟨wr.heap.size, 1, none⟩ = some (.slice D x.1.data.length dc) := by rw [hW5]; exact new_cell _ _ _ 1 _ rfl
        rw [← hW5]
        clear hW5
        have z1 := pw_cell_below HB5.out y1
        have q1 := pw_cell_below HB5.out d1
        have qf := (bcell HB5.out).2 gF (i * 3 + 1) hlg
        rw [hfr] at qf
        have Z1 : Aside0 (W5.cell? ⟨w.heap.size, 1, none⟩ = _) := ⟨z1⟩
        have Q1 : Aside0 (W5.cell? ⟨gF, i * 3 + 1, none⟩ = _) := ⟨q1⟩
        have K1 := Aside0.mk k1
        have QF := Aside0.mk qf
        have hl5 : gF < W5.heap.size := by have := HZ5.out; omega
        clear d0 d1 d2 y1 z1 q1 k1 qf hfr
        have e1 : W5.drew.cell? ⟨w.heap.size, 1, none⟩ = some (.slice (some ⟨gF, 0, none⟩) lf c1) := Z1.out
        have e2 : W5.drew.cell? ⟨wr.heap.size, 1, none⟩ = some (.slice D x.1.data.length dc) := K1.out
        have CO : Aside0 (Calls Try.prog 50 #[.slice D x.1.data.length dc] W5.drew fun e w' => ∃ A c, e = .returned (.slice A x.1.data.length c) ∧ RB w' W5.heap.size (.slice A x.1.data.length c) x.1.data ∧ Below W5.heap.size W5 w') := ⟨by
          refine (cloneO_any D dc x.1.data W5.drew (HRD.out.below (bthen HB5.out (below_drew (Below.refl _ _)))) HDM.out).mono ?_
          rintro e w' ⟨v, rfl, hv, hb⟩
          obtain ⟨A, c, rfl, _⟩ := RB_reads hv
          exact ⟨A, c, rfl, hv, bthen (below_drew (Below.refl _ _)) hb⟩⟩
        go_region_law (go_simp; go_wp2_with (go_at_call 50; refine CO.out.mono ?_; rintro e w6 ⟨A6, c6, rfl, ho6, hb6⟩; have HO6 := Aside0.mk ho6; have HB6 := Aside0.mk hb6; have e3 := pw_cell_below hb6 Z1.out; have e4 := pw_cell_below hb6 Q1.out; have e5 := ((bcell hb6).2 gF (i * 3 + 1) hl5).trans QF.out; clear ho6 hb6))
        all_goals go_wp2
        all_goals go_roundg (lf - (i + 1))
        all_goals first
          | (guard_target =~ (_ : Nat) < _; omega)
          | skip
        all_goals
          have HW6 := bthen HB5.out HB6.out
          have hrw := HRow.out.keep HW6
          obtain ⟨cs6, hg6, _⟩ := hrw
          have hx' := HX'.out
          refine ⟨i + 1, L'.set i (x.1, .slice A6 x.1.data.length c6), by go_num, by omega, ⟨.inr ⟨gF, c1, by rw [List.length_map, List.length_set, HLl.out], hbg, hcm, ?_⟩, by rw [map_fst_set _ hx']; exact HR'.out.2.1, ?_, ?_, ?_⟩, ⟨?_, ?_⟩⟩
          · rw [row_set]
            exact (HRow.out.keep HW6).put i 1 (rowF x) _ (by rw [List.getElem?_map, hx']; rfl) (by omega)
          · have h1 := congrArg (List.drop 1) HR'.out.2.2.1
            rw [List.drop_drop, List.drop_drop] at h1
            rw [List.drop_set_of_lt (Nat.lt_succ_self i)]
            exact h1
          · intro y hy
            rw [List.take_add_one, List.getElem?_set_self (by have := HLl.out; omega), List.take_set_of_le (Nat.le_refl _)] at hy
            rcases List.mem_append.1 hy with hy | hy
            · exact RB_set (RB_below (HR'.out.2.2.2.1 y hy) HW6) hg6 (by decide)
            · rw [Option.toList_some, List.mem_singleton] at hy
              subst hy
              exact RB_set (own_weaken HO6.out (by have := HG.out.2.size; have := HB5.out.size; omega)) hg6 (by decide)
          · rw [List.take_add_one, List.getElem?_set_self (by have := HLl.out; omega), List.take_set_of_le (Nat.le_refl _), Option.toList_some, List.filterMap_append]
            refine List.nodup_append.2 ⟨HR'.out.2.2.2.2, ?_, fun a ha b hb hab => ?_⟩
            · rw [List.filterMap_cons, List.filterMap_nil]
              split <;> simp
            · subst hab
              obtain ⟨y, hy, hya⟩ := List.mem_filterMap.1 ha
              obtain ⟨z, hz, hza⟩ := List.mem_filterMap.1 hb
              rw [List.mem_singleton] at hz
              subst hz
              have h1 := own_lt (HR'.out.2.2.2.1 y hy) a hya
              have h2 := own_base HO6.out a hza
              have := HB5.out.size
              omega
          · exact grown_trans HG.out.1 (grown_trans (grown_of_below HW6 _) (show World.grownBy _ _ (some gF) from setCells_grown _ gF (i * 3 + 1) [Value.slice A6 x.1.data.length c6]))
          · exact (bthen HG.out.2 HW6).setCell hbg _
      · have hie : i = lf := by omega
        have hst : wr.heap[w.heap.size]? = some (.cells #[.int .i64 cap, .slice A1 lf c1, .slice A2 ln c2, .slice A3 ls c3, .int .i64 next] 33 (0, 0)) :=
          (HG.out.1.block w.heap.size (blk_lt HC1.out.1.blk) (fun e => by
            obtain ⟨_, _, cs, h3⟩ := HC1.out.1.rF.block w.heap.size e.symm
            exact type_ne HC1.out.1.blk h3 (by decide) rfl)).trans HC1.out.1.blk
        obtain ⟨y0, y1, y2, y3, y4, _, _, _, _, _⟩ := all5 hst
        have hst2 : wr.heap[w.heap.size + 1]? = some (.cells #[.int .i64 0, .slice none 0 0, .slice none 0 0, .slice none 0 0, .int .i64 0] 33 (0, 0)) :=
          (HG.out.1.block (w.heap.size + 1) (blk_lt HC1.out.2) (fun e => by
            obtain ⟨_, _, cs, h3⟩ := HC1.out.1.rF.block (w.heap.size + 1) e.symm
            exact type_ne HC1.out.2 h3 (by decide) rfl)).trans HC1.out.2
        have HT2 := Aside0.mk hst2
        obtain ⟨z0, z1, z2, z3, z4, f0, f1, f2, f3, f4⟩ := all5 hst2
        have hfull : L'.take i = L' := List.take_of_length_le (by omega)
        have HOF : Aside0 (OF 79 wr w.heap.size (.slice A1 lf c1) L') := ⟨⟨HR'.out.1, by have := HR'.out.2.2.2.1; rwa [hfull] at this, by have := HR'.out.2.2.2.2; rwa [hfull] at this⟩⟩
        have HNr : Aside0 (CR 81 2 wr w.heap.size (.slice A2 ln c2) (names.map Nm.cs)) := ⟨HC1.out.1.rN.other HG.out.1 (fun k hk e => by
          obtain ⟨_, _, cs, h3⟩ := HC1.out.1.rN.block k hk
          obtain ⟨_, _, cs', h4⟩ := HC1.out.1.rF.block k e.symm
          exact type_ne h3 h4 (by decide) rfl)⟩
        have HSr : Aside0 (CR 81 2 wr w.heap.size (.slice A3 ls c3) (safe.map Nm.cs)) := ⟨HC1.out.1.rS.other HG.out.1 (fun k hk e => by
          obtain ⟨_, _, cs, h3⟩ := HC1.out.1.rS.block k hk
          obtain ⟨_, _, cs', h4⟩ := HC1.out.1.rF.block k e.symm
          exact type_ne h3 h4 (by decide) rfl)⟩
        clear hst hst2 hL'l hfull
        go_wp2
        refine bodyPost_ret (results_cell_row rfl _ _ (w.heap.size + 1) 33 #[.int .i64 cap, .slice A1 lf c1, .slice A2 ln c2, .slice A3 ls c3, .int .i64 next] (0, 0) _ rfl (blk5 HT2.out) Try.underlying33 rfl (by kernel_rfl)) rfl ?_
        exact ⟨_, _, _, L', rfl, HOF.out.far5 HT2.out (by decide) (by decide) _ _ _ _ _, HR'.out.2.1, Rset5 (RN_of_CR HNr.out) (apart_of HT2.out RN_types) _ _ _ _ _, Rset5 (RN_of_CR HSr.out) (apart_of HT2.out RN_types) _ _ _ _ _, HC1.out.1.ap, below_set5 HG.out.2 (Nat.le_succ _) _ _ _ _ _⟩
end Go.Proofs.Ytfakfgblaakgdaa.Files
