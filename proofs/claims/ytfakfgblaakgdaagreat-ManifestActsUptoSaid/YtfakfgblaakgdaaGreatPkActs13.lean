/- A part of the proof: manifest.Note; the document's Begin and Note: walked. (Printed by wip/gen_beginc.py.) -/
import Derived.Test.YtfakfgblaakgdaaGreatPkActs12
import Derived.Test.YtfakfgblaakgdaaGreatPkActs7
import Derived.Test.YtfakfgblaakgdaaGreatPkActs6
import Derived.Test.YtfakfgblaakgdaaGreatPkActs2
import Derived.Test.YtfakfgblaakgdaaGreatWEqStruct

/- manifest.Note; the document's Begin and Note: walked. (Printed by wip/gen_beginc.py.) -/
namespace Go.Proofs.YtfakfgblaakgdaaGreat.Files
set_option linter.unusedVariables false
set_option linter.unusedSimpArgs false
open Go.RowKit Go.Proofs.YtfakfgblaakgdaaGreatW.PrintWords Go.Proofs.YtfakfgblaakgdaaGreatW.PrintLast Go.Proofs.YtfakfgblaakgdaaGreat.Base Go.Proofs.YtfakfgblaakgdaaGreat.Cells Go.Proofs.YtfakfgblaakgdaaGreat.Ints Go.Proofs.YtfakfgblaakgdaaGreat.Var Go.Proofs.YtfakfgblaakgdaaGreat.EditPure Go.Proofs.YtfakfgblaakgdaaGreat.Edit Go.Proofs.YtfakfgblaakgdaaGreat.Sets Go.Proofs.YtfakfgblaakgdaaGreat.Wide Go.Proofs.YtfakfgblaakgdaaGreat.RowsC Go.Proofs.YtfakfgblaakgdaaGreat.Crc Go.Proofs.YtfakfgblaakgdaaGreat.Codec Go.Proofs.YtfakfgblaakgdaaGreat.VarPure Go.Proofs.YtfakfgblaakgdaaGreat.NamesPure

set_option maxRecDepth 100000 in
set_option maxHeartbeats 4000000 in
theorem note_any (id : Int) (D B : Option Addr) (dc bc ld la : Nat) (drop : List Int) (add : List Meta) (seq next : Int) (w : World) (hd : ReadsInt w .i64 D ld drop) (hr : Kd.C kMeta w B la add) (hsq : inI64 seq) (hnx : inI64 next) (hdw : ∀ x ∈ drop, inI64 x) (hmw : ∀ m ∈ add, inI64 m.id ∧ inI64 m.level ∧ inI64 m.count) (hms : ∀ m ∈ add, m.low.size ≤ 1048576 ∧ m.high.size ≤ 1048576) (hdl : ld ≤ 1048576) (hal : la ≤ 1048576) :
    Calls Tryz.prog 12 #[.int .i64 id, .agg #[.slice D ld dc, .slice B la bc, .int .i64 seq, .int .i64 next]] w fun e w' => ∃ A n c, e = .returned (.tuple #[.slice A n c, .int .i64 (noteE id drop add seq next)]) ∧ kAc.C w' A n (noteL id drop add seq next) ∧ n ≤ 16 ∧ Below w.heap.size w w' := by
  have HD := Aside0.mk hd
  have HR := Aside0.mk hr
  have HI := Aside0.mk (And.intro hsq (And.intro hnx (And.intro hdw (And.intro hmw hms))))
  obtain ⟨BE, hBE⟩ := named (noteE id drop add seq next)
  obtain ⟨BL, hBL⟩ := named (noteL id drop add seq next)
  rw [← hBE.out, ← hBL.out]
  clear hd hr hsq hnx hdw hmw hms
  go_enter Tryz.func12, Tryz.ntmps12
  go_upto_region 1 with (fail)
  obtain ⟨W, hW⟩ : ∃ W, W = w.alloc (.cells #[.slice D ld dc, .slice B la bc, .int .i64 seq, .int .i64 next] 42) := ⟨_, rfl⟩
  have HJ : Aside0 (W.heap[w.heap.size]? = some (.cells #[.slice D ld dc, .slice B la bc, .int .i64 seq, .int .i64 next] 42 (0, 0))) := ⟨by rw [hW]; exact blk_new _ _⟩
  have HB : Aside0 (Below w.heap.size w W) := ⟨by rw [hW]; exact below_alloc (Below.refl _ _) _⟩
  rw [← hW]
  clear hW
  obtain ⟨ne, hne⟩ := named (nameE 109 id)
  obtain ⟨nm, hnm⟩ := named (nameS 109 id)
  go_wp2_with fail
  refine (Names.name_any 109 id W (by decide) (by decide)).mono ?_
  rw [← hne.out, ← hnm.out]
  rintro e w1 ⟨rfl, hb1⟩
  have HB1 := Aside0.mk (bthen HB.out hb1)
  have HJ1 := Aside0.mk (blk_keep HJ.out hb1)
  clear hb1
  by_cases hn0 : ne = 0
  · subst hn0
    have HBE : Aside0 (BE = encE drop add seq next) := ⟨by rw [hBE.out, noteE, ← hne.out, if_neg (by decide)]⟩
    obtain ⟨X, hX⟩ := named (encO drop add seq next)
    obtain ⟨y0, y1, y2, y3, _, _, _, _⟩ := all4 HJ1.out
    go_wp2_with fail
    refine (encode_v D B dc bc ld la drop add seq next w1 (HD.out.below HB1.out) (Kd.C_below HR.out HB1.out) HI.out.1 HI.out.2.1 HI.out.2.2.1 HI.out.2.2.2.1 HI.out.2.2.2.2 hdl hal).mono ?_
    rw [← HBE.out, ← hX.out]
    rintro e w2 ⟨v2, rfl, hv2, hb2⟩
    obtain ⟨A2, c2, rfl, hr2⟩ := RB_reads hv2
    have HB2 := Aside0.mk (bthen HB1.out hb2)
    have HX2 := Aside0.mk hr2
    have HXO : Aside0 (OctL X) := ⟨by rw [hX.out]; exact encO_oct⟩
    have hxl : X.length ≤ 1048576 := by rw [hX.out]; exact encO_len
    obtain ⟨xn, hxn⟩ : ∃ n, X.length = n := ⟨_, rfl⟩
    rw [hxn] at HX2 hxl ⊢
    clear hv2 hb2 hr2 y0 y1 y2 y3 hxn
    by_cases he0 : BE = 0
    · subst he0
      have HBL : Aside0 (BL = noteA id drop add seq next) := ⟨by rw [hBL.out, noteL, ← hBE.out]; rfl⟩
      obtain ⟨F1, hF1⟩ := named (frameP 5 X)
      skip
      go_wp2_with fail
      have hcf := framed_any 5 A2 xn c2 X w2 (by decide) (by decide) HX2.out HXO.out hxl
      rw [← hF1.out] at hcf
      refine hcf.mono ?_
      rintro e w3 ⟨v3, rfl, hv3, hb3⟩
      obtain ⟨A3, c3, rfl, hr3⟩ := RB_reads hv3
      have hle := own_le hv3
      have HB3 := Aside0.mk (bthen HB2.out hb3)
      have HR3 := Aside0.mk hr3
      clear hcf hv3 hb3 hr3
      obtain ⟨fn, hfn⟩ := named F1.length
      rw [← hfn.out] at hle HR3 ⊢
      go_wp2
      refine bodyPost_ret (results_tmp2 rfl _ _ _) rfl ?_
      have hba := below_alloc (Below.refl _ w3) (.cells #[.int .i64 2, .string nm, .string ⟨#[]⟩, .slice A3 fn c3, .int .i64 3, .string nm, .string ⟨#[]⟩, .slice none 0 0] 92)
      have had : AD (w3.alloc (.cells #[.int .i64 2, .string nm, .string ⟨#[]⟩, .slice A3 fn c3, .int .i64 3, .string nm, .string ⟨#[]⟩, .slice none 0 0] 92)) [(⟨2, nm, ⟨#[]⟩, F1⟩, .slice A3 fn c3), (⟨3, nm, ⟨#[]⟩, []⟩, .slice none 0 0)] :=
        AD.append (L := [(⟨2, nm, ⟨#[]⟩, F1⟩, .slice A3 fn c3)]) (AD.full hfn.out.symm hle (HR3.out.below hba)) (AD.bare rfl)
      have hc := acts_cells _ w3.heap.size _ _ rfl had (by simp) (blk_new _ _)
      have h := acts_read hc had
      have hl : BL = [⟨2, nm, ⟨#[]⟩, F1⟩, ⟨3, nm, ⟨#[]⟩, []⟩] := by rw [HBL.out, noteA, ← hnm.out, ← hX.out, ← hF1.out]
      exact ⟨_, 2, 2, rfl, by rw [hl]; exact h, by omega, bthen HB3.out hba⟩
    · have HE : Aside0 (BL = []) := ⟨by rw [hBL.out, noteL, ← hBE.out, if_neg he0]⟩
      obtain rfl := HE.out
      have hn1 : (BE == 0) = false := by simpa using he0
      go_wp2
      refine bodyPost_ret (results_tmp2 rfl _ _ _) rfl ?_
      exact ⟨none, 0, 0, rfl, kAc_nil _, by omega, HB2.out⟩
  · have HE : Aside0 (BE = ne ∧ BL = []) := ⟨by
      have h1 : BE = ne := by rw [hBE.out, noteE, ← hne.out, if_pos hn0]
      exact ⟨h1, by rw [hBL.out, noteL, ← hBE.out, h1, if_neg hn0]⟩⟩
    obtain ⟨rfl, rfl⟩ := HE.out
    have hn1 : (BE == 0) = false := by simpa using hn0
    go_wp2
    refine bodyPost_ret (results_tmp2 rfl _ _ _) rfl ?_
    exact ⟨none, 0, 0, rfl, kAc_nil _, by omega, HB1.out⟩

set_option maxRecDepth 100000 in
set_option maxHeartbeats 4000000 in
theorem rnote_any (id : Int) (D B : Option Addr) (dc bc ld la : Nat) (drop : List Int) (add : List Meta) (seq next : Int) (w : World) (hd : ReadsInt w .i64 D ld drop) (hr : Kd.C kMeta w B la add) (hsq : inI64 seq) (hnx : inI64 next) (hdw : ∀ x ∈ drop, inI64 x) (hmw : ∀ m ∈ add, inI64 m.id ∧ inI64 m.level ∧ inI64 m.count) (hms : ∀ m ∈ add, m.low.size ≤ 1048576 ∧ m.high.size ≤ 1048576) (hdl : ld ≤ 1048576) (hal : la ≤ 1048576) :
    Calls Tryz.prog 13 #[.int .i64 id, .agg #[.slice D ld dc, .slice B la bc, .int .i64 seq, .int .i64 next]] w fun e w' => ∃ A n c, e = .returned (.tuple #[.slice A n c, .int .i64 (noteE id drop add seq next)]) ∧ kAc.C w' A n (noteL id drop add seq next) ∧ n ≤ 16 ∧ Below w.heap.size w w' := by
  have HD := Aside0.mk hd
  have HR := Aside0.mk hr
  have HI := Aside0.mk (And.intro hsq (And.intro hnx (And.intro hdw (And.intro hmw hms))))
  obtain ⟨BE, hBE⟩ := named (noteE id drop add seq next)
  obtain ⟨BL, hBL⟩ := named (noteL id drop add seq next)
  rw [← hBE.out, ← hBL.out]
  clear hd hr hsq hnx hdw hmw hms
  go_enter Tryz.func13, Tryz.ntmps13
  go_upto_region 1 with (fail)
  obtain ⟨W, hW⟩ : ∃ W, W = w.alloc (.cells #[.slice D ld dc, .slice B la bc, .int .i64 seq, .int .i64 next] 31) := ⟨_, rfl⟩
  have HJ : Aside0 (W.heap[w.heap.size]? = some (.cells #[.slice D ld dc, .slice B la bc, .int .i64 seq, .int .i64 next] 31 (0, 0))) := ⟨by rw [hW]; exact blk_new _ _⟩
  have HB : Aside0 (Below w.heap.size w W) := ⟨by rw [hW]; exact below_alloc (Below.refl _ _) _⟩
  rw [← hW]
  clear hW
  obtain ⟨ne, hne⟩ := named (nameE 109 id)
  obtain ⟨nm, hnm⟩ := named (nameS 109 id)
  go_wp2_with fail
  refine (Names.refName_any 109 id W).mono ?_
  rw [← hne.out, ← hnm.out]
  rintro e w1 ⟨rfl, hb1⟩
  have HB1 := Aside0.mk (bthen HB.out hb1)
  have HJ1 := Aside0.mk (blk_keep HJ.out hb1)
  clear hb1
  by_cases hn0 : ne = 0
  · subst hn0
    have HBE : Aside0 (BE = encE drop add seq next) := ⟨by rw [hBE.out, noteE, ← hne.out, if_neg (by decide)]⟩
    obtain ⟨X, hX⟩ := named (encO drop add seq next)
    obtain ⟨y0, y1, y2, y3, _, _, _, _⟩ := all4 HJ1.out
    go_wp2_with fail
    refine (rencode_any D B dc bc ld la drop add seq next w1 (HD.out.below HB1.out) (Kd.C_below HR.out HB1.out) HI.out.2.2.2.2 hdl hal).mono ?_
    rw [← HBE.out, ← hX.out]
    rintro e w2 ⟨v2, rfl, hv2, hb2⟩
    obtain ⟨A2, c2, rfl, hr2⟩ := RB_reads hv2
    have HB2 := Aside0.mk (bthen HB1.out hb2)
    have HX2 := Aside0.mk hr2
    have HXO : Aside0 (OctL X) := ⟨by rw [hX.out]; exact encO_oct⟩
    have hxl : X.length ≤ 1048576 := by rw [hX.out]; exact encO_len
    obtain ⟨xn, hxn⟩ : ∃ n, X.length = n := ⟨_, rfl⟩
    rw [hxn] at HX2 hxl ⊢
    clear hv2 hb2 hr2 y0 y1 y2 y3 hxn
    by_cases he0 : BE = 0
    · subst he0
      have HBL : Aside0 (BL = noteA id drop add seq next) := ⟨by rw [hBL.out, noteL, ← hBE.out]; rfl⟩
      obtain ⟨F1, hF1⟩ := named (frameP 5 X)
      obtain ⟨er, her⟩ := named (if 65536 < xn then (5 : Int) else 0)
      go_wp2_with fail
      have hcf := rframePut_any 5 A2 xn c2 X w2 (by decide) (by decide) HX2.out HXO.out hxl
      rw [← hF1.out, ← her.out] at hcf
      refine hcf.mono ?_
      rintro e w3 ⟨v3, rfl, hv3, hb3⟩
      obtain ⟨A3, c3, rfl, hr3⟩ := RB_reads hv3
      have hle := own_le hv3
      have HB3 := Aside0.mk (bthen HB2.out hb3)
      have HR3 := Aside0.mk hr3
      clear hcf hv3 hb3 hr3
      obtain ⟨fn, hfn⟩ := named F1.length
      rw [← hfn.out] at hle HR3 ⊢
      go_wp2
      refine bodyPost_ret (results_tmp2 rfl _ _ _) rfl ?_
      have hba := below_alloc (Below.refl _ w3) (.cells #[.int .i64 2, .string nm, .string ⟨#[]⟩, .slice A3 fn c3, .int .i64 3, .string nm, .string ⟨#[]⟩, .slice none 0 0] 92)
      have had : AD (w3.alloc (.cells #[.int .i64 2, .string nm, .string ⟨#[]⟩, .slice A3 fn c3, .int .i64 3, .string nm, .string ⟨#[]⟩, .slice none 0 0] 92)) [(⟨2, nm, ⟨#[]⟩, F1⟩, .slice A3 fn c3), (⟨3, nm, ⟨#[]⟩, []⟩, .slice none 0 0)] :=
        AD.append (L := [(⟨2, nm, ⟨#[]⟩, F1⟩, .slice A3 fn c3)]) (AD.full hfn.out.symm hle (HR3.out.below hba)) (AD.bare rfl)
      have hc := acts_cells _ w3.heap.size _ _ rfl had (by simp) (blk_new _ _)
      have h := acts_read hc had
      have hl : BL = [⟨2, nm, ⟨#[]⟩, F1⟩, ⟨3, nm, ⟨#[]⟩, []⟩] := by rw [HBL.out, noteA, ← hnm.out, ← hX.out, ← hF1.out]
      exact ⟨_, 2, 2, rfl, by rw [hl]; exact h, by omega, bthen HB3.out hba⟩
    · have HE : Aside0 (BL = []) := ⟨by rw [hBL.out, noteL, ← hBE.out, if_neg he0]⟩
      obtain rfl := HE.out
      have hn1 : (BE == 0) = false := by simpa using he0
      go_wp2
      refine bodyPost_ret (results_tmp2 rfl _ _ _) rfl ?_
      exact ⟨none, 0, 0, rfl, kAc_nil _, by omega, HB2.out⟩
  · have HE : Aside0 (BE = ne ∧ BL = []) := ⟨by
      have h1 : BE = ne := by rw [hBE.out, noteE, ← hne.out, if_pos hn0]
      exact ⟨h1, by rw [hBL.out, noteL, ← hBE.out, h1, if_neg hn0]⟩⟩
    obtain ⟨rfl, rfl⟩ := HE.out
    have hn1 : (BE == 0) = false := by simpa using hn0
    go_wp2
    refine bodyPost_ret (results_tmp2 rfl _ _ _) rfl ?_
    exact ⟨none, 0, 0, rfl, kAc_nil _, by omega, HB1.out⟩

/-- an append to a row of acts leaves octets as they were -/
theorem acts_away {w w1 : World} {base b2 : Nat} {ok : Nat → Prop} {v u : Value} {L : List (Ac × Value)} {l : List Int} (h : kAd.R 92 w base ok v L) (hr : RB w b2 u l) (hg : w.grownBy w1 v.ownBlock) : RB w1 b2 u l := by
  obtain ⟨inner, ho⟩ := Kd.R_own h
  exact own_other hr hg (own_type_ne hr ho (by decide))

set_option maxRecDepth 100000 in
set_option maxHeartbeats 8000000 in
theorem rbegin_any (s : St) (v : Value) (B : Option Addr) (lb bc : Nat) (l : List Meta) (seq next id : Int) (w : World) (h : At w v s) (hs : Small s) (hw : Wf s) (hr : Kd.C kMeta w B lb l) (hbc : lb ≤ bc) (hlb : lb ≤ 1048576)
    (hsq : inI64 seq) (hnx : inI64 next) (hmw : ∀ m ∈ l, inI64 m.id ∧ inI64 m.level ∧ inI64 m.count) (hms : ∀ m ∈ l, m.low.size ≤ 1048576 ∧ m.high.size ≤ 1048576) :
    Calls Tryz.prog 11 #[v, .agg #[.slice B lb bc, .int .i64 seq, .int .i64 next], .int .i64 id] w fun e w' => ∃ A n c, e = .returned (.tuple #[.slice A n c, .int .i64 (beginE s l seq next id)]) ∧ kAc.C w' A n (beginL s l seq next id) ∧ n ≤ 16 ∧ Below w.heap.size w w' := by
  have HA := Aside0.mk h
  have HS := Aside0.mk hs
  have HW := Aside0.mk hw
  have HR := Aside0.mk hr
  have HI := Aside0.mk (And.intro hsq (And.intro hnx (And.intro hmw hms)))
  have LB : Aside0 (l.length = lb) := ⟨Kd.C_len hr⟩
  obtain ⟨n0, F0, lf0, fc0, N0, ln0, nc0, S0, ls0, sc0, m0, hv0⟩ := HA.out.show_
  subst hv0
  obtain ⟨BE, hBE⟩ := named (beginE s l seq next id)
  obtain ⟨BL, hBL⟩ := named (beginL s l seq next id)
  rw [← hBE.out, ← hBL.out]
  clear h hs hw hr hsq hnx hmw hms
  go_enter Tryz.func11, Tryz.ntmps11
  go_upto_region 1 with (fail)
  obtain ⟨W, hW⟩ : ∃ W, W = (w.alloc (.cells #[.int .i64 n0, .slice F0 lf0 fc0, .slice N0 ln0 nc0, .slice S0 ls0 sc0, .int .i64 m0] 25)).alloc (.cells #[.slice B lb bc, .int .i64 seq, .int .i64 next] 28) := ⟨_, rfl⟩
  have HJ : Aside0 (W.heap[w.heap.size]? = some (.cells #[.int .i64 n0, .slice F0 lf0 fc0, .slice N0 ln0 nc0, .slice S0 ls0 sc0, .int .i64 m0] 25 (0, 0))) := ⟨by rw [hW]; exact blk_alloc (blk_new _ _) _⟩
  have HV : Aside0 (W.heap[w.heap.size + 1]? = some (.cells #[.slice B lb bc, .int .i64 seq, .int .i64 next] 28 (0, 0))) := ⟨by rw [hW]; exact blk_new1 _ _ _ _⟩
  have HB : Aside0 (Below w.heap.size w W) := ⟨by rw [hW]; exact below_alloc (below_alloc (Below.refl _ _) _) _⟩
  rw [← hW]
  clear hW
  obtain ⟨x0, x1, x2, x3, x4, _, _, _, _, _⟩ := all5 HJ.out
  obtain ⟨se, hse⟩ := named (stE s)
  go_wp2_with fail
  refine (rcheck_at (HA.out.below HB.out) HS.out).mono ?_
  rw [← hse.out]
  rintro e w1 ⟨rfl, hb1⟩
  have HB1 := Aside0.mk (bthen HB.out hb1)
  have HJ1 := Aside0.mk (blk_keep HJ.out hb1)
  have HV1 := Aside0.mk (blk_keep HV.out hb1)
  clear hb1 x0 x1 x2 x3 x4
  by_cases hs0 : se = 0
  · subst hs0
    obtain ⟨y0, y1, y2, _, _, _⟩ := all3 HV1.out
    cases hv : verOk l seq next with
    | false =>
      have HE : Aside0 (BE = 9 ∧ BL = []) := ⟨by
        have h1 : BE = 9 := by rw [hBE.out, beginE, ← hse.out, if_neg (by decide), verE, hv]; rfl
        exact ⟨h1, by rw [hBL.out, beginL, ← hBE.out, h1]; rfl⟩⟩
      obtain ⟨rfl, rfl⟩ := HE.out
      have CW : Aside0 (Calls Tryz.prog 42 #[.agg #[.slice B lb bc, .int .i64 seq, .int .i64 next]] w1 fun e w' => e = .returned (.tuple #[.agg #[.slice none 0 0, .slice none 0 0, .int .i64 0, .int .i64 0], .int .i64 9]) ∧ Below w1.heap.size w1 w') := ⟨by
        have h := refWhole_no B bc l seq next w1 (by rw [LB.out]; exact Kd.C_below HR.out HB1.out) (by rw [LB.out]; exact hbc) (fun m hm => (HI.out.2.2.1 m hm).1) hv
        rwa [LB.out] at h⟩
      clear hv
      go_wp2_with fail
      refine CW.out.mono ?_
      rintro e w2 ⟨rfl, hb2⟩
      have HB2 := Aside0.mk (bthen HB1.out hb2)
      clear hb2 y0 y1 y2
      go_wp2
      refine bodyPost_ret (results_tmp2 rfl _ _ _) rfl ?_
      exact ⟨none, 0, 0, rfl, kAc_nil _, by omega, below_alloc HB2.out _⟩
    | true =>
      have HVE : Aside0 (verE l seq next = 0) := ⟨by rw [verE, hv]; rfl⟩
      have CW : Aside0 (Calls Tryz.prog 42 #[.agg #[.slice B lb bc, .int .i64 seq, .int .i64 next]] w1 fun e w' => ∃ A c, e = .returned (.tuple #[.agg #[.slice none 0 0, .slice A lb c, .int .i64 seq, .int .i64 next], .int .i64 0]) ∧ Kd.C kMeta w' A lb l ∧ Below w1.heap.size w1 w') := ⟨by
        have h := refWhole_yes B bc l seq next w1 (by rw [LB.out]; exact Kd.C_below HR.out HB1.out) (by rw [LB.out]; exact hbc) (fun m hm => (HI.out.2.2.1 m hm).1) (by rw [LB.out]; exact hlb) hv
        rw [LB.out] at h
        refine h.mono ?_
        rintro e w' ⟨v, rfl, hv, hb⟩
        obtain ⟨A, c, rfl, _, hC⟩ := RM_reads hv
        rw [LB.out] at hC ⊢
        exact ⟨A, c, rfl, hC, hb⟩⟩
      clear hv
      go_wp2_with fail
      refine CW.out.mono ?_
      rintro e w2 ⟨A2, c2, rfl, hC2, hb2⟩
      have HB2 := Aside0.mk (bthen HB1.out hb2)
      have HJ2 := Aside0.mk (blk_keep HJ1.out hb2)
      have HC2 := Aside0.mk hC2
      clear hb2 hC2 y0 y1 y2
      go_upto_region 5 with (fail)
      obtain ⟨w3, hw3⟩ : ∃ w3, w3 = w2.alloc (.cells #[.slice none 0 0, .slice A2 lb c2, .int .i64 seq, .int .i64 next] 31) := ⟨_, rfl⟩
      obtain ⟨g3, hg3⟩ : ∃ g, g = w2.heap.size := ⟨_, rfl⟩
      have HE3 : Aside0 (w3.heap[g3]? = some (.cells #[.slice none 0 0, .slice A2 lb c2, .int .i64 seq, .int .i64 next] 31 (0, 0))) := ⟨by rw [hw3, hg3]; exact blk_new _ _⟩
      have hD3 : Below w2.heap.size w2 w3 := by rw [hw3]; exact below_alloc (Below.refl _ _) _
      have HB3 := Aside0.mk (bthen HB2.out hD3)
      have HJ3 := Aside0.mk (blk_keep HJ2.out hD3)
      have HC3 := Aside0.mk (Kd.C_below HC2.out hD3)
      rw [← hw3, ← hg3]
      clear hw3 hg3 hD3
      obtain ⟨ne, hne⟩ := named (nameE 109 id)
      obtain ⟨nm, hnm⟩ := named (nameS 109 id)
      go_wp2_with fail
      refine (Names.refName_any 109 id w3).mono ?_
      rw [← hne.out, ← hnm.out]
      rintro e w4 ⟨rfl, hb4⟩
      have HB4 := Aside0.mk (bthen HB3.out hb4)
      have HJ4 := Aside0.mk (blk_keep HJ3.out hb4)
      have HE4 := Aside0.mk (blk_keep HE3.out hb4)
      have HC4 := Aside0.mk (Kd.C_below HC3.out hb4)
      clear hb4
      have HBE : Aside0 (BE = ne) := ⟨by rw [hBE.out, beginE, ← hse.out, if_neg (by decide), HVE.out, if_neg (by decide), hne.out]⟩
      by_cases hn0 : ne = 0
      · subst hn0
        have HID : Aside0 (1 ≤ id ∧ id ≤ 2147483647) := ⟨by
          have h := hne.out
          unfold nameE at h
          split at h
          · cases h
          · split at h
            · cases h
            · omega⟩
        obtain ⟨id1, id2⟩ := HID.out
        obtain rfl := HBE.out
        have HBL : Aside0 (BL = beginA s l seq next id) := ⟨by rw [hBL.out, beginL, ← hBE.out]; rfl⟩
        obtain ⟨e0, e1, e2, e3, _, _, _, _⟩ := all4 HE4.out
        obtain ⟨EE, hEE⟩ := named (encE [] l seq next)
        obtain ⟨X, hX⟩ := named (encO [] l seq next)
        go_wp2_with fail
        refine (rencode_any none A2 0 c2 0 lb [] l seq next w4 ⟨rfl, by decide, fun hn => by omega⟩ HC4.out HI.out.2.2.2 (by omega) hlb).mono ?_
        rw [← hEE.out, ← hX.out]
        rintro e w5 ⟨v5, rfl, hv5, hb5⟩
        obtain ⟨A5, c5, rfl, hr5⟩ := RB_reads hv5
        have HB5 := Aside0.mk (bthen HB4.out hb5)
        have HJ5 := Aside0.mk (blk_keep HJ4.out hb5)
        have HX5 := Aside0.mk hr5
        have HXO : Aside0 (OctL X) := ⟨by rw [hX.out]; exact encO_oct⟩
        have hxl : X.length ≤ 1048576 := by rw [hX.out]; exact encO_len
        obtain ⟨xn, hxn⟩ : ∃ n, X.length = n := ⟨_, rfl⟩
        rw [hxn] at HX5 hxl ⊢
        clear hv5 hb5 hr5 e0 e1 e2 e3 hxn
        obtain ⟨F1, hF1⟩ := named (frameP 5 X)
        obtain ⟨F2, hF2⟩ := named (pointP id)
        obtain ⟨er, her⟩ := named (if 65536 < xn then (5 : Int) else 0)
        obtain ⟨h1, hh1⟩ := named (hasP s nm)
        obtain ⟨h2, hh2⟩ := named (hasP s ⟨#[110, 101, 120, 116]⟩)
        go_wp2_with fail
        have hcf := rframePut_any 5 A5 xn c5 X w5 (by decide) (by decide) HX5.out HXO.out hxl
        rw [← hF1.out, ← her.out] at hcf
        refine hcf.mono ?_
        rintro e w6 ⟨v6, rfl, hv6, hb6⟩
        obtain ⟨A6, c6, rfl, hr6⟩ := RB_reads hv6
        have hle6 := own_le hv6
        have HB6 := Aside0.mk (bthen HB5.out hb6)
        have HJ6 := Aside0.mk (blk_keep HJ5.out hb6)
        have HR6 := Aside0.mk hr6
        clear hcf hv6 hb6 hr6
        obtain ⟨n6, hn6⟩ := named F1.length
        rw [← hn6.out] at hle6 HR6 ⊢
        go_upto_region 12 with (fail)
        obtain ⟨n8, hn8⟩ := named F2.length
        obtain ⟨L7, hL7⟩ := named (layL h1 nm F1 (.slice A6 n6 c6))
        have hl7 : L7.length ≤ 4 := by rw [hL7.out]; exact layL_len _ _ _ _
        have CL1 : Aside0 (∀ W', Below w6.heap.size w6 W' → Calls Tryz.prog 46 #[.agg #[.int .i64 n0, .slice F0 lf0 fc0, .slice N0 ln0 nc0, .slice S0 ls0 sc0, .int .i64 m0], .string nm, .slice A6 n6 c6] W' fun e w' => ∃ v', e = .returned v' ∧ kAd.R 92 w' w6.heap.size (fun _ => True) v' L7 ∧ Below W'.heap.size W' w') := ⟨fun W' hW => by
          refine (laid_any s nm F1 _ A6 n6 c6 W' (HA.out.below (bthen HB6.out hW)) HS.out (HR6.out.below hW) hle6).mono ?_
          rw [← hh1.out, ← hL7.out]
          rintro e w' ⟨v, rfl, hv, hb⟩
          exact ⟨v, rfl, (hv.lower hW.size).1, hb⟩⟩
        have CP : Aside0 (∀ W', Below w6.heap.size w6 W' → Calls Tryz.prog 47 #[.int .i64 id] W' fun e w' => ∃ A c, e = .returned (.slice A n8 c) ∧ RB w' w6.heap.size (.slice A n8 c) F2 ∧ n8 ≤ c ∧ Below W'.heap.size W' w') := ⟨fun W' hW => by
          refine (pointer_any id W' (by omega) (by omega)).mono ?_
          rw [← hF2.out]
          rintro e w' ⟨v, rfl, hv, hb⟩
          obtain ⟨A, c, rfl, hr⟩ := RB_reads hv
          have hle := own_le hv
          rw [← hn8.out] at hle ⊢
          refine ⟨A, c, rfl, ?_, hle, hb⟩
          have h := own_weaken hv hW.size
          rw [RB, hn8.out]
          exact h⟩
        have CL2 : Aside0 (∀ W' A c, Below w6.heap.size w6 W' → RB W' w6.heap.size (.slice A n8 c) F2 → n8 ≤ c → Calls Tryz.prog 46 #[.agg #[.int .i64 n0, .slice F0 lf0 fc0, .slice N0 ln0 nc0, .slice S0 ls0 sc0, .int .i64 m0], .string ⟨#[110, 101, 120, 116]⟩, .slice A n8 c] W' fun e w' => ∃ A' n' c', e = .returned (.slice A' n' c') ∧ kAd.C w' A' n' (layL h2 ⟨#[110, 101, 120, 116]⟩ F2 (.slice A n8 c)) ∧ n' ≤ 4 ∧ Below W'.heap.size W' w') := ⟨fun W' A c hW hr hc => by
          have hrr : ReadsInt W' .u8 A n8 F2 := by
            obtain ⟨A', c', e, h⟩ := RB_reads hr
            injection e with e1 e2 e3
            subst e1
            rwa [← hn8.out] at h
          refine (laid_any s ⟨#[110, 101, 120, 116]⟩ F2 _ A n8 c W' (HA.out.below (bthen HB6.out hW)) HS.out hrr hc).mono ?_
          rw [← hh2.out]
          rintro e w' ⟨v, rfl, hv, hb⟩
          obtain ⟨A', c', rfl, _, hC⟩ := hv.form
          exact ⟨A', _, c', rfl, hC, layL_len _ _ _ _, hb⟩⟩
        have FK : Aside0 (∀ w', Below w6.heap.size w6 w' → w'.cell? ⟨w.heap.size, 0, none⟩ = some (.int .i64 n0) ∧ w'.cell? ⟨w.heap.size, 1, none⟩ = some (.slice F0 lf0 fc0) ∧ w'.cell? ⟨w.heap.size, 2, none⟩ = some (.slice N0 ln0 nc0) ∧ w'.cell? ⟨w.heap.size, 3, none⟩ = some (.slice S0 ls0 sc0) ∧ w'.cell? ⟨w.heap.size, 4, none⟩ = some (.int .i64 m0)) := ⟨fun w' h => by
          obtain ⟨x0, x1, x2, x3, x4, _, _, _, _, _⟩ := all5 (blk_keep HJ6.out h)
          exact ⟨x0, x1, x2, x3, x4⟩⟩
        obtain ⟨j0, j1, j2, j3, j4⟩ := FK.out _ (below_drew (Below.refl _ w6))
        go_cut [17] (fun v17 wc => ∃ A8 c8, n8 ≤ c8 ∧ Aside0 (kAd.R 92 wc w6.heap.size (fun _ => True) v17 (L7 ++ layL h2 ⟨#[110, 101, 120, 116]⟩ F2 (.slice A8 n8 c8)) ∧ RB wc w6.heap.size (.slice A8 n8 c8) F2 ∧ Below w6.heap.size w6 wc))
        case first =>
          go_region_law (first
            | (refine Kd.R_append_rows_step kAd (Rr := kAd.K w9) (w0 := w6) (W := w9) w6.heap.size (by rfl) (.tmp 53) (.tmp 57) 44 92 (.agg #[.int .i64 0, .string ⟨#[]⟩, .string ⟨#[]⟩, .slice none 0 0]) 64 rfl Tryz.underlying44 Cat.infoA rfl (by decide) (by omega) v7 L7 (layL h2 ⟨#[110, 101, 120, 116]⟩ F2 (.slice A8 n8 c8)) A9 n9 c9 (fun _ => True) (fun _ => False) rfl rfl ?aO ?aR ?aK (fun _ hk => hk.elim) (fun _ _ => trivial) ?aB ?aS ?c1 ?_; (case aO => exact Kd.R_below HR7.out HX79.out); (case aR => exact HR9.out); (case aK => intro x cs hx; exact hx); (case aB => exact HBx9.out); (case aS => exact HBx9.out.size); (case c1 => omega); intro v10 w10 hown hB10 hg10 hat; (have HO10 := Aside0.mk (And.intro hown (acts_away (Kd.R_below HR7.out HX79.out) HR89.out hg10))); (have HB10 := Aside0.mk hB10); clear hown hB10 hg10 hat)
            | (go_simp; go_wp2_with (first
              | (go_at_call 46; with_reducible refine (CL1.out _ (by repeat (first | with_reducible exact Below.refl _ _ | with_reducible exact HBx7.out | with_reducible exact HBx8.out | with_reducible exact HBx9.out | with_reducible apply below_drew | with_reducible apply below_alloc))).mono ?_; rintro e w7 ⟨v7, rfl, hv7, hb7⟩; (have HR7 := Aside0.mk hv7); (have HBx7 : Aside0 (Below w6.heap.size w6 w7) := ⟨bthen (by repeat (first | with_reducible exact Below.refl _ _ | with_reducible exact HBx7.out | with_reducible exact HBx8.out | with_reducible exact HBx9.out | with_reducible apply below_drew | with_reducible apply below_alloc)) hb7⟩); clear j0 j1 j2 j3 j4 hv7 hb7; obtain ⟨j0, j1, j2, j3, j4⟩ := FK.out _ HBx7.out)
              | (go_at_call 47; with_reducible refine (CP.out _ (by repeat (first | with_reducible exact Below.refl _ _ | with_reducible exact HBx7.out | with_reducible exact HBx8.out | with_reducible exact HBx9.out | with_reducible apply below_drew | with_reducible apply below_alloc))).mono ?_; rintro e w8 ⟨A8, c8, rfl, hr8, hc8, hb8⟩; (have HR8 := Aside0.mk hr8); (have HX78 := Aside0.mk hb8); (have HBx8 : Aside0 (Below w6.heap.size w6 w8) := ⟨bthen (by repeat (first | with_reducible exact Below.refl _ _ | with_reducible exact HBx7.out | with_reducible exact HBx8.out | with_reducible exact HBx9.out | with_reducible apply below_drew | with_reducible apply below_alloc)) hb8⟩); clear j0 j1 j2 j3 j4 hr8 hb8; obtain ⟨j0, j1, j2, j3, j4⟩ := FK.out _ HBx8.out)
              | (go_at_call 46; with_reducible refine (CL2.out _ _ _ (by repeat (first | with_reducible exact Below.refl _ _ | with_reducible exact HBx7.out | with_reducible exact HBx8.out | with_reducible exact HBx9.out | with_reducible apply below_drew | with_reducible apply below_alloc)) HR8.out hc8).mono ?_; rintro e w9 ⟨A9, n9, c9, rfl, hr9, hn9, hb9⟩; (have HR9 := Aside0.mk hr9); (have HR89 := Aside0.mk (pw_own_below HR8.out hb9)); (have HX79 := Aside0.mk (bthen HX78.out hb9)); (have HBx9 : Aside0 (Below w6.heap.size w6 w9) := ⟨bthen (by repeat (first | with_reducible exact Below.refl _ _ | with_reducible exact HBx7.out | with_reducible exact HBx8.out | with_reducible exact HBx9.out | with_reducible apply below_drew | with_reducible apply below_alloc)) hb9⟩); clear hr9 hb9))))
          all_goals go_wp2
          all_goals go_meet
          all_goals exact ⟨A8, c8, hc8, ⟨HO10.out.1, HO10.out.2, HB10.out⟩⟩
        case rest =>
          obtain ⟨A8, c8, hc8, HC⟩ := hcut
          obtain ⟨v17, hv17⟩ : ∃ v, v = u17 := ⟨_, rfl⟩
          rw [← hv17] at HC ⊢
          obtain ⟨L9, hL9⟩ := named (layL h2 ⟨#[110, 101, 120, 116]⟩ F2 (.slice A8 n8 c8))
          have hl9 : L9.length ≤ 4 := by rw [hL9.out]; exact layL_len _ _ _ _
          rw [← hL9.out] at HC
          clear hv17 j0 j1 j2 j3 j4
          have hln : (L7 ++ L9).length ≤ 8 := by rw [List.length_append]; omega
          have hba := Aside0.mk (below_alloc (Below.refl _ wc) (.cells #[.int .i64 6, .string ⟨#[]⟩, .string ⟨#[]⟩, .slice none 0 0, .int .i64 4, .string ⟨#[110, 101, 120, 116]⟩, .string ⟨#[67, 85, 82, 82, 69, 78, 84]⟩, .slice none 0 0, .int .i64 6, .string ⟨#[]⟩, .string ⟨#[]⟩, .slice none 0 0] 92))
          have HT := Aside0.mk (acts_cells (wc.alloc (.cells #[.int .i64 6, .string ⟨#[]⟩, .string ⟨#[]⟩, .slice none 0 0, .int .i64 4, .string ⟨#[110, 101, 120, 116]⟩, .string ⟨#[67, 85, 82, 82, 69, 78, 84]⟩, .slice none 0 0, .int .i64 6, .string ⟨#[]⟩, .string ⟨#[]⟩, .slice none 0 0] 92)) wc.heap.size _ turnL rfl (turnL_AD _) (by decide) (blk_new _ _))
          have HV := Aside0.mk (Kd.R_below HC.out.1 hba.out)
          have HP8 := Aside0.mk (pw_own_below HC.out.2.1 hba.out)
          have HBc := Aside0.mk (bthen HC.out.2.2 hba.out)
          go_wp2_with (at_builtin; refine Kd.R_append_rows kAd (Rr := kAd.K (wc.alloc (.cells #[.int .i64 6, .string ⟨#[]⟩, .string ⟨#[]⟩, .slice none 0 0, .int .i64 4, .string ⟨#[110, 101, 120, 116]⟩, .string ⟨#[67, 85, 82, 82, 69, 78, 84]⟩, .slice none 0 0, .int .i64 6, .string ⟨#[]⟩, .string ⟨#[]⟩, .slice none 0 0] 92))) (w0 := w6) w6.heap.size rfl (.tmp 59) (.tmp 63) 44 92 (.agg #[.int .i64 0, .string ⟨#[]⟩, .string ⟨#[]⟩, .slice none 0 0]) 64 rfl Tryz.underlying44 Cat.infoA rfl (by decide) (by omega) v17 (L7 ++ L9) turnL (some ⟨wc.heap.size, 0, none⟩) 3 3 (fun _ => True) (fun _ => False) rfl rfl ?aO ?aR ?aK (fun _ hk => hk.elim) (fun _ _ => trivial) ?aB ?aS ?c1 ?_; (case aO => exact HV.out); (case aR => exact HT.out); (case aK => intro x cs hx; exact hx); (case aB => exact HBc.out); (case aS => exact HBc.out.size); (case c1 => omega); intro v18 w18 hown hB18 hg18 hat; have HO18 := Aside0.mk (And.intro hown (acts_away HV.out HP8.out hg18)); have HB18 := Aside0.mk hB18; clear hown hB18 hg18 hat)
          obtain ⟨A18, c18, hv18, _, hC18⟩ := Kd.R_reads HO18.out.1
          subst hv18
          have hrr : ReadsInt w18 .u8 A8 n8 F2 := by
            obtain ⟨A', c', e, h⟩ := RB_reads HO18.out.2
            injection e with e1 e2 e3
            subst e1
            rwa [← hn8.out] at h
          have hAD : AD w18 (L7 ++ L9 ++ turnL) := by
            refine AD.append (AD.append ?_ ?_) (turnL_AD _)
            · rw [hL7.out]; exact layL_AD hn6.out.symm hle6 (HR6.out.below HB18.out)
            · rw [hL9.out]; exact layL_AD hn8.out.symm hc8 hrr
          have HRC := Aside0.mk (acts_read hC18 hAD)
          clear hAD hrr
          have hBE2 : BL = (L7 ++ L9 ++ turnL).map (·.1) := by
            rw [List.map_append, List.map_append, hL7.out, hL9.out, layL_map, layL_map, turnL_map, HBL.out, beginA, ← hnm.out, ← hh1.out, ← hh2.out, ← hX.out, ← hF1.out, ← hF2.out]
          have HRB : Aside0 (kAc.C w18 A18 (L7 ++ L9 ++ turnL).length BL ∧ (L7 ++ L9 ++ turnL).length ≤ 16) := ⟨⟨by rw [hBE2]; exact HRC.out, by rw [List.length_append]; have : turnL.length = 3 := rfl; omega⟩⟩
          obtain ⟨nn, hnn⟩ : ∃ n, (L7 ++ L9 ++ turnL).length = n := ⟨_, rfl⟩
          rw [hnn] at HRB ⊢
          clear hBE2 hC18
          refine bodyPost_ret (results_tmp2 rfl _ _ _) rfl ?_
          exact ⟨A18, nn, c18, rfl, HRB.out.1, HRB.out.2, bthen HB6.out HB18.out⟩
      · have HE : Aside0 (BL = []) := ⟨by rw [hBL.out, beginL, ← hBE.out, HBE.out, if_neg hn0]⟩
        obtain rfl := HE.out
        obtain rfl := HBE.out
        have hn1 : (BE == 0) = false := by simpa using hn0
        go_wp2
        refine bodyPost_ret (results_tmp2 rfl _ _ _) rfl ?_
        exact ⟨none, 0, 0, rfl, kAc_nil _, by omega, HB4.out⟩
  · have HE : Aside0 (BE = se ∧ BL = []) := ⟨by
      have h1 : BE = se := by rw [hBE.out, beginE, ← hse.out, if_pos hs0]
      exact ⟨h1, by rw [hBL.out, beginL, ← hBE.out, h1, if_neg hs0]⟩⟩
    obtain ⟨rfl, rfl⟩ := HE.out
    have hn1 : (BE == 0) = false := by simpa using hs0
    go_wp2
    refine bodyPost_ret (results_tmp2 rfl _ _ _) rfl ?_
    exact ⟨none, 0, 0, rfl, kAc_nil _, by omega, HB1.out⟩
end Go.Proofs.YtfakfgblaakgdaaGreat.Files

/- Alike of chapter 4 of two states that are one: walked. -/
namespace Go.Proofs.YtfakfgblaakgdaaGreat.Files
set_option linter.unusedVariables false
set_option linter.unusedSimpArgs false
open Go.RowKit Go.Proofs.YtfakfgblaakgdaaGreatW.PrintWords Go.Proofs.YtfakfgblaakgdaaGreatW.PrintLast Go.Proofs.YtfakfgblaakgdaaGreat.Base Go.Proofs.YtfakfgblaakgdaaGreat.Cells Go.Proofs.YtfakfgblaakgdaaGreat.Ints Go.Proofs.YtfakfgblaakgdaaGreat.Var Go.Proofs.YtfakfgblaakgdaaGreat.EditPure Go.Proofs.YtfakfgblaakgdaaGreat.Edit Go.Proofs.YtfakfgblaakgdaaGreat.Sets Go.Proofs.YtfakfgblaakgdaaGreat.Wide Go.Proofs.YtfakfgblaakgdaaGreat.RowsC

theorem eqNr (d : Nat) (w : World) (x0 y0 : ByteArray) (x1 y1 : Int) :
    (Op.equalIn (d + 2) 147 (.agg #[.string x0, .int .i64 x1]) (.agg #[.string y0, .int .i64 y1])).run Tryz.prog w = .ok (x0.toList == y0.toList && (x1 == y1)) w := by
  refine eqA_of Tryz.underlying147 (by kernel_rfl) ?_
  refine eqf_cons (by rfl) (by go_simp; rfl) (by go_simp; rfl) (by go_simp) ?_
  exact eqf_last (by rfl) (by go_simp; rfl) (by go_simp; rfl) (by go_simp)
theorem neqN (x : Nm) (w : World) : (binOp .neq 147 (.agg #[.string x.name, .int .i64 x.id]) (.agg #[.string x.name, .int .i64 x.id])).run Tryz.prog w = .ok (.bool false) w := by
  have h := eqNr 9998 w x.name x.name x.id x.id
  simp only [beq_self_eq_true, Bool.and_self] at h
  simp only [binOp]
  simp [Op.equal, Op.maxDepth, h]

set_option maxRecDepth 100000 in
set_option maxHeartbeats 1000000 in
theorem sameNames_any (A B : Option Addr) (n c d : Nat) (l : List Nm) (w : World) (hA : kNm.C w A n l) (hB : kNm.C w B n l) (hb : n ≤ 1048576) :
    Calls Tryz.prog 49 #[.slice A n c, .slice B n d] w fun e w' => e = .returned (.bool true) ∧ Below w.heap.size w w' := by
  have HA := Aside0.mk hA
  have HB := Aside0.mk hB
  have HL : Aside0 (l.length = n) := ⟨Kd.C_len hA⟩
  clear hA hB
  go_enter Tryz.func49, Tryz.ntmps49
  go_wp2
  go_loopg [5] n (fun g v5 wr => ∃ i : Nat, v5 = .int .i64 i ∧ g + i = n ∧ Aside0 (Below w.heap.size w wr))
  case atStart => exact ⟨0, rfl, by omega, ⟨Below.refl _ _⟩⟩
  case round =>
    obtain ⟨i, rfl, hg, HW⟩ := hrel
    by_cases hlt : i < n
    · have hlt' : (i : Int) < (n : Int) := by omega
      obtain ⟨m, hm⟩ : ∃ m, l[i]? = some m := ⟨_, List.getElem?_eq_getElem (by rw [HL.out]; exact hlt)⟩
      obtain ⟨ad, rfl, a0, a1⟩ := atNm (Kd.C_below HA.out HW.out) i m hm
      obtain ⟨bd, rfl, b0, b1⟩ := atNm (Kd.C_below HB.out HW.out) i m hm
      have hn := neqN m
      clear hm
      go_wp2_with fail
      go_quiet (fail)
      go_wp2
      go_roundg (n - (i + 1))
      case measure => omega
      case rel => exact ⟨i + 1, by go_num, by omega, ⟨pw_below_drewN HW.out nq⟩⟩
    · go_wp2
      go_ret
      exact ⟨rfl, HW.out⟩

theorem alloc_cellA {w : World} {a : Addr} {v : Value} {o : Obj} (h : w.cell? a = some v) : (w.alloc o).cell? a = some v := pw_cell_below (below_alloc (Below.refl _ _) o) h
theorem drew_cellA {w : World} {a : Addr} {v : Value} (h : w.cell? a = some v) : w.drew.cell? a = some v := h
theorem set3_cellA {w : World} {g : Nat} {x y z v : Value} {a : Addr} (h : w.cell? a = some v) (hne : a.block < g) : (((w.setCell ⟨g, 0, none⟩ x).setCell ⟨g, 1, none⟩ y).setCell ⟨g, 2, none⟩ z).cell? a = some v := by
  rw [World.cell?_setCell_far _ _ _ _ (by show g ≠ a.block; omega), World.cell?_setCell_far _ _ _ _ (by show g ≠ a.block; omega), World.cell?_setCell_far _ _ _ _ (by show g ≠ a.block; omega)]
  exact h

set_option maxRecDepth 100000 in
set_option maxHeartbeats 8000000 in
/-- the same states -/
theorem alike_at {s : St} {v v' : Value} {w : World} (hA : At w v s) (hB : At w v' s) (hs : Small s) :
    Calls Tryz.prog 16 #[v, v'] w fun e w' => e = .returned (.int .i64 0) ∧ Below w.heap.size w w' := by
  obtain ⟨F, fc, N, nc, S, sc, rfl, hA⟩ := hA
  obtain ⟨G, gc, M, mc, T, tc, rfl, hB⟩ := hB
  have HA := Aside0.mk hA
  have HB := Aside0.mk hB
  obtain ⟨lf, hlf⟩ : ∃ n, s.files.length = n := ⟨_, rfl⟩
  obtain ⟨ln, hln⟩ : ∃ n, s.names.length = n := ⟨_, rfl⟩
  obtain ⟨ls, hls⟩ : ∃ n, s.safe.length = n := ⟨_, rfl⟩
  have LF := Aside0.mk hlf
  have LN := Aside0.mk hln
  have LS := Aside0.mk hls
  have hlf1 : lf ≤ 1048576 := by rw [← hlf]; exact hs.lf
  have hln1 : ln ≤ 1048576 := by rw [← hln]; exact hs.ln
  have hls1 : ls ≤ 1048576 := by rw [← hls]; exact hs.ls
  rw [hlf, hln, hls]
  clear hA hB hs hlf hln hls
  go_enter Tryz.func16, Tryz.ntmps16
  go_upto_region 1 with (fail)
  obtain ⟨W, hW⟩ : ∃ W, W = ((w.alloc (Obj.cells #[.int .i64 s.cap, .slice F lf fc, .slice N ln nc, .slice S ls sc, .int .i64 s.next] 35)).alloc
      (Obj.cells #[.int .i64 s.cap, .slice G lf gc, .slice M ln mc, .slice T ls tc, .int .i64 s.next] 25)) := ⟨_, rfl⟩
  have hj : W.heap[w.heap.size]? = some (.cells #[.int .i64 s.cap, .slice F lf fc, .slice N ln nc, .slice S ls sc, .int .i64 s.next] 35 (0, 0)) := by rw [hW]; exact blk_alloc (blk_new _ _) _
  have hk : W.heap[w.heap.size + 1]? = some (.cells #[.int .i64 s.cap, .slice G lf gc, .slice M ln mc, .slice T ls tc, .int .i64 s.next] 25 (0, 0)) := by rw [hW]; exact blk_new1 _ _ _ _
  have HBW : Aside0 (Below w.heap.size w W) := ⟨by rw [hW]; exact below_alloc (below_alloc (Below.refl _ _) _) _⟩
  rw [← hW]
  clear hW
  have HJ := Aside0.mk hj
  have HK := Aside0.mk hk
  obtain ⟨x0, x1, x2, x3, x4, _, _, _, _, _⟩ := all5 hj
  obtain ⟨y0, y1, y2, y3, y4, _, _, _, _, _⟩ := all5 hk
  clear hj hk
  go_wp2_with fail
  refine (sameNames_any N M ln nc mc s.names W (by have := Kd.C_below HA.out.hN HBW.out; rwa [LN.out] at this) (by have := Kd.C_below HB.out.hN HBW.out; rwa [LN.out] at this) hln1).mono ?_
  rintro e w1 ⟨rfl, hb1⟩
  have HB1 := Aside0.mk hb1
  clear x0 x1 x2 x3 x4 y0 y1 y2 y3 y4 hb1
  obtain ⟨x0, x1, x2, x3, x4, _, _, _, _, _⟩ := all5 (blk_keep HJ.out HB1.out)
  obtain ⟨y0, y1, y2, y3, y4, _, _, _, _, _⟩ := all5 (blk_keep HK.out HB1.out)
  go_wp2_with fail
  refine (sameNames_any S T ls sc tc s.safe w1 (by have := Kd.C_below HA.out.hS (bthen HBW.out HB1.out); rwa [LS.out] at this) (by have := Kd.C_below HB.out.hS (bthen HBW.out HB1.out); rwa [LS.out] at this) hls1).mono ?_
  rintro e w2 ⟨rfl, hb2⟩
  have HB2 := Aside0.mk (bthen HB1.out hb2)
  have HBw2 := Aside0.mk (bthen HBW.out (bthen HB1.out hb2))
  clear x0 x1 x2 x3 x4 y0 y1 y2 y3 y4 hb2
  have HJ2 := Aside0.mk (blk_keep HJ.out HB2.out)
  have HK2 := Aside0.mk (blk_keep HK.out HB2.out)
  obtain ⟨x0, x1, x2, x3, x4, _, _, _, _, _⟩ := all5 HJ2.out
  obtain ⟨y0, y1, y2, y3, y4, _, _, _, _, _⟩ := all5 HK2.out
  go_wp2
  go_loopg [5] lf (fun g v5 wr => ∃ i : Nat, v5 = .int .i64 i ∧ g + i = lf ∧ Aside0 (Below w2.heap.size w2 wr))
  case atStart => exact ⟨0, rfl, by omega, ⟨Below.refl _ _⟩⟩
  case round =>
    obtain ⟨i, rfl, hg, HBr⟩ := hrel
    have HBw := Aside0.mk (bthen HBw2.out HBr.out)
    clear x0 x1 x2 x3 x4 y0 y1 y2 y3 y4
    have HJr := Aside0.mk (blk_keep HJ2.out HBr.out)
    have HKr := Aside0.mk (blk_keep HK2.out HBr.out)
    obtain ⟨_, x1, _, _, _, _, _, _, _, _⟩ := all5 HJr.out
    by_cases hlt : i < lf
    · have hlt' : (i : Int) < (lf : Int) := by omega
      obtain ⟨m, hm⟩ : ∃ m, s.files[i]? = some m := ⟨_, List.getElem?_eq_getElem (by rw [LF.out]; exact hlt)⟩
      obtain ⟨ad, D, dc, hFs, a0, a1, a2, _, ra⟩ := atFl (Kd.C_below HA.out.hF HBw.out) i m hm
      obtain ⟨bd, E, ec, hGs, b0, b1, b2, _, rb⟩ := atFl (Kd.C_below HB.out.hF HBw.out) i m hm
      subst hFs hGs
      obtain ⟨ld, hld⟩ : ∃ n, m.data.length = n := ⟨_, rfl⟩
      rw [hld] at a1 b1 ra rb
      have RA := Aside0.mk ra
      have RB' := Aside0.mk rb
      clear hm hld ra rb
      obtain ⟨_, y1, _, _, _, _, _, _, _, _⟩ := all5 HKr.out
      go_upto_region 6 with (fail)
      go_cut [6, 7] (fun v6 v7 wc => ∃ g6 g7, v6 = .pointer (some ⟨g6, 0, none⟩) ∧ v7 = .pointer (some ⟨g7, 0, none⟩) ∧ Aside0 (wc.heap[g6]? = some (.cells #[.int .i64 m.id, .slice D ld dc, .int .i64 m.sync] 113 (0, 0)) ∧ wc.heap[g7]? = some (.cells #[.int .i64 m.id, .slice E ld ec, .int .i64 m.sync] 114 (0, 0)) ∧ Below wr.heap.size wr wc))
      case first =>
        have q0 := World.block_lt_of_cell? wr _ a0
        have q1 := World.block_lt_of_cell? wr _ b0
        have q2 := World.block_lt_of_cell? wr _ x1
        have q3 := World.block_lt_of_cell? wr _ y1
        have n0 := World.new_ne wr _ a0
        have n1 := World.new_ne wr _ b0
        have n2 := World.new_ne wr _ x1
        have n3 := World.new_ne wr _ y1
        go_region_held3 (fun w' => w'.cell? ⟨w.heap.size, 1, none⟩ = some (.slice (some ad) lf fc) ∧ w'.cell? ⟨w.heap.size + 1, 1, none⟩ = some (.slice (some bd) lf gc) ∧ w'.cell? (ad.add (i * 3)) = some (.int .i64 m.id) ∧ w'.cell? ⟨(ad.add (i * 3)).block, (ad.add (i * 3)).off + 1, none⟩ = some (.slice D ld dc) ∧ w'.cell? ⟨(ad.add (i * 3)).block, (ad.add (i * 3)).off + 2, none⟩ = some (.int .i64 m.sync) ∧ w'.cell? (bd.add (i * 3)) = some (.int .i64 m.id) ∧ w'.cell? ⟨(bd.add (i * 3)).block, (bd.add (i * 3)).off + 1, none⟩ = some (.slice E ld ec) ∧ w'.cell? ⟨(bd.add (i * 3)).block, (bd.add (i * 3)).off + 2, none⟩ = some (.int .i64 m.sync)) (first | with_reducible exact ⟨x1, y1, a0, a1, a2, b0, b1, b2⟩ | go_keep | (refine ⟨?_, ?_, ?_, ?_, ?_, ?_, ?_, ?_⟩ <;> (repeat (first | with_reducible exact x1 | with_reducible exact y1 | with_reducible exact a0 | with_reducible exact a1 | with_reducible exact a2 | with_reducible exact b0 | with_reducible exact b1 | with_reducible exact b2 | with_reducible apply alloc_cellA | with_reducible apply drew_cellA | with_reducible apply set3_cellA | (dsimp only; omega) | (simp only [World.size_alloc, World.size_drew, World.size_setCell]; omega))))) (fail)
        all_goals go_wp2
        all_goals go_meet
        all_goals first
          | exact ⟨_, _, rfl, rfl, ⟨blk_drew (blk_alloc (blk_new _ _) _), blk_drew (blk_new1 _ _ _ _), below_drew (below_alloc (below_alloc (Below.refl _ _) _) _)⟩⟩
          | exact ⟨_, _, rfl, rfl, ⟨blk_drew (blk_new1 _ _ _ _), blk_drew (blk_alloc (blk_new _ _) _), below_drew (below_alloc (below_alloc (Below.refl _ _) _) _)⟩⟩
      case rest =>
        obtain ⟨g6, g7, rfl, rfl, HT⟩ := hcut
        obtain ⟨p0, p1, p2, _, _, _⟩ := all3 HT.out.1
        obtain ⟨q0, q1, q2, _, _, _⟩ := all3 HT.out.2.1
        go_wp2_with (go_at_call 48; refine (same_any D E ld ld dc ec m.data m.data _ (RA.out.below HT.out.2.2) (RB'.out.below HT.out.2.2) rfl).mono ?_; rintro e wz ⟨rfl, rfl⟩)
        go_roundg (lf - (i + 1))
        case measure => omega
        case rel => exact ⟨i + 1, by go_num, by omega, ⟨bthen HBr.out HT.out.2.2⟩⟩
    · have hnf : ¬ ((i : Int) < (lf : Int)) := by omega
      go_wp2
      go_ret
      exact ⟨rfl, HBw.out⟩
end Go.Proofs.YtfakfgblaakgdaaGreat.Files

/- Are two lists of acts one (SameActs): walked. -/
namespace Go.Proofs.YtfakfgblaakgdaaGreat.Files
set_option linter.unusedVariables false
set_option linter.unusedSimpArgs false
open Go.RowKit Go.Proofs.YtfakfgblaakgdaaGreatW.PrintWords Go.Proofs.YtfakfgblaakgdaaGreatW.PrintLast Go.Proofs.YtfakfgblaakgdaaGreat.Base Go.Proofs.YtfakfgblaakgdaaGreat.Cells Go.Proofs.YtfakfgblaakgdaaGreat.Ints Go.Proofs.YtfakfgblaakgdaaGreat.Var Go.Proofs.YtfakfgblaakgdaaGreat.EditPure Go.Proofs.YtfakfgblaakgdaaGreat.Edit Go.Proofs.YtfakfgblaakgdaaGreat.Sets Go.Proofs.YtfakfgblaakgdaaGreat.Wide Go.Proofs.YtfakfgblaakgdaaGreat.RowsC

set_option maxRecDepth 100000 in
set_option maxHeartbeats 4000000 in
theorem sameActs_any (A B : Option Addr) (n ac bc : Nat) (l : List Ac) (w : World) (ha : kAc.C w A n l) (hb : kAc.C w B n l) (hn : n ≤ 1048576) :
    Calls Tryz.prog 14 #[.slice A n ac, .slice B n bc] w fun e w' => e = .returned (.bool true) ∧ Below w.heap.size w w' := by
  have HA := Aside0.mk ha
  have HB := Aside0.mk hb
  have LN : Aside0 (l.length = n) := ⟨Kd.C_len ha⟩
  clear ha hb
  go_enter Tryz.func14, Tryz.ntmps14
  go_wp2
  go_loopg [5] n (fun g v5 wr => ∃ i : Nat, v5 = .int .i64 i ∧ g + i = n ∧ Aside0 (Below w.heap.size w wr))
  case atStart => exact ⟨0, rfl, by omega, ⟨Below.refl _ _⟩⟩
  case round =>
    obtain ⟨i, rfl, hg, HBr⟩ := hrel
    by_cases hlt : i < n
    · have hlt' : (i : Int) < (n : Int) := by omega
      obtain ⟨m, hm⟩ : ∃ m, l[i]? = some m := ⟨_, List.getElem?_eq_getElem (by rw [LN.out]; exact hlt)⟩
      obtain ⟨ad, D, dc, rfl, a0, a1, a2, a3, _, hrd⟩ := atAc (Kd.C_below HA.out HBr.out) i m hm
      obtain ⟨bd, E, ec, rfl, b0, b1, b2, b3, _, hre⟩ := atAc (Kd.C_below HB.out HBr.out) i m hm
      obtain ⟨wh, hwh⟩ : ∃ x, m.what = x := ⟨_, rfl⟩
      obtain ⟨nm, hnm⟩ : ∃ x, m.name = x := ⟨_, rfl⟩
      obtain ⟨de, hde⟩ : ∃ x, m.dest = x := ⟨_, rfl⟩
      obtain ⟨ld, hld⟩ : ∃ x, m.data.length = x := ⟨_, rfl⟩
      rw [hwh] at a0 b0
      rw [hnm] at a1 b1
      rw [hde] at a2 b2
      rw [hld] at a3 b3 hrd hre
      have HRD := Aside0.mk hrd
      have HRE := Aside0.mk hre
      have C1 : ∀ x : Later wr, Calls Tryz.prog 48 #[.slice D ld dc, .slice E ld ec] (wb wr x) fun e w' => e = .returned (.bool true) ∧ wb wr x = w' := fun x => same_any D E ld ld dc ec m.data m.data _ (HRD.out.below (wb_below _ x)) (HRE.out.below (wb_below _ x)) rfl
      have A0 := wb_cell a0
      have A1 := wb_cell a1
      have A2 := wb_cell a2
      have A3 := wb_cell a3
      have B0 := wb_cell b0
      have B1 := wb_cell b1
      have B2 := wb_cell b2
      have B3 := wb_cell b3
      have q0 : (wh == wh) = true := by simp
      clear hm hrd hre hwh hnm hde hld a0 a1 a2 a3 b0 b1 b2 b3
      go_upto_region 6 with (fail)
      refine wp_region_wide (by kernel_rfl) (by kernel_rfl) ?_
      repeat (go_big_quiet_step ((go_at_call 48; exact wide_same (C1 _))))
      refine wpQuiet_nil ?_
      rintro w' ⟨x, rfl⟩
      have HBx := Aside0.mk (bthen HBr.out (wb_below _ x))
      go_wp2
      go_roundg (n - (i + 1))
      case measure => omega
      case rel => exact ⟨i + 1, by go_num, by omega, HBx⟩
    · have hnf : ¬ ((i : Int) < (n : Int)) := by omega
      go_wp2
      go_ret
      exact ⟨rfl, HBr.out⟩
end Go.Proofs.YtfakfgblaakgdaaGreat.Files

/- A region that draws its order, walked without its orders: of each operation's value a fact is laid that lasts; operations at the end that wait for all others are walked in order. No program. -/
namespace Go.Proofs.YtfakfgblaakgdaaGreat.Typed
set_option linter.unusedVariables false
set_option linter.unusedSimpArgs false
open Go

/-- an act in which the temporaries ts hold f -/
def fillA (a : Act) (ts : List Tmp) (f : Tmp → Value) : Act := match ts with
  | [] => a
  | t :: r => fillA (a.put (some t) (f t)) r f
theorem put_put (a : Act) (t : Tmp) (u v : Value) : (a.put (some t) u).put (some t) v = a.put (some t) v := by
  show Act.mk ((a.tmps.setIfInBounds t u).setIfInBounds t v) a.defers = Act.mk (a.tmps.setIfInBounds t v) a.defers
  congr 1
  apply Array.ext_getElem?
  intro i
  simp only [Array.getElem?_setIfInBounds, Array.size_setIfInBounds]
  split <;> simp_all
theorem put_swap (a : Act) {s t : Tmp} (h : s ≠ t) (u v : Value) : (a.put (some s) u).put (some t) v = (a.put (some t) v).put (some s) u := by
  show Act.mk ((a.tmps.setIfInBounds s u).setIfInBounds t v) a.defers = Act.mk ((a.tmps.setIfInBounds t v).setIfInBounds s u) a.defers
  congr 1
  apply Array.ext_getElem?
  intro i
  simp only [Array.getElem?_setIfInBounds, Array.size_setIfInBounds]
  by_cases h3 : t = i
  · subst h3
    rw [if_pos rfl, if_neg h, if_pos rfl]
  · by_cases h4 : s = i
    · subst h4
      rw [if_neg h3, if_pos rfl, if_pos rfl]
    · rw [if_neg h3, if_neg h4, if_neg h4, if_neg h3]
theorem fill_out (ts : List Tmp) (f : Tmp → Value) (t : Tmp) (v : Value) (h : t ∉ ts) : ∀ a : Act, (fillA a ts f).put (some t) v = fillA (a.put (some t) v) ts f := by
  induction ts with
  | nil => intro a; rfl
  | cons s r ih =>
    intro a
    have h1 : s ≠ t := fun e => h (by rw [e]; exact List.mem_cons_self)
    rw [fillA, fillA, ih (fun e => h (List.mem_cons_of_mem _ e)), put_swap a h1]
theorem fill_congr (ts : List Tmp) (f g : Tmp → Value) (h : ∀ t ∈ ts, f t = g t) : ∀ a : Act, fillA a ts f = fillA a ts g := by
  induction ts with
  | nil => intro a; rfl
  | cons s r ih =>
    intro a
    rw [fillA, fillA, h s List.mem_cons_self, ih (fun t ht => h t (List.mem_cons_of_mem _ ht))]
theorem fill_put (ts : List Tmp) (hn : ts.Nodup) (f : Tmp → Value) (t : Tmp) (v : Value) (h : t ∈ ts) : ∀ a : Act, (fillA a ts f).put (some t) v = fillA a ts (fun s => if s = t then v else f s) := by
  induction ts with
  | nil => cases h
  | cons s r ih =>
    intro a
    obtain ⟨h1, h2⟩ := List.nodup_cons.1 hn
    by_cases e : s = t
    · subst e
      rw [fillA, fillA, fill_out r f s v h1, put_put, if_pos rfl]
      exact fill_congr r _ _ (fun q hq => by have hqs : q ≠ s := (fun e => h1 (by rw [← e]; exact hq)); show f q = if q = s then v else f q; rw [if_neg hqs]) _
    · have h3 : t ∈ r := by rcases List.mem_cons.1 h with h | h; exact absurd h.symm e; exact h
      rw [fillA, fillA, ih h2 h3, if_neg e]
theorem fill_self (a : Act) (ts : List Tmp) : fillA a ts (fun t => a.tmps.getD t undef) = a := by
  have key : ∀ (ts : List Tmp) (f : Tmp → Value) (a : Act), (∀ t, f t = a.tmps.getD t undef) → fillA a ts f = a := by
    intro ts
    induction ts with
    | nil => intro f a _; rfl
    | cons s r ih =>
      intro f a hf
      have h1 : a.put (some s) (f s) = a := by
        cases a with
        | mk tmps defers =>
          show Act.mk (tmps.setIfInBounds s (f s)) defers = Act.mk tmps defers
          congr 1
          apply Array.ext_getElem?
          intro i
          simp only [Array.getElem?_setIfInBounds]
          split
          · rename_i e
            subst e
            rw [hf]
            split
            · rename_i h2; simp [h2]
            · rename_i h2; simp [Array.getElem?_eq_none (Nat.le_of_not_lt h2)]
          · rfl
      rw [fillA, h1]
      exact ih f a hf
  exact key ts _ a (fun _ => rfl)

section
variable {P : Program} {Q : Exit → Act → World → Prop}
/-- operations one behind the other -/
def wpTail (P : Program) (Q : Exit → Act → World → Prop) : List Oper → Act → World → Prop
  | [], a, w => Q .normal a w
  | o :: rest, a, w => o.wp P a w (wpTail P Q rest) Q

/-- is what is told of the region's shape so: the first m operations have the temporaries ts in order; of each is told whom it surely waits for; behind them each waits for all ahead -/
def edgesOk (ops : List Oper) (anc : List (List Nat)) (i : Nat) (o : Oper) : Bool :=
  o.guard.isNone && (o.after.toList.all fun e => !Region.binds .any e || decide (e.on < i)) &&
  ((anc.getD i []).all fun j => o.after.toList.any fun e => Region.binds .any e && (e.on == j || (anc.getD e.on []).contains j))
def allOk (ops : List Oper) (anc : List (List Nat)) : List Oper → Nat → Bool
  | [], _ => true
  | o :: rest, i => edgesOk ops anc i o && allOk ops anc rest (i + 1)
def shapeOk (ops : List Oper) (ts : List Tmp) (anc : List (List Nat)) : Bool :=
  allOk ops anc ops 0 && decide ((ops.take ts.length).map (·.dst) = ts.map some) && decide ts.Nodup && decide (ts.length ≤ ops.length) &&
  ((List.range ops.length).all fun k => decide (k < ts.length) || ((List.range k).all fun j => (anc.getD k []).contains j))

/-- the first operations, each by itself -/
def Steps (P : Program) (Q : Exit → Act → World → Prop) (a0 : Act) (w0 : World) (Rel : World → World → Prop) (F : Nat → Value → World → Prop) (ts : List Tmp) (anc : List (List Nat)) : List Oper → Nat → Prop
  | [], _ => True
  | o :: rest, i => (∀ (f : Tmp → Value) (w : World), Rel w0 w → (∀ j ∈ anc.getD i [], F j (f (ts.getD j 0)) w) →
      o.wp P (fillA a0 ts f) w (fun a' w' => ∃ v, a' = (fillA a0 ts f).put o.dst v ∧ Rel w w' ∧ F i v w') Q) ∧ Steps P Q a0 w0 Rel F ts anc rest (i + 1)

theorem allOk_get {ops : List Oper} {anc : List (List Nat)} : ∀ (l : List Oper) (k : Nat), allOk ops anc l k = true → ∀ i o, l[i]? = some o → edgesOk ops anc (k + i) o = true
  | [], _, _, _, _, h => by simp at h
  | p :: l, k, h, 0, o, ho => by
    simp only [allOk, Bool.and_eq_true] at h
    have e : p = o := by simpa using ho
    subst e; exact h.1
  | p :: l, k, h, i + 1, o, ho => by
    simp only [allOk, Bool.and_eq_true] at h
    have := allOk_get l (k + 1) h.2 i o (by simpa using ho)
    rwa [show k + 1 + i = k + (i + 1) by omega] at this
theorem Steps_get {a0 : Act} {w0 : World} {Rel : World → World → Prop} {F : Nat → Value → World → Prop} {ts : List Tmp} {anc : List (List Nat)} : ∀ (l : List Oper) (k : Nat), Steps P Q a0 w0 Rel F ts anc l k → ∀ i o, l[i]? = some o →
    ∀ (f : Tmp → Value) (w : World), Rel w0 w → (∀ j ∈ anc.getD (k + i) [], F j (f (ts.getD j 0)) w) → o.wp P (fillA a0 ts f) w (fun a' w' => ∃ v, a' = (fillA a0 ts f).put o.dst v ∧ Rel w w' ∧ F (k + i) v w') Q
  | [], _, _, _, _, h => by simp at h
  | p :: l, k, h, 0, o, ho => by
    have e : p = o := by simpa using ho
    subst e; exact h.1
  | p :: l, k, h, i + 1, o, ho => by
    have := Steps_get l (k + 1) h.2 i o (by simpa using ho)
    rwa [show k + 1 + i = k + (i + 1) by omega] at this

theorem anc_lt {ops : List Oper} {anc : List (List Nat)} (hok : allOk ops anc ops 0 = true) : ∀ (i : Nat) (o : Oper), ops[i]? = some o → ∀ j ∈ anc.getD i [], j < i := by
  intro i
  induction i using Nat.strongRecOn with
  | _ i ih =>
    intro o ho j hj
    have hed := allOk_get ops 0 hok i o ho
    rw [Nat.zero_add] at hed
    simp only [edgesOk, Bool.and_eq_true] at hed
    obtain ⟨e, he, h8⟩ := List.any_eq_true.1 (List.all_eq_true.1 hed.2 j hj)
    simp only [Bool.and_eq_true, Bool.or_eq_true, beq_iff_eq] at h8
    have hlt : e.on < i := by
      have := List.all_eq_true.1 hed.1.2 e he
      rw [h8.1] at this
      simpa using this
    rcases h8.2 with h | h
    · omega
    · have hi : i < ops.length := (List.getElem?_eq_some_iff.1 ho).1
      have := ih e.on hlt _ (List.getElem?_eq_getElem (by omega)) j (by simpa using h)
      omega
/-- how many are still to come -/
def left (n : Nat) (listed : Array Bool) : Nat := (List.range n).countP fun i => !listed.getD i true
theorem left_set (n : Nat) (listed : Array Bool) (i : Nat) (hi : i < n) (hl : i < listed.size) (h : listed.getD i true = false) : left n (listed.setIfInBounds i true) + 1 = left n listed := by
  unfold left
  induction n with
  | zero => omega
  | succ n ih =>
    rw [List.range_succ, List.countP_append, List.countP_append]
    by_cases e : i = n
    · subst e
      have h1 : (List.range i).countP (fun j => !(listed.setIfInBounds i true).getD j true) = (List.range i).countP (fun j => !listed.getD j true) := by
        apply List.countP_congr
        intro j hj
        have hj' : j < i := List.mem_range.1 hj
        have : (listed.setIfInBounds i true).getD j true = listed.getD j true := by
          simp only [Array.getD_eq_getD_getElem?, Array.getElem?_setIfInBounds]
          rw [if_neg (by omega)]
        rw [this]
      rw [h1]
      have h2 : (listed.setIfInBounds i true).getD i true = true := by
        simp [Array.getD_eq_getD_getElem?, Array.getElem?_setIfInBounds, hl]
      simp only [List.countP_cons, List.countP_nil, h2, h]
      simp
    · have := ih (by omega)
      have h2 : (listed.setIfInBounds i true).getD n true = listed.getD n true := by
        simp only [Array.getD_eq_getD_getElem?, Array.getElem?_setIfInBounds]
        rw [if_neg e]
      simp only [List.countP_cons, List.countP_nil, h2]
      omega
theorem set_true (listed : Array Bool) (i j : Nat) (hl : i < listed.size) : (listed.setIfInBounds i true).getD j true = (if i = j then true else listed.getD j true) := by
  simp only [Array.getD_eq_getD_getElem?, Array.getElem?_setIfInBounds]
  split
  · rename_i e; subst e; simp [hl]
  · rfl
theorem mem_ready' {md : Region.Mode} {ops : Array Oper} {listed : Array Bool} {i : Nat} : i ∈ Region.ready md ops listed ↔ i < ops.size ∧ listed.getD i true = false ∧ ∃ o, ops[i]? = some o ∧ ∀ e ∈ o.after.toList, Region.binds md e = true → listed.getD e.on false = true := by
  unfold Region.ready
  rw [List.mem_filter, List.mem_range]
  constructor
  · rintro ⟨h1, h2⟩
    simp only [Bool.and_eq_true, Bool.not_eq_true'] at h2
    obtain ⟨h2, h3⟩ := h2
    refine ⟨h1, h2, ops[i], by simp [h1], fun e he hb => ?_⟩
    have h4 : (ops[i].after.all fun e => !Region.binds md e || listed.getD e.on false) = true := by simpa [h1] using h3
    rw [Array.all_eq_true_iff_forall_mem] at h4
    have := h4 e (by simpa using he)
    rw [hb] at this
    simpa using this
  · rintro ⟨h1, h2, o, ho, h3⟩
    refine ⟨h1, ?_⟩
    simp only [Bool.and_eq_true, Bool.not_eq_true', ho]
    refine ⟨h2, ?_⟩
    show (o.after.all fun e => !Region.binds md e || listed.getD e.on false) = true
    rw [Array.all_eq_true_iff_forall_mem]
    intro e he
    by_cases hb : Region.binds md e = true
    · rw [h3 e (by simpa using he) hb]; simp
    · simp [hb]

/-- what is ahead: the first k are done, and no other -/
theorem tail_any {ops : List Oper} {ts : List Tmp} {anc : List (List Nat)} (hs : shapeOk ops ts anc = true) : ∀ (d k fuel : Nat) (listed : Array Bool) (a : Act) (w : World), k + d = ops.length → ts.length ≤ k → d ≤ fuel → listed.size = ops.length →
    (∀ i, i < k → listed.getD i true = true) → (∀ i, k ≤ i → i < ops.length → listed.getD i true = false) → wpTail P Q (ops.drop k) a w → wpAny P .any ops.toArray Q fuel listed a w := by
  simp only [shapeOk, Bool.and_eq_true, decide_eq_true_eq] at hs
  obtain ⟨⟨⟨⟨hok, hdst⟩, hnd⟩, hle⟩, hanc⟩ := hs
  intro d
  induction d with
  | zero =>
    intro k fuel listed a w hk hm hf hsz h1 h2 h3
    have hr : Region.ready .any ops.toArray listed = [] := by
      apply List.eq_nil_iff_forall_not_mem.2
      intro i hi
      obtain ⟨q1, q2, _⟩ := mem_ready'.1 hi
      rw [h1 i (by simp at q1; omega)] at q2
      cases q2
    have hq : Q .normal a w := by
      rw [List.drop_eq_nil_of_le (by omega)] at h3
      exact h3
    cases fuel with
    | zero => exact ⟨hr, hq⟩
    | succ fuel => exact ⟨fun _ => hq, fun i hi => by rw [hr] at hi; cases hi⟩
  | succ d ih =>
    intro k fuel listed a w hk hm hf hsz h1 h2 h3
    obtain ⟨fuel, rfl⟩ : ∃ m, fuel = m + 1 := ⟨fuel - 1, by omega⟩
    have hkl : k < ops.length := by omega
    obtain ⟨o, ho⟩ : ∃ o, ops[k]? = some o := ⟨_, List.getElem?_eq_getElem hkl⟩
    have hed := allOk_get ops 0 hok k o ho
    rw [Nat.zero_add] at hed
    simp only [edgesOk, Bool.and_eq_true] at hed
    have hready : k ∈ Region.ready .any ops.toArray listed := by
      refine mem_ready'.2 ⟨by simpa using hkl, h2 k (Nat.le_refl _) hkl, o, by simpa using ho, fun e he hb => ?_⟩
      have h4 := List.all_eq_true.1 hed.1.2 e he
      rw [hb] at h4
      have h5 : e.on < k := by simpa using h4
      have h6 := h1 e.on h5
      have h7 : e.on < listed.size := by omega
      simpa [Array.getD_eq_getD_getElem?, h7] using h6
    refine ⟨fun h => (by rw [h] at hready; cases hready), fun i hi => ?_⟩
    obtain ⟨q1, q2, oi, hoi, q3⟩ := mem_ready'.1 hi
    have hin : i < ops.length := by simpa using q1
    have hoi' : ops[i]? = some oi := by simpa using hoi
    have hik : i = k := by
      rcases Nat.lt_trichotomy i k with h | h | h
      · rw [h1 i h] at q2; cases q2
      · exact h
      · exfalso
        have h4 := List.all_eq_true.1 hanc i (List.mem_range.2 hin)
        have h5 : ¬ i < ts.length := by omega
        simp only [h5, decide_false, Bool.false_or] at h4
        have h6 := List.all_eq_true.1 h4 k (List.mem_range.2 h)
        have hedi := allOk_get ops 0 hok i oi hoi'
        rw [Nat.zero_add] at hedi
        simp only [edgesOk, Bool.and_eq_true] at hedi
        have h7 := List.all_eq_true.1 hedi.2 k (by simpa using h6)
        obtain ⟨e, he, h8⟩ := List.any_eq_true.1 h7
        simp only [Bool.and_eq_true, Bool.or_eq_true, beq_iff_eq] at h8
        have h9 := q3 e he h8.1
        have hlt : e.on < i := by
          have := List.all_eq_true.1 hedi.1.2 e he
          rw [h8.1] at this
          simpa using this
        have hon : ¬ e.on < k → False := fun hge => by
          have := h2 e.on (by omega) (by omega)
          have h10 : e.on < listed.size := by omega
          simp [Array.getD_eq_getD_getElem?, h10] at this h9
          rw [this] at h9; cases h9
        rcases h8.2 with h8 | h8
        · exact hon (by omega)
        · have h11 : e.on < k := Nat.lt_of_not_le (fun h => hon (by omega))
          -- its own ancestors are ahead of it
          obtain ⟨oe, hoe⟩ : ∃ oe, ops[e.on]? = some oe := ⟨_, List.getElem?_eq_getElem (by omega)⟩
          exact absurd (anc_lt hok e.on oe hoe k (by simpa using h8)) (by omega)
    subst hik
    unfold wpOp
    have hoi2 : ops.toArray[i]? = some o := by simpa using ho
    rw [hoi2]
    have hw : Region.wanted o (yielded ops.toArray a.tmps) = true := by
      unfold Region.wanted
      have := hed.1.1
      cases hg : o.guard with
      | none => rfl
      | some g => rw [hg] at this; simp at this
    simp only [hw, if_true]
    left
    rw [List.drop_eq_getElem_cons hkl] at h3
    have hoe : ops[i] = o := by simpa [List.getElem?_eq_getElem hkl] using ho
    rw [hoe] at h3
    refine Oper.wp_mono (fun a' w' h => ?_) h3
    refine ih (i + 1) fuel _ a' w' (by omega) (by omega) (by omega) (by simp [hsz]) (fun j hj => ?_) (fun j hj hj2 => ?_) h
    · rw [set_true _ _ _ (by omega)]
      split
      · rfl
      · exact h1 j (by omega)
    · rw [set_true _ _ _ (by omega), if_neg (by omega)]
      exact h2 j (by omega) hj2

theorem left_tail (m n : Nat) (listed : Array Bool) (h : ∀ i, m ≤ i → i < n → listed.getD i true = false) : n - m ≤ left n listed := by
  unfold left
  induction n with
  | zero => omega
  | succ n ih =>
    rw [List.range_succ, List.countP_append]
    have := ih (fun i h1 h2 => h i h1 (by omega))
    by_cases e : m ≤ n
    · simp only [List.countP_cons, List.countP_nil, h n e (by omega)]
      simp only [Bool.not_false, if_true]
      omega
    · omega
theorem left_pos (n : Nat) (listed : Array Bool) (i : Nat) (hi : i < n) (h : listed.getD i true = false) : 0 < left n listed := by
  unfold left
  exact List.countP_pos_iff.2 ⟨i, List.mem_range.2 hi, by rw [h]; rfl⟩
theorem get_ff {listed : Array Bool} {j : Nat} (hj : j < listed.size) : listed.getD j true = listed.getD j false := by simp [Array.getD_eq_getD_getElem?, hj]

theorem typed_any {ops : List Oper} {ts : List Tmp} {anc : List (List Nat)} (hs : shapeOk ops ts anc = true) {a0 : Act} {w0 : World} {Rel : World → World → Prop} {F : Nat → Value → World → Prop}
    (rtrans : ∀ a b c, Rel a b → Rel b c → Rel a c) (hF : ∀ i v w w', i < ts.length → F i v w → Rel w w' → F i v w') (hst : Steps P Q a0 w0 Rel F ts anc (ops.take ts.length) 0)
    (htail : ∀ f w, Rel w0 w → (∀ j, j < ts.length → F j (f (ts.getD j 0)) w) → wpTail P Q (ops.drop ts.length) (fillA a0 ts f) w) :
    ∀ (fuel : Nat) (listed : Array Bool) (f : Tmp → Value) (w : World), left ops.length listed ≤ fuel → listed.size = ops.length → Rel w0 w → (∀ i, i < ts.length → listed.getD i true = true → F i (f (ts.getD i 0)) w) →
      (∀ i, ts.length ≤ i → i < ops.length → listed.getD i true = false) → (∀ i, i < ops.length → listed.getD i true = true → ∀ j ∈ anc.getD i [], listed.getD j true = true) → wpAny P .any ops.toArray Q fuel listed (fillA a0 ts f) w := by
  have hs0 := hs
  simp only [shapeOk, Bool.and_eq_true, decide_eq_true_eq] at hs
  obtain ⟨⟨⟨⟨hok, hdst⟩, hnd⟩, hle⟩, hanc⟩ := hs
  intro fuel
  induction fuel with
  | zero =>
    intro listed f w hl hsz hR hf hun hcl
    have hall : ∀ i, i < ops.length → listed.getD i true = true := fun i hi => by
      cases h : listed.getD i true with
      | true => rfl
      | false => have := left_pos _ _ i hi h; omega
    have h1 := left_tail ts.length ops.length listed hun
    exact tail_any hs0 (ops.length - ts.length) ts.length 0 listed _ w (by omega) (Nat.le_refl _) (by omega) hsz (fun i hi => hall i (by omega)) hun (htail f w hR (fun j hj => hf j hj (hall j (by omega))))
  | succ fuel ih =>
    intro listed f w hl hsz hR hf hun hcl
    by_cases hpre : ∀ i, i < ts.length → listed.getD i true = true
    · have h1 := left_tail ts.length ops.length listed hun
      exact tail_any hs0 (ops.length - ts.length) ts.length (fuel + 1) listed _ w (by omega) (Nat.le_refl _) (by omega) hsz hpre hun (htail f w hR (fun j hj => hf j hj (hpre j hj)))
    · have hex : ∃ i, i < ts.length ∧ listed.getD i true = false := by
        apply Classical.byContradiction
        intro hn
        exact hpre (fun i hi => by
          cases h : listed.getD i true with
          | true => rfl
          | false => exact absurd ⟨i, hi, h⟩ hn)
      have hfirst : ∀ i, i < ts.length → listed.getD i true = false → ∃ k, k ∈ Region.ready .any ops.toArray listed := by
        intro i
        induction i using Nat.strongRecOn with
        | _ i ihi =>
          intro him hiu
          obtain ⟨o, ho⟩ : ∃ o, ops[i]? = some o := ⟨_, List.getElem?_eq_getElem (by omega)⟩
          by_cases hall : ∀ e ∈ o.after.toList, Region.binds .any e = true → listed.getD e.on false = true
          · exact ⟨i, mem_ready'.2 ⟨by simp; omega, hiu, o, by simpa using ho, hall⟩⟩
          · have hed := allOk_get ops 0 hok i o ho
            rw [Nat.zero_add] at hed
            simp only [edgesOk, Bool.and_eq_true] at hed
            have : ∃ e, e ∈ o.after.toList ∧ Region.binds .any e = true ∧ listed.getD e.on false = false := by
              apply Classical.byContradiction
              intro hn
              exact hall (fun e he hb => by
                cases h : listed.getD e.on false with
                | true => rfl
                | false => exact absurd ⟨e, he, hb, h⟩ hn)
            obtain ⟨e, he, hb, hu⟩ := this
            have h4 := List.all_eq_true.1 hed.1.2 e he
            rw [hb] at h4
            have h5 : e.on < i := by simpa using h4
            exact ihi e.on h5 (by omega) (by rw [get_ff (by omega)]; exact hu)
      obtain ⟨i0, hi0, hu0⟩ := hex
      obtain ⟨k0, hk0⟩ := hfirst i0 hi0 hu0
      refine ⟨fun h => (by rw [h] at hk0; cases hk0), fun i hi => ?_⟩
      obtain ⟨q1, q2, o, ho, q3⟩ := mem_ready'.1 hi
      have hin : i < ops.length := by simpa using q1
      have ho' : ops[i]? = some o := by simpa using ho
      have hed := allOk_get ops 0 hok i o ho'
      rw [Nat.zero_add] at hed
      simp only [edgesOk, Bool.and_eq_true] at hed
      have hancl : ∀ j ∈ anc.getD i [], listed.getD j true = true := fun j hj => by
        obtain ⟨e, he, h8⟩ := List.any_eq_true.1 (List.all_eq_true.1 hed.2 j hj)
        simp only [Bool.and_eq_true, Bool.or_eq_true, beq_iff_eq] at h8
        have h9 := q3 e he h8.1
        have hlt : e.on < i := by
          have := List.all_eq_true.1 hed.1.2 e he
          rw [h8.1] at this
          simpa using this
        have h10 : listed.getD e.on true = true := by rw [get_ff (by omega)]; exact h9
        rcases h8.2 with h | h
        · rw [← h]; exact h10
        · exact hcl e.on (by omega) h10 j (by simpa using h)
      by_cases him : i < ts.length
      · unfold wpOp
        rw [ho]
        have hw : Region.wanted o (yielded ops.toArray (fillA a0 ts f).tmps) = true := by
          unfold Region.wanted
          have := hed.1.1
          cases hg : o.guard with
          | none => rfl
          | some g => rw [hg] at this; simp at this
        simp only [hw, if_true]
        left
        have hti : (ops.take ts.length)[i]? = some o := by rw [List.getElem?_take, if_pos him]; exact ho'
        have hstep := Steps_get _ 0 hst i o hti f w hR (by
          rw [Nat.zero_add]
          intro j hj
          have hji := anc_lt hok i o ho' j hj
          exact hf j (by omega) (hancl j hj))
        rw [Nat.zero_add] at hstep
        have hd : o.dst = some (ts.getD i 0) := by
          have h1 : ((ops.take ts.length).map (·.dst))[i]? = some o.dst := by rw [List.getElem?_map, hti]; rfl
          rw [hdst, List.getElem?_map] at h1
          have h2 : ts[i]? = some (ts.getD i 0) := by rw [List.getD_eq_getElem?_getD, List.getElem?_eq_getElem him]; rfl
          rw [h2] at h1
          simpa using h1.symm
        refine Oper.wp_mono (fun a' w' h => ?_) hstep
        obtain ⟨v, rfl, hrel, hv⟩ := h
        have hmem : ts.getD i 0 ∈ ts := by rw [List.getD_eq_getElem?_getD, List.getElem?_eq_getElem him]; exact List.getElem_mem _
        rw [hd, fill_put ts hnd f _ v hmem]
        refine ih _ _ w' ?_ (by simp [hsz]) (rtrans _ _ _ hR hrel) (fun k hk hlk => ?_) (fun k hk1 hk2 => ?_) (fun k hk hlk j hj => ?_)
        · have := left_set ops.length listed i hin (by omega) q2
          omega
        · by_cases e : k = i
          · subst e
            rw [if_pos rfl]
            exact hv
          · have hne : ts.getD k 0 ≠ ts.getD i 0 := by
              intro h
              rw [List.getD_eq_getElem?_getD, List.getD_eq_getElem?_getD, List.getElem?_eq_getElem him, List.getElem?_eq_getElem hk] at h
              exact e ((List.getElem_inj hnd).1 (by simpa using h))
            rw [if_neg hne]
            rw [set_true _ _ _ (by omega), if_neg (fun h => e h.symm)] at hlk
            exact hF k _ _ _ hk (hf k hk hlk) hrel
        · rw [set_true _ _ _ (by omega), if_neg (by omega)]
          exact hun k hk1 hk2
        · rw [set_true _ _ _ (by omega)]
          split
          · rfl
          · by_cases e : k = i
            · subst e; exact hancl j hj
            · rw [set_true _ _ _ (by omega), if_neg (fun h => e h.symm)] at hlk
              exact hcl k hk hlk j hj
      · exfalso
        have h4 := List.all_eq_true.1 hanc i (List.mem_range.2 hin)
        simp only [him, decide_false, Bool.false_or] at h4
        have h6 := List.all_eq_true.1 h4 i0 (List.mem_range.2 (by omega))
        rw [hancl i0 (by simpa using h6)] at hu0
        cases hu0

/-- THE RULE. ts: the temporaries of the first operations, in order; anc: whom each operation surely waits for (numbers of operations); Rel: what becomes of the world; F i v: what is known of operation i's value, for good. -/
theorem wp_region_typed {id : Nat} {a0 : Act} {w : World} {l : List Oper} (hm : P.follows .mixedOrders = true) (ts : List Tmp) (anc : List (List Nat)) (hs : shapeOk l ts anc = true)
    (Rel : World → World → Prop) (rrefl : ∀ a, Rel a a) (rtrans : ∀ a b c, Rel a b → Rel b c → Rel a c) (F : Nat → Value → World → Prop) (hF : ∀ i v w w', i < ts.length → F i v w → Rel w w' → F i v w')
    (hst : Steps P Q a0 w.drew Rel F ts anc (l.take ts.length) 0)
    (htail : ∀ f w', Rel w.drew w' → (∀ j, j < ts.length → F j (f (ts.getD j 0)) w') → wpTail P Q (l.drop ts.length) (fillA a0 ts f) w') : (Code.region id l.toArray true).wp P Q a0 w := by
  refine wp_region_any hm ?_
  have h := typed_any hs (P := P) (Q := Q) (a0 := a0) (w0 := w.drew) rtrans hF hst htail l.toArray.size (Array.replicate l.toArray.size false) (fun t => a0.tmps.getD t undef) w.drew
    (by unfold left; have := List.countP_le_length (p := fun i => !(Array.replicate l.toArray.size false).getD i true) (l := List.range l.length); simpa using this) (by simp) (rrefl _)
    (fun i hi h => by
      have : i < l.length := by
        simp only [shapeOk, Bool.and_eq_true, decide_eq_true_eq] at hs
        omega
      simp [Array.getD_eq_getD_getElem?, this] at h)
    (fun i h1 h2 => by simp [Array.getD_eq_getD_getElem?, h2])
    (fun i hi h => by simp [Array.getD_eq_getD_getElem?, hi] at h)
  rw [fill_self] at h
  exact h

theorem Steps.nil {a0 : Act} {w0 : World} {Rel : World → World → Prop} {F : Nat → Value → World → Prop} {ts : List Tmp} {anc : List (List Nat)} {i : Nat} : Steps P Q a0 w0 Rel F ts anc [] i := trivial
theorem Steps.cons {a0 : Act} {w0 : World} {Rel : World → World → Prop} {F : Nat → Value → World → Prop} {ts : List Tmp} {anc : List (List Nat)} {i : Nat} {o : Oper} {rest : List Oper}
    (h : ∀ (f : Tmp → Value) (w : World), Rel w0 w → (∀ j ∈ anc.getD i [], F j (f (ts.getD j 0)) w) → o.wp P (fillA a0 ts f) w (fun a' w' => ∃ v, a' = (fillA a0 ts f).put o.dst v ∧ Rel w w' ∧ F i v w') Q)
    (k : Steps P Q a0 w0 Rel F ts anc rest (i + 1)) : Steps P Q a0 w0 Rel F ts anc (o :: rest) i := ⟨h, k⟩
/-- the rule, its operations parted -/
theorem wp_region_parted {id : Nat} {a0 : Act} {w : World} {l pre post : List Oper} (hm : P.follows .mixedOrders = true) (ts : List Tmp) (anc : List (List Nat)) (hp : l.take ts.length = pre) (hq : l.drop ts.length = post) (hs : shapeOk l ts anc = true)
    (Rel : World → World → Prop) (rrefl : ∀ a, Rel a a) (rtrans : ∀ a b c, Rel a b → Rel b c → Rel a c) (F : Nat → Value → World → Prop) (hF : ∀ i v w w', i < ts.length → F i v w → Rel w w' → F i v w')
    (hst : Steps P Q a0 w.drew Rel F ts anc pre 0)
    (htail : ∀ f w', Rel w.drew w' → (∀ j, j < ts.length → F j (f (ts.getD j 0)) w') → wpTail P Q post (fillA a0 ts f) w') : (Code.region id l.toArray true).wp P Q a0 w := by
  subst hp hq
  exact wp_region_typed hm ts anc hs Rel rrefl rtrans F hF hst htail
/-- an operation whose result is a value -/
theorem wp_value {o : Oper} {a : Act} {w : World} {K : Act → World → Prop} {v : Value} {w' : World} (h : (execOp a.eval o).run P w = .ok (.value v) w') (hK : K (a.put o.dst v) w') : o.wp P a w K Q := by
  unfold Oper.wp
  rw [h]
  exact hK
/-- a call -/
theorem wp_call {o : Oper} {a : Act} {w : World} {K : Act → World → Prop} {f : FuncId} {args : Array Value} (h : (execOp a.eval o).run P w = .ok (.enter f args) w) (hc : Calls P f args w fun e w' => ∃ v, e = .returned v ∧ K (a.put o.dst v) w') : o.wp P a w K Q := by
  unfold Oper.wp
  rw [h]
  refine Calls.mono hc ?_
  rintro e w' ⟨v, rfl, hv⟩
  exact hv
theorem fill_get (ts : List Tmp) (hn : ts.Nodup) (f : Tmp → Value) (a : Act) (t : Tmp) (ht : t ∈ ts) (hl : t < a.tmps.size) : (fillA a ts f).eval (.tmp t) = f t := by
  have key : ∀ (ts : List Tmp) (a : Act), ts.Nodup → t ∈ ts → t < a.tmps.size → (fillA a ts f).tmps.getD t undef = f t := by
    intro ts
    induction ts with
    | nil => intro a _ h _; cases h
    | cons s r ih =>
      intro a hn ht hl
      obtain ⟨h1, h2⟩ := List.nodup_cons.1 hn
      by_cases e : t ∈ r
      · exact ih (a.put (some s) (f s)) h2 e (by simpa [Act.put] using hl)
      · have e2 : s = t := by rcases List.mem_cons.1 ht with h | h; exact h.symm; exact absurd h e
        subst e2
        have h3 : fillA (a.put (some s) (f s)) r f = (fillA a r f).put (some s) (f s) := (fill_out r f s (f s) h1 a).symm
        rw [fillA, h3]
        have h4 : s < (fillA a r f).tmps.size := by
          have : ∀ (r : List Tmp) (a : Act), (fillA a r f).tmps.size = a.tmps.size := by
            intro r
            induction r with
            | nil => intro a; rfl
            | cons q r ih => intro a; rw [fillA, ih]; simp [Act.put]
          rw [this]; exact hl
        simp [Act.put, Array.getD_eq_getD_getElem?, h4]
  exact key ts a hn ht hl
theorem fill_else (ts : List Tmp) (f : Tmp → Value) (t : Tmp) (ht : t ∉ ts) : ∀ (a : Act), (fillA a ts f).eval (.tmp t) = a.eval (.tmp t) := by
  induction ts with
  | nil => intro a; rfl
  | cons s r ih =>
    intro a
    have h1 : s ≠ t := fun e => ht (by rw [e]; exact List.mem_cons_self)
    rw [fillA, ih (fun h => ht (List.mem_cons_of_mem _ h))]
    show (a.put (some s) (f s)).tmps.getD t undef = a.tmps.getD t undef
    simp [Act.put, Array.getD_eq_getD_getElem?, Array.getElem?_setIfInBounds, h1]
end
end Go.Proofs.YtfakfgblaakgdaaGreat.Typed
