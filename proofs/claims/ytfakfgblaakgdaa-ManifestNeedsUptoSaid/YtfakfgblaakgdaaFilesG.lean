/- files.List: walked. -/
import Derived.Test.YtfakfgblaakgdaaFilesF
import Derived.Test.YtfakfgblaakgdaaStrRows
namespace Go.Proofs.Ytfakfgblaakgdaa.Files
set_option linter.unusedVariables false
set_option linter.unusedSimpArgs false
open Go.RowKit Go.Proofs.YtfakfgblaakgdaaW.PrintWords Go.Proofs.YtfakfgblaakgdaaW.PrintLast Go.Proofs.Ytfakfgblaakgdaa.Base Go.Proofs.Ytfakfgblaakgdaa.Cells Go.Proofs.Ytfakfgblaakgdaa.Ints Go.Proofs.Ytfakfgblaakgdaa.Var Go.Proofs.Ytfakfgblaakgdaa.EditPure Go.Proofs.Ytfakfgblaakgdaa.Edit Go.Proofs.Ytfakfgblaakgdaa.Sets Go.Proofs.Ytfakfgblaakgdaa.Wide Go.Proofs.Ytfakfgblaakgdaa.StrRows

/-- the names of a state -/
def nmsL (l : List Nm) : List ByteArray := l.map (·.name)
def listL (s : St) : List ByteArray := if stB s then nmsL s.names else []

set_option maxRecDepth 100000 in
set_option maxHeartbeats 2000000 in
theorem list_any (s : St) (F N S : Option Addr) (fc nc sc : Nat) (w : World) (h : Hd w s F fc N nc S sc) (hs : Small s) (hw : Wf s) :
    Calls Try.prog 14 #[.agg #[.int .i64 s.cap, .slice F s.files.length fc, .slice N s.names.length nc, .slice S s.safe.length sc, .int .i64 s.next]] w fun e w' => ∃ v, e = .returned (.tuple #[v, .int .i64 (stE s)]) ∧ RS w' w.heap.size v (listL s) ∧ Below w.heap.size w w' := by
  have HH := Aside0.mk h
  have HS := Aside0.mk hs
  have HW := Aside0.mk hw
  obtain ⟨E, hE⟩ := named (stE s)
  rw [← hE.out]
  have hln : s.names.length ≤ 1048576 := hs.ln
  clear h hs hw
  go_enter Try.func14, Try.ntmps14
  go_wp2_with fail
  refine (check_any s F N S fc nc sc _ (HH.out.below (below_alloc (Below.refl _ _) _)) HS.out HW.out).mono ?_
  rw [← hE.out]
  rintro e w1 ⟨rfl, hb1⟩
  have HB1 := Aside0.mk (bthen (below_alloc (Below.refl _ _) _) hb1)
  have HK := Aside0.mk (blk_keep (blk_new w _) hb1)
  clear hb1
  cases hst : stB s with
  | false =>
    have HE : Aside0 (E = 9) := ⟨by rw [hE.out, stE, hst]; rfl⟩
    have HL : Aside0 (listL s = []) := ⟨by rw [listL, hst]; rfl⟩
    rw [HE.out]
    clear hst
    go_wp2
    refine bodyPost_ret (results_tmp2 rfl _ _ _) rfl ?_
    exact ⟨.slice none 0 0, by rw [HE.out]; rfl, by rw [HL.out]; exact Kd.R_nil _ _ _ _ _, HB1.out⟩
  | true =>
    have HE : Aside0 (E = 0) := ⟨by rw [hE.out, stE, hst]; rfl⟩
    have HL : Aside0 (listL s = nmsL s.names) := ⟨by rw [listL, hst]; rfl⟩
    rw [HE.out]
    obtain ⟨_, _, y2, _, _, _, _, _, _, _⟩ := all5 HK.out
    have HY2 := Aside0.mk y2
    clear hst y2
    have y2 := HY2.out
    go_wp2
    go_loopg [5, 16] s.names.length (fun g v5 v16 wr => ∃ i : Nat, v16 = .int .i64 i ∧ g + i = s.names.length ∧ Aside0 (RS wr w1.heap.size v5 (nmsL (s.names.take i))) ∧ Aside0 (Below w1.heap.size w1 wr))
    case atStart => exact ⟨0, rfl, by omega, ⟨Kd.R_nil Kd.string _ _ _ _⟩, ⟨Below.refl _ _⟩⟩
    case round =>
      obtain ⟨i, rfl, hg, HO, HB⟩ := hrel
      by_cases hlt : i < s.names.length
      · obtain ⟨m, hm⟩ : ∃ m, s.names[i]? = some m := ⟨_, List.getElem?_eq_getElem hlt⟩
        obtain ⟨ad, hN, c0, c1⟩ := atNm (Kd.C_below HH.out.hN (bthen HB1.out HB.out)) i m hm
        have ht : Aside0 (nmsL (s.names.take (i + 1)) = nmsL (s.names.take i) ++ [m.name]) := ⟨by rw [List.take_add_one, hm]; simp [nmsL]⟩
        have hl : Aside0 ((nmsL (s.names.take i)).length = i) := ⟨by rw [nmsL, List.length_map, List.length_take]; omega⟩
        subst hN
        clear hm
        go_upto_region 8 with (fail)
        obtain ⟨W8, hW8⟩ : ∃ W8, W8 = wr.alloc (.cells #[.string m.name, .int .i64 m.id] 81) := ⟨_, rfl⟩
        have HB8 : Aside0 (Below wr.heap.size wr W8) := ⟨by rw [hW8]; exact below_alloc (Below.refl _ _) _⟩
        have k0 : W8.cell? ⟨wr.heap.size, 0, none⟩ = some (.string m.name) := by rw [hW8]; exact new_cell _ _ _ 0 _ rfl
        have HO8 := Aside0.mk (Kd.R_below HO.out HB8.out)
        have HBB := Aside0.mk (bthen HB.out HB8.out)
        rw [← hW8]
        clear hW8 c0 c1
        go_wp2_with (first | (at_builtin; refine Kd.R_append Kd.string (w0 := w1) w1.heap.size rfl (.tmp 20) (.tmp 23) 35 9 (.string ⟨#[]⟩) 16 rfl Try.underlying35 infoS3 rfl (by decide) (by omega) u5 (nmsL (s.names.take i)) m.name [.string m.name] (fun _ => True) (fun _ => False) rfl rfl ?aP (fun _ hk => hk.elim) (fun _ _ => trivial) ?aO ?aB ?aS ?c1 ?_; (case aP => exact rfl); (case aO => exact HO8.out); (case aB => exact HBB.out); (case aS => exact HBB.out.size); (case c1 => rw [hl.out]; omega); intro v1 w2 hown hB1 hg1 hat; have HO1 := Aside0.mk hown; have HB2 := Aside0.mk hB1; clear hown hB1 hg1 hat))
        go_roundg (s.names.length - (i + 1))
        case measure => omega
        case rel => exact ⟨i + 1, by go_num, by omega, ⟨by rw [ht.out]; exact HO1.out⟩, HB2⟩
      · have hi : Aside0 (s.names.take i = s.names) := ⟨List.take_of_length_le (by omega)⟩
        go_wp2
        refine bodyPost_ret (results_tmp2 rfl _ _ _) rfl ?_
        exact ⟨u5, by rw [HE.out]; rfl, by rw [HL.out, ← hi.out]; exact Kd.R_lower HO.out HB1.out.size, bthen HB1.out HB.out⟩
end Go.Proofs.Ytfakfgblaakgdaa.Files
