/- A state of chapter 4 for the program: CopyBytes, some, names, Of: walked. -/
import Derived.Test.YtfakfgblaakgdaaFilesPure
import Derived.Test.YtfakfgblaakgdaaFilesA
import Derived.Deep.RegionLaw
import Derived.Deep.RegionHeld3
namespace Go.Proofs.Ytfakfgblaakgdaa.Files
set_option linter.unusedVariables false
set_option linter.unusedSimpArgs false
open Go.RowKit Go.Proofs.YtfakfgblaakgdaaW.PrintWords Go.Proofs.YtfakfgblaakgdaaW.PrintLast Go.Proofs.Ytfakfgblaakgdaa.Base Go.Proofs.Ytfakfgblaakgdaa.Cells Go.Proofs.Ytfakfgblaakgdaa.Ints Go.Proofs.Ytfakfgblaakgdaa.Var

theorem infoFl : (Try.prog.info? 79).map (fun i => (i.zero, i.size, i.bytes)) = some (some (.agg #[.int .i64 0, .slice none 0 0, .int .i64 0]), 3, 40) := by kernel_rfl
theorem infoNm : (Try.prog.info? 81).map (fun i => (i.zero, i.size, i.bytes)) = some (some (.agg #[.string ⟨#[]⟩, .int .i64 0]), 2, 24) := by kernel_rfl

set_option maxRecDepth 100000 in
set_option maxHeartbeats 1000000 in
theorem copyBytes_any (A : Option Addr) (c : Nat) (l : List Int) (w : World) (hr : ReadsInt w .u8 A l.length l) (hb : l.length ≤ 1048576) :
    Calls Try.prog 29 #[.slice A l.length c] w fun e w' => ∃ v, e = .returned v ∧ RB w' w.heap.size v l ∧ Below w.heap.size w w' := by
  have HR := Aside0.mk hr
  clear hr
  go_enter Try.func29, Try.ntmps29
  go_wp2_with (at_builtin; refine print_append_row (w0 := w) w.heap.size (by rfl) (.tmp 4) (.tmp 5) 62 5 .u8 1 (by rfl) Try.underlying62 infoB (by decide) (.slice none 0 0) [] l A l.length c (by rfl) (by rfl) ?aO ?aR ?aB ?aS ?c1 ?_; (case aO => exact own_nil _ _ _ _); (case aR => exact HR.out); (case aB => exact Below.refl _ _); (case aS => exact Nat.le_refl _); (case c1 => simp only [List.length_nil]; omega); intro v1 w1 hown hB1 hg1 hat; have HO1 := Aside0.mk hown; have HB1 := Aside0.mk hB1; clear hown hB1 hg1 hat)
  go_ret
  exact ⟨_, rfl, by have := HO1.out; rwa [List.nil_append] at this, HB1.out⟩

/-- a row of files of one's own -/
abbrev RF (w : World) (base : Nat) (v : Value) (l : List Fl) : Prop := kFl.R 79 w base (fun _ => True) v l
/-- a row of names of one's own -/
abbrev RN (w : World) (base : Nat) (v : Value) (l : List Nm) : Prop := kNm.R 81 w base (fun _ => True) v l

set_option maxRecDepth 100000 in
set_option maxHeartbeats 1000000 in
theorem names_any (A : Option Addr) (c : Nat) (l : List Nm) (w : World) (hr : kNm.C w A l.length l) (hb : l.length ≤ 1048576) :
    Calls Try.prog 39 #[.slice A l.length c] w fun e w' => ∃ v, e = .returned v ∧ RN w' w.heap.size v l ∧ Below w.heap.size w w' := by
  have HR := Aside0.mk hr
  clear hr
  go_enter Try.func39, Try.ntmps39
  go_wp2
  go_loopg [3, 4] l.length (fun g v3 v4 wr => ∃ i : Nat, v4 = .int .i64 i ∧ g + i = l.length ∧ Aside0 (RN wr w.heap.size v3 (l.take i)) ∧ Aside0 (Below w.heap.size w wr))
  case atStart => exact ⟨0, rfl, by omega, ⟨Kd.R_nil kNm _ _ _ _⟩, ⟨Below.refl _ _⟩⟩
  case round =>
    obtain ⟨i, rfl, hg, HO, HB⟩ := hrel
    by_cases hlt : i < l.length
    · have HC := Aside0.mk (Kd.C_below HR.out HB.out)
      obtain ⟨m, hm⟩ : ∃ m, l[i]? = some m := ⟨_, List.getElem?_eq_getElem hlt⟩
      obtain ⟨ad, rfl, c0, c1⟩ := atNm HC.out i m hm
      have ht : Aside0 (l.take (i + 1) = l.take i ++ [m]) := ⟨by rw [List.take_add_one, hm]; rfl⟩
      have hl : (l.take i).length = i := by rw [List.length_take]; omega
      have HL := Aside0.mk hl
      clear hm hl
      go_wp2_with (first | (at_builtin; refine Kd.R_append kNm (w0 := w) w.heap.size rfl (.tmp 11) (.tmp 16) 31 81 (.agg #[.string ⟨#[]⟩, .int .i64 0]) 24 rfl Try.underlying31 infoNm rfl (by decide) (by omega) u3 (l.take i) m m.cs (fun _ => True) (fun _ => False) rfl rfl ?aP (fun _ hk => hk.elim) (fun _ _ => trivial) ?aO ?aB ?aS ?c1 ?_; (case aP => exact kNm_mkM _ _ _ m); (case aO => exact HO.out); (case aB => exact HB.out); (case aS => exact HB.out.size); (case c1 => rw [HL.out]; omega); intro v1 w1 hown hB1 hg1 hat; have HO1 := Aside0.mk hown; have HB1 := Aside0.mk hB1; clear hown hB1 hg1 hat))
      go_roundg (l.length - (i + 1))
      case measure => omega
      case rel => exact ⟨i + 1, by go_num, by omega, ⟨by rw [ht.out]; exact HO1.out⟩, HB1⟩
    · have hi : Aside0 (l.take i = l) := ⟨List.take_of_length_le (by omega)⟩
      go_wp2
      go_ret
      exact ⟨_, rfl, by rw [← hi.out]; exact HO.out, HB.out⟩

set_option maxRecDepth 100000 in
set_option maxHeartbeats 1000000 in
theorem some_any (A : Option Addr) (c : Nat) (l : List Fl) (w : World) (hr : kFl.C w A l.length l) (hb : l.length ≤ 1048576) (hd : ∀ f ∈ l, f.data.length ≤ 1048576) :
    Calls Try.prog 38 #[.slice A l.length c] w fun e w' => ∃ v, e = .returned v ∧ RF w' w.heap.size v l ∧ Below w.heap.size w w' := by
  have HR := Aside0.mk hr
  have HD := Aside0.mk hd
  clear hr hd
  go_enter Try.func38, Try.ntmps38
  go_wp2
  go_loopg [3, 4] l.length (fun g v3 v4 wr => ∃ i : Nat, v4 = .int .i64 i ∧ g + i = l.length ∧ Aside0 (RF wr w.heap.size v3 (l.take i)) ∧ Aside0 (Below w.heap.size w wr))
  case atStart => exact ⟨0, rfl, by omega, ⟨Kd.R_nil kFl _ _ _ _⟩, ⟨Below.refl _ _⟩⟩
  case round =>
    obtain ⟨i, rfl, hg, HO, HB⟩ := hrel
    by_cases hlt : i < l.length
    · have HC := Aside0.mk (Kd.C_below HR.out HB.out)
      obtain ⟨m, hm⟩ : ∃ m, l[i]? = some m := ⟨_, List.getElem?_eq_getElem hlt⟩
      obtain ⟨ad, D, dc, rfl, c0, c1, c2, hdc, hrd⟩ := atFl HC.out i m hm
      have ht : Aside0 (l.take (i + 1) = l.take i ++ [m]) := ⟨by rw [List.take_add_one, hm]; rfl⟩
      have hl : (l.take i).length = i := by rw [List.length_take]; omega
      have HL := Aside0.mk hl
      have hmd : Aside0 (m.data.length ≤ 1048576) := ⟨HD.out m (List.mem_of_getElem? hm)⟩
      have HRD := Aside0.mk hrd
      obtain ⟨n, hn⟩ : ∃ n, n = m.data.length := ⟨_, rfl⟩
      rw [← hn] at c1
      have HN := Aside0.mk hn
      have c0d : wr.drew.cell? (ad.add (i * 3)) = some (.int .i64 m.id) := c0
      have c1d : wr.drew.cell? ⟨(ad.add (i * 3)).block, (ad.add (i * 3)).off + 1, none⟩ = some (.slice D n dc) := c1
      have c2d : wr.drew.cell? ⟨(ad.add (i * 3)).block, (ad.add (i * 3)).off + 2, none⟩ = some (.int .i64 m.sync) := c2
      obtain ⟨V, hV⟩ : ∃ V, V = u3 := ⟨_, rfl⟩
      clear hm hl hrd hn hdc
      go_wp2_with fail
      go_region_law (first | (refine Kd.R_append_step kFl (w0 := w) w.heap.size (by rfl) (.tmp 11) (.tmp 29) 30 79 (.agg #[.int .i64 0, .slice none 0 0, .int .i64 0]) 40 rfl Try.underlying30 infoFl rfl (by decide) (by omega) u3 (l.take i) m [.int .i64 m.id, .slice A4 n c4, .int .i64 m.sync] (fun _ => True) (fun k => wr.heap.size ≤ k) rfl rfl ?aP ?aK (fun _ _ => trivial) ?aO ?aB ?aS ?c1 ?_; (case aP => exact HP4.out); (case aK => exact HK4.out); (case aO => exact HO4.out); (case aB => exact HB4.out); (case aS => exact HB4.out.size); (case c1 => rw [HL.out]; omega); intro v1 w1 hown hB1 hg1 hat; have HO1 := Aside0.mk hown; have HB1 := Aside0.mk hB1; clear hown hB1 hg1 hat) | (go_simp; go_wp2_with (go_at_call 29; refine (?cc : Calls Try.prog 29 #[.slice D n dc] wr.drew fun e w' => ∃ A4 c4, e = .returned (.slice A4 n c4) ∧ RF w' w.heap.size u3 (l.take i) ∧ kFl.M w' w.heap.size (fun k => wr.heap.size ≤ k) m [.int .i64 m.id, .slice A4 n c4, .int .i64 m.sync] ∧ (∀ k, wr.heap.size ≤ k → True ∧ some k ≠ u3.ownBlock) ∧ Below wr.heap.size wr w').mono ?_; (case cc => rw [HN.out]; refine (copyBytes_any D dc m.data wr.drew (HRD.out.below (below_drew (Below.refl _ _))) hmd.out).mono ?_; rintro e w4 ⟨v4, rfl, hb4, hbe4⟩; obtain ⟨A4, c4, rfl, _⟩ := RB_reads hb4; exact ⟨A4, c4, rfl, Kd.R_below HO.out (bthen (below_drew (Below.refl _ _)) hbe4), kFl_mkM (Kd.R_of_own (own_weaken hb4 HB.out.size) (fun k hk => own_base hb4 k hk)), fun k hk => ⟨trivial, fun e => by have := Kd.R_lt HO.out k e.symm; omega⟩, bthen (below_drew (Below.refl _ _)) hbe4⟩); rintro e w4 ⟨A4, c4, rfl, ho4, hm4, hk4, hbe4⟩; have HO4 := Aside0.mk ho4; have HP4 := Aside0.mk hm4; have HK4 := Aside0.mk hk4; have HB4 := Aside0.mk (bthen HB.out hbe4); have q0 := pw_cell_below hbe4 c0; have q1 := pw_cell_below hbe4 c1; have q2 := pw_cell_below hbe4 c2; clear ho4 hm4 hk4 hbe4)))
      all_goals go_wp2
      all_goals go_roundg (l.length - (i + 1))
      all_goals first
        | (guard_target =~ (_ : Nat) < _; omega)
        | exact ⟨i + 1, by go_num, by omega, ⟨by rw [ht.out]; exact HO1.out⟩, HB1⟩
    · have hi : Aside0 (l.take i = l) := ⟨List.take_of_length_le (by omega)⟩
      go_wp2
      go_ret
      exact ⟨_, rfl, by rw [← hi.out]; exact HO.out, HB.out⟩
end Go.Proofs.Ytfakfgblaakgdaa.Files
