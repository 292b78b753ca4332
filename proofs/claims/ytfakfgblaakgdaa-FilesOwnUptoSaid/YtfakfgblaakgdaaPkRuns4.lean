/- A part of the proof: slices.Grow and slices.Concat of names: walked. -/
import Derived.Test.YtfakfgblaakgdaaPkRuns3
import Derived.Test.YtfakfgblaakgdaaWZeros
import Derived.Test.YtfakfgblaakgdaaProg
import Derived.WalkKit
import Derived.WalkLawsBesides
import Derived.KernelRfl
import Derived.Deep.QuietTactic
import Derived.BigQuiet
import Derived.Deep.LoopGhost
import Derived.Deep.RegionLaw
import Derived.Lib.SliceRun
import Derived.Shelf.Spec.SlicesInsertGrow

/- slices.Grow and slices.Concat of names: walked. -/
namespace Go.Proofs.Ytfakfgblaakgdaa.Files
set_option linter.unusedVariables false
set_option linter.unusedSimpArgs false
open Go.RowKit Go.Proofs.YtfakfgblaakgdaaW.PrintWords Go.Proofs.YtfakfgblaakgdaaW.PrintLast Go.Proofs.Ytfakfgblaakgdaa.Base Go.Proofs.Ytfakfgblaakgdaa.Cells Go.Proofs.Ytfakfgblaakgdaa.Ints Go.Proofs.Ytfakfgblaakgdaa.Var Go.Proofs.Ytfakfgblaakgdaa.EditPure Go.Proofs.Ytfakfgblaakgdaa.Edit Go.Proofs.Ytfakfgblaakgdaa.RowsC

theorem infoNx : ∃ i0, Try.prog.info? 81 = some i0 ∧ i0.size = 2 := by
  have h := infoNm
  obtain ⟨i0, h1, h2⟩ := Option.map_eq_some_iff.1 h
  exact ⟨i0, h1, congrArg (fun x => x.2.1) h2⟩
set_option maxRecDepth 100000 in
set_option maxHeartbeats 1000000 in
theorem growN_any (n : Int) (w : World) (h0 : 0 ≤ n) (h1 : n ≤ 2097152) :
    Calls Try.prog 88 #[.slice none 0 0, .int .i64 n] w fun e w' => ∃ v, e = .returned v ∧ RN w' w.heap.size v [] ∧ Below w.heap.size w w' := by
  obtain ⟨i0, hi0, hz2⟩ := infoNx
  have hcn := cut_to (P := Try.prog) 31 81 .i64 Try.underlying31 hi0 none 0 0 0 (by omega) (by omega) (by omega)
  by_cases hn : 0 < n
  · go_enter Try.func88, Try.ntmps88
    go_wp2_with (at_builtin; refine Kd.R_append_zeros kNm (w0 := w) w.heap.size rfl (.tmp 20) (.tmp 21) 31 3 81 (.agg #[.string ⟨#[]⟩, .int .i64 0]) 24 rfl Try.underlying31 Try.underlying3 infoNm rfl (by decide) (by omega) (.slice none 0 0) [] zNm n (fun _ => True) rfl rfl ?aZ (fun _ _ => trivial) ?aO h0 ?aB ?aS ?c1 ?_; (case aZ => exact kNm_mkM _ _ _ zNm); (case aO => exact Kd.R_nil _ _ _ _ _); (case aB => exact Below.refl _ _); (case aS => exact Nat.le_refl _); (case c1 => simp only [List.length_nil]; omega); intro v1 w1 hown hB1 hg1 hat; obtain ⟨A1, c1, rfl, hlc, _⟩ := Kd.R_reads hown; have hct := cut_to (P := Try.prog) 31 81 .i64 Try.underlying31 hi0 A1 ([] ++ List.replicate n.toNat zNm).length c1 0 (by omega) (by omega) hlc; have HO1 := Aside0.mk (Kd.R_take hown (Nat.zero_le _)); have HB1 := Aside0.mk hB1; clear hown hB1 hg1 hat hlc)
    go_ret
    exact ⟨_, rfl, HO1.out, HB1.out⟩
  · obtain rfl : n = 0 := by omega
    go_enter Try.func88, Try.ntmps88
    go_wp2
    go_ret
    exact ⟨_, rfl, Kd.R_nil _ _ _ _ _, Below.refl _ _⟩

set_option maxRecDepth 100000 in
set_option maxHeartbeats 2000000 in
theorem concatN_any (b : Nat) (A1 A2 : Option Addr) (c1 c2 : Nat) (l1 l2 : List Nm) (w : World) (h0 : w.cell? ⟨b, 0, none⟩ = some (.slice A1 l1.length c1)) (h1 : w.cell? ⟨b, 1, none⟩ = some (.slice A2 l2.length c2)) (r1 : kNm.C w A1 l1.length l1) (r2 : kNm.C w A2 l2.length l2) (b1 : l1.length ≤ 1048576) (b2 : l2.length ≤ 1048576) :
    Calls Try.prog 79 #[.slice (some ⟨b, 0, none⟩) 2 2] w fun e w' => ∃ v, e = .returned v ∧ RN w' w.heap.size v (l1 ++ l2) ∧ Below w.heap.size w w' := by
  have R1 := Aside0.mk r1
  have R2 := Aside0.mk r2
  have H0 := Aside0.mk h0
  have H1 := Aside0.mk h1
  obtain ⟨n1, hn1⟩ : ∃ n, l1.length = n := ⟨_, rfl⟩
  obtain ⟨n2, hn2⟩ : ∃ n, l2.length = n := ⟨_, rfl⟩
  rw [hn1] at b1 h0
  rw [hn2] at b2 h1
  have N1 := Aside0.mk hn1
  have N2 := Aside0.mk hn2
  clear r1 r2 hn1 hn2
  go_enter Try.func79, Try.ntmps79
  go_wp2
  go_loopg [3, 5, 11] 2 (fun g v3 v5 v11 wr => ∃ i : Nat, v11 = .int .i64 i ∧ g + i = 2 ∧ v3 = .int .i64 (if i = 0 then 0 else if i = 1 then (n1 : Int) else n1 + n2) ∧ w = wr)
  case atStart => exact ⟨0, rfl, rfl, rfl, rfl⟩
  case round =>
    obtain ⟨i, rfl, hg, rfl, rfl⟩ := hrel
    rcases i with _ | _ | _ | i
    · simp only [if_true]
      go_wp2
      go_roundg 1
      case measure => omega
      case rel => exact ⟨1, rfl, rfl, by simp, rfl⟩
    · simp only [if_true]
      have e0 : ¬ ((0 + 1 : Nat) = 0) := by omega
      rw [if_neg e0]
      clear e0
      go_wp2
      go_roundg 0
      case measure => omega
      case rel => exact ⟨2, rfl, rfl, by simp, rfl⟩
    · have e0 : ¬ ((0 + 1 + 1 : Nat) = 0) := by omega
      have e1 : ¬ ((0 + 1 + 1 : Nat) = 1) := by omega
      rw [if_neg e0, if_neg e1]
      clear e0 e1
      go_wp2_with fail
      refine (growN_any ((n1 : Int) + n2) _ (by omega) (by omega)).mono ?_
      rintro e w1 ⟨v, rfl, ho, hb⟩
      obtain ⟨Av, cv, rfl⟩ := Kd.R_slice ho
      have HO := Aside0.mk ho
      have HB := Aside0.mk hb
      clear ho hb h0 h1
      go_wp2
      go_loopg [6, 8, 27] 2 (fun g v6 v8 v27 wr => ∃ i : Nat, v27 = .int .i64 i ∧ g + i = 2 ∧ Aside0 (RN wr w.heap.size v6 (if i = 0 then [] else if i = 1 then l1 else l1 ++ l2)) ∧ Aside0 (Below w.heap.size w wr))
      case atStart => exact ⟨0, rfl, rfl, ⟨HO.out⟩, HB⟩
      case round =>
        obtain ⟨i, rfl, hg, HR, HBr⟩ := hrel
        rcases i with _ | _ | _ | i
        · have HRa : Aside0 (RN wr w.heap.size u6 []) := HR
          have h0 := (pw_cell_below HBr.out H0.out)
          rw [N1.out] at h0
          have RA : Aside0 (kNm.C wr A1 n1 l1) := ⟨by have := Kd.C_below R1.out HBr.out; rwa [N1.out] at this⟩
          clear HR
          go_wp2_with (at_builtin; refine Kd.R_append_rows kNm (Rr := kNm.K wr) (w0 := w) w.heap.size rfl (.tmp 31) (.tmp 32) 31 81 (.agg #[.string ⟨#[]⟩, .int .i64 0]) 24 rfl Try.underlying31 infoNm rfl (by decide) (by omega) u6 [] l1 A1 n1 c1 (fun _ => True) (fun _ => False) rfl rfl ?aO ?aR ?aK (fun _ hk => hk.elim) (fun _ _ => trivial) ?aB ?aS ?c1 ?_; (case aO => exact HRa.out); (case aR => exact RA.out); (case aK => intro x cs hx; rw [kNm_open hx]; exact kNm_mkM _ _ _ x); (case aB => exact HBr.out); (case aS => exact HBr.out.size); (case c1 => simp only [List.length_nil]; omega); intro v1 w1 hown hB1 hg1 hat; have HO1 := Aside0.mk hown; have HB1 := Aside0.mk hB1; clear hown hB1 hg1 hat)
          go_roundg 1
          case measure => omega
          case rel => exact ⟨1, rfl, rfl, ⟨HO1.out⟩, HB1⟩
        · have HRa : Aside0 (RN wr w.heap.size u6 l1) := HR
          have h1 := (pw_cell_below HBr.out H1.out)
          rw [N2.out] at h1
          have RA : Aside0 (kNm.C wr A2 n2 l2) := ⟨by have := Kd.C_below R2.out HBr.out; rwa [N2.out] at this⟩
          clear HR
          go_wp2_with (at_builtin; refine Kd.R_append_rows kNm (Rr := kNm.K wr) (w0 := w) w.heap.size rfl (.tmp 31) (.tmp 32) 31 81 (.agg #[.string ⟨#[]⟩, .int .i64 0]) 24 rfl Try.underlying31 infoNm rfl (by decide) (by omega) u6 l1 l2 A2 n2 c2 (fun _ => True) (fun _ => False) rfl rfl ?aO ?aR ?aK (fun _ hk => hk.elim) (fun _ _ => trivial) ?aB ?aS ?c1 ?_; (case aO => exact HRa.out); (case aR => exact RA.out); (case aK => intro x cs hx; rw [kNm_open hx]; exact kNm_mkM _ _ _ x); (case aB => exact HBr.out); (case aS => exact HBr.out.size); (case c1 => rw [N1.out]; omega); intro v1 w1 hown hB1 hg1 hat; have HO1 := Aside0.mk hown; have HB1 := Aside0.mk hB1; clear hown hB1 hg1 hat)
          go_roundg 0
          case measure => omega
          case rel => exact ⟨2, rfl, rfl, ⟨HO1.out⟩, HB1⟩
        · have HRa : Aside0 (RN wr w.heap.size u6 (l1 ++ l2)) := HR
          clear HR
          go_wp2
          go_ret
          exact ⟨_, rfl, HRa.out, HBr.out⟩
        · omega
    · omega
end Go.Proofs.Ytfakfgblaakgdaa.Files

/- slices.DeleteFunc of texts: walked. -/
namespace Go.Proofs.Ytfakfgblaakgdaa.StrRows
set_option linter.unusedVariables false
set_option linter.unusedSimpArgs false
open Go.RowKit Go.Proofs.YtfakfgblaakgdaaW.PrintWords Go.Proofs.YtfakfgblaakgdaaW.PrintLast Go.Proofs.Ytfakfgblaakgdaa.Base Go.Proofs.Ytfakfgblaakgdaa.Cells Go.Proofs.Ytfakfgblaakgdaa.RowsC

def encS (s : ByteArray) : List Value := [.string s]
/-- a row of texts of one's own -/
abbrev RS (w : World) (base : Nat) (v : Value) (l : List ByteArray) : Prop := Kd.string.R 9 w base (fun _ => True) v l
abbrev SRow (w : World) (g cap : Nat) (l : List ByteArray) : Prop := CRow 9 1 w g cap (l.map encS)
theorem RS_reads {w : World} {base : Nat} {v : Value} {l : List ByteArray} (h : RS w base v l) : ∃ A c, v = .slice A l.length c ∧ l.length ≤ c ∧ Kd.string.C w A l.length l := Kd.R_reads h
theorem RS_cases {w : World} {base : Nat} {v : Value} {l : List ByteArray} (h : RS w base v l) : (v = .slice none 0 0 ∧ l = []) ∨ ∃ g cap, v = .slice (some ⟨g, 0, none⟩) l.length cap ∧ base ≤ g ∧ cap ≤ 9223372036854775807 ∧ SRow w g cap l := by
  rcases R_rows (enc := encS) (fun h => h) (fun _ => rfl) h with h | ⟨g, cap, h1, h2, _, h3, h4⟩
  · exact .inl h
  · exact .inr ⟨g, cap, h1, h2, h3, h4⟩
theorem RS_mk {w : World} {base g cap : Nat} {l : List ByteArray} (hb : base ≤ g) (hcm : cap ≤ 9223372036854775807) (h : SRow w g cap l) : RS w base (.slice (some ⟨g, 0, none⟩) l.length cap) l :=
  R_of_rows (d := Kd.string) (enc := encS) (fun _ _ => rfl) (fun _ => rfl) hb trivial hcm h
theorem atS {w : World} {A : Option Addr} {n : Nat} {xs : List ByteArray} (h : Kd.string.C w A n xs) (i : Nat) (m : ByteArray) (hi : xs[i]? = some m) :
    ∃ ad, A = some ad ∧ w.cell? (ad.add (i * 1)) = some (.string m) := by
  have hlt : i < xs.length := (List.getElem?_eq_some_iff.1 hi).1
  have hn := Kd.C_len h
  obtain ⟨ad, c, e, _, hK, hc0⟩ := Kd.C_get h (⟨#[]⟩ : ByteArray) (i : Int) (by omega) (by omega)
  have hg : xs.getD (i : Int).toNat ⟨#[]⟩ = m := by rw [Int.toNat_natCast, List.getD_eq_getElem?_getD, hi]; rfl
  rw [hg] at hK
  rw [Int.toNat_natCast] at hc0
  obtain rfl : c = [.string m] := hK
  exact ⟨ad, e, hc0 0 _ rfl⟩
theorem SRow.at {w : World} {g cap : Nat} {l : List ByteArray} (h : SRow w g cap l) (i : Nat) (m : ByteArray) (hi : l[i]? = some m) : w.cell? ⟨g, i, none⟩ = some (.string m) := by
  have := h.cell i (encS m) (by rw [List.getElem?_map, hi]; rfl) 0 (by omega)
  rwa [Nat.mul_one, Nat.add_zero] at this
theorem SRow.setS {w : World} {g cap : Nat} {l : List ByteArray} (h : SRow w g cap l) (i : Nat) (m : ByteArray) (hi : i < l.length) : SRow (w.setCell ⟨g, i, none⟩ (.string m)) g cap (l.set i m) := by
  have := h.set i (encS m) (by simpa using hi) rfl
  rw [Nat.mul_one] at this
  show CRow _ _ _ _ _ _
  rw [List.map_set]
  exact this
theorem setCell_grown (w : World) (g o : Nat) (v : Value) : w.grownBy (w.setCell ⟨g, o, none⟩ v) (some g) := setCells_grown w g o [v]
theorem infoS : ∃ i0, Try.prog.info? 9 = some i0 ∧ i0.size = 1 := by
  have h : (Try.prog.info? 9).map (fun i => i.size) = some 1 := by kernel_rfl
  obtain ⟨i0, h1, h2⟩ := Option.map_eq_some_iff.1 h
  exact ⟨i0, h1, h2⟩
theorem infoS3 : (Try.prog.info? 9).map (fun i => (i.zero, i.size, i.bytes)) = some (some (.string ⟨#[]⟩), 1, 16) := by kernel_rfl
/-- the cells that clear writes -/
def zs (n : Nat) : List Value := (Builtin.zeroCells (Value.string ⟨#[]⟩).cells n).toList
theorem zs_len (n : Nat) : (zs n).length = n := by
  rw [zs, Array.length_toList, Builtin.zeroCells]
  simp [Value.cells]
theorem zs_one (n : Nat) : ∀ v ∈ zs n, v.oneCell' = true := by
  intro v hv
  rw [zs, Builtin.zeroCells] at hv
  simp [Value.cells] at hv
  obtain ⟨i, _, rfl⟩ := hv
  have h5 : i % 1 = 0 := Nat.mod_one _
  try rw [h5]
  rfl
theorem run_clearS (W : World) (ty : TypeId) (g o n c : Nat) (hn : 0 < n) (hc : ∀ j, j < n → (W.cell? ⟨g, o + j, none⟩).isSome = true) (hf : ∀ j, j < n → W.frozen? ⟨g, o + j, none⟩ = false) :
    (Builtin.clear_ #[35] ty #[.slice (some ⟨g, o, none⟩) n c]).run Try.prog W = .ok (.tuple #[]) (W.setCells g o (zs n)) := by
  have hv : ∀ w, (zeroValue 9).run Try.prog w = .ok (.string ⟨#[]⟩) w := fun w => by kernel_rfl
  have hst := run_storeCells_cells (P := Try.prog) g o (zs n) 0 W (by rw [zs_len]; simpa using hc) (by rw [zs_len]; simpa using hf) (zs_one n)
  simp only [Nat.add_zero] at hst
  obtain ⟨m, rfl⟩ : ∃ m, n = m + 1 := ⟨n - 1, by omega⟩
  rw [zs] at hst ⊢
  simp [Builtin.clear_, run_underlying Try.underlying35, hv, hst]
theorem filter_all {α : Type} {l : List α} {p : α → Bool} (h : l.any p = false) : l.filter (fun x => !p x) = l := by
  rw [List.filter_eq_self]
  intro x hx
  rw [List.any_eq_false] at h
  simpa using h x hx

set_option maxRecDepth 100000 in
set_option maxHeartbeats 1000000 in
theorem indexS_any (A : Option Addr) (c : Nat) (l : List ByteArray) (p : ByteArray → Bool) (caps : Array Value) (w : World) (hr : Kd.string.C w A l.length l) (hb : l.length ≤ 1048576)
    (hf : ∀ s ∈ l, ∀ W, Below w.heap.size w W → Calls Try.prog 41 (#[.string s] ++ caps) W fun e w' => e = .returned (.bool (p s)) ∧ Below W.heap.size W w') :
    Calls Try.prog 69 #[.slice A l.length c, .func (.func 41) #[] caps] w fun e w' => (∃ r, e = .returned (.int .i64 r) ∧ ((r = -1 ∧ l.any p = false) ∨ ∃ i m, r = ((i : Nat) : Int) ∧ l[i]? = some m ∧ p m = true ∧ (l.take i).any p = false)) ∧ Below w.heap.size w w' := by
  have HR := Aside0.mk hr
  have HF := Aside0.mk hf
  clear hr hf
  go_enter Try.func69, Try.ntmps69
  go_wp2
  go_loopg [5, 8] l.length (fun g v5 v8 wr => ∃ i : Nat, v8 = .int .i64 i ∧ g + i = l.length ∧ Aside0 ((l.take i).any p = false) ∧ Aside0 (Below w.heap.size w wr))
  case atStart => exact ⟨0, rfl, by omega, ⟨rfl⟩, ⟨Below.refl _ _⟩⟩
  case round =>
    obtain ⟨i, rfl, hg, HN, HB⟩ := hrel
    by_cases hlt : i < l.length
    · obtain ⟨m, hm⟩ : ∃ m, l[i]? = some m := ⟨_, List.getElem?_eq_getElem hlt⟩
      obtain ⟨ad, rfl, c0⟩ := atS (Kd.C_below HR.out HB.out) i m hm
      rw [Nat.mul_one] at c0
      have HM := Aside0.mk hm
      clear hm
      go_wp2_with fail
      refine (HF.out m (List.mem_of_getElem? HM.out) _ HB.out).mono ?_
      rintro e w1 ⟨rfl, hb1⟩
      have HB1 := Aside0.mk (bthen HB.out hb1)
      clear c0 hb1
      cases hbb : p m with
      | true =>
        have HE : Aside0 (p m = true) := ⟨hbb⟩
        clear hbb
        go_wp2
        go_ret
        exact ⟨⟨_, rfl, .inr ⟨i, m, rfl, HM.out, HE.out, HN.out⟩⟩, HB1.out⟩
      | false =>
        have HE : Aside0 (p m = false) := ⟨hbb⟩
        clear hbb
        go_wp2
        go_roundg (l.length - (i + 1))
        case measure => omega
        case rel => exact ⟨i + 1, by go_num, by omega, ⟨by rw [List.take_add_one, HM.out, List.any_append, HN.out]; simp [HE.out]⟩, HB1⟩
    · have hi : Aside0 (l.take i = l) := ⟨List.take_of_length_le (by omega)⟩
      go_wp2
      go_ret
      exact ⟨⟨-1, rfl, .inl ⟨rfl, by rw [← hi.out]; exact HN.out⟩⟩, HB.out⟩

set_option maxRecDepth 100000 in
set_option maxHeartbeats 2000000 in
theorem delS_any (g cap : Nat) (L : List ByteArray) (n : Nat) (p : ByteArray → Bool) (caps : Array Value) (w : World) (hn : n = L.length) (hl : n ≤ 1048576) (hcm : cap ≤ 9223372036854775807) (h : SRow w g cap L)
    (hf : ∀ s ∈ L, ∀ W, w.grownBy W (some g) → Calls Try.prog 41 (#[.string s] ++ caps) W fun e w' => e = .returned (.bool (p s)) ∧ Below W.heap.size W w') :
    Calls Try.prog 40 #[.slice (some ⟨g, 0, none⟩) n cap, .func (.func 41) #[] caps] w fun e w' => ∃ k : Nat, e = .returned (.slice (some ⟨g, 0, none⟩) k cap) ∧ k = (L.filter (fun x => !p x)).length ∧ SRow w' g cap (L.filter (fun x => !p x)) ∧ w.grownBy w' (some g) := by
  obtain ⟨_, _, hE, hncap, hC⟩ := RS_reads (RS_mk (base := g) (Nat.le_refl _) hcm h)
  injection hE with hE1 hE2 hE3
  subst hE1; subst hE3
  have HC := Aside0.mk hC
  have H := Aside0.mk h
  have HF0 := Aside0.mk hf
  subst hn
  obtain ⟨n, hn⟩ : ∃ n, n = L.length := ⟨_, rfl⟩
  clear hC h hE2 hf
  go_enter Try.func40, Try.ntmps40
  go_wp2_with fail
  refine (indexS_any _ cap L p caps _ HC.out (by omega) (fun s hs W hW => HF0.out s hs W (grown_of_below hW _))).mono ?_
  rintro e w1 ⟨⟨r, rfl, hres⟩, hb1⟩
  have HB1 := Aside0.mk hb1
  clear hb1
  rcases hres with ⟨rfl, hno⟩ | ⟨i, m, hri, him, hml, hpre⟩
  · have HF : Aside0 (L.filter (fun x => !p x) = L) := ⟨filter_all hno⟩
    clear hno
    go_wp2
    go_ret
    exact ⟨_, rfl, by rw [HF.out], by rw [HF.out]; exact H.out.keep HB1.out, grown_of_below HB1.out _⟩
  · have hil : i < L.length := (List.getElem?_eq_some_iff.1 him).1
    have HK0 : Aside0 (L.take (i + 1) = L.take i ++ [m] ∧ (L.take i).filter (fun x => !p x) = L.take i ∧ (L.take i).length = i) := ⟨by rw [List.take_add_one, him]; rfl, filter_all hpre, by rw [List.length_take]; omega⟩
    have HML : Aside0 (p m = true) := ⟨hml⟩
    have HM1 := Aside0.mk (H.out.keep HB1.out)
    have HG1 := Aside0.mk (grown_of_below HB1.out (some g))
    have hi1 : i + 1 ≤ 1048577 := by omega
    have hir : ¬ (r = -1) := by omega
    have hr1 : (0 : Int) ≤ r := by omega
    have hrb : (r == -1) = false := by simp; omega
    have hr2 : r + 1 ≤ 1048577 := by omega
    have HRI := Aside0.mk hri
    clear him hml hpre hri hi1
    go_wp2
    go_loopg [5, 6] (L.length - (i + 1)) (fun g0 v5 v6 wr => ∃ (i j : Nat) (K G : List ByteArray), v5 = .int .i64 i ∧ v6 = .int .i64 j ∧ g0 + j = L.length ∧ i + 1 ≤ j ∧ Aside0 (i = K.length ∧ i + G.length = j ∧ K = (L.take j).filter (fun x => !p x)) ∧ Aside0 (SRow wr g cap (K ++ (G ++ L.drop j))) ∧ Aside0 (w.grownBy wr (some g)))
    case atStart =>
      refine ⟨i, i + 1, L.take i, [m], by rw [HRI.out], by rw [HRI.out]; go_num, by omega, by omega, ⟨HK0.out.2.2.symm, rfl, ?_⟩, ⟨?_⟩, HG1⟩
      · rw [HK0.out.1, List.filter_append, List.filter_cons_of_neg (by simp [HML.out]), List.filter_nil, List.append_nil]; exact HK0.out.2.1.symm
      · have h := HM1.out
        rw [← List.append_assoc, ← HK0.out.1, List.take_append_drop]; exact h
    case round =>
      clear HK0 HM1 HG1 hir hr1 hr2 HRI hrb
      obtain ⟨i, j, K, G, rfl, rfl, hg, hij, HK, HM, HG⟩ := hrel
      by_cases hlt : j < L.length
      · obtain ⟨v, hv⟩ : ∃ v, L[j]? = some v := ⟨_, List.getElem?_eq_getElem hlt⟩
        have hdr : Aside0 (L.drop j = v :: L.drop (j + 1) ∧ L.take (j + 1) = L.take j ++ [v]) := ⟨by rw [List.drop_eq_getElem_cons hlt]; congr 1; exact Option.some.inj ((List.getElem?_eq_getElem hlt).symm.trans hv), by rw [List.take_add_one, hv]; rfl⟩
        obtain ⟨RR, hRR⟩ := named (K ++ (G ++ L.drop j))
        rw [← hRR.out] at HM
        have hgj : RR[j]? = some v := by rw [hRR.out, hdr.out.1, ← List.append_assoc]; exact get_mid (K ++ G) (L.drop (j + 1)) v j (by have := HK.out; simp; omega)
        have c0 := SRow.at HM.out j v hgj
        obtain ⟨g0, G1, hGc⟩ : ∃ g0 G1, G = g0 :: G1 := by
          rcases G with _ | ⟨g0, G1⟩
          · have := HK.out.2.1; simp at this; omega
          · exact ⟨g0, G1, rfl⟩
        have HGC := Aside0.mk hGc
        have hgi : RR[i]? = some g0 := by rw [hRR.out, hGc]; exact get_mid K (G1 ++ L.drop j) g0 i HK.out.1
        have HIJ := Aside0.mk (And.intro hgi hgj)
        have hjb : (j : Int) + 1 ≤ 1048577 := by omega
        have hib : (i : Int) + 1 ≤ 1048577 := by omega
        have hil : (i : Int) < L.length := by omega
        have hvm : v ∈ L := List.mem_of_getElem? hv
        clear hv hgj hgi hGc
        go_wp2_with fail
        refine (HF0.out v hvm _ HG.out).mono ?_
        rintro e w2 ⟨rfl, hb2⟩
        have HM2 := Aside0.mk (HM.out.keep hb2)
        have HG2 := Aside0.mk (grown_trans HG.out (grown_of_below hb2 (some g)))
        clear c0 hb2
        cases hlev : p v with
        | true =>
          have HF : Aside0 (K = (L.take (j + 1)).filter (fun x => !p x)) := ⟨by rw [hdr.out.2, List.filter_append, List.filter_cons_of_neg (by simp [hlev]), List.filter_nil, List.append_nil]; exact HK.out.2.2⟩
          clear hlev
          go_wp2
          go_roundg (L.length - (j + 1))
          case measure => omega
          case rel => exact ⟨i, j + 1, K, G ++ [v], rfl, by go_num, by omega, by omega, ⟨HK.out.1, by have := HK.out.2.1; simp; omega, HF.out⟩, ⟨by have := HM2.out; rw [hRR.out, hdr.out.1] at this; rw [List.append_assoc G [v]]; exact this⟩, HG2⟩
        | false =>
          have HF : Aside0 (K ++ [v] = (L.take (j + 1)).filter (fun x => !p x)) := ⟨by rw [hdr.out.2, List.filter_append, List.filter_cons_of_pos (by simp [hlev]), List.filter_nil]; congr 1; exact HK.out.2.2⟩
          have d0 := SRow.at HM2.out i g0 HIJ.out.1
          have f0 := CRow.froz HM2.out i
          have HS := Aside0.mk (SRow.setS HM2.out i v ((List.getElem?_eq_some_iff.1 HIJ.out.1).1))
          have HS2 := Aside0.mk (grown_trans HG2.out (setCell_grown w2 g i (.string v)))
          clear hlev
          go_wp2
          go_roundg (L.length - (j + 1))
          case measure => omega
          case rel =>
            refine ⟨i + 1, j + 1, K ++ [v], G1 ++ [v], by go_num, by go_num, by omega, by omega, ⟨by have := HK.out.1; simp; omega, by have := HK.out.2.1; rw [HGC.out] at this; simp at this ⊢; omega, HF.out⟩, ⟨?_⟩, HS2⟩
            have := HS.out
            rw [hRR.out, HGC.out, hdr.out.1, List.cons_append, set_mid K _ g0 v i HK.out.1] at this
            simpa using this
      · have hjn : j = L.length := by omega
        have HKK : Aside0 (i = K.length ∧ K = L.filter (fun x => !p x)) := ⟨HK.out.1, by have := HK.out.2.2; rwa [List.take_of_length_le (by omega)] at this⟩
        have hMF : SRow wr g cap (K ++ G) := by have := HM.out; rwa [List.drop_of_length_le (by omega), List.append_nil] at this
        have hKG : K.length + G.length ≤ cap := by have := hMF.len; simpa using this
        have hgl := HK.out.2.1
        have hik := HK.out.1
        obtain ⟨i0, hi0, hz5⟩ := infoS
        have hcf := cut_from (P := Try.prog) 35 9 .i64 Try.underlying35 hi0 1 hz5 (some ⟨g, 0, none⟩) L.length cap i (by omega) (by omega)
        have hct := cut_to (P := Try.prog) 35 9 .i64 Try.underlying35 hi0 (some ⟨g, 0, none⟩) L.length cap i (by omega) (by omega) hncap
        rw [Int.toNat_natCast] at hcf hct
        rw [if_neg (by omega)] at hcf
        have hadd : (Option.map (fun x : Addr => x.add (i * 1)) (some (⟨g, 0, none⟩ : Addr))) = some ⟨g, i, none⟩ := by show some (Addr.add _ _) = _; rw [Addr.add_lit, Nat.zero_add, Nat.mul_one]
        rw [hadd] at hcf
        have hcl : ∀ ty c, (Builtin.clear_ #[35] ty #[.slice (some ⟨g, i, none⟩) (L.length - i) c]).run Try.prog wr = .ok (.tuple #[]) (wr.setCells g i (zs (L.length - i))) :=
          fun ty c => run_clearS wr ty g _ _ c (by omega) (fun t ht => hMF.there _ (by omega)) (fun t ht => hMF.froz _)
        have hKl : SRow wr g cap K := by
          have h := hMF
          show CRow _ _ _ _ _ _
          unfold SRow at h
          rw [List.map_append] at h
          exact h.front
        have HR2 : Aside0 (SRow (wr.setCells g i (zs (L.length - i))) g cap K) := ⟨hKl.beyond _ _ (by rw [List.length_map]; omega) (by rw [zs_len]; omega)⟩
        have HG2 : Aside0 (w.grownBy (wr.setCells g i (zs (L.length - i))) (some g)) := ⟨grown_trans HG.out (setCells_grown _ _ _ _)⟩
        clear hMF hKG hgl hik hadd hKl
        go_wp2
        go_ret
        exact ⟨i, rfl, by rw [← HKK.out.2]; exact HKK.out.1, by rw [← HKK.out.2]; exact HR2.out, HG2.out⟩

set_option maxRecDepth 100000 in
set_option maxHeartbeats 1000000 in
theorem delNilS_any (c : Nat) (p : ByteArray → Bool) (caps : Array Value) (w : World) :
    Calls Try.prog 40 #[.slice none 0 c, .func (.func 41) #[] caps] w fun e w' => e = .returned (.slice none 0 c) ∧ Below w.heap.size w w' := by
  go_enter Try.func40, Try.ntmps40
  go_wp2_with fail
  refine (indexS_any none c [] p caps _ (Kd.C_nil Kd.string _) (by simp) (fun s hs => by simp at hs)).mono ?_
  rintro e w1 ⟨⟨r, rfl, hres⟩, hb1⟩
  rcases hres with ⟨rfl, hno⟩ | ⟨i, m, hri, him, hml, hpre⟩
  · clear hno
    go_wp2
    go_ret
    exact ⟨rfl, hb1⟩
  · simp at him
theorem delRS_any (base : Nat) (v : Value) (L : List ByteArray) (p : ByteArray → Bool) (caps : Array Value) (w : World) (hl : L.length ≤ 1048576) (hbw : base ≤ w.heap.size) (h : RS w base v L)
    (hf : ∀ s ∈ L, ∀ (g : Nat) W, v.ownBlock = some g → w.grownBy W (some g) → Calls Try.prog 41 (#[.string s] ++ caps) W fun e w' => e = .returned (.bool (p s)) ∧ Below W.heap.size W w') :
    Calls Try.prog 40 #[v, .func (.func 41) #[] caps] w fun e w' => ∃ v', e = .returned v' ∧ RS w' base v' (L.filter (fun x => !p x)) ∧ Below base w w' := by
  rcases RS_cases h with ⟨rfl, rfl⟩ | ⟨g, cap, rfl, hb, hcm, hm⟩
  · exact (delNilS_any 0 p caps w).mono fun e w' ⟨he, hb⟩ => ⟨_, he, Kd.R_nil _ _ _ _ _, hb.mono hbw⟩
  · exact (delS_any g cap L L.length p caps w rfl hl hcm hm (fun s hs W hW => hf s hs g W rfl hW)).mono fun e w' ⟨k, he, hk, hr, hg⟩ => ⟨_, he, by rw [hk]; exact RS_mk hb hcm hr, (Below.refl base w).grown hg (by have := hm.lt; omega) (fun k hk => by injection hk with hk; omega)⟩
end Go.Proofs.Ytfakfgblaakgdaa.StrRows

/- slices.DeleteFunc of files, and what sweep keeps: walked (printed by wip/gen_delf.py from StrRows). -/
namespace Go.Proofs.Ytfakfgblaakgdaa.Files
set_option linter.unusedVariables false
set_option linter.unusedSimpArgs false
open Go.RowKit Go.Proofs.YtfakfgblaakgdaaW.PrintWords Go.Proofs.YtfakfgblaakgdaaW.PrintLast Go.Proofs.Ytfakfgblaakgdaa.Base Go.Proofs.Ytfakfgblaakgdaa.Cells Go.Proofs.Ytfakfgblaakgdaa.Ints Go.Proofs.Ytfakfgblaakgdaa.Var Go.Proofs.Ytfakfgblaakgdaa.EditPure Go.Proofs.Ytfakfgblaakgdaa.Edit Go.Proofs.Ytfakfgblaakgdaa.RowsC

theorem filter_all {α : Type} {l : List α} {p : α → Bool} (h : l.any p = false) : l.filter (fun x => !p x) = l := StrRows.filter_all h
theorem infoFx : ∃ i0, Try.prog.info? 79 = some i0 ∧ i0.size = 3 := by
  have h := infoFl
  obtain ⟨i0, h1, h2⟩ := Option.map_eq_some_iff.1 h
  exact ⟨i0, h1, congrArg (fun x => x.2.1) h2⟩
theorem atFd {w : World} {A : Option Addr} {n : Nat} {xs : List (Fl × Value)} (h : kFd.C w A n xs) (i : Nat) (m : Fl × Value) (hi : xs[i]? = some m) :
    ∃ ad, A = some ad ∧ w.cell? (ad.add (i * 3)) = some (.int .i64 m.1.id) ∧ w.cell? ⟨(ad.add (i * 3)).block, (ad.add (i * 3)).off + 1, none⟩ = some m.2 ∧ w.cell? ⟨(ad.add (i * 3)).block, (ad.add (i * 3)).off + 2, none⟩ = some (.int .i64 m.1.sync) := by
  have hlt : i < xs.length := (List.getElem?_eq_some_iff.1 hi).1
  have hn := Kd.C_len h
  obtain ⟨ad, c, e, _, hK, hc0⟩ := Kd.C_get h (⟨0, [], 0⟩, .bool true) (i : Int) (by omega) (by omega)
  have hg : xs.getD (i : Int).toNat (⟨0, [], 0⟩, .bool true) = m := by rw [Int.toNat_natCast, List.getD_eq_getElem?_getD, hi]; rfl
  rw [hg] at hK
  rw [Int.toNat_natCast] at hc0
  have hc : ∀ j u, c[j]? = some u → w.cell? (ad.add (i * 3 + j)) = some u := hc0
  obtain ⟨rfl, _⟩ := hK
  exact ⟨ad, e, hc 0 _ rfl, by rw [← add_field _ _ 1 (by omega)]; exact hc 1 _ rfl, by rw [← add_field _ _ 2 (by omega)]; exact hc 2 _ rfl⟩
theorem C_of_CRow {e g cap : Nat} {w : World} {L : List (Fl × Value)} (h : CRow e 3 w g cap (L.map rowF)) (hc : cap ≤ 9223372036854775807) (hv : ∀ x ∈ L, ∃ D n c, x.2 = .slice D n c) : kFd.C w (some ⟨g, 0, none⟩) L.length L := by
  have hl := h.len
  rw [List.length_map] at hl
  refine ⟨rfl, by omega, fun _ => ⟨⟨g, 0, none⟩, rfl, fun j p hj => ?_⟩⟩
  obtain ⟨D, n, c, hp⟩ := hv p (List.mem_of_getElem? hj)
  refine ⟨rowF p, rfl, ⟨rfl, by rw [hp]; rfl⟩, fun i u hu => ?_⟩
  rw [add_plain]
  exact (h.cell j (rowF p) (by rw [List.getElem?_map, hj]; rfl) i (show i < (rowF p).length from (List.getElem?_eq_some_iff.1 hu).1)).trans hu
theorem rowAt {e g cap : Nat} {w : World} {L : List (Fl × Value)} (h : CRow e 3 w g cap (L.map rowF)) (i : Nat) (x : Fl × Value) (hi : L[i]? = some x) :
    w.cell? ⟨g, i * 3, none⟩ = some (.int .i64 x.1.id) ∧ w.cell? ⟨g, i * 3 + 1, none⟩ = some x.2 ∧ w.cell? ⟨g, i * 3 + 2, none⟩ = some (.int .i64 x.1.sync) := by
  have hr : (L.map rowF)[i]? = some (rowF x) := by rw [List.getElem?_map, hi]; rfl
  exact ⟨h.cell i _ hr 0 (by omega), h.cell i _ hr 1 (by omega), h.cell i _ hr 2 (by omega)⟩
theorem rowSet {e g cap : Nat} {w : World} {L : List (Fl × Value)} (h : CRow e 3 w g cap (L.map rowF)) (i : Nat) (x : Fl × Value) {u : Value} (hu : x.2 = u) (hi : i < L.length) :
    CRow e 3 (((w.setCell ⟨g, i * 3, none⟩ (.int .i64 x.1.id)).setCell ⟨g, i * 3 + 1, none⟩ u).setCell ⟨g, i * 3 + 2, none⟩ (.int .i64 x.1.sync)) g cap ((L.set i x).map rowF) := by
  subst hu
  rw [List.map_set]
  exact h.set i (rowF x) (by simpa using hi) rfl
theorem put3_grown (w : World) (g o : Nat) (a b c : Value) : w.grownBy (((w.setCell ⟨g, o, none⟩ a).setCell ⟨g, o + 1, none⟩ b).setCell ⟨g, o + 2, none⟩ c) (some g) := setCells_grown w g o [a, b, c]
/-- the cells that clear writes -/
def zf (n : Nat) : List Value := (Builtin.zeroCells (Value.agg #[.int .i64 0, .slice none 0 0, .int .i64 0]).cells n).toList
theorem zf_len (n : Nat) : (zf n).length = n * 3 := by
  rw [zf, Array.length_toList, Builtin.zeroCells]
  simp [Value.cells]
theorem zf_one (n : Nat) : ∀ v ∈ zf n, v.oneCell' = true := by
  intro v hv
  rw [zf, Builtin.zeroCells] at hv
  simp [Value.cells] at hv
  obtain ⟨i, _, rfl⟩ := hv
  have h5 : i % 3 < 3 := Nat.mod_lt _ (by omega)
  generalize i % 3 = j at h5
  rcases j with _ | _ | _ | j
  · rfl
  · rfl
  · rfl
  · omega
theorem run_clearF (W : World) (ty : TypeId) (g o n c : Nat) (hn : 0 < n) (hc : ∀ j, j < n * 3 → (W.cell? ⟨g, o + j, none⟩).isSome = true) (hf : ∀ j, j < n * 3 → W.frozen? ⟨g, o + j, none⟩ = false) :
    (Builtin.clear_ #[30] ty #[.slice (some ⟨g, o, none⟩) n c]).run Try.prog W = .ok (.tuple #[]) (W.setCells g o (zf n)) := by
  have hv : ∀ w, (zeroValue 79).run Try.prog w = .ok (.agg #[.int .i64 0, .slice none 0 0, .int .i64 0]) w := fun w => by kernel_rfl
  have hst := run_storeCells_cells (P := Try.prog) g o (zf n) 0 W (by rw [zf_len]; simpa using hc) (by rw [zf_len]; simpa using hf) (zf_one n)
  simp only [Nat.add_zero] at hst
  obtain ⟨m, rfl⟩ : ∃ m, n = m + 1 := ⟨n - 1, by omega⟩
  rw [zf] at hst ⊢
  simp [Builtin.clear_, run_underlying Try.underlying30, hv, hst]

set_option maxRecDepth 100000 in
set_option maxHeartbeats 1000000 in
theorem indexF_any (A : Option Addr) (c : Nat) (l : List (Fl × Value)) (p : Fl × Value → Bool) (caps : Array Value) (w : World) (hr : kFd.C w A l.length l) (hv : ∀ x ∈ l, ∃ D n c, x.2 = .slice D n c) (hb : l.length ≤ 1048576)
    (hf : ∀ s ∈ l, ∀ W, Below w.heap.size w W → Calls Try.prog 81 (#[.agg #[.int .i64 s.1.id, s.2, .int .i64 s.1.sync]] ++ caps) W fun e w' => e = .returned (.bool (p s)) ∧ Below W.heap.size W w') :
    Calls Try.prog 89 #[.slice A l.length c, .func (.func 81) #[] caps] w fun e w' => (∃ r, e = .returned (.int .i64 r) ∧ ((r = -1 ∧ l.any p = false) ∨ ∃ i m, r = ((i : Nat) : Int) ∧ l[i]? = some m ∧ p m = true ∧ (l.take i).any p = false)) ∧ Below w.heap.size w w' := by
  have HR := Aside0.mk hr
  have HF := Aside0.mk hf
  have HVV := Aside0.mk hv
  clear hr hf hv
  go_enter Try.func89, Try.ntmps89
  go_wp2
  go_loopg [5, 8] l.length (fun g v5 v8 wr => ∃ i : Nat, v8 = .int .i64 i ∧ g + i = l.length ∧ Aside0 ((l.take i).any p = false) ∧ Aside0 (Below w.heap.size w wr))
  case atStart => exact ⟨0, rfl, by omega, ⟨rfl⟩, ⟨Below.refl _ _⟩⟩
  case round =>
    obtain ⟨i, rfl, hg, HN, HB⟩ := hrel
    by_cases hlt : i < l.length
    · obtain ⟨m, hm⟩ : ∃ m, l[i]? = some m := ⟨_, List.getElem?_eq_getElem hlt⟩
      obtain ⟨ad, rfl, c0, c1, c2⟩ := atFd (Kd.C_below HR.out HB.out) i m hm
      obtain ⟨D, dn, dc, hmv⟩ := HVV.out m (List.mem_of_getElem? hm)
      rw [hmv] at c1
      have HM := Aside0.mk hm
      clear hm
      go_wp2_with fail
      refine (show Calls Try.prog 81 (#[.agg #[.int .i64 m.1.id, .slice D dn dc, .int .i64 m.1.sync]] ++ caps) wr _ from hmv ▸ HF.out m (List.mem_of_getElem? HM.out) _ HB.out).mono ?_
      rintro e w1 ⟨rfl, hb1⟩
      have HB1 := Aside0.mk (bthen HB.out hb1)
      clear c0 c1 c2 hb1 hmv
      cases hbb : p m with
      | true =>
        have HE : Aside0 (p m = true) := ⟨hbb⟩
        clear hbb
        go_wp2
        go_ret
        exact ⟨⟨_, rfl, .inr ⟨i, m, rfl, HM.out, HE.out, HN.out⟩⟩, HB1.out⟩
      | false =>
        have HE : Aside0 (p m = false) := ⟨hbb⟩
        clear hbb
        go_wp2
        go_roundg (l.length - (i + 1))
        case measure => omega
        case rel => exact ⟨i + 1, by go_num, by omega, ⟨by rw [List.take_add_one, HM.out, List.any_append, HN.out]; simp [HE.out]⟩, HB1⟩
    · have hi : Aside0 (l.take i = l) := ⟨List.take_of_length_le (by omega)⟩
      go_wp2
      go_ret
      exact ⟨⟨-1, rfl, .inl ⟨rfl, by rw [← hi.out]; exact HN.out⟩⟩, HB.out⟩

set_option maxRecDepth 100000 in
set_option maxHeartbeats 2000000 in
theorem delF_any (g cap : Nat) (L : List (Fl × Value)) (n : Nat) (p : Fl × Value → Bool) (caps : Array Value) (w : World) (hn : n = L.length) (hl : n ≤ 1048576) (hcm : cap ≤ 9223372036854775807) (h : CRow 79 3 w g cap (L.map rowF)) (hv : ∀ x ∈ L, ∃ D n c, x.2 = .slice D n c)
    (hf : ∀ s ∈ L, ∀ W, w.grownBy W (some g) → Calls Try.prog 81 (#[.agg #[.int .i64 s.1.id, s.2, .int .i64 s.1.sync]] ++ caps) W fun e w' => e = .returned (.bool (p s)) ∧ Below W.heap.size W w') :
    Calls Try.prog 80 #[.slice (some ⟨g, 0, none⟩) n cap, .func (.func 81) #[] caps] w fun e w' => ∃ k : Nat, e = .returned (.slice (some ⟨g, 0, none⟩) k cap) ∧ k = (L.filter (fun x => !p x)).length ∧ CRow 79 3 w' g cap ((L.filter (fun x => !p x)).map rowF) ∧ w.grownBy w' (some g) := by
  have hncap : L.length ≤ cap := by have := h.len; rwa [List.length_map] at this
  have hC : kFd.C w (some ⟨g, 0, none⟩) L.length L := C_of_CRow h hcm hv
  have HVV := Aside0.mk hv
  have HC := Aside0.mk hC
  have H := Aside0.mk h
  have HF0 := Aside0.mk hf
  subst hn
  obtain ⟨n, hn⟩ : ∃ n, n = L.length := ⟨_, rfl⟩
  clear hC h hf hv
  go_enter Try.func80, Try.ntmps80
  go_wp2_with fail
  refine (indexF_any _ cap L p caps _ HC.out HVV.out (by omega) (fun s hs W hW => HF0.out s hs W (grown_of_below hW _))).mono ?_
  rintro e w1 ⟨⟨r, rfl, hres⟩, hb1⟩
  have HB1 := Aside0.mk hb1
  clear hb1
  rcases hres with ⟨rfl, hno⟩ | ⟨i, m, hri, him, hml, hpre⟩
  · have HF : Aside0 (L.filter (fun x => !p x) = L) := ⟨filter_all hno⟩
    clear hno
    go_wp2
    go_ret
    exact ⟨_, rfl, by rw [HF.out], by rw [HF.out]; exact H.out.keep HB1.out, grown_of_below HB1.out _⟩
  · have hil : i < L.length := (List.getElem?_eq_some_iff.1 him).1
    have HK0 : Aside0 (L.take (i + 1) = L.take i ++ [m] ∧ (L.take i).filter (fun x => !p x) = L.take i ∧ (L.take i).length = i) := ⟨by rw [List.take_add_one, him]; rfl, filter_all hpre, by rw [List.length_take]; omega⟩
    have HML : Aside0 (p m = true) := ⟨hml⟩
    have HM1 := Aside0.mk (H.out.keep HB1.out)
    have HG1 := Aside0.mk (grown_of_below HB1.out (some g))
    have hi1 : i + 1 ≤ 1048577 := by omega
    have hir : ¬ (r = -1) := by omega
    have hr1 : (0 : Int) ≤ r := by omega
    have hrb : (r == -1) = false := by simp; omega
    have hr2 : r + 1 ≤ 1048577 := by omega
    have HRI := Aside0.mk hri
    clear him hml hpre hri hi1
    go_wp2
    go_loopg [5, 6] (L.length - (i + 1)) (fun g0 v5 v6 wr => ∃ (i j : Nat) (K G : List (Fl × Value)), v5 = .int .i64 i ∧ v6 = .int .i64 j ∧ g0 + j = L.length ∧ i + 1 ≤ j ∧ Aside0 (i = K.length ∧ i + G.length = j ∧ K = (L.take j).filter (fun x => !p x)) ∧ Aside0 (CRow 79 3 wr g cap ((K ++ (G ++ L.drop j)).map rowF)) ∧ Aside0 (w.grownBy wr (some g)))
    case atStart =>
      refine ⟨i, i + 1, L.take i, [m], by rw [HRI.out], by rw [HRI.out]; go_num, by omega, by omega, ⟨HK0.out.2.2.symm, rfl, ?_⟩, ⟨?_⟩, HG1⟩
      · rw [HK0.out.1, List.filter_append, List.filter_cons_of_neg (by simp [HML.out]), List.filter_nil, List.append_nil]; exact HK0.out.2.1.symm
      · have h := HM1.out
        rw [← List.append_assoc, ← HK0.out.1, List.take_append_drop]; exact h
    case round =>
      clear HK0 HM1 HG1 hir hr1 hr2 HRI hrb
      obtain ⟨i, j, K, G, rfl, rfl, hg, hij, HK, HM, HG⟩ := hrel
      by_cases hlt : j < L.length
      · obtain ⟨v, hv⟩ : ∃ v, L[j]? = some v := ⟨_, List.getElem?_eq_getElem hlt⟩
        have hdr : Aside0 (L.drop j = v :: L.drop (j + 1) ∧ L.take (j + 1) = L.take j ++ [v]) := ⟨by rw [List.drop_eq_getElem_cons hlt]; congr 1; exact Option.some.inj ((List.getElem?_eq_getElem hlt).symm.trans hv), by rw [List.take_add_one, hv]; rfl⟩
        obtain ⟨RR, hRR⟩ := named (K ++ (G ++ L.drop j))
        rw [← hRR.out] at HM
        have hgj : RR[j]? = some v := by rw [hRR.out, hdr.out.1, ← List.append_assoc]; exact get_mid (K ++ G) (L.drop (j + 1)) v j (by have := HK.out; simp; omega)
        obtain ⟨D, dn, dc, hvv⟩ := HVV.out v (List.mem_of_getElem? hv)
        obtain ⟨c0, c1, c2⟩ := rowAt HM.out j v hgj
        rw [hvv] at c1
        have HVX := Aside0.mk hvv
        clear hvv
        obtain ⟨g0, G1, hGc⟩ : ∃ g0 G1, G = g0 :: G1 := by
          rcases G with _ | ⟨g0, G1⟩
          · have := HK.out.2.1; simp at this; omega
          · exact ⟨g0, G1, rfl⟩
        have HGC := Aside0.mk hGc
        have hgi : RR[i]? = some g0 := by rw [hRR.out, hGc]; exact get_mid K (G1 ++ L.drop j) g0 i HK.out.1
        have HIJ := Aside0.mk (And.intro hgi hgj)
        have hjb : (j : Int) + 1 ≤ 1048577 := by omega
        have hib : (i : Int) + 1 ≤ 1048577 := by omega
        have hil : (i : Int) < L.length := by omega
        have hvm : v ∈ L := List.mem_of_getElem? hv
        clear hv hgj hgi hGc
        go_wp2_with fail
        have kb := blk_new wr (Obj.cells #[.int .i64 v.1.id, .slice D dn dc, .int .i64 v.1.sync] 79)
        refine (show Calls Try.prog 81 (#[.agg #[.int .i64 v.1.id, .slice D dn dc, .int .i64 v.1.sync]] ++ caps) (wr.alloc (Obj.cells #[.int .i64 v.1.id, .slice D dn dc, .int .i64 v.1.sync] 79)) _ from HVX.out ▸ HF0.out v hvm _ (grown_alloc HG.out _)).mono ?_
        rintro e w2 ⟨rfl, hb2⟩
        obtain ⟨b0, b1, b2, _, _, _⟩ := all3 (blk_keep kb hb2)
        have hbb2 := bthen (below_alloc (Below.refl _ _) (Obj.cells #[.int .i64 v.1.id, .slice D dn dc, .int .i64 v.1.sync] 79)) hb2
        have HM2 := Aside0.mk (HM.out.keep hbb2)
        have HG2 := Aside0.mk (grown_trans HG.out (grown_of_below hbb2 (some g)))
        clear c0 c1 c2 hb2 hbb2 kb
        cases hlev : p v with
        | true =>
          have HF : Aside0 (K = (L.take (j + 1)).filter (fun x => !p x)) := ⟨by rw [hdr.out.2, List.filter_append, List.filter_cons_of_neg (by simp [hlev]), List.filter_nil, List.append_nil]; exact HK.out.2.2⟩
          clear hlev b0 b1 b2
          go_wp2
          go_roundg (L.length - (j + 1))
          case measure => omega
          case rel => exact ⟨i, j + 1, K, G ++ [v], rfl, by go_num, by omega, by omega, ⟨HK.out.1, by have := HK.out.2.1; simp; omega, HF.out⟩, ⟨by have := HM2.out; rw [hRR.out, hdr.out.1] at this; rw [List.append_assoc G [v]]; exact this⟩, HG2⟩
        | false =>
          have HF : Aside0 (K ++ [v] = (L.take (j + 1)).filter (fun x => !p x)) := ⟨by rw [hdr.out.2, List.filter_append, List.filter_cons_of_pos (by simp [hlev]), List.filter_nil]; congr 1; exact HK.out.2.2⟩
          obtain ⟨d0, d1, d2⟩ := rowAt HM2.out i g0 HIJ.out.1
          have f0 := CRow.froz HM2.out (i * 3)
          have f1 := CRow.froz HM2.out (i * 3 + 1)
          have f2 := CRow.froz HM2.out (i * 3 + 2)
          have HS := Aside0.mk (rowSet HM2.out i v HVX.out ((List.getElem?_eq_some_iff.1 HIJ.out.1).1))
          have HS2 := Aside0.mk (grown_trans HG2.out (put3_grown w2 g (i * 3) (.int .i64 v.1.id) (.slice D dn dc) (.int .i64 v.1.sync)))
          clear hlev
          go_wp2
          go_roundg (L.length - (j + 1))
          case measure => omega
          case rel =>
            refine ⟨i + 1, j + 1, K ++ [v], G1 ++ [v], by go_num, by go_num, by omega, by omega, ⟨by have := HK.out.1; simp; omega, by have := HK.out.2.1; rw [HGC.out] at this; simp at this ⊢; omega, HF.out⟩, ⟨?_⟩, HS2⟩
            have := HS.out
            rw [hRR.out, HGC.out, hdr.out.1, List.cons_append, set_mid K _ g0 v i HK.out.1] at this
            simpa using this
      · have hjn : j = L.length := by omega
        have HKK : Aside0 (i = K.length ∧ K = L.filter (fun x => !p x)) := ⟨HK.out.1, by have := HK.out.2.2; rwa [List.take_of_length_le (by omega)] at this⟩
        have hMF : CRow 79 3 wr g cap ((K ++ G).map rowF) := by have := HM.out; rwa [List.drop_of_length_le (by omega), List.append_nil] at this
        have hKG : K.length + G.length ≤ cap := by have := hMF.len; simpa using this
        have hgl := HK.out.2.1
        have hik := HK.out.1
        obtain ⟨i0, hi0, hz5⟩ := infoFx
        have hcf := cut_from (P := Try.prog) 30 79 .i64 Try.underlying30 hi0 3 hz5 (some ⟨g, 0, none⟩) L.length cap i (by omega) (by omega)
        have hct := cut_to (P := Try.prog) 30 79 .i64 Try.underlying30 hi0 (some ⟨g, 0, none⟩) L.length cap i (by omega) (by omega) hncap
        rw [Int.toNat_natCast] at hcf hct
        rw [if_neg (by omega)] at hcf
        have hadd : (Option.map (fun x : Addr => x.add (i * 3)) (some (⟨g, 0, none⟩ : Addr))) = some ⟨g, i * 3, none⟩ := by show some (Addr.add _ _) = _; rw [Addr.add_lit, Nat.zero_add]
        rw [hadd] at hcf
        have hcl : ∀ ty c, (Builtin.clear_ #[30] ty #[.slice (some ⟨g, i * 3, none⟩) (L.length - i) c]).run Try.prog wr = .ok (.tuple #[]) (wr.setCells g (i * 3) (zf (L.length - i))) :=
          fun ty c => run_clearF wr ty g _ _ c (by omega) (fun t ht => hMF.there _ (by omega)) (fun t ht => hMF.froz _)
        have hKl : CRow 79 3 wr g cap (K.map rowF) := by
          have h := hMF
          rw [List.map_append] at h
          exact h.front
        have HR2 : Aside0 (CRow 79 3 (wr.setCells g (i * 3) (zf (L.length - i))) g cap (K.map rowF)) := ⟨hKl.beyond _ _ (by rw [List.length_map]; omega) (by rw [zf_len]; omega)⟩
        have HG2 : Aside0 (w.grownBy (wr.setCells g (i * 3) (zf (L.length - i))) (some g)) := ⟨grown_trans HG.out (setCells_grown _ _ _ _)⟩
        clear hMF hKG hgl hik hadd hKl
        go_wp2
        go_ret
        exact ⟨i, rfl, by rw [← HKK.out.2]; exact HKK.out.1, by rw [← HKK.out.2]; exact HR2.out, HG2.out⟩

end Go.Proofs.Ytfakfgblaakgdaa.Files

/- (*files.State).sweep: walked. -/
namespace Go.Proofs.Ytfakfgblaakgdaa.Files
set_option linter.unusedVariables false
set_option linter.unusedSimpArgs false
open Go.RowKit Go.Proofs.YtfakfgblaakgdaaW.PrintWords Go.Proofs.YtfakfgblaakgdaaW.PrintLast Go.Proofs.Ytfakfgblaakgdaa.Base Go.Proofs.Ytfakfgblaakgdaa.Cells Go.Proofs.Ytfakfgblaakgdaa.Ints Go.Proofs.Ytfakfgblaakgdaa.Var Go.Proofs.Ytfakfgblaakgdaa.EditPure Go.Proofs.Ytfakfgblaakgdaa.Edit Go.Proofs.Ytfakfgblaakgdaa.Sets Go.Proofs.Ytfakfgblaakgdaa.Wide Go.Proofs.Ytfakfgblaakgdaa.RowsC

/-- nothing below B has turned, but block g -/
structure Bel (g B : Nat) (w w' : World) : Prop where
  os : w'.os = w.os
  tape : w'.tape = w.tape
  output : w'.output = w.output
  size : w.heap.size ≤ w'.heap.size
  block : ∀ k, k < B → k ≠ g → w'.heap[k]? = w.heap[k]?
theorem bel {g B B' : Nat} {w w' : World} (h : Below B' w w') (hb : B ≤ B') : Bel g B w w' := ⟨h.os, h.tape, h.output, h.size, fun k hk _ => h.block k (Nat.lt_of_lt_of_le hk hb)⟩
theorem Bel.trans {g B : Nat} {a b c : World} (h : Bel g B a b) (k : Bel g B b c) : Bel g B a c := ⟨k.os.trans h.os, k.tape.trans h.tape, k.output.trans h.output, Nat.le_trans h.size k.size, fun i hi hg => (k.block i hi hg).trans (h.block i hi hg)⟩
theorem Bel.grown {g B : Nat} {a w w' : World} {row : Option Nat} (h : Bel g B a w) (hg : w.grownBy w' row) (hB : B ≤ w.heap.size) (hr : ∀ k, row = some k → B ≤ k) : Bel g B a w' :=
  ⟨hg.os.trans h.os, hg.tape.trans h.tape, hg.output.trans h.output, Nat.le_trans h.size hg.size, fun k hk hkg => (hg.block k (Nat.lt_of_lt_of_le hk hB) (fun e => by have := hr k e.symm; omega)).trans (h.block k hk hkg)⟩
theorem Bel.setG {g B o : Nat} {a w : World} (h : Bel g B a w) (u : Value) : Bel g B a (w.setCell ⟨g, o, none⟩ u) :=
  ⟨h.os, h.tape, h.output, by simpa [World.setCell] using h.size, fun k hk hkg => (Below.heap_setCell _ _ _ _ hkg).trans (h.block k hk hkg)⟩
theorem Bel.setB {g B : Nat} {a w : World} {p : Addr} (h : Bel g B a w) (hp : B ≤ p.block) (u : Value) : Bel g B a (w.setCell p u) :=
  ⟨h.os, h.tape, h.output, by simpa [World.setCell] using h.size, fun k hk hkg => (Below.heap_setCell _ _ _ _ (by omega)).trans (h.block k hk hkg)⟩
/-- a state of one's own, behind pointer g -/
structure Own (w : World) (base g : Nat) (s : St) (vF vN vS : Value) (L : List (Fl × Value)) : Prop where
  blk : w.heap[g]? = some (.cells #[.int .i64 s.cap, vF, vN, vS, .int .i64 s.next] 33 (0, 0))
  oF : OF 79 w base vF L
  fs : L.map (·.1) = s.files
  rN : RN w base vN s.names
  rS : RN w base vS s.safe
  ap : ∀ k, vN.ownBlock = some k → vS.ownBlock ≠ some k
def Mine (w : World) (base g : Nat) (s : St) : Prop := ∃ vF vN vS L, Own w base g s vF vN vS L
theorem RN_block {w : World} {base : Nat} {v : Value} {l : List Nm} (h : RN w base v l) : ∀ k, v.ownBlock = some k → base ≤ k ∧ k < w.heap.size ∧ ∃ cs, w.heap[k]? = some (.cells cs 81 (0, 0)) := (CR_of_RN h).block
theorem RN_step {w w1 : World} {base : Nat} {v : Value} {l : List Nm} (h : RN w base v l) (hm : ∀ k, v.ownBlock = some k → w1.heap[k]? = w.heap[k]?) : RN w1 base v l := RN_of_CR ((CR_of_RN h).step hm)
theorem Own.below {w w1 : World} {base g : Nat} {s : St} {vF vN vS : Value} {L : List (Fl × Value)} (h : Own w base g s vF vN vS L) (hb : Below w.heap.size w w1) : Own w1 base g s vF vN vS L :=
  ⟨blk_keep h.blk hb, h.oF.below hb, h.fs, Kd.R_below h.rN hb, Kd.R_below h.rS hb, h.ap⟩
/-- what is not of the types of a state may be written -/
theorem Own.other {w w1 : World} {base g : Nat} {s : St} {vF vN vS : Value} {L : List (Fl × Value)} (h : Own w base g s vF vN vS L) {row : Option Nat} (hg : w.grownBy w1 row)
    (hne : ∀ k, row = some k → ∀ q cs, (q = 79 ∨ q = 5 ∨ q = 81 ∨ q = 33) → w.heap[k]? ≠ some (.cells cs q (0, 0))) : Own w1 base g s vF vN vS L :=
  ⟨(hg.block g (blk_lt h.blk) (fun e => hne g e.symm _ _ (.inr (.inr (.inr rfl))) h.blk)).trans h.blk, h.oF.other hg (fun k hk q cs hq => hne k hk q cs (hq.elim .inl (fun h => .inr (.inl h)))), h.fs,
    RN_step h.rN (fun k hk => by obtain ⟨_, h2, cs, h3⟩ := RN_block h.rN k hk; exact hg.block k h2 (fun e => hne k e.symm _ cs (.inr (.inr (.inl rfl))) h3)),
    RN_step h.rS (fun k hk => by obtain ⟨_, h2, cs, h3⟩ := RN_block h.rS k hk; exact hg.block k h2 (fun e => hne k e.symm _ cs (.inr (.inr (.inl rfl))) h3)), h.ap⟩
theorem Own.lower {w : World} {base base' g : Nat} {s : St} {vF vN vS : Value} {L : List (Fl × Value)} (h : Own w base g s vF vN vS L) (hb : base' ≤ base) : Own w base' g s vF vN vS L :=
  ⟨h.blk, h.oF.lower hb, h.fs, Kd.R_lower h.rN hb, Kd.R_lower h.rS hb, h.ap⟩
/-- where its rows lie -/
theorem Own.forms {w : World} {base g : Nat} {s : St} {vF vN vS : Value} {L : List (Fl × Value)} (h : Own w base g s vF vN vS L) :
    ∃ F fc N nc S sc, vF = .slice F s.files.length fc ∧ vN = .slice N s.names.length nc ∧ vS = .slice S s.safe.length sc ∧ Hd w s F fc N nc S sc := by
  obtain ⟨F, fc, h1, h2, h3⟩ := h.oF.reads
  obtain ⟨N, nc, h4, h5, h6⟩ := Kd.R_reads h.rN
  obtain ⟨S, sc, h7, h8, h9⟩ := Kd.R_reads h.rS
  have hl : L.length = s.files.length := by rw [← h.fs, List.length_map]
  rw [hl] at h1 h2 h3
  rw [h.fs] at h3
  exact ⟨F, fc, N, nc, S, sc, h1, h4, h7, ⟨h3, h6, h9, h2, h5, h8⟩⟩
theorem OF.vals {e : TypeId} {w : World} {base : Nat} {v : Value} {L : List (Fl × Value)} (h : OF e w base v L) : ∀ x ∈ L, ∃ D n c, x.2 = .slice D n c := fun x hx => by
  obtain ⟨A, c, h1⟩ := own_slice (h.own x hx)
  exact ⟨A, _, c, h1⟩

theorem filter_nodup {L : List (Fl × Value)} (p : Fl × Value → Bool) (h : (L.filterMap fun x => x.2.ownBlock).Nodup) : ((L.filter p).filterMap fun x => x.2.ownBlock).Nodup :=
  List.Nodup.sublist (List.Sublist.filterMap _ List.filter_sublist) h

set_option maxRecDepth 100000 in
set_option maxHeartbeats 1000000 in
theorem delNilF_any (c : Nat) (p : Fl × Value → Bool) (caps : Array Value) (w : World) :
    Calls Try.prog 80 #[.slice none 0 c, .func (.func 81) #[] caps] w fun e w' => e = .returned (.slice none 0 c) ∧ Below w.heap.size w w' := by
  go_enter Try.func80, Try.ntmps80
  go_wp2_with fail
  refine (indexF_any none c [] p caps _ (Kd.C_nil kFd _) (fun s hs => by simp at hs) (by simp) (fun s hs => by simp at hs)).mono ?_
  rintro e w1 ⟨⟨r, rfl, hres⟩, hb1⟩
  rcases hres with ⟨rfl, hno⟩ | ⟨i, m, hri, him, hml, hpre⟩
  · clear hno
    go_wp2
    go_ret
    exact ⟨rfl, hb1⟩
  · simp at him
theorem delOF_any (base : Nat) (v : Value) (L : List (Fl × Value)) (p : Fl × Value → Bool) (caps : Array Value) (w : World) (hl : L.length ≤ 1048576) (h : OF 79 w base v L)
    (hf : ∀ s ∈ L, ∀ W, w.grownBy W v.ownBlock → Calls Try.prog 81 (#[.agg #[.int .i64 s.1.id, s.2, .int .i64 s.1.sync]] ++ caps) W fun e w' => e = .returned (.bool (p s)) ∧ Below W.heap.size W w') :
    Calls Try.prog 80 #[v, .func (.func 81) #[] caps] w fun e w' => ∃ A n c, e = .returned (.slice A n c) ∧ n = (L.filter (fun x => !p x)).length ∧ OF 79 w' base (.slice A n c) (L.filter (fun x => !p x)) ∧ w.grownBy w' v.ownBlock := by
  have hvals := h.vals
  rcases h.row with ⟨rfl, h2⟩ | ⟨g, cap, rfl, hb, hcm, hr⟩
  · rw [List.map_eq_nil_iff] at h2
    subst h2
    exact (delNilF_any 0 p caps w).mono fun e w' ⟨he, hb⟩ => ⟨none, 0, 0, he, rfl, ⟨CR.nil, fun x hx => by simp at hx, by simp⟩, grown_of_below hb _⟩
  · rw [List.length_map]
    refine (delF_any g cap L L.length p caps w rfl hl hcm hr hvals (fun s hs W hW => hf s hs W (by simpa [Value.ownBlock] using hW))).mono fun e w' ⟨k, he, hk, hr', hg⟩ => ⟨_, k, cap, he, hk, ⟨.inr ⟨g, cap, by rw [List.length_map, hk], hb, hcm, hr'⟩, fun x hx => ?_, filter_nodup _ h.apart⟩, by simpa [Value.ownBlock] using hg⟩
    have hx' := (List.mem_filter.1 hx).1
    refine RB_step (h.own x hx') (fun k hk => hg.block k (own_lt (h.own x hx') k hk) ?_)
    intro e
    injection e with e
    obtain ⟨cs, h3⟩ := own_typed (h.own x hx') k hk
    obtain ⟨cur, h4, _⟩ := hr
    exact type_ne h3 h4 (by decide) e
end Go.Proofs.Ytfakfgblaakgdaa.Files

/- (*files.State).sweep: walked. -/
namespace Go.Proofs.Ytfakfgblaakgdaa.Files
set_option linter.unusedVariables false
set_option linter.unusedSimpArgs false
open Go.RowKit Go.Proofs.YtfakfgblaakgdaaW.PrintWords Go.Proofs.YtfakfgblaakgdaaW.PrintLast Go.Proofs.Ytfakfgblaakgdaa.Base Go.Proofs.Ytfakfgblaakgdaa.Cells Go.Proofs.Ytfakfgblaakgdaa.Ints Go.Proofs.Ytfakfgblaakgdaa.Var Go.Proofs.Ytfakfgblaakgdaa.EditPure Go.Proofs.Ytfakfgblaakgdaa.Edit Go.Proofs.Ytfakfgblaakgdaa.Sets Go.Proofs.Ytfakfgblaakgdaa.Wide Go.Proofs.Ytfakfgblaakgdaa.RowsC

set_option maxRecDepth 100000 in
set_option maxHeartbeats 1000000 in
theorem sweepFn_any (id sy : Int) (v : Value) (pm : Addr) (b : Nat) (K : List Int) (w : World) (hi : inI64 id) (hv : ∃ D n c, v = .slice D n c) (hp : w.cell? pm = some (.map (some b))) (hK : SetL Try.prog 3 4 w b (ilits K)) :
    Calls Try.prog 81 #[.agg #[.int .i64 id, v, .int .i64 sy], .pointer (some pm)] w fun e w' => e = .returned (.bool (!(K.any fun y => y == id))) ∧ Below w.heap.size w w' := by
  obtain ⟨D, n, c, rfl⟩ := hv
  obtain ⟨q, hq⟩ := named (K.any fun y => y == id)
  rw [← hq.out]
  have hp1 : ∀ o, (w.alloc o).cell? pm = some (.map (some b)) := fun o => pw_cell_below (below_alloc (Below.refl _ _) o) hp
  have hlk : ∀ o, (Instr.lookup 116 (.map (some b)) (.int .i64 id) false).run Try.prog (w.alloc o) = .ok (.bool q) (w.alloc o) := fun o => by
    rw [(hK.alloc o).lookup (t := 116) (Maps.int_keyed Try.underlying3) Try.underlying116 Try.underlying4 (zeroBool _) (Maps.keyOf_int_mk Try.underlying3 (wf_i64' hi)) trivial, any_ilits, hq.out]
  clear hp hK
  go_enter Try.func81, Try.ntmps81
  go_wp2
  go_ret
  exact ⟨rfl, below_alloc (Below.refl _ _) _⟩

theorem ids_any (a b : List Nm) (id : Int) : ((idsN (a ++ b)).any fun y => y == id) = (stands a id || stands b id) := by
  rw [idsN, List.any_map, List.any_append]; rfl

set_option maxRecDepth 100000 in
set_option maxHeartbeats 4000000 in
theorem sweep_own (s : St) (base g : Nat) (vF vN vS : Value) (L : List (Fl × Value)) (w : World) (h : Own w base g s vF vN vS L) (hbw : base ≤ w.heap.size) (hlf : s.files.length ≤ 1048576) (hln : s.names.length ≤ 524288) (hls : s.safe.length ≤ 524288) (hwf : Wf s) (hwi : ∀ f ∈ s.files, inI64 f.id) :
    Calls Try.prog 56 #[.pointer (some ⟨g, 0, none⟩)] w fun e w' => e = .returned (.tuple #[]) ∧ Mine w' base g (sweepP s) ∧ Bel g base w w' := by
  obtain ⟨F, fc, N, nc, S, sc, rfl, rfl, rfl, hhd⟩ := h.forms
  have HO := Aside0.mk h
  have HH := Aside0.mk hhd
  have HW := Aside0.mk hwf
  have HWI := Aside0.mk hwi
  have HLL : Aside0 (L.length = s.files.length) := ⟨by rw [← h.fs, List.length_map]⟩
  obtain ⟨ln, hln'⟩ : ∃ n, s.names.length = n := ⟨_, rfl⟩
  obtain ⟨ls, hls'⟩ : ∃ n, s.safe.length = n := ⟨_, rfl⟩
  obtain ⟨lf, hlf'⟩ : ∃ n, s.files.length = n := ⟨_, rfl⟩
  have NL := Aside0.mk hln'
  have SL := Aside0.mk hls'
  have FL := Aside0.mk hlf'
  have hgl : g < w.heap.size := blk_lt h.blk
  have hmm := @run_makeMap Try.prog
  clear h hhd hwf hwi
  rw [hln'] at hln
  rw [hls'] at hls
  clear hln' hls' hlf'
  go_enter Try.func56, Try.ntmps56
  go_upto_region 1 with (fail)
  obtain ⟨W0, hW0⟩ : ∃ W, W = (w.alloc (.map #[] 0)).alloc (.cells #[.map (some w.heap.size)] 116) := ⟨_, rfl⟩
  have HS0 : Aside0 (SetL Try.prog 3 4 W0 w.heap.size (ilits [])) := ⟨by rw [hW0]; exact (SetL.made w _ _ _).alloc _⟩
  have kp : W0.cell? ⟨w.heap.size + 1, 0, none⟩ = some (.map (some w.heap.size)) := by rw [hW0]; simp [go_sem]
  have HB0 : Aside0 (Below w.heap.size w W0) := ⟨by rw [hW0]; exact below_alloc (below_alloc (Below.refl _ _) _) _⟩
  have HZ0 : Aside0 (W0.heap.size = w.heap.size + 2) := ⟨by rw [hW0]; simp⟩
  rw [← hW0]
  clear hW0
  have HKP := Aside0.mk kp
  have HO0 := Aside0.mk (HO.out.below HB0.out)
  have FJ := Aside0.mk (fun (w' : World) (b : Below W0.heap.size W0 w') => all5 (blk_keep HO0.out.blk b))
  have hz0 := HZ0.out
  clear kp
  go_cut [15, 16, 17] (fun v15 v16 v17 wc => v17 = .int .i64 0 ∧ v16 = .int .i64 ((ln + ls : Nat) : Int) ∧ ∃ A c, v15 = .slice A (ln + ls) c ∧ Aside0 (kNm.C wc A (ln + ls) (s.names ++ s.safe) ∧ Below W0.heap.size W0 wc))
  case first =>
    have HD : Aside0 (Below W0.heap.size W0 W0.drew) := ⟨below_drew (Below.refl _ _)⟩
    obtain ⟨_, _, d2, d3, _, _, _, _, _, _⟩ := FJ.out W0.drew HD.out
    rw [NL.out] at d2
    rw [SL.out] at d3
    have CC : Aside0 (Calls Try.prog 79 #[.slice (some ⟨w.heap.size + 2, 0, none⟩) 2 2] (W0.alloc (Obj.cells #[.slice N ln nc, .slice S ls sc] 31)).drew fun e w' => ∃ A c, e = .returned (.slice A (ln + ls) c) ∧ kNm.C w' A (ln + ls) (s.names ++ s.safe) ∧ Below W0.heap.size W0 w') := ⟨by
      have hbA := below_alloc (Below.refl _ W0) (Obj.cells #[.slice N ln nc, .slice S ls sc] 31)
      refine (concatN_any (w.heap.size + 2) N S nc sc s.names s.safe _ ?_ ?_ (Kd.C_below HH.out.hN (bthen HB0.out (hbA.drew))) (Kd.C_below HH.out.hS (bthen HB0.out (hbA.drew))) (by rw [NL.out]; omega) (by rw [SL.out]; omega)).mono ?_
      · rw [NL.out, ← HZ0.out]; exact new_cell W0 _ _ 0 _ rfl
      · rw [SL.out, ← HZ0.out]; exact new_cell W0 _ _ 1 _ rfl
      · rintro e w' ⟨v, rfl, hv, hb⟩
        obtain ⟨A, c, rfl, _, hC⟩ := Kd.R_reads hv
        rw [List.length_append, NL.out, SL.out] at hC
        exact ⟨A, c, by rw [List.length_append, NL.out, SL.out], hC, bthen hbA.drew hb⟩⟩
    go_region_law (go_simp; go_wp2_with (go_at_call 79; refine CC.out.mono ?_; rintro e w5 ⟨A5, c5, rfl, hC5, hB5⟩; have HC5 := Aside0.mk hC5; have HB5 := Aside0.mk hB5; clear hC5 hB5))
    all_goals go_wp2_with fail
    all_goals go_meet
    all_goals exact ⟨rfl, rfl, A5, c5, rfl, ⟨HC5.out, HB5.out⟩⟩
  case rest =>
    obtain ⟨rfl, rfl, A, c, rfl, HC⟩ := hcut
    have HA : Aside0 ((s.names ++ s.safe).length = ln + ls) := ⟨by rw [List.length_append, NL.out, SL.out]⟩
    have HBw : Aside0 (Below w.heap.size w wc) := ⟨bthen HB0.out HC.out.2⟩
    have HSc : Aside0 (SetL Try.prog 3 4 wc w.heap.size (ilits [])) := ⟨HS0.out.below HC.out.2⟩
    have HPc : Aside0 (wc.cell? ⟨w.heap.size + 1, 0, none⟩ = some (.map (some w.heap.size))) := ⟨pw_cell_below HC.out.2 HKP.out⟩
    have hmapb : ∃ es k, wc.heap[w.heap.size]? = some (.map es k) := SetL.isMapBlock HSc.out
    have HCl : Aside0 (∀ wr, wc.grownBy wr (some w.heap.size) → Cell wc wr) := ⟨fun wr hg => by obtain ⟨es, k, hm⟩ := hmapb; exact Cell.of_map hm hg⟩
    have HOr : Aside0 (∀ wr, wc.grownBy wr (some w.heap.size) → Own wr base g s (.slice F lf fc) (.slice N ln nc) (.slice S ls sc) L) := ⟨fun wr hg => by
      have h1 := (HO.out.below HBw.out).other hg (fun k hk q cs _ e => by injection hk with hk; subst hk; obtain ⟨es, k, hm⟩ := hmapb; rw [hm] at e; cases e)
      rwa [NL.out, SL.out, FL.out] at h1⟩
    have hlsz : w.heap.size < wc.heap.size := by have := HC.out.2.size; omega
    have hln2 : ln + ls ≤ 1048576 := by omega
    clear hmapb
    go_wp2
    go_loopg [17] (ln + ls) (fun gk v17 wr => ∃ i : Nat, v17 = .int .i64 i ∧ gk + i = ln + ls ∧ Aside0 (SetL Try.prog 3 4 wr w.heap.size (ilits (idsN ((s.names ++ s.safe).take i)))) ∧ Aside0 (wc.grownBy wr (some w.heap.size)))
    case atStart => exact ⟨0, rfl, by omega, HSc, ⟨grown_refl _ _⟩⟩
    case round =>
      obtain ⟨i, rfl, hg, HSr, HGr⟩ := hrel
      by_cases hlt : i < ln + ls
      · have hlt' : (i : Int) < ((ln + ls : Nat) : Int) := by omega
        obtain ⟨m, hm⟩ : ∃ m, (s.names ++ s.safe)[i]? = some m := ⟨_, List.getElem?_eq_getElem (by have := HA.out; omega)⟩
        obtain ⟨ad, rfl, c0, c1⟩ := atNm (kNm_cell HC.out.1 (HCl.out wr HGr.out)) i m hm
        have hid : inI64 m.id := by
          rcases List.mem_append.1 (List.mem_of_getElem? hm) with h | h
          · exact HW.out.wn m h
          · exact HW.out.ws m h
        have kp := HCl.out wr HGr.out _ _ HPc.out
        have HM := Aside0.mk hm
        have HID := Aside0.mk hid
        clear hm hid
        go_upto_region 4 with (fail)
        obtain ⟨W4, hW4⟩ : ∃ W4, W4 = wr.alloc (.cells #[.string m.name, .int .i64 m.id] 81) := ⟨_, rfl⟩
        have HB4 : Aside0 (Below wr.heap.size wr W4) := ⟨by rw [hW4]; exact below_alloc (Below.refl _ _) _⟩
        have k1 : W4.cell? ⟨wr.heap.size, 1, none⟩ = some (.int .i64 m.id) := by rw [hW4]; exact new_cell _ _ _ 1 _ rfl
        have kp4 := pw_cell_below HB4.out kp
        rw [← hW4]
        clear hW4 c0 c1 kp
        have htl : (idsN ((s.names ++ s.safe).take i)).length ≤ 1048576 := by rw [idsN, List.length_map, List.length_take]; omega
        obtain ⟨wB, runB, SB, gB⟩ := (HSr.out.below HB4.out).update (t := 116) (key := .int .i64 m.id) (Maps.int_keyed Try.underlying3) Try.underlying116 Try.underlying4 (by simp [ilits, maxLen]; omega) (Maps.keyOf_int_mk Try.underlying3 (wf_i64' HID.out)) trivial
        have HSB : Aside0 (SetL Try.prog 3 4 wB w.heap.size (ilits (idsN ((s.names ++ s.safe).take (i + 1))))) := ⟨by
          have e1 : ilits (idsN ((s.names ++ s.safe).take (i + 1))) = ilits (idsN ((s.names ++ s.safe).take i)) ++ [.int .i64 m.id] := by rw [List.take_add_one, HM.out]; simp [ilits, idsN]
          rw [e1]; exact SB⟩
        have HGB := Aside0.mk (grown_trans HGr.out (grown_trans (grown_of_below HB4.out (some w.heap.size)) gB))
        clear SB gB htl
        go_wp2
        go_roundg (ln + ls - (i + 1))
        case measure => omega
        case rel => exact ⟨i + 1, by go_num, by omega, HSB, HGB⟩
      · have hfull : (s.names ++ s.safe).take i = s.names ++ s.safe := List.take_of_length_le (by have := HA.out; omega)
        have HSF := Aside0.mk (hfull ▸ HSr.out)
        have HOW := Aside0.mk (HOr.out wr HGr.out)
        have HKW := Aside0.mk (HCl.out wr HGr.out _ _ HPc.out)
        obtain ⟨_, y1, _, _, _, _, f1, _, _, _⟩ := all5 HOW.out.blk
        have hnf : ¬ ((i : Int) < ((ln + ls : Nat) : Int)) := by omega
        clear hfull
        go_wp2_with fail
        refine (delOF_any base (.slice F lf fc) L (fun x => !((idsN (s.names ++ s.safe)).any fun y => y == x.1.id)) #[.pointer (some ⟨w.heap.size + 1, 0, none⟩)] wr (by rw [HLL.out, FL.out]; have := hlf; rw [FL.out] at this; exact this) HOW.out.oF ?_).mono ?_
        · intro x hx W hW
          have hfb : ∀ k, (Value.slice F lf fc).ownBlock = some k → k < w.heap.size := fun k hk => (HO.out.oF.row.block k (by rw [FL.out]; exact hk)).2.1
          refine sweepFn_any x.1.id x.1.sync x.2 ⟨w.heap.size + 1, 0, none⟩ w.heap.size (idsN (s.names ++ s.safe)) W (HWI.out x.1 (by rw [← HO.out.fs]; exact List.mem_map.2 ⟨x, hx, rfl⟩)) (HOW.out.oF.vals x hx) (hW.cell HKW.out (fun e => ?_)) (HSF.out.grown hW (fun e => ?_))
          · have := hfb (w.heap.size + 1) e.symm; omega
          · have := hfb w.heap.size e.symm; omega
        · rintro e w5 ⟨A5, n5, c5, rfl, hn5, hof, hg5⟩
          have hrow := HOW.out.oF.row.block
          have hstk : w5.heap[g]? = some (.cells #[.int .i64 s.cap, .slice F lf fc, .slice N ln nc, .slice S ls sc, .int .i64 s.next] 33 (0, 0)) :=
            (hg5.block g (blk_lt HOW.out.blk) (fun e => by obtain ⟨_, _, cs, h3⟩ := hrow g e.symm; exact type_ne HOW.out.blk h3 (by decide) rfl)).trans HOW.out.blk
          obtain ⟨_, y1', _, _, _, _, f1', _, _, _⟩ := all5 hstk
          have HK5 := Aside0.mk hstk
          have HF5 := Aside0.mk hof
          have HG5 := Aside0.mk hg5
          have HN5 := Aside0.mk hn5
          clear hstk hof hg5 hn5 y1 f1 hrow
          go_wp2
          go_end0
          refine ⟨rfl, ⟨.slice A5 n5 c5, .slice N ln nc, .slice S ls sc, _, ⟨blk_put HK5.out 1 _ rfl, HF5.out.step (fun k hk => Below.heap_setCell _ _ _ _ ?_) (fun x hx k hk => Below.heap_setCell _ _ _ _ ?_), ?_, RN_step HOW.out.rN (fun k hk => ?_), RN_step HOW.out.rS (fun k hk => ?_), HOW.out.ap⟩⟩, ?_⟩
          · obtain ⟨_, _, cs, h3⟩ := HF5.out.row.block k hk; exact type_ne h3 HK5.out (by decide)
          · obtain ⟨cs, h3⟩ := own_typed (HF5.out.own x hx) k hk; exact type_ne h3 HK5.out (by decide)
          · show (L.filter _).map (·.1) = s.files.filter _
            rw [← HO.out.fs, List.filter_map]
            congr 1
            apply List.filter_congr
            intro x _
            simp only [Bool.not_not, ids_any, Function.comp]
          · obtain ⟨_, h2, cs, h3⟩ := RN_block HOW.out.rN k hk
            refine (Below.heap_setCell _ _ _ _ (type_ne h3 HOW.out.blk (by decide))).trans (HG5.out.block k h2 (fun e => ?_))
            obtain ⟨_, _, cs', h4⟩ := HOW.out.oF.row.block k e.symm
            exact type_ne h3 h4 (by decide) rfl
          · obtain ⟨_, h2, cs, h3⟩ := RN_block HOW.out.rS k hk
            refine (Below.heap_setCell _ _ _ _ (type_ne h3 HOW.out.blk (by decide))).trans (HG5.out.block k h2 (fun e => ?_))
            obtain ⟨_, _, cs', h4⟩ := HOW.out.oF.row.block k e.symm
            exact type_ne h3 h4 (by decide) rfl
          · have h1 := bel (g := g) HBw.out hbw
            have s1 := HBw.out.size
            have h2 := h1.grown HGr.out (by omega) (fun k hk => by injection hk with hk; omega)
            have s2 := HGr.out.size
            have h3 := h2.grown HG5.out (by omega) (fun k hk => (HOW.out.oF.row.block k hk).1)
            exact h3.setG _
end Go.Proofs.Ytfakfgblaakgdaa.Files

/- slices.Delete of one name: walked (printed by wip/gen_deln.py from ApplyB). -/
namespace Go.Proofs.Ytfakfgblaakgdaa.Files
set_option linter.unusedVariables false
set_option linter.unusedSimpArgs false
open Go.RowKit Go.Proofs.YtfakfgblaakgdaaW.PrintWords Go.Proofs.YtfakfgblaakgdaaW.PrintLast Go.Proofs.Ytfakfgblaakgdaa.Base Go.Proofs.Ytfakfgblaakgdaa.Cells Go.Proofs.Ytfakfgblaakgdaa.Ints Go.Proofs.Ytfakfgblaakgdaa.Var Go.Proofs.Ytfakfgblaakgdaa.EditPure Go.Proofs.Ytfakfgblaakgdaa.Edit Go.Proofs.Ytfakfgblaakgdaa.RowsC

theorem flatN_len (B : List Nm) : (B.map Nm.cs).flatten.length = B.length * 2 := by
  rw [flatten_len (B.map Nm.cs) (sz := 2) (fun r hr => by obtain ⟨x, _, rfl⟩ := List.mem_map.1 hr; rfl), List.length_map]
theorem csN_one (L : List Nm) : ∀ u ∈ (L.map Nm.cs).flatten, u.oneCell' = true := by
  intro u hu
  obtain ⟨r, hr, hm⟩ := List.mem_flatten.1 hu
  obtain ⟨m, _, rfl⟩ := List.mem_map.1 hr
  simp [Nm.cs] at hm
  rcases hm with rfl | rfl <;> rfl
theorem CRow_flat {e sz : Nat} {w : World} {g cap : Nat} {A B : List (List Value)} (h : CRow e sz w g cap (A ++ B)) (j : Nat) (u : Value) (hj : B.flatten[j]? = some u) : w.cell? ⟨g, A.length * sz + j, none⟩ = some u := by
  obtain ⟨cur, h1, h2, h3, h4, h6⟩ := h
  have hA : ∀ r ∈ A, r.length = sz := fun r hr => h6 r (List.mem_append_left _ hr)
  have hB : ∀ r ∈ B, r.length = sz := fun r hr => h6 r (List.mem_append_right _ hr)
  have hjl : j < B.length * sz := by have := (List.getElem?_eq_some_iff.1 hj).1; rwa [flatten_len B hB] at this
  have h5 := congrArg (fun l => l[A.length * sz + j]?) h4
  simp only [List.flatten_append] at h5
  rw [List.getElem?_append_right (by rw [flatten_len A hA]; omega), flatten_len A hA, Nat.add_sub_cancel_left, hj, List.getElem?_take, if_pos (by rw [List.length_append, Nat.add_mul]; omega), Array.getElem?_toList] at h5
  rw [blk_cell h1]; exact h5
theorem run_clearN1 (W : World) (ty : TypeId) (g o c : Nat) (hc : ∀ j, j < 2 → (W.cell? ⟨g, o + j, none⟩).isSome = true) (hf : ∀ j, j < 2 → W.frozen? ⟨g, o + j, none⟩ = false) :
    (Builtin.clear_ #[31] ty #[.slice (some ⟨g, o, none⟩) 1 c]).run Try.prog W = .ok (.tuple #[]) (W.setCells g o zNm.cs) := by
  have hv : ∀ w, (zeroValue 81).run Try.prog w = .ok (.agg #[.string ⟨#[]⟩, .int .i64 0]) w := fun w => by kernel_rfl
  have hst := run_storeCells_cells (P := Try.prog) g o zNm.cs 0 W (by simpa [Nm.cs] using hc) (by simpa [Nm.cs] using hf) (by intro v hv'; have := csN_one [zNm] v (by simpa using hv'); exact this)
  simp only [Nat.add_zero] at hst
  have hz : (Builtin.zeroCells (Value.agg #[.string ⟨#[]⟩, .int .i64 0]).cells 1).toList = zNm.cs := by kernel_rfl
  simp [Builtin.clear_, run_underlying Try.underlying31, hv, hz, hst]

set_option maxRecDepth 100000 in
set_option maxHeartbeats 2000000 in
theorem delN_any (g cap : Nat) (A B : List Nm) (m : Nm) (n i : Nat) (w : World) (hn : n = A.length + 1 + B.length) (hi : i = A.length) (hl : n ≤ 1048576) (hcm : cap ≤ 9223372036854775807) (h : CRow 81 2 w g cap ((A ++ m :: B).map Nm.cs)) :
    Calls Try.prog 85 #[.slice (some ⟨g, 0, none⟩) n cap, .int .i64 i, .int .i64 ((i : Int) + 1)] w fun e w' => e = .returned (.slice (some ⟨g, 0, none⟩) (i + B.length) cap) ∧ CRow 81 2 w' g cap ((A ++ B).map Nm.cs) ∧ w.grownBy w' (some g) := by
  obtain ⟨i0, hi0, hz1⟩ := infoNx
  have hnc : n ≤ cap := by have := h.len; simp at this; omega
  have hin : i + 1 ≤ n := by omega
  have H := Aside0.mk h
  have E := Aside0.mk (And.intro hn hi)
  obtain ⟨AD, hAD, hsrc⟩ : ∃ AD : Addr, (if cap = i + 1 then some (⟨g, 0, none⟩ : Addr) else some ⟨g, (i + 1) * 2, none⟩) = some AD ∧ Aside0 (∀ t u, ((B.map Nm.cs).flatten)[t]? = some u → w.drew.cell? (AD.add t) = some u) := by
    by_cases hc : cap = i + 1
    · refine ⟨_, by rw [if_pos hc], ⟨fun t u hu => ?_⟩⟩
      have : B = [] := List.eq_nil_of_length_eq_zero (by omega)
      rw [this] at hu
      simp at hu
    · refine ⟨_, by rw [if_neg hc], ⟨fun t u hu => ?_⟩⟩
      have h2 : CRow 81 2 w g cap ((A ++ [m]).map Nm.cs ++ B.map Nm.cs) := by simpa using h
      have h3 := CRow_flat h2 t u hu
      rw [Addr.add_lit, show (i + 1) * 2 + t = ((A ++ [m]).map Nm.cs).length * 2 + t by simp [hi]]
      exact h3
  have s3 : Aside0 (∀ t, t < ((B.map Nm.cs).flatten).length → (w.drew.cell? ⟨g, 0 + i * 2 + t, none⟩).isSome = true ∧ w.drew.frozen? ⟨g, 0 + i * 2 + t, none⟩ = false) := ⟨fun t ht => by
    rw [flatN_len] at ht
    exact ⟨h.there _ (by omega), h.froz _⟩⟩
  obtain ⟨W1, hW1⟩ : ∃ W1, W1 = w.drew.setCells g (0 + i * 2) ((B.map Nm.cs).flatten) := ⟨_, rfl⟩
  have hr1 : CRow 81 2 W1 g cap ((A ++ B).map Nm.cs) := by
    have h2 : CRow 81 2 w.drew g cap (A.map Nm.cs ++ (m :: B).map Nm.cs) := by have := h.drew; rwa [List.map_append] at this
    have h3 := h2.over (B.map Nm.cs) (fun r hr => by obtain ⟨x, _, rfl⟩ := List.mem_map.1 hr; rfl) (by simp; omega)
    rw [hW1, Nat.zero_add, hi, List.map_append]
    rw [List.length_map] at h3
    exact h3
  have hg1 : w.grownBy W1 (some g) := by
    rw [hW1]
    exact grown_trans (grown_drew (grown_refl _ _)) (setCells_grown _ _ _ _)
  have hcl : ∀ ty c, (Builtin.clear_ #[31] ty #[.slice (some ⟨g, (i + B.length) * 2, none⟩) 1 c]).run Try.prog W1 = .ok (.tuple #[]) (W1.setCells g ((i + B.length) * 2) zNm.cs) :=
    fun ty c => run_clearN1 W1 ty g _ c (fun j hj => hr1.there _ (by omega)) (fun j hj => hr1.froz _)
  have hr2 : Aside0 (CRow 81 2 (W1.setCells g ((i + B.length) * 2) zNm.cs) g cap ((A ++ B).map Nm.cs)) := ⟨hr1.beyond _ _ (by simp [hi]) (by have : zNm.cs.length = 2 := rfl; omega)⟩
  have hg2 : Aside0 (w.grownBy (W1.setCells g ((i + B.length) * 2) zNm.cs) (some g)) := ⟨grown_trans hg1 (setCells_grown _ _ _ _)⟩
  have hW : Aside0 (W1 = w.drew.setCells g (0 + i * 2) ((B.map Nm.cs).flatten)) := ⟨hW1⟩
  have hfl : Aside0 (((B.map Nm.cs).flatten).length = B.length * 2) := ⟨flatN_len B⟩
  obtain ⟨bl, hbl⟩ := named B.length
  rw [← hbl.out] at hcl hr2 hg2 hfl ⊢
  have hnb : n = i + 1 + bl := by have := hbl.out; omega
  have hib : (i : Int) + 1 ≤ n := by omega
  have hcl2 : ∀ ty c, (Builtin.clear_ #[31] ty #[.slice (some ⟨g, (i + bl) * 2, none⟩) (i + 1 + bl - (i + bl)) c]).run Try.prog W1 = .ok (.tuple #[]) (W1.setCells g ((i + bl) * 2) zNm.cs) := fun ty c => by
    rw [show i + 1 + bl - (i + bl) = 1 by omega]; exact hcl ty c
  clear hcl
  have hz0 : (0 : Int) ≤ (i : Int) + 1 := by omega
  have hz2 : (i : Int) + 1 ≤ (i : Int) + 1 + bl := by omega
  subst hnb
  have hic : i ≤ cap := by omega
  have hjc : i + 1 ≤ cap := by omega
  clear hW1 hr1 hg1 h hn hi
  go_enter Try.func85, Try.ntmps85
  go_wp2_with fail
  go_region_law (refine step_append_room rfl (.tmp 22) (.tmp 25) 31 rfl 81 i0 2 Try.underlying31 hi0 hz1 g 0 i cap (by simp [Act.eval, Act.put]) AD bl (cap - (i + 1)) ((B.map Nm.cs).flatten) (by simp [Act.eval, Act.put]) hfl.out hsrc.out (csN_one B) (by omega) s3.out ?_; rw [← hW.out])
  go_wp2
  go_ret
  exact ⟨rfl, hr2.out, hg2.out⟩
end Go.Proofs.Ytfakfgblaakgdaa.Files

/- slices.Insert of one name: walked. -/
namespace Go.Proofs.Ytfakfgblaakgdaa.Files
set_option linter.unusedVariables false
set_option linter.unusedSimpArgs false
open Go.RowKit Go.Proofs.YtfakfgblaakgdaaW.PrintWords Go.Proofs.YtfakfgblaakgdaaW.PrintLast Go.Proofs.Ytfakfgblaakgdaa.Base Go.Proofs.Ytfakfgblaakgdaa.Cells Go.Proofs.Ytfakfgblaakgdaa.Ints Go.Proofs.Ytfakfgblaakgdaa.Var Go.Proofs.Ytfakfgblaakgdaa.EditPure Go.Proofs.Ytfakfgblaakgdaa.Edit Go.Proofs.Ytfakfgblaakgdaa.RowsC

/-- copy, of elements of any size -/
theorem run_copy_sz {P : Program} (w : World) (dT sT ty elem : TypeId) (b o dLen dCap : Nat) (a : Addr) (sLen sCap m sz : Nat) (cs : List Value)
    (hu : P.underlying dT = some (.slice elem)) (hs : (P.info? elem).map (·.size) = some sz) (hm : Nat.min sLen dLen = m) (hn : cs.length = m * sz)
    (hsrc : ∀ j v, cs[j]? = some v → w.cell? (a.add j) = some v) (hc : ∀ j, j < cs.length → (w.cell? ⟨b, o + j, none⟩).isSome = true) (hf : ∀ j, j < cs.length → w.frozen? ⟨b, o + j, none⟩ = false) (h1 : ∀ v ∈ cs, v.oneCell' = true) :
    (Builtin.copy_ #[dT, sT] ty #[.slice (some ⟨b, o, none⟩) dLen dCap, .slice (some a) sLen sCap]).run P w = .ok (goInt m) (w.setCells b o cs) := by
  have hl := run_loadCells_list (P := P) w a cs hsrc
  have hst := run_storeCells_cells (P := P) b o cs 0 w (by simpa using hc) (by simpa using hf) h1
  rw [hn] at hl
  cases hq : P.info? elem with
  | none => simp [hq] at hs
  | some i =>
    have hi : i.size = sz := by simpa [hq] using hs
    simp [Builtin.copy_, run_underlying hu, Builtin.lenOf, Builtin.firstCells, sizeOf, typeInfo, hq, hi, hm, hl, hst]

set_option maxRecDepth 100000 in
set_option maxHeartbeats 2000000 in
theorem insEnd_any (base : Nat) (v : Value) (l : List Nm) (x : Nm) (vb : Nat) (w : World) (h : RN w base v l) (hbw : base ≤ w.heap.size) (hl : l.length ≤ 1048576) (hvb : w.heap[vb]? = some (.cells #[.string x.name, .int .i64 x.id] 81 (0, 0))) :
    Calls Try.prog 93 #[v, .int .i64 l.length, .slice (some ⟨vb, 0, none⟩) 1 1] w fun e w' => ∃ A c, e = .returned (.slice A (l.length + 1) c) ∧ RN w' base (.slice A (l.length + 1) c) (l ++ [x]) ∧ w.grownBy w' v.ownBlock ∧ ((Value.slice A (l.length + 1) c).ownBlock = v.ownBlock ∨ ∃ b, (Value.slice A (l.length + 1) c).ownBlock = some b ∧ w.heap.size ≤ b) ∧ Below base w w' := by
  obtain ⟨A, c, rfl, hlc, _⟩ := Kd.R_reads h
  obtain ⟨i0, hi0, hz2⟩ := infoNx
  have hcf := cut_from (P := Try.prog) 31 81 .i64 Try.underlying31 hi0 2 hz2 A l.length c (l.length : Int) (by omega) (by omega)
  have H := Aside0.mk h
  have hx : Aside0 (kNm.C w (some ⟨vb, 0, none⟩) 1 [x]) := ⟨⟨rfl, by omega, fun _ => ⟨⟨vb, 0, none⟩, rfl, fun j p hj => by
    have hj0 : j = 0 := by have := (List.getElem?_eq_some_iff.1 hj).1; simp at this; omega
    subst hj0
    have hp : x = p := by simpa using hj
    subst hp
    refine ⟨x.cs, rfl, kNm_mk w x, fun i u hu => ?_⟩
    show w.cell? ((⟨vb, 0, none⟩ : Addr).add (0 * 2 + i)) = some u
    rw [Nat.zero_mul, Nat.zero_add, add_plain, blk_cell hvb]
    have hi : i < 2 := (List.getElem?_eq_some_iff.1 hu).1
    rcases i with _ | _ | i
    · exact hu
    · exact hu
    · omega⟩⟩⟩
  obtain ⟨n, hn⟩ : ∃ n, l.length = n := ⟨_, rfl⟩
  have HN := Aside0.mk hn
  rw [hn] at hcf hlc hl ⊢
  generalize (Value.slice (if c = (n : Int).toNat then A else A.map (·.add ((n : Int).toNat * 2))) (n - (n : Int).toNat) (c - (n : Int).toNat)) = V at hcf
  clear h hvb hn
  go_enter Try.func93, Try.ntmps93
  go_wp2_with (at_builtin; refine Kd.R_append_rows kNm (Rr := kNm.K w) (w0 := w) base rfl (.tmp 23) (.tmp 24) 31 81 (.agg #[.string ⟨#[]⟩, .int .i64 0]) 24 rfl Try.underlying31 infoNm rfl (by decide) (by omega) (.slice A n c) l [x] (some ⟨vb, 0, none⟩) 1 1 (fun _ => True) (fun _ => False) rfl rfl ?aO ?aR ?aK (fun _ hk => hk.elim) (fun _ _ => trivial) ?aB ?aS ?c1 ?_; (case aO => have := H.out; rwa [HN.out] at this); (case aR => exact hx.out); (case aK => intro x cs hx; rw [kNm_open hx]; exact kNm_mkM _ _ _ x); (case aB => exact Below.refl _ _); (case aS => exact hbw); (case c1 => rw [HN.out]; omega); intro v1 w1 hown hB1 hg1 hat; have HO1 := Aside0.mk hown; have HB1 := Aside0.mk (And.intro hB1 (And.intro hg1 hat)); clear hown hB1 hg1 hat)
  obtain ⟨A1, c1, hv1⟩ := Kd.R_slice HO1.out
  have hl1 : (l ++ [x]).length = n + 1 := by rw [List.length_append, HN.out]; rfl
  rw [hl1] at hv1
  subst hv1
  go_ret
  exact ⟨A1, c1, rfl, HO1.out, HB1.out.2.1, HB1.out.2.2, HB1.out.1⟩
end Go.Proofs.Ytfakfgblaakgdaa.Files

/- slices.Insert of one name, ahead of others: walked. -/
namespace Go.Proofs.Ytfakfgblaakgdaa.Files
set_option linter.unusedVariables false
set_option linter.unusedSimpArgs false
open Go.RowKit Go.Lib Go.Proofs.YtfakfgblaakgdaaW.PrintWords Go.Proofs.YtfakfgblaakgdaaW.PrintLast Go.Proofs.Ytfakfgblaakgdaa.Base Go.Proofs.Ytfakfgblaakgdaa.Cells Go.Proofs.Ytfakfgblaakgdaa.Ints Go.Proofs.Ytfakfgblaakgdaa.Var Go.Proofs.Ytfakfgblaakgdaa.EditPure Go.Proofs.Ytfakfgblaakgdaa.Edit Go.Proofs.Ytfakfgblaakgdaa.RowsC

theorem cut_upto {P : Program} (t e : TypeId) (kh : IntKind) {i : TypeInfo} (ht : P.underlying t = some (.slice e)) (hi : P.info? e = some i) (A : Option Addr) (n c : Nat) (j : Int) (h0 : 0 ≤ j) (hm : j ≤ c) :
    ∀ W : World, (Instr.slice t (.slice A n c) none (some (.int kh j)) none).run P W = .ok (.slice A j.toNat c) W := by
  intro W
  have hel : P.elem t = e := by simp [Program.elem, ht]
  have hu : P.underlying t = some (.slice (P.elem t)) := by rw [hel]; exact ht
  have ha : (A.map fun x => x.add 0) = A := by cases A <;> simp [Addr.add]
  rw [run_slice_h W t A n c hu kh j h0 (by omega), hel]
  simp [sizeOf, typeInfo, hi, sliced, Result.andThen, ha]
theorem cut_mid {P : Program} (t e : TypeId) {i : TypeInfo} (ht : P.underlying t = some (.slice e)) (hi : P.info? e = some i) (sz : Nat) (hsz : i.size = sz) (g n c j : Nat) (jj : Int) (hjj : jj = j) (hj : j ≤ n) (hc : ¬ c = j) :
    ∀ W : World, (Instr.slice t (.slice (some ⟨g, 0, none⟩) n c) (some (.int .i64 jj)) none none).run P W = .ok (.slice (some ⟨g, j * sz, none⟩) (n - j) (c - j)) W := by
  intro W
  have h := cut_from (P := P) t e .i64 ht hi sz hsz (some ⟨g, 0, none⟩) n c (j : Int) (by omega) (by omega) W
  rw [Int.toNat_natCast, if_neg hc] at h
  have hadd : (Option.map (fun x : Addr => x.add (j * sz)) (some (⟨g, 0, none⟩ : Addr))) = some ⟨g, j * sz, none⟩ := by show some (Addr.add _ _) = _; rw [Addr.add_lit, Nat.zero_add]
  rw [hadd] at h
  rw [hjj]
  exact h
theorem infoNs : (Try.prog.info? 81).map (·.size) = some 2 := by kernel_rfl

set_option maxRecDepth 100000 in
set_option maxHeartbeats 4000000 in
theorem insRoom_any (g cap i : Nat) (l : List Nm) (x : Nm) (vb : Nat) (w : World) (h : CRow 81 2 w g cap (l.map Nm.cs)) (hi : i < l.length) (hroom : l.length + 1 ≤ cap) (hcm : cap ≤ 9223372036854775807) (hl : l.length ≤ 1048576) (hvb : w.heap[vb]? = some (.cells #[.string x.name, .int .i64 x.id] 81 (0, 0))) (hne : vb ≠ g) :
    Calls Try.prog 93 #[.slice (some ⟨g, 0, none⟩) l.length cap, .int .i64 i, .slice (some ⟨vb, 0, none⟩) 1 1] w fun e w' => e = .returned (.slice (some ⟨g, 0, none⟩) (l.length + 1) cap) ∧ CRow 81 2 w' g cap ((l.take i ++ x :: l.drop i).map Nm.cs) ∧ w.grownBy w' (some g) := by
  obtain ⟨i0, hi0, hz2⟩ := infoNx
  have hh := h
  obtain ⟨cur, hg, hsz, _⟩ := hh
  obtain ⟨b0, hb0⟩ : ∃ b0, l[i]? = some b0 := ⟨_, List.getElem?_eq_getElem hi⟩
  have hdr : l.drop i = b0 :: l.drop (i + 1) := by
    obtain ⟨hl', he⟩ := List.getElem?_eq_some_iff.1 hb0
    rw [List.drop_eq_getElem_cons hl', he]
  have hsplit : l = (l.take i ++ [b0]) ++ l.drop (i + 1) := by rw [List.append_assoc, List.singleton_append, ← hdr, List.take_append_drop]
  have hti : (l.take i).length = i := by rw [List.length_take]; omega
  obtain ⟨cs, hcs⟩ : ∃ cs, cs = ((l.drop i).map Nm.cs).flatten := ⟨_, rfl⟩
  have hcl : cs.length = (l.length - i) * 2 := by rw [hcs, flatN_len, List.length_drop]
  obtain ⟨W1, hW1⟩ : ∃ W1, W1 = w.drew.setCells g ((i + 1) * 2) cs := ⟨_, rfl⟩
  have h1 : CRow 81 2 W1 g cap (((l.take i ++ [b0]) ++ l.drop i).map Nm.cs) := by
    have h2 : CRow 81 2 w.drew g cap ((l.take i ++ [b0]).map Nm.cs ++ (l.drop (i + 1)).map Nm.cs) := by
      have := h.drew
      rw [hsplit, List.map_append] at this
      exact this
    have h3 := h2.over ((l.drop i).map Nm.cs) (fun r hr => by obtain ⟨x, _, rfl⟩ := List.mem_map.1 hr; rfl) (by simp; omega)
    rw [List.length_map, List.length_append, hti, ← hcs] at h3
    rw [hW1, List.map_append]
    exact h3
  have h2 : CRow 81 2 (W1.setCells g (i * 2) x.cs) g cap ((l.take i ++ x :: l.drop i).map Nm.cs) := by
    have h3 := h1.set i x.cs (by simp; omega) rfl
    have he : (((l.take i ++ [b0]) ++ l.drop i).map Nm.cs).set i x.cs = (l.take i ++ x :: l.drop i).map Nm.cs := by
      rw [← List.map_set, List.append_assoc, List.singleton_append, set_mid (l.take i) (l.drop i) b0 x i hti.symm]
    rw [he] at h3
    exact h3
  have hgr : w.grownBy (W1.setCells g (i * 2) x.cs) (some g) := grown_trans (by rw [hW1]; exact grown_trans (grown_drew (grown_refl _ _)) (setCells_grown _ _ _ _)) (setCells_grown _ _ _ _)
  have hsrc : ∀ j u, cs[j]? = some u → w.drew.cell? ⟨g, i * 2 + j, none⟩ = some u := by
    intro j u hu
    have h3 : CRow 81 2 w.drew g cap ((l.take i).map Nm.cs ++ (l.drop i).map Nm.cs) := by rw [← List.map_append, List.take_append_drop]; exact h.drew
    have := CRow_flat h3 j u (by rw [← hcs]; exact hu)
    rw [List.length_map, hti] at this
    exact this
  have hone : ∀ u ∈ cs, u.oneCell' = true := by rw [hcs]; exact csN_one _
  have hcp1 : ∀ ty dc sc, (Builtin.copy_ #[31, 31] ty #[.slice (some ⟨g, (i + 1) * 2, none⟩) (l.length - i) dc, .slice (some ⟨g, i * 2, none⟩) (l.length + 1 - i) sc]).run Try.prog w.drew = .ok (goInt ((l.length - i : Nat) : Int)) W1 := fun ty dc sc => by
    rw [hW1]
    exact run_copy_sz w.drew _ _ ty 81 g ((i + 1) * 2) (l.length - i) dc ⟨g, i * 2, none⟩ (l.length + 1 - i) sc (l.length - i) 2 cs Try.underlying31 infoNs (by simp only [Nat.min_def]; split <;> omega) hcl (fun j v hj => by rw [Addr.add_lit]; exact hsrc j v hj) (fun j hj => h.drew.there _ (by omega)) (fun j hj => h.drew.froz _) hone
  have hvbw : vb < w.heap.size := blk_lt hvb
  have hvb1 : W1.heap[vb]? = some (.cells #[.string x.name, .int .i64 x.id] 81 (0, 0)) := by
    rw [hW1, setCells_far _ _ _ hne]
    exact hvb
  have hcp2 : ∀ (W : World), (∀ x, W.cell? x = W1.cell? x) → (∀ x, W.frozen? x = W1.frozen? x) → ∀ ty dc, (Builtin.copy_ #[31, 31] ty #[.slice (some ⟨g, i * 2, none⟩) (l.length + 1 - i) dc, .slice (some ⟨vb, 0, none⟩) 1 1]).run Try.prog W = .ok (goInt 1) (W.setCells g (i * 2) x.cs) := fun W hWc hWf ty dc =>
    run_copy_sz W _ _ ty 81 g (i * 2) (l.length + 1 - i) dc ⟨vb, 0, none⟩ 1 1 1 2 x.cs Try.underlying31 infoNs (by simp only [Nat.min_def]; split <;> omega) rfl
      (fun j v hj => by rw [Addr.add_lit, Nat.zero_add, hWc, blk_cell hvb1]; have hj2 : j < 2 := (List.getElem?_eq_some_iff.1 hj).1; rcases j with _ | _ | j; exact hj; exact hj; omega)
      (fun j hj => by have hj2 : j < 2 := hj; rw [hWc]; exact h1.there _ (by omega)) (fun j hj => by rw [hWf]; exact h1.froz _) (fun u hu => csN_one [x] u (by simpa using hu))
  have hsA : w.shape? vb = some (81, 2) := by simp [World.shape?, hvb]
  have hsB : w.shape? g = some (81, cap * 2) := by simp [World.shape?, hg, hsz]
  have hov : ∀ lb cb, (callFunc 96 #[.slice (some ⟨vb, 0, none⟩) 1 1, .slice (some ⟨g, (i + 1) * 2, none⟩) lb cb]).run Try.prog w = .ok (.value (.bool false)) w := fun lb cb => by
    rw [run_callFunc_extern Try.func96 (by kernel_rfl) (by kernel_rfl) (by kernel_rfl) (e := Extern.SlicesOverlaps.overlaps #[31, 31] #[4]) (by kernel_rfl),
      Lib.run_overlaps_apart w 31 4 81 Try.underlying31 2 (fun w => by kernel_rfl) ⟨vb, 0, none⟩ ⟨g, (i + 1) * 2, none⟩ 1 1 lb cb hne 81 81 2 (cap * 2) hsA hsB (by omega) (blk_frozen hvb 0) (blk_frozen hvb 2)]
    rfl
  obtain ⟨n, hn⟩ : ∃ n, l.length = n := ⟨_, rfl⟩
  rw [hn] at hi hroom hl hcp1 hcp2 ⊢
  have c1 := cut_mid (P := Try.prog) 31 81 Try.underlying31 hi0 2 hz2 g n cap i i rfl (by omega) (by omega)
  have c2 := cut_mid (P := Try.prog) 31 81 Try.underlying31 hi0 2 hz2 g (n + 1) cap (i + 1) ((i : Int) + 1) (by omega) (by omega) (by omega)
  have c3 := cut_mid (P := Try.prog) 31 81 Try.underlying31 hi0 2 hz2 g (n + 1) cap i i rfl (by omega) (by omega)
  have c4 := cut_upto (P := Try.prog) 31 81 .i64 Try.underlying31 hi0 (some ⟨g, 0, none⟩) n cap ((n : Int) + 1) (by omega) (by omega)
  have e4 : ((n : Int) + 1).toNat = n + 1 := by omega
  rw [e4] at c4
  have hz3 : ¬ ((i : Int) = (n : Int)) := by omega
  have R2 := Aside0.mk h2
  have G2 := Aside0.mk hgr
  have hcapn : ¬ ((cap : Int) < (n : Int) + 1) := by omega
  have hw1 : IntKind.i64.wrap ((i : Int) + 1) = (i : Int) + 1 := by rw [IntKind.wrap_i64]; omega
  have hb1 : (0 : Int) ≤ (i : Int) + 1 := by omega
  have htn : ((i : Int) + 1).toNat = i + 1 := by omega
  have hb2 : ¬ (cap = i + 1) := by omega
  have hb3 : (i : Int) + 1 ≤ (n : Int) + 1 := by omega
  have hb5 : (i : Int) ≤ (n : Int) + 1 := by omega
  have hb4 : ¬ (cap = i) := by omega
  have mixed : Try.prog.follows .mixedOrders = true := by kernel_rfl
  clear h2 hgr h1 h hsrc hone hcl hW1 hcs hsplit hdr hb0 hti hsA hsB hvb1 hvbw hvb hg hsz e4 hn
  go_enter Try.func93, Try.ntmps93
  go_wp2_with (simp only [hov])
  go_region_law_o (refine step_copy_runI rfl _ _ 31 31 rfl _ _ (by simp [Act.eval, Act.put]) (by simp [Act.eval, Act.put]) (hcp1 _ _ _) ?_)
  go_wp2_with (at_builtin; refine wpList_copy_runI _ rfl _ _ 31 31 rfl _ _ rfl rfl (hcp2 _ (fun _ => rfl) (fun _ => rfl) _ _) ?_)
  go_ret
  exact ⟨rfl, R2.out, G2.out⟩

set_option maxRecDepth 100000 in
set_option maxHeartbeats 4000000 in
theorem insGrow_any (g cap i : Nat) (l : List Nm) (x : Nm) (vb : Nat) (w : World) (h : CRow 81 2 w g cap (l.map Nm.cs)) (hi : i < l.length) (hroom : cap < l.length + 1) (hl : l.length ≤ 1048576) (hvb : w.heap[vb]? = some (.cells #[.string x.name, .int .i64 x.id] 81 (0, 0))) :
    Calls Try.prog 93 #[.slice (some ⟨g, 0, none⟩) l.length cap, .int .i64 i, .slice (some ⟨vb, 0, none⟩) 1 1] w fun e w' => ∃ G, e = .returned (.slice (some ⟨w.heap.size, 0, none⟩) (l.length + 1) G) ∧ G ≤ 9223372036854775807 ∧ CRow 81 2 w' w.heap.size G ((l.take i ++ x :: l.drop i).map Nm.cs) ∧ Below w.heap.size w w' := by
  obtain ⟨i0, hi0, hz2⟩ := infoNx
  obtain ⟨hz0, hzb⟩ : i0.zero = some (.agg #[.string ⟨#[]⟩, .int .i64 0]) ∧ i0.bytes = 24 := by
    have h := infoNm
    rw [hi0] at h
    simp only [Option.map_some, Option.some.injEq, Prod.mk.injEq] at h
    exact ⟨h.1, h.2.2⟩
  have hcapn : cap = l.length := by have := h.len; simp at this; omega
  have hgw : g < w.heap.size := h.lt
  have hvbw : vb < w.heap.size := blk_lt hvb
  have hti : (l.take i).length = i := by rw [List.length_take]; omega
  obtain ⟨csA, hcsA⟩ : ∃ cs, cs = ((l.take i).map Nm.cs).flatten := ⟨_, rfl⟩
  obtain ⟨csB, hcsB⟩ : ∃ cs, cs = ((l.drop i).map Nm.cs).flatten := ⟨_, rfl⟩
  have hlA : csA.length = i * 2 := by rw [hcsA, flatN_len, hti]
  have hlB : csB.length = (l.length - i) * 2 := by rw [hcsB, flatN_len, List.length_drop]
  have hall : CRow 81 2 w g cap ((l.take i).map Nm.cs ++ (l.drop i).map Nm.cs) := by rw [← List.map_append, List.take_append_drop]; exact h
  have hsA : ∀ j u, csA[j]? = some u → w.cell? ⟨g, j, none⟩ = some u := by
    intro j u hu
    have h3 : CRow 81 2 w g cap ([] ++ (l.take i).map Nm.cs) := by rw [List.nil_append]; exact hall.front
    have := CRow_flat h3 j u (by rw [← hcsA]; exact hu)
    simpa using this
  have hsB : ∀ j u, csB[j]? = some u → w.cell? ⟨g, i * 2 + j, none⟩ = some u := by
    intro j u hu
    have := CRow_flat hall j u (by rw [← hcsB]; exact hu)
    rw [List.length_map, hti] at this
    exact this
  have hoB : ∀ u ∈ csB, u.oneCell' = true := by rw [hcsB]; exact csN_one _
  have hold : (Builtin.firstCells i0.size i (.slice (some ⟨g, 0, none⟩) i cap)).run Try.prog w.drew = .ok csA.toArray w.drew := by
    rw [hz2]
    exact run_firstCells_some w.drew 2 i ⟨g, 0, none⟩ i cap csA hlA (fun j v hj => by rw [add_plain]; exact hsA j v hj)
  obtain ⟨G, hG⟩ : ∃ G, G = grownCap w (l.length + 1) cap 81 := ⟨_, rfl⟩
  obtain ⟨ROW, hROW⟩ : ∃ ROW : Array Value, ROW = csA.toArray ++ Builtin.zeroCells (Value.agg #[.string ⟨#[]⟩, .int .i64 0]).cells (l.length + 1 - i) ++ Builtin.zeroCells (Value.agg #[.string ⟨#[]⟩, .int .i64 0]).cells (G - (l.length + 1)) := ⟨_, rfl⟩
  have hGn : l.length + 1 ≤ G := by rw [hG]; exact grownCap_ge w _ _ _
  have hG63 : G ≤ 9223372036854775807 := by
    have := grownCap_le_maxLen w (l.length + 1) cap 81 (by unfold maxLen; omega)
    rw [← hG] at this
    unfold maxLen at this
    omega
  have hrz : ∀ ty, (Builtin.append_ #[31, 3] ty #[.slice (some ⟨g, 0, none⟩) i cap, .int .i64 ((l.length : Int) + 1 - i)]).run Try.prog w =
      .ok (.slice (some ⟨w.heap.size, 0, none⟩) (l.length + 1) G) (w.drew.alloc (.cells ROW 81)) := fun ty => by
    have h := Lib.run_append_grow_zeros w 31 3 ty 81 i0 _ .i64 .i64 Try.underlying31 Try.underlying3 hi0 hz0 (some ⟨g, 0, none⟩) i cap csA hold (l.length + 1 - i) (by omega) (by rw [hz2]; omega) (by omega) (by omega) (by rw [hzb]; omega) (by rw [hzb, show i + (l.length + 1 - i) = l.length + 1 by omega]; exact growslice_fits (by omega) (by omega))
    rw [show i + (l.length + 1 - i) = l.length + 1 by omega, ← hG, ← hROW] at h
    rw [show (l.length : Int) + 1 - i = ((l.length + 1 - i : Nat) : Int) by omega]
    exact h
  obtain ⟨W1, hW1⟩ : ∃ W1, W1 = w.drew.alloc (.cells ROW 81) := ⟨_, rfl⟩
  rw [← hW1] at hrz
  have h1 : CRow 81 2 W1 w.heap.size G ((l.take i).map Nm.cs) := by
    refine ⟨ROW, by rw [hW1]; exact blk_new w.drew _, ?_, by rw [List.length_map, hti]; omega, ?_, fun r hr => by obtain ⟨x, _, rfl⟩ := List.mem_map.1 hr; rfl⟩
    · rw [hROW]
      simp [Builtin.zeroCells, Value.cells, hlA]
      omega
    · rw [hROW, Array.append_assoc, Array.toList_append, List.length_map, hti, ← hcsA]
      exact List.take_left' hlA
  obtain ⟨W2, hW2⟩ : ∃ W2, W2 = W1.setCells w.heap.size (i * 2) x.cs := ⟨_, rfl⟩
  have h2 : CRow 81 2 W2 w.heap.size G ((l.take i ++ [x]).map Nm.cs) := by
    have h3 := CRow.over (A := (l.take i).map Nm.cs) (B := []) (by rw [List.append_nil]; exact h1) [x.cs] (fun r hr => by rw [List.mem_singleton.1 hr]; rfl) (by simp; omega)
    rw [List.length_map, hti] at h3
    rw [hW2, List.map_append]
    simpa using h3
  have h3 : CRow 81 2 (W2.setCells w.heap.size ((i + 1) * 2) csB) w.heap.size G ((l.take i ++ x :: l.drop i).map Nm.cs) := by
    have h4 := CRow.over (A := (l.take i ++ [x]).map Nm.cs) (B := []) (by rw [List.append_nil]; exact h2) ((l.drop i).map Nm.cs) (fun r hr => by obtain ⟨x, _, rfl⟩ := List.mem_map.1 hr; rfl) (by simp; omega)
    rw [List.length_map, List.length_append, hti, ← hcsB] at h4
    rw [show l.take i ++ x :: l.drop i = (l.take i ++ [x]) ++ l.drop i by simp, List.map_append]
    exact h4
  have hb1 : Below w.heap.size w W1 := by rw [hW1]; exact (Below.refl _ w).drew.alloc (Nat.le_refl _) _
  have hb3 : Below w.heap.size w (W2.setCells w.heap.size ((i + 1) * 2) csB) := by
    have hs1 : w.heap.size ≤ W1.heap.size := hb1.size
    have hb2 : Below w.heap.size w W2 := by rw [hW2]; exact hb1.grown (setCells_grown _ _ _ _) hs1 (fun k hk => by injection hk with hk; omega)
    exact hb2.grown (setCells_grown _ _ _ _) hb2.size (fun k hk => by injection hk with hk; omega)
  have hOld : ∀ k, k < w.heap.size → W1.heap[k]? = w.heap[k]? := fun k hk => hb1.block k hk
  have hcell1 : ∀ k j v, k < w.heap.size → w.cell? ⟨k, j, none⟩ = some v → W1.cell? ⟨k, j, none⟩ = some v := fun k j v hk hv => (hb1.cell (p := ⟨k, j, none⟩) hk).trans hv
  have hcell2 : ∀ k j v, k < w.heap.size → w.cell? ⟨k, j, none⟩ = some v → W2.cell? ⟨k, j, none⟩ = some v := fun k j v hk hv => by
    rw [hW2, World.cell?_setCells_out _ _ _ _ _ (fun h _ => absurd h (by show k ≠ _; omega))]
    exact hcell1 k j v hk hv
  have hvc : ∀ j v, x.cs[j]? = some v → w.cell? ⟨vb, j, none⟩ = some v := fun j v hj => by
    rw [blk_cell hvb]
    have hj2 : j < 2 := (List.getElem?_eq_some_iff.1 hj).1
    rcases j with _ | _ | j
    · exact hj
    · exact hj
    · omega
  have hcpA : ∀ (W : World), (∀ x, W.cell? x = W1.cell? x) → (∀ x, W.frozen? x = W1.frozen? x) → ∀ ty dc, (Builtin.copy_ #[31, 31] ty #[.slice (some ⟨w.heap.size, i * 2, none⟩) (l.length + 1 - i) dc, .slice (some ⟨vb, 0, none⟩) 1 1]).run Try.prog W = .ok (goInt 1) (W.setCells w.heap.size (i * 2) x.cs) := fun W hWc hWf ty dc =>
    run_copy_sz W _ _ ty 81 w.heap.size (i * 2) (l.length + 1 - i) dc ⟨vb, 0, none⟩ 1 1 1 2 x.cs Try.underlying31 infoNs (by simp only [Nat.min_def]; split <;> omega) rfl
      (fun j v hj => by rw [Addr.add_lit, Nat.zero_add, hWc]; exact hcell1 _ _ _ hvbw (hvc j v hj))
      (fun j hj => by have hj2 : j < 2 := hj; rw [hWc]; exact h1.there _ (by omega)) (fun j hj => by rw [hWf]; exact h1.froz _) (fun u hu => csN_one [x] u (by simpa using hu))
  have hcpB : ∀ (W : World), (∀ x, W.cell? x = W2.cell? x) → (∀ x, W.frozen? x = W2.frozen? x) → ∀ ty dc sc, (Builtin.copy_ #[31, 31] ty #[.slice (some ⟨w.heap.size, (i + 1) * 2, none⟩) (l.length - i) dc, .slice (some ⟨g, i * 2, none⟩) (l.length - i) sc]).run Try.prog W = .ok (goInt ((l.length - i : Nat) : Int)) (W.setCells w.heap.size ((i + 1) * 2) csB) := fun W hWc hWf ty dc sc =>
    run_copy_sz W _ _ ty 81 w.heap.size ((i + 1) * 2) (l.length - i) dc ⟨g, i * 2, none⟩ (l.length - i) sc (l.length - i) 2 csB Try.underlying31 infoNs (by simp only [Nat.min_def]; split <;> omega) hlB
      (fun j v hj => by rw [Addr.add_lit, hWc]; exact hcell2 _ _ _ hgw (hsB j v hj))
      (fun j hj => by rw [hWc]; exact h2.there _ (by omega)) (fun j hj => by rw [hWf]; exact h2.froz _) hoB
  have R3 := Aside0.mk h3
  have B3 := Aside0.mk hb3
  obtain ⟨n, hn⟩ : ∃ n, l.length = n := ⟨_, rfl⟩
  obtain ⟨N, hN⟩ : ∃ N, w.heap.size = N := ⟨_, rfl⟩
  rw [hn] at hi hroom hl hrz hcpA hcpB hGn hcapn ⊢
  have c1 := cut_mid (P := Try.prog) 31 81 Try.underlying31 hi0 2 hz2 g n cap i i rfl (by omega) (by omega)
  have c2 := cut_to (P := Try.prog) 31 81 .i64 Try.underlying31 hi0 (some ⟨g, 0, none⟩) n cap i (by omega) (by omega) (by omega)
  have c3 := cut_mid (P := Try.prog) 31 81 Try.underlying31 hi0 2 hz2 w.heap.size (n + 1) G i i rfl (by omega) (by omega)
  have c4 := cut_mid (P := Try.prog) 31 81 Try.underlying31 hi0 2 hz2 w.heap.size (n + 1) G (i + 1) ((i : Int) + 1) (by omega) (by omega) (by omega)
  rw [Int.toNat_natCast] at c2
  have hz3 : ¬ ((i : Int) = (n : Int)) := by omega
  have hcn : (cap : Int) < (n : Int) + 1 := by omega
  have hw1 : IntKind.i64.wrap ((i : Int) + 1) = (i : Int) + 1 := by rw [IntKind.wrap_i64]; omega
  have hb1' : (0 : Int) ≤ (i : Int) + 1 := by omega
  have htn : ((i : Int) + 1).toNat = i + 1 := by omega
  have hb2 : ¬ (G = i + 1) := by omega
  have hb3' : (i : Int) + 1 ≤ (n : Int) + 1 := by omega
  have hb5 : (i : Int) ≤ (n : Int) := by omega
  have hb4 : ¬ (G = i) := by omega
  have hb6 : ¬ (cap = i) := by omega
  have mixed : Try.prog.follows .mixedOrders = true := by kernel_rfl
  have hG63' := Aside0.mk hG63
  subst hW2
  subst hW1
  have hE1 : ∀ x, ((w.alloc (.cells ROW 81)).drew).cell? x = (w.drew.alloc (.cells ROW 81)).cell? x := fun x => rfl
  have hE2 : ∀ x, ((w.alloc (.cells ROW 81)).drew).frozen? x = (w.drew.alloc (.cells ROW 81)).frozen? x := fun x => rfl
  have hF1 : ∀ y, (((w.alloc (.cells ROW 81)).drew.setCells w.heap.size (i * 2) x.cs).drew).cell? y = ((w.drew.alloc (.cells ROW 81)).setCells w.heap.size (i * 2) x.cs).cell? y := fun y => rfl
  have hF2 : ∀ y, (((w.alloc (.cells ROW 81)).drew.setCells w.heap.size (i * 2) x.cs).drew).frozen? y = ((w.drew.alloc (.cells ROW 81)).setCells w.heap.size (i * 2) x.cs).frozen? y := fun y => rfl
  clear h1 h2 h3 hb1 hb3 hOld hcell1 hcell2 hvc hold hsA hsB hall hoB hROW hG hlA hlB hcsA hcsB hti h hvb hn hN hgw hvbw hz0 hzb hcapn
  go_enter Try.func93, Try.ntmps93
  go_wp2_with (at_builtin; refine Lib.wpList_append_run _ rfl _ _ _ _ rfl _ _ rfl rfl _ _ (hrz _) ?_)
  go_region_law_o (refine step_copy_runI rfl _ _ 31 31 rfl (.slice (some ⟨w.heap.size, (i + 1) * 2, none⟩) (n - i) (G - (i + 1))) (.slice (some ⟨g, i * 2, none⟩) (n - i) (cap - i)) (by simp [Act.eval, Act.put]) (by simp [Act.eval, Act.put]) (hcpB _ hF1 hF2 3 (G - (i + 1)) (cap - i)) ?_)
  go_wp2
  go_ret
  refine ⟨G, rfl, hG63'.out, ?_, ?_⟩
  · rw [← drew_setCells]; exact R3.out
  · rw [← drew_setCells]; exact B3.out.drew
end Go.Proofs.Ytfakfgblaakgdaa.Files

/- (*files.State).give: walked. -/
namespace Go.Proofs.Ytfakfgblaakgdaa.Files
set_option linter.unusedVariables false
set_option linter.unusedSimpArgs false
open Go.RowKit Go.Proofs.YtfakfgblaakgdaaW.PrintWords Go.Proofs.YtfakfgblaakgdaaW.PrintLast Go.Proofs.Ytfakfgblaakgdaa.Base Go.Proofs.Ytfakfgblaakgdaa.Cells Go.Proofs.Ytfakfgblaakgdaa.Ints Go.Proofs.Ytfakfgblaakgdaa.Var Go.Proofs.Ytfakfgblaakgdaa.EditPure Go.Proofs.Ytfakfgblaakgdaa.Edit Go.Proofs.Ytfakfgblaakgdaa.Sets Go.Proofs.Ytfakfgblaakgdaa.RowsC

theorem insRN_any (base : Nat) (v : Value) (l : List Nm) (x : Nm) (vb i : Nat) (w : World) (h : RN w base v l) (hbw : base ≤ w.heap.size) (hi : i ≤ l.length) (hl : l.length ≤ 1048576) (hvb : w.heap[vb]? = some (.cells #[.string x.name, .int .i64 x.id] 81 (0, 0))) (hne : v.ownBlock ≠ some vb) :
    Calls Try.prog 93 #[v, .int .i64 i, .slice (some ⟨vb, 0, none⟩) 1 1] w fun e w' => ∃ A c, e = .returned (.slice A (l.length + 1) c) ∧ RN w' base (.slice A (l.length + 1) c) (l.take i ++ x :: l.drop i) ∧ w.grownBy w' v.ownBlock ∧ ((Value.slice A (l.length + 1) c).ownBlock = v.ownBlock ∨ ∃ b, (Value.slice A (l.length + 1) c).ownBlock = some b ∧ w.heap.size ≤ b) := by
  rcases Nat.eq_or_lt_of_le hi with rfl | hi
  · refine (insEnd_any base v l x vb w h hbw hl hvb).mono fun e w' ⟨A, c, h1, h2, h3, h4, h5⟩ => ⟨A, c, h1, ?_, h3, h4⟩
    rw [List.take_length, List.drop_length]
    exact h2
  · rcases CR_of_RN h with ⟨_, h0⟩ | ⟨g, cap, rfl, hb, hcm, hr⟩
    · rw [List.map_eq_nil_iff] at h0
      rw [h0] at hi
      simp at hi
    · rw [List.length_map]
      have hlen : (l.take i ++ x :: l.drop i).length = l.length + 1 := by simp; omega
      have hne' : vb ≠ g := fun e => hne (by rw [e]; simp [Value.ownBlock])
      by_cases hroom : l.length + 1 ≤ cap
      · refine (insRoom_any g cap i l x vb w hr hi hroom hcm hl hvb hne').mono fun e w' ⟨h1, h2, h3⟩ => ⟨_, cap, h1, ?_, by simpa [Value.ownBlock] using h3, .inl (by simp [Value.ownBlock])⟩
        have := RN_of_CR (w := w') (base := base) (l := l.take i ++ x :: l.drop i) (.inr ⟨g, cap, rfl, hb, hcm, h2⟩)
        rwa [List.length_map, hlen] at this
      · refine (insGrow_any g cap i l x vb w hr hi (by omega) hl hvb).mono fun e w' ⟨G, h1, hG, h2, h3⟩ => ⟨_, G, h1, ?_, grown_of_below h3 _, .inr ⟨w.heap.size, by simp [Value.ownBlock], Nat.le_refl _⟩⟩
        have := RN_of_CR (w := w') (base := base) (l := l.take i ++ x :: l.drop i) (.inr ⟨w.heap.size, G, rfl, hbw, hG, h2⟩)
        rwa [List.length_map, hlen] at this
theorem delRN_any (base : Nat) (v : Value) (l : List Nm) (i : Nat) (w : World) (h : RN w base v l) (hi : i < l.length) (hl : l.length ≤ 1048576) :
    Calls Try.prog 85 #[v, .int .i64 i, .int .i64 ((i : Int) + 1)] w fun e w' => ∃ A n c, e = .returned (.slice A n c) ∧ n = l.length - 1 ∧ RN w' base (.slice A n c) (l.take i ++ l.drop (i + 1)) ∧ w.grownBy w' v.ownBlock ∧ (Value.slice A n c).ownBlock = v.ownBlock := by
  rcases CR_of_RN h with ⟨_, h0⟩ | ⟨g, cap, rfl, hb, hcm, hr⟩
  · rw [List.map_eq_nil_iff] at h0
    rw [h0] at hi
    simp at hi
  · rw [List.length_map]
    obtain ⟨m, hm⟩ : ∃ m, l[i]? = some m := ⟨_, List.getElem?_eq_getElem hi⟩
    have hdr : l.drop i = m :: l.drop (i + 1) := by
      obtain ⟨hl', he⟩ := List.getElem?_eq_some_iff.1 hm
      rw [List.drop_eq_getElem_cons hl', he]
    have hsp : l = l.take i ++ m :: l.drop (i + 1) := by rw [← hdr, List.take_append_drop]
    have hti : (l.take i).length = i := by rw [List.length_take]; omega
    have hdl : (l.drop (i + 1)).length = l.length - (i + 1) := by rw [List.length_drop]
    refine (delN_any g cap (l.take i) (l.drop (i + 1)) m l.length i w (by omega) hti.symm hl hcm (by rw [← hsp]; exact hr)).mono fun e w' ⟨h1, h2, h3⟩ => ⟨_, i + (l.drop (i + 1)).length, cap, h1, by omega, ?_, by simpa [Value.ownBlock] using h3, by simp [Value.ownBlock]⟩
    have := RN_of_CR (w := w') (base := base) (l := l.take i ++ l.drop (i + 1)) (.inr ⟨g, cap, rfl, hb, hcm, h2⟩)
    rwa [List.length_map, List.length_append, hti] at this

/-- the names have been written, and their row stored -/
theorem Own.setNames {w w1 : World} {base g : Nat} {s : St} {vF vN vN' vS : Value} {L : List (Fl × Value)} {l : List Nm} (h : Own w base g s vF vN vS L) (hg : w.grownBy w1 vN.ownBlock) (hn : RN w1 base vN' l)
    (hb : vN'.ownBlock = vN.ownBlock ∨ ∃ b, vN'.ownBlock = some b ∧ w.heap.size ≤ b) : Own (w1.setCell ⟨g, 2, none⟩ vN') base g { s with names := l } vF vN' vS L := by
  have hN := RN_block h.rN
  have hS := RN_block h.rS
  have hk : w1.heap[g]? = some (.cells #[.int .i64 s.cap, vF, vN, vS, .int .i64 s.next] 33 (0, 0)) :=
    (hg.block g (blk_lt h.blk) (fun e => by obtain ⟨_, _, cs, h3⟩ := hN g e.symm; exact type_ne h.blk h3 (by decide) rfl)).trans h.blk
  have hF : OF 79 w1 base vF L := h.oF.other hg (fun k hk' q cs hq e => by
    obtain ⟨_, _, cs', h3⟩ := hN k hk'
    rcases hq with rfl | rfl
    · exact type_ne e h3 (by decide) rfl
    · exact type_ne e h3 (by decide) rfl)
  refine ⟨blk_put hk 2 _ rfl, hF.step (fun k hk' => Below.heap_setCell _ _ _ _ ?_) (fun x hx k hk' => Below.heap_setCell _ _ _ _ ?_), h.fs, RN_step hn (fun k hk' => Below.heap_setCell _ _ _ _ ?_), RN_step h.rS (fun k hk' => ?_), fun k h1 h2 => ?_⟩
  · obtain ⟨_, _, cs, h3⟩ := hF.row.block k hk'; exact type_ne h3 hk (by decide)
  · obtain ⟨cs, h3⟩ := own_typed (hF.own x hx) k hk'; exact type_ne h3 hk (by decide)
  · obtain ⟨_, _, cs, h3⟩ := RN_block hn k hk'; exact type_ne h3 hk (by decide)
  · obtain ⟨_, h4, cs, h3⟩ := hS k hk'
    exact (Below.heap_setCell _ _ _ _ (type_ne h3 h.blk (by decide))).trans (hg.block k h4 (fun e => h.ap k e.symm hk'))
  · obtain ⟨_, h4, _⟩ := hS k h2
    rcases hb with hb | ⟨b, hb, hle⟩
    · exact h.ap k (by rw [← hb]; exact h1) h2
    · rw [hb] at h1; injection h1 with h1; omega
theorem below_setNames {w0 w w1 : World} {base g : Nat} {s : St} {vF vN vS : Value} {L : List (Fl × Value)} (u : Value) (h : Own w base g s vF vN vS L) (hb : Bel g base w0 w) (hbw : base ≤ w.heap.size) (hg : w.grownBy w1 vN.ownBlock) : Bel g base w0 (w1.setCell ⟨g, 2, none⟩ u) :=
  (hb.grown hg hbw (fun k hk => (RN_block h.rN k hk).1)).setG u

set_option maxRecDepth 100000 in
set_option maxHeartbeats 4000000 in
theorem give_own (s : St) (base g : Nat) (name : ByteArray) (id : Int) (vF vN vS : Value) (L : List (Fl × Value)) (w : World) (h : Own w base g s vF vN vS L) (hbw : base ≤ w.heap.size) (hln : s.names.length ≤ 524288) (ha : AscN s.names) :
    Calls Try.prog 84 #[.pointer (some ⟨g, 0, none⟩), .string name, .int .i64 id] w fun e w' => e = .returned (.tuple #[]) ∧ Mine w' base g { s with names := giveN s.names ⟨name, id⟩ } ∧ Bel g base w w' := by
  obtain ⟨N, nc, hN, hnc, hC⟩ := Kd.R_reads h.rN
  subst hN
  have HO := Aside0.mk h
  have HC := Aside0.mk hC
  have HA := Aside0.mk ha
  obtain ⟨_, _, x2, _, _, _, _, _, _, _⟩ := all5 h.blk
  obtain ⟨ln, hlnn⟩ : ∃ n, s.names.length = n := ⟨_, rfl⟩
  have LN := Aside0.mk hlnn
  rw [hlnn] at x2 hln
  clear h hC ha hlnn hnc
  go_enter Try.func84, Try.ntmps84
  go_wp2_with fail
  have hfa := find_any N nc s.names name w HC.out (by rw [LN.out]; omega) HA.out
  rw [LN.out] at hfa
  refine hfa.mono ?_
  clear hfa
  rintro e w1 ⟨⟨r, rfl, hr0, hpl⟩, hb1⟩
  have HB1 := Aside0.mk hb1
  have HO1 := Aside0.mk (HO.out.below hb1)
  have HPL := Aside0.mk hpl
  have hh := hasN_place HA.out hpl
  obtain ⟨_, _, y2, _, _, _, _, g2, _, _⟩ := all5 HO1.out.blk
  rw [LN.out] at y2
  have HY := Aside0.mk y2
  clear x2 hb1
  cases hhas : hasN s.names name with
  | true =>
    rw [hhas] at hh
    obtain ⟨y, hy⟩ : ∃ y, s.names[r.toNat]? = some y := by
      cases hq : s.names[r.toNat]? with
      | none => rw [hq] at hh; simp at hh
      | some y => exact ⟨y, rfl⟩
    rw [hy] at hh
    have hyn : y.name = name := sameB_iff.1 hh.symm
    have hrl := (List.getElem?_eq_some_iff.1 hy).1
    obtain ⟨gN, cap, hv, hbg, hcm, hrow⟩ : ∃ g cap, Value.slice N s.names.length nc = .slice (some ⟨g, 0, none⟩) (s.names.map Nm.cs).length cap ∧ base ≤ g ∧ cap ≤ 9223372036854775807 ∧ CRow 81 2 w1 g cap (s.names.map Nm.cs) := by
      rcases CR_of_RN HO1.out.rN with ⟨_, h0⟩ | h
      · rw [List.map_eq_nil_iff] at h0; rw [h0] at hrl; simp at hrl
      · exact h
    injection hv with hv1 hv2 hv3
    subst hv1 hv3
    have hry : (s.names.map Nm.cs)[r.toNat]? = some y.cs := by rw [List.getElem?_map, hy]; rfl
    have d1 : w1.cell? ⟨gN, r.toNat * 2 + 1, none⟩ = some (.int .i64 y.id) := hrow.cell r.toNat _ hry 1 (by omega)
    have f1 := hrow.froz (r.toNat * 2 + 1)
    have hput := hrow.put r.toNat 1 y.cs (.int .i64 id) hry (by omega)
    have hset : (s.names.map Nm.cs).set r.toNat (y.cs.set 1 (.int .i64 id)) = (giveN s.names ⟨name, id⟩).map Nm.cs := by
      rw [← give_there (x := ⟨name, id⟩) HA.out HPL.out hy hyn, List.map_set, ← hyn]
      rfl
    rw [hset] at hput
    have HP := Aside0.mk hput
    have hlr : r < ln := by rw [← LN.out]; omega
    have HRow := Aside0.mk hrow
    have HHas := Aside0.mk (And.intro hbg (And.intro hcm (show (giveN s.names ⟨name, id⟩).length = ln by rw [← give_there (x := ⟨name, id⟩) HA.out HPL.out hy hyn, List.length_set, LN.out])))
    clear hset hput hrow hh hy hyn hrl hry hv2 hpl hbg hcm hhas
    go_wp2
    refine bodyPost_ret (results_none rfl _ _ _) rfl ?_
    have hk1 := HO1.out
    obtain ⟨csN, hgN, _⟩ := HRow.out
    have hgg : w1.grownBy (w1.setCell ⟨gN, r.toNat * 2 + 1, none⟩ (.int .i64 id)) (some gN) := setCells_grown w1 gN (r.toNat * 2 + 1) [.int .i64 id]
    refine ⟨rfl, ⟨vF, .slice (some ⟨gN, 0, none⟩) ln nc, vS, L, ⟨?_, hk1.oF.other hgg (fun k hk q cs hq e => ?_), hk1.fs, ?_, RN_step hk1.rS (fun k hk => Below.heap_setCell _ _ _ _ (fun e => ?_)), fun k h1 h2 => ?_⟩⟩, ?_⟩
    · rw [Below.heap_setCell _ _ _ _ (type_ne hk1.blk hgN (by decide))]
      have := hk1.blk
      rw [LN.out] at this
      exact this
    · injection hk with hk
      subst hk
      rcases hq with rfl | rfl
      · exact type_ne e hgN (by decide) rfl
      · exact type_ne e hgN (by decide) rfl
    · have := RN_of_CR (base := base) (l := giveN s.names ⟨name, id⟩) (.inr ⟨gN, nc, rfl, HHas.out.1, HHas.out.2.1, HP.out⟩)
      rw [List.length_map, HHas.out.2.2] at this
      exact this
    · exact hk1.ap k (by rw [show k = gN from e]; simp [Value.ownBlock]) hk
    · exact hk1.ap k (by simpa [Value.ownBlock] using h1) h2
    · exact (bel HB1.out hbw).setB HHas.out.1 _
  | false =>
    have HG := Aside0.mk (give_absent (x := ⟨name, id⟩) HPL.out hhas)
    have hrn : r = ((r.toNat : Nat) : Int) := by omega
    have hrl := HPL.out.1
    obtain ⟨rn, hrn'⟩ : ∃ n, r.toNat = n := ⟨_, rfl⟩
    rw [hrn'] at hrn HG hrl
    have HRL := Aside0.mk hrl
    subst hrn
    clear hh hhas hpl hrn' hrl HPL hr0
    go_wp2_with fail
    have kb := blk_new w1 (Obj.cells #[.string name, .int .i64 id] 81)
    have hbA := below_alloc (Below.refl _ w1) (Obj.cells #[.string name, .int .i64 id] 81)
    have hOA := HO1.out.below hbA
    have hcall := insRN_any base (.slice N s.names.length nc) s.names ⟨name, id⟩ w1.heap.size rn _ hOA.rN (by have := HB1.out.size; have := hbA.size; omega) HRL.out (by rw [LN.out]; omega) kb (fun e => by have := (RN_block HO1.out.rN _ e).2.1; omega)
    rw [LN.out] at hcall
    refine hcall.mono ?_
    rintro e w2 ⟨A, c, rfl, hrn2, hg2, hb2⟩
    have HO2 := Aside0.mk hOA
    rw [HG.out] at hrn2
    have HR2 := Aside0.mk hrn2
    have HGB := Aside0.mk (And.intro hg2 hb2)
    have hgk : w2.heap[g]? = some (.cells #[.int .i64 s.cap, vF, .slice N ln nc, vS, .int .i64 s.next] 33 (0, 0)) := by
      have hb := hOA.blk
      rw [LN.out] at hb
      exact (hg2.block g (blk_lt hb) (fun e => by obtain ⟨_, _, cs, h3⟩ := RN_block hOA.rN g (by rw [LN.out]; exact e.symm); exact type_ne hb h3 (by decide) rfl)).trans hb
    obtain ⟨_, _, z2, _, _, _, _, f2, _, _⟩ := all5 hgk
    have HBA := Aside0.mk hbA
    clear hcall hrn2 hg2 hb2 hOA kb hbA hgk
    go_wp2
    go_end0
    have hgr : (w1.alloc (Obj.cells #[.string name, .int .i64 id] 81)).grownBy w2 (Value.slice N s.names.length nc).ownBlock := by rw [LN.out]; exact HGB.out.1
    exact ⟨rfl, ⟨vF, .slice A (ln + 1) c, vS, L, Own.setNames HO2.out hgr HR2.out (by rw [LN.out]; exact HGB.out.2)⟩, below_setNames _ HO2.out (bel (bthen HB1.out HBA.out) hbw) (by have := HB1.out.size; have := HBA.out.size; omega) hgr⟩
end Go.Proofs.Ytfakfgblaakgdaa.Files
