/- slices.DeleteFunc of texts: walked. -/
import Derived.Test.YtfakfgblaakgdaaRowsC
import Derived.Test.YtfakfgblaakgdaaProg
import Derived.WalkKit
import Derived.WalkLawsBesides
import Derived.KernelRfl
import Derived.Deep.QuietTactic
import Derived.BigQuiet
import Derived.Deep.LoopGhost
namespace Go.Proofs.Ytfakfgblaakgdaa.StrRows
set_option linter.unusedVariables false
set_option linter.unusedSimpArgs false
open Go.RowKit Go.Proofs.YtfakfgblaakgdaaW.PrintWords Go.Proofs.YtfakfgblaakgdaaW.PrintLast Go.Proofs.Ytfakfgblaakgdaa.Base Go.Proofs.Ytfakfgblaakgdaa.Cells Go.Proofs.Ytfakfgblaakgdaa.RowsC

def encS (s : ByteArray) : List Value := [.string s]
/-- a row of texts of one's own -/
abbrev RS (w : World) (base : Nat) (v : Value) (l : List ByteArray) : Prop := Kd.string.R 9 w base (fun _ => True) v l
abbrev SRow (w : World) (g cap : Nat) (l : List ByteArray) : Prop := CRow 9 1 w g cap (l.map encS)
theorem RS_reads {w : World} {base : Nat} {v : Value} {l : List ByteArray} (h : RS w base v l) : ∃ A c, v = .slice A l.length c ∧ l.length ≤ c ∧ Kd.string.C w A l.length l := Kd.R_reads h
theorem RS_cases {w : World} {base : Nat} {v : Value} {l : List ByteArray} (h : RS w base v l) : (v = .slice none 0 0 ∧ l = []) ∨ ∃ g cap, v = .slice (some ⟨g, 0, none⟩) l.length cap ∧ base ≤ g ∧ cap ≤ 9223372036854775807 ∧ SRow w g cap l := by
  rcases R_rows (enc := encS) (fun h => h) (fun _ => rfl) h with h | ⟨g, cap, h1, h2, _, h3, h4⟩
  · exact .inl h
  · exact .inr ⟨g, cap, h1, h2, h3, h4⟩
theorem RS_mk {w : World} {base g cap : Nat} {l : List ByteArray} (hb : base ≤ g) (hcm : cap ≤ 9223372036854775807) (h : SRow w g cap l) : RS w base (.slice (some ⟨g, 0, none⟩) l.length cap) l :=
  R_of_rows (d := Kd.string) (enc := encS) (fun _ => rfl) (fun _ => rfl) hb trivial hcm h
theorem atS {w : World} {A : Option Addr} {n : Nat} {xs : List ByteArray} (h : Kd.string.C w A n xs) (i : Nat) (m : ByteArray) (hi : xs[i]? = some m) :
    ∃ ad, A = some ad ∧ w.cell? (ad.add (i * 1)) = some (.string m) := by
  have hlt : i < xs.length := (List.getElem?_eq_some_iff.1 hi).1
  have hn := Kd.C_len h
  obtain ⟨ad, c, e, _, hK, hc0⟩ := Kd.C_get h (⟨#[]⟩ : ByteArray) (i : Int) (by omega) (by omega)
  have hg : xs.getD (i : Int).toNat ⟨#[]⟩ = m := by rw [Int.toNat_natCast, List.getD_eq_getElem?_getD, hi]; rfl
  rw [hg] at hK
  rw [Int.toNat_natCast] at hc0
  obtain rfl : c = [.string m] := hK
  exact ⟨ad, e, hc0 0 _ rfl⟩
theorem SRow.at {w : World} {g cap : Nat} {l : List ByteArray} (h : SRow w g cap l) (i : Nat) (m : ByteArray) (hi : l[i]? = some m) : w.cell? ⟨g, i, none⟩ = some (.string m) := by
  have := h.cell i (encS m) (by rw [List.getElem?_map, hi]; rfl) 0 (by omega)
  rwa [Nat.mul_one, Nat.add_zero] at this
theorem SRow.setS {w : World} {g cap : Nat} {l : List ByteArray} (h : SRow w g cap l) (i : Nat) (m : ByteArray) (hi : i < l.length) : SRow (w.setCell ⟨g, i, none⟩ (.string m)) g cap (l.set i m) := by
  have := h.set i (encS m) (by simpa using hi) rfl
  rw [Nat.mul_one] at this
  show CRow _ _ _ _ _ _
  rw [List.map_set]
  exact this
theorem setCell_grown (w : World) (g o : Nat) (v : Value) : w.grownBy (w.setCell ⟨g, o, none⟩ v) (some g) := setCells_grown w g o [v]
theorem infoS : ∃ i0, Try.prog.info? 9 = some i0 ∧ i0.size = 1 := by
  have h : (Try.prog.info? 9).map (fun i => i.size) = some 1 := by kernel_rfl
  obtain ⟨i0, h1, h2⟩ := Option.map_eq_some_iff.1 h
  exact ⟨i0, h1, h2⟩
theorem infoS3 : (Try.prog.info? 9).map (fun i => (i.zero, i.size, i.bytes)) = some (some (.string ⟨#[]⟩), 1, 16) := by kernel_rfl
/-- the cells that clear writes -/
def zs (n : Nat) : List Value := (Builtin.zeroCells (Value.string ⟨#[]⟩).cells n).toList
theorem zs_len (n : Nat) : (zs n).length = n := by
  rw [zs, Array.length_toList, Builtin.zeroCells]
  simp [Value.cells]
theorem zs_one (n : Nat) : ∀ v ∈ zs n, v.oneCell' = true := by
  intro v hv
  rw [zs, Builtin.zeroCells] at hv
  simp [Value.cells] at hv
  obtain ⟨i, _, rfl⟩ := hv
  have h5 : i % 1 = 0 := Nat.mod_one _
  try rw [h5]
  rfl
theorem run_clearS (W : World) (ty : TypeId) (g o n c : Nat) (hn : 0 < n) (hc : ∀ j, j < n → (W.cell? ⟨g, o + j, none⟩).isSome = true) (hf : ∀ j, j < n → W.frozen? ⟨g, o + j, none⟩ = false) :
    (Builtin.clear_ #[35] ty #[.slice (some ⟨g, o, none⟩) n c]).run Try.prog W = .ok (.tuple #[]) (W.setCells g o (zs n)) := by
  have hv : ∀ w, (zeroValue 9).run Try.prog w = .ok (.string ⟨#[]⟩) w := fun w => by kernel_rfl
  have hst := run_storeCells_cells (P := Try.prog) g o (zs n) 0 W (by rw [zs_len]; simpa using hc) (by rw [zs_len]; simpa using hf) (zs_one n)
  simp only [Nat.add_zero] at hst
  obtain ⟨m, rfl⟩ : ∃ m, n = m + 1 := ⟨n - 1, by omega⟩
  rw [zs] at hst ⊢
  simp [Builtin.clear_, run_underlying Try.underlying35, hv, hst]
theorem filter_all {α : Type} {l : List α} {p : α → Bool} (h : l.any p = false) : l.filter (fun x => !p x) = l := by
  rw [List.filter_eq_self]
  intro x hx
  rw [List.any_eq_false] at h
  simpa using h x hx

set_option maxRecDepth 100000 in
set_option maxHeartbeats 1000000 in
theorem indexS_any (A : Option Addr) (c : Nat) (l : List ByteArray) (p : ByteArray → Bool) (caps : Array Value) (w : World) (hr : Kd.string.C w A l.length l) (hb : l.length ≤ 1048576)
    (hf : ∀ s ∈ l, ∀ W, Below w.heap.size w W → Calls Try.prog 41 (#[.string s] ++ caps) W fun e w' => e = .returned (.bool (p s)) ∧ Below W.heap.size W w') :
    Calls Try.prog 69 #[.slice A l.length c, .func (.func 41) #[] caps] w fun e w' => (∃ r, e = .returned (.int .i64 r) ∧ ((r = -1 ∧ l.any p = false) ∨ ∃ i m, r = ((i : Nat) : Int) ∧ l[i]? = some m ∧ p m = true ∧ (l.take i).any p = false)) ∧ Below w.heap.size w w' := by
  have HR := Aside0.mk hr
  have HF := Aside0.mk hf
  clear hr hf
  go_enter Try.func69, Try.ntmps69
  go_wp2
  go_loopg [5, 8] l.length (fun g v5 v8 wr => ∃ i : Nat, v8 = .int .i64 i ∧ g + i = l.length ∧ Aside0 ((l.take i).any p = false) ∧ Aside0 (Below w.heap.size w wr))
  case atStart => exact ⟨0, rfl, by omega, ⟨rfl⟩, ⟨Below.refl _ _⟩⟩
  case round =>
    obtain ⟨i, rfl, hg, HN, HB⟩ := hrel
    by_cases hlt : i < l.length
    · obtain ⟨m, hm⟩ : ∃ m, l[i]? = some m := ⟨_, List.getElem?_eq_getElem hlt⟩
      obtain ⟨ad, rfl, c0⟩ := atS (Kd.C_below HR.out HB.out) i m hm
      rw [Nat.mul_one] at c0
      have HM := Aside0.mk hm
      clear hm
      go_wp2_with fail
      refine (HF.out m (List.mem_of_getElem? HM.out) _ HB.out).mono ?_
      rintro e w1 ⟨rfl, hb1⟩
      have HB1 := Aside0.mk (bthen HB.out hb1)
      clear c0 hb1
      cases hbb : p m with
      | true =>
        have HE : Aside0 (p m = true) := ⟨hbb⟩
        clear hbb
        go_wp2
        go_ret
        exact ⟨⟨_, rfl, .inr ⟨i, m, rfl, HM.out, HE.out, HN.out⟩⟩, HB1.out⟩
      | false =>
        have HE : Aside0 (p m = false) := ⟨hbb⟩
        clear hbb
        go_wp2
        go_roundg (l.length - (i + 1))
        case measure => omega
        case rel => exact ⟨i + 1, by go_num, by omega, ⟨by rw [List.take_add_one, HM.out, List.any_append, HN.out]; simp [HE.out]⟩, HB1⟩
    · have hi : Aside0 (l.take i = l) := ⟨List.take_of_length_le (by omega)⟩
      go_wp2
      go_ret
      exact ⟨⟨-1, rfl, .inl ⟨rfl, by rw [← hi.out]; exact HN.out⟩⟩, HB.out⟩

set_option maxRecDepth 100000 in
set_option maxHeartbeats 2000000 in
theorem delS_any (g cap : Nat) (L : List ByteArray) (n : Nat) (p : ByteArray → Bool) (caps : Array Value) (w : World) (hn : n = L.length) (hl : n ≤ 1048576) (hcm : cap ≤ 9223372036854775807) (h : SRow w g cap L)
    (hf : ∀ s ∈ L, ∀ W, w.grownBy W (some g) → Calls Try.prog 41 (#[.string s] ++ caps) W fun e w' => e = .returned (.bool (p s)) ∧ Below W.heap.size W w') :
    Calls Try.prog 40 #[.slice (some ⟨g, 0, none⟩) n cap, .func (.func 41) #[] caps] w fun e w' => ∃ k : Nat, e = .returned (.slice (some ⟨g, 0, none⟩) k cap) ∧ k = (L.filter (fun x => !p x)).length ∧ SRow w' g cap (L.filter (fun x => !p x)) ∧ w.grownBy w' (some g) := by
  obtain ⟨_, _, hE, hncap, hC⟩ := RS_reads (RS_mk (base := g) (Nat.le_refl _) hcm h)
  injection hE with hE1 hE2 hE3
  subst hE1; subst hE3
  have HC := Aside0.mk hC
  have H := Aside0.mk h
  have HF0 := Aside0.mk hf
  subst hn
  obtain ⟨n, hn⟩ : ∃ n, n = L.length := ⟨_, rfl⟩
  clear hC h hE2 hf
  go_enter Try.func40, Try.ntmps40
  go_wp2_with fail
  refine (indexS_any _ cap L p caps _ HC.out (by omega) (fun s hs W hW => HF0.out s hs W (grown_of_below hW _))).mono ?_
  rintro e w1 ⟨⟨r, rfl, hres⟩, hb1⟩
  have HB1 := Aside0.mk hb1
  clear hb1
  rcases hres with ⟨rfl, hno⟩ | ⟨i, m, hri, him, hml, hpre⟩
  · have HF : Aside0 (L.filter (fun x => !p x) = L) := ⟨filter_all hno⟩
    clear hno
    go_wp2
    go_ret
    exact ⟨_, rfl, by rw [HF.out], by rw [HF.out]; exact H.out.keep HB1.out, grown_of_below HB1.out _⟩
  · have hil : i < L.length := (List.getElem?_eq_some_iff.1 him).1
    have HK0 : Aside0 (L.take (i + 1) = L.take i ++ [m] ∧ (L.take i).filter (fun x => !p x) = L.take i ∧ (L.take i).length = i) := ⟨by rw [List.take_add_one, him]; rfl, filter_all hpre, by rw [List.length_take]; omega⟩
    have HML : Aside0 (p m = true) := ⟨hml⟩
    have HM1 := Aside0.mk (H.out.keep HB1.out)
    have HG1 := Aside0.mk (grown_of_below HB1.out (some g))
    have hi1 : i + 1 ≤ 1048577 := by omega
    have hir : ¬ (r = -1) := by omega
    have hr1 : (0 : Int) ≤ r := by omega
    have hrb : (r == -1) = false := by simp; omega
    have hr2 : r + 1 ≤ 1048577 := by omega
    have HRI := Aside0.mk hri
    clear him hml hpre hri hi1
    go_wp2
    go_loopg [5, 6] (L.length - (i + 1)) (fun g0 v5 v6 wr => ∃ (i j : Nat) (K G : List ByteArray), v5 = .int .i64 i ∧ v6 = .int .i64 j ∧ g0 + j = L.length ∧ i + 1 ≤ j ∧ Aside0 (i = K.length ∧ i + G.length = j ∧ K = (L.take j).filter (fun x => !p x)) ∧ Aside0 (SRow wr g cap (K ++ (G ++ L.drop j))) ∧ Aside0 (w.grownBy wr (some g)))
    case atStart =>
      refine ⟨i, i + 1, L.take i, [m], by rw [HRI.out], by rw [HRI.out]; go_num, by omega, by omega, ⟨HK0.out.2.2.symm, rfl, ?_⟩, ⟨?_⟩, HG1⟩
      · rw [HK0.out.1, List.filter_append, List.filter_cons_of_neg (by simp [HML.out]), List.filter_nil, List.append_nil]; exact HK0.out.2.1.symm
      · have h := HM1.out
        rw [← List.append_assoc, ← HK0.out.1, List.take_append_drop]; exact h
    case round =>
      clear HK0 HM1 HG1 hir hr1 hr2 HRI hrb
      obtain ⟨i, j, K, G, rfl, rfl, hg, hij, HK, HM, HG⟩ := hrel
      by_cases hlt : j < L.length
      · obtain ⟨v, hv⟩ : ∃ v, L[j]? = some v := ⟨_, List.getElem?_eq_getElem hlt⟩
        have hdr : Aside0 (L.drop j = v :: L.drop (j + 1) ∧ L.take (j + 1) = L.take j ++ [v]) := ⟨by rw [List.drop_eq_getElem_cons hlt]; congr 1; exact Option.some.inj ((List.getElem?_eq_getElem hlt).symm.trans hv), by rw [List.take_add_one, hv]; rfl⟩
        obtain ⟨RR, hRR⟩ := named (K ++ (G ++ L.drop j))
        rw [← hRR.out] at HM
        have hgj : RR[j]? = some v := by rw [hRR.out, hdr.out.1, ← List.append_assoc]; exact get_mid (K ++ G) (L.drop (j + 1)) v j (by have := HK.out; simp; omega)
        have c0 := SRow.at HM.out j v hgj
        obtain ⟨g0, G1, hGc⟩ : ∃ g0 G1, G = g0 :: G1 := by
          rcases G with _ | ⟨g0, G1⟩
          · have := HK.out.2.1; simp at this; omega
          · exact ⟨g0, G1, rfl⟩
        have HGC := Aside0.mk hGc
        have hgi : RR[i]? = some g0 := by rw [hRR.out, hGc]; exact get_mid K (G1 ++ L.drop j) g0 i HK.out.1
        have HIJ := Aside0.mk (And.intro hgi hgj)
        have hjb : (j : Int) + 1 ≤ 1048577 := by omega
        have hib : (i : Int) + 1 ≤ 1048577 := by omega
        have hil : (i : Int) < L.length := by omega
        have hvm : v ∈ L := List.mem_of_getElem? hv
        clear hv hgj hgi hGc
        go_wp2_with fail
        refine (HF0.out v hvm _ HG.out).mono ?_
        rintro e w2 ⟨rfl, hb2⟩
        have HM2 := Aside0.mk (HM.out.keep hb2)
        have HG2 := Aside0.mk (grown_trans HG.out (grown_of_below hb2 (some g)))
        clear c0 hb2
        cases hlev : p v with
        | true =>
          have HF : Aside0 (K = (L.take (j + 1)).filter (fun x => !p x)) := ⟨by rw [hdr.out.2, List.filter_append, List.filter_cons_of_neg (by simp [hlev]), List.filter_nil, List.append_nil]; exact HK.out.2.2⟩
          clear hlev
          go_wp2
          go_roundg (L.length - (j + 1))
          case measure => omega
          case rel => exact ⟨i, j + 1, K, G ++ [v], rfl, by go_num, by omega, by omega, ⟨HK.out.1, by have := HK.out.2.1; simp; omega, HF.out⟩, ⟨by have := HM2.out; rw [hRR.out, hdr.out.1] at this; rw [List.append_assoc G [v]]; exact this⟩, HG2⟩
        | false =>
          have HF : Aside0 (K ++ [v] = (L.take (j + 1)).filter (fun x => !p x)) := ⟨by rw [hdr.out.2, List.filter_append, List.filter_cons_of_pos (by simp [hlev]), List.filter_nil]; congr 1; exact HK.out.2.2⟩
          have d0 := SRow.at HM2.out i g0 HIJ.out.1
          have f0 := CRow.froz HM2.out i
          have HS := Aside0.mk (SRow.setS HM2.out i v ((List.getElem?_eq_some_iff.1 HIJ.out.1).1))
          have HS2 := Aside0.mk (grown_trans HG2.out (setCell_grown w2 g i (.string v)))
          clear hlev
          go_wp2
          go_roundg (L.length - (j + 1))
          case measure => omega
          case rel =>
            refine ⟨i + 1, j + 1, K ++ [v], G1 ++ [v], by go_num, by go_num, by omega, by omega, ⟨by have := HK.out.1; simp; omega, by have := HK.out.2.1; rw [HGC.out] at this; simp at this ⊢; omega, HF.out⟩, ⟨?_⟩, HS2⟩
            have := HS.out
            rw [hRR.out, HGC.out, hdr.out.1, List.cons_append, set_mid K _ g0 v i HK.out.1] at this
            simpa using this
      · have hjn : j = L.length := by omega
        have HKK : Aside0 (i = K.length ∧ K = L.filter (fun x => !p x)) := ⟨HK.out.1, by have := HK.out.2.2; rwa [List.take_of_length_le (by omega)] at this⟩
        have hMF : SRow wr g cap (K ++ G) := by have := HM.out; rwa [List.drop_of_length_le (by omega), List.append_nil] at this
        have hKG : K.length + G.length ≤ cap := by have := hMF.len; simpa using this
        have hgl := HK.out.2.1
        have hik := HK.out.1
        obtain ⟨i0, hi0, hz5⟩ := infoS
        have hcf := cut_from (P := Try.prog) 35 9 .i64 Try.underlying35 hi0 1 hz5 (some ⟨g, 0, none⟩) L.length cap i (by omega) (by omega)
        have hct := cut_to (P := Try.prog) 35 9 .i64 Try.underlying35 hi0 (some ⟨g, 0, none⟩) L.length cap i (by omega) (by omega) hncap
        rw [Int.toNat_natCast] at hcf hct
        rw [if_neg (by omega)] at hcf
        have hadd : (Option.map (fun x : Addr => x.add (i * 1)) (some (⟨g, 0, none⟩ : Addr))) = some ⟨g, i, none⟩ := by show some (Addr.add _ _) = _; rw [Addr.add_lit, Nat.zero_add, Nat.mul_one]
        rw [hadd] at hcf
        have hcl : ∀ ty c, (Builtin.clear_ #[35] ty #[.slice (some ⟨g, i, none⟩) (L.length - i) c]).run Try.prog wr = .ok (.tuple #[]) (wr.setCells g i (zs (L.length - i))) :=
          fun ty c => run_clearS wr ty g _ _ c (by omega) (fun t ht => hMF.there _ (by omega)) (fun t ht => hMF.froz _)
        have hKl : SRow wr g cap K := by
          have h := hMF
          show CRow _ _ _ _ _ _
          unfold SRow at h
          rw [List.map_append] at h
          exact h.front
        have HR2 : Aside0 (SRow (wr.setCells g i (zs (L.length - i))) g cap K) := ⟨hKl.beyond _ _ (by rw [List.length_map]; omega) (by rw [zs_len]; omega)⟩
        have HG2 : Aside0 (w.grownBy (wr.setCells g i (zs (L.length - i))) (some g)) := ⟨grown_trans HG.out (setCells_grown _ _ _ _)⟩
        clear hMF hKG hgl hik hadd hKl
        go_wp2
        go_ret
        exact ⟨i, rfl, by rw [← HKK.out.2]; exact HKK.out.1, by rw [← HKK.out.2]; exact HR2.out, HG2.out⟩

set_option maxRecDepth 100000 in
set_option maxHeartbeats 1000000 in
theorem delNilS_any (c : Nat) (p : ByteArray → Bool) (caps : Array Value) (w : World) :
    Calls Try.prog 40 #[.slice none 0 c, .func (.func 41) #[] caps] w fun e w' => e = .returned (.slice none 0 c) ∧ Below w.heap.size w w' := by
  go_enter Try.func40, Try.ntmps40
  go_wp2_with fail
  refine (indexS_any none c [] p caps _ (Kd.C_nil Kd.string _) (by simp) (fun s hs => by simp at hs)).mono ?_
  rintro e w1 ⟨⟨r, rfl, hres⟩, hb1⟩
  rcases hres with ⟨rfl, hno⟩ | ⟨i, m, hri, him, hml, hpre⟩
  · clear hno
    go_wp2
    go_ret
    exact ⟨rfl, hb1⟩
  · simp at him
theorem delRS_any (base : Nat) (v : Value) (L : List ByteArray) (p : ByteArray → Bool) (caps : Array Value) (w : World) (hl : L.length ≤ 1048576) (hbw : base ≤ w.heap.size) (h : RS w base v L)
    (hf : ∀ s ∈ L, ∀ (g : Nat) W, v.ownBlock = some g → w.grownBy W (some g) → Calls Try.prog 41 (#[.string s] ++ caps) W fun e w' => e = .returned (.bool (p s)) ∧ Below W.heap.size W w') :
    Calls Try.prog 40 #[v, .func (.func 41) #[] caps] w fun e w' => ∃ v', e = .returned v' ∧ RS w' base v' (L.filter (fun x => !p x)) ∧ Below base w w' := by
  rcases RS_cases h with ⟨rfl, rfl⟩ | ⟨g, cap, rfl, hb, hcm, hm⟩
  · exact (delNilS_any 0 p caps w).mono fun e w' ⟨he, hb⟩ => ⟨_, he, Kd.R_nil _ _ _ _ _, hb.mono hbw⟩
  · exact (delS_any g cap L L.length p caps w rfl hl hcm hm (fun s hs W hW => hf s hs g W rfl hW)).mono fun e w' ⟨k, he, hk, hr, hg⟩ => ⟨_, he, by rw [hk]; exact RS_mk hb hcm hr, (Below.refl base w).grown hg (by have := hm.lt; omega) (fun k hk => by injection hk with hk; omega)⟩
end Go.Proofs.Ytfakfgblaakgdaa.StrRows
