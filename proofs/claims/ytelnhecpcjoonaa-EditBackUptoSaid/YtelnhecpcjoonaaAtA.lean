/- slices.DeleteFunc of the tables of other levels; edit.At and the document's At: walked. -/
import Derived.Test.YtelnhecpcjoonaaApplyD
namespace Go.Proofs.Ytelnhecpcjoonaa.Edit
set_option linter.unusedVariables false
set_option linter.unusedSimpArgs false
open Go.RowKit Go.Proofs.YtelnhecpcjoonaaW.PrintWords Go.Proofs.YtelnhecpcjoonaaW.PrintLast Go.Proofs.Ytelnhecpcjoonaa.Base Go.Proofs.Ytelnhecpcjoonaa.EditPure Go.Proofs.Ytelnhecpcjoonaa.Sets Go.Proofs.Ytelnhecpcjoonaa.Wide Go.Proofs.Ytelnhecpcjoonaa.Cells

/-- the tables of a level -/
def atL (l : List Meta) (lev : Int) : List Meta := l.filter (fun x => x.level == lev)

set_option maxRecDepth 100000 in
set_option maxHeartbeats 1000000 in
theorem atFn_any (m : Meta) (lev : Int) (pa : Addr) (w : World) (hp : w.cell? pa = some (.int .i64 lev)) :
    Calls Try.prog 60 #[.agg #[.int .i64 m.id, .int .i64 m.level, .int .i64 m.count, .string m.low, .string m.high], .pointer (some pa)] w fun e w' => e = .returned (.bool (m.level != lev)) ∧ ∃ o, w' = w.alloc o := by
  have hp1 : ∀ o, (w.alloc o).cell? pa = some (.int .i64 lev) := fun o => pw_cell_below (below_alloc (Below.refl _ _) o) hp
  go_enter Try.func60, Try.ntmps60
  go_wp2
  go_ret
  exact ⟨rfl, _, rfl⟩

set_option maxRecDepth 100000 in
set_option maxHeartbeats 1000000 in
theorem indexAt_any (A : Option Addr) (c : Nat) (l : List Meta) (lev : Int) (pa : Addr) (w : World) (hr : Kd.C kMeta w A l.length l) (hb : l.length ≤ 2097152) (hp : w.cell? pa = some (.int .i64 lev)) :
    Calls Try.prog 48 #[.slice A l.length c, .func (.func 60) #[] #[.pointer (some pa)]] w fun e w' => (∃ r, e = .returned (.int .i64 r) ∧ ((r = -1 ∧ l.any (fun x => x.level != lev) = false) ∨ ∃ i m, r = ((i : Nat) : Int) ∧ l[i]? = some m ∧ m.level ≠ lev ∧ (l.take i).any (fun x => x.level != lev) = false)) ∧ Below w.heap.size w w' := by
  have HR := Aside0.mk hr
  clear hr
  go_enter Try.func48, Try.ntmps48
  go_wp2
  go_loopg [5, 8] l.length (fun g v5 v8 wr => ∃ i : Nat, v8 = .int .i64 i ∧ g + i = l.length ∧ Aside0 ((l.take i).any (fun x => x.level != lev) = false) ∧ Aside0 (Below w.heap.size w wr))
  case atStart => exact ⟨0, rfl, by omega, ⟨rfl⟩, ⟨Below.refl _ _⟩⟩
  case round =>
    obtain ⟨i, rfl, hg, HN, HB⟩ := hrel
    by_cases hlt : i < l.length
    · obtain ⟨m, hm⟩ : ∃ m, l[i]? = some m := ⟨_, List.getElem?_eq_getElem hlt⟩
      obtain ⟨ad, rfl, c0, c1, c2, c3, c4⟩ := atMeta (Kd.C_below HR.out HB.out) i m hm
      have hp1 := pw_cell_below HB.out hp
      have HM := Aside0.mk hm
      clear hm
      go_wp2_with fail
      refine (atFn_any m lev pa _ hp1).mono ?_
      rintro e w1 ⟨rfl, o, rfl⟩
      have HB1 := Aside0.mk (below_alloc HB.out o)
      clear c0 c1 c2 c3 c4 hp1
      generalize wr.alloc o = w1 at HB1 ⊢
      cases hbb : (m.level != lev) with
      | true =>
        have HE : Aside0 (m.level ≠ lev) := ⟨by simpa using hbb⟩
        clear hbb
        go_wp2
        go_ret
        exact ⟨⟨_, rfl, .inr ⟨i, m, rfl, HM.out, HE.out, HN.out⟩⟩, HB1.out⟩
      | false =>
        have HE : Aside0 ((m.level != lev) = false) := ⟨hbb⟩
        clear hbb
        go_wp2
        go_roundg (l.length - (i + 1))
        case measure => omega
        case rel => exact ⟨i + 1, by go_num, by omega, ⟨by rw [List.take_add_one, HM.out, List.any_append, HN.out]; simp [HE.out]⟩, HB1⟩
    · have hi : Aside0 (l.take i = l) := ⟨List.take_of_length_le (by omega)⟩
      go_wp2
      go_ret
      exact ⟨⟨-1, rfl, .inl ⟨rfl, by rw [← hi.out]; exact HN.out⟩⟩, HB.out⟩

/-- the cells that clear writes -/
def zc (n : Nat) : List Value := (Builtin.zeroCells (Value.agg #[(.int .i64 0), (.int .i64 0), (.int .i64 0), (.string ⟨#[]⟩), (.string ⟨#[]⟩)]).cells n).toList
theorem zc_len (n : Nat) : (zc n).length = n * 5 := by
  rw [zc, Array.length_toList, Builtin.zeroCells]
  simp [Value.cells]
theorem zc_one (n : Nat) : ∀ v ∈ zc n, v.oneCell' = true := by
  intro v hv
  rw [zc, Builtin.zeroCells] at hv
  simp [Value.cells] at hv
  obtain ⟨i, _, rfl⟩ := hv
  have h5 : i % 5 < 5 := Nat.mod_lt _ (by omega)
  generalize i % 5 = j at h5
  rcases j with _ | _ | _ | _ | _ | j
  · rfl
  · rfl
  · rfl
  · rfl
  · rfl
  · omega
theorem run_clearN (W : World) (ty : TypeId) (g o n c : Nat) (hn : 0 < n) (hc : ∀ j, j < n * 5 → (W.cell? ⟨g, o + j, none⟩).isSome = true) (hf : ∀ j, j < n * 5 → W.frozen? ⟨g, o + j, none⟩ = false) :
    (Builtin.clear_ #[47] ty #[.slice (some ⟨g, o, none⟩) n c]).run Try.prog W = .ok (.tuple #[]) (W.setCells g o (zc n)) := by
  have hv : ∀ w, (zeroValue 63).run Try.prog w = .ok (.agg #[(.int .i64 0), (.int .i64 0), (.int .i64 0), (.string ⟨#[]⟩), (.string ⟨#[]⟩)]) w := fun w => by kernel_rfl
  have hst := run_storeCells_cells (P := Try.prog) g o (zc n) 0 W (by rw [zc_len]; simpa using hc) (by rw [zc_len]; simpa using hf) (zc_one n)
  simp only [Nat.add_zero] at hst
  obtain ⟨m, rfl⟩ : ∃ m, n = m + 1 := ⟨n - 1, by omega⟩
  rw [zc] at hst ⊢
  simp [Builtin.clear_, run_underlying Try.underlying47, hv, hst]

theorem filter_all {l : List Meta} {p : Meta → Bool} (h : l.any (fun x => !p x) = false) : l.filter p = l := by
  rw [List.filter_eq_self]
  intro x hx
  rw [List.any_eq_false] at h
  simpa using h x hx

theorem grown_cell {w w1 : World} {g : Nat} {a : Addr} {v : Value} (h : w.grownBy w1 (some g)) (hne : a.block ≠ g) (hc : w.cell? a = some v) : w1.cell? a = some v := by
  have := h.block a.block (World.block_lt_of_cell? w a hc) (fun e => hne (by injection e))
  simpa [World.cell?, this] using hc

set_option maxRecDepth 100000 in
set_option maxHeartbeats 2000000 in
theorem delAt_any (g cap : Nat) (L : List Meta) (n : Nat) (lev : Int) (pa : Addr) (w : World) (hn : n = L.length) (hl : n ≤ 1048576) (hcm : cap ≤ 9223372036854775807) (h : MRow w g cap L) (hp : w.cell? pa = some (.int .i64 lev)) (hne : pa.block ≠ g) :
    Calls Try.prog 59 #[.slice (some ⟨g, 0, none⟩) n cap, .func (.func 60) #[] #[.pointer (some pa)]] w fun e w' => ∃ k : Nat, e = .returned (.slice (some ⟨g, 0, none⟩) k cap) ∧ k = (atL L lev).length ∧ MRow w' g cap (atL L lev) ∧ w.grownBy w' (some g) := by
  obtain ⟨_, _, hE, hncap, hC⟩ := RM_reads (RM_mk (base := g) (Nat.le_refl _) hcm h)
  injection hE with hE1 hE2 hE3
  subst hE1; subst hE3
  have HC := Aside0.mk hC
  have H := Aside0.mk h
  subst hn
  obtain ⟨n, hn⟩ : ∃ n, n = L.length := ⟨_, rfl⟩
  clear hC h hE2
  go_enter Try.func59, Try.ntmps59
  go_wp2_with fail
  refine (indexAt_any _ cap L lev pa _ HC.out (by omega) hp).mono ?_
  rintro e w1 ⟨⟨r, rfl, hres⟩, hb1⟩
  have HB1 := Aside0.mk hb1
  clear hb1
  rcases hres with ⟨rfl, hno⟩ | ⟨i, m, hri, him, hml, hpre⟩
  · have HF : Aside0 (atL L lev = L) := ⟨filter_all hno⟩
    clear hno
    go_wp2
    go_ret
    exact ⟨_, rfl, by rw [HF.out], by rw [HF.out]; exact H.out.keep HB1.out, grown_of_below HB1.out _⟩
  · have hil : i < L.length := (List.getElem?_eq_some_iff.1 him).1
    have HK0 : Aside0 (L.take (i + 1) = L.take i ++ [m] ∧ atL (L.take i) lev = L.take i ∧ (L.take i).length = i) := ⟨by rw [List.take_add_one, him]; rfl, filter_all hpre, by rw [List.length_take]; omega⟩
    have HML : Aside0 ((m.level == lev) = false) := ⟨by simp [hml]⟩
    have HM1 := Aside0.mk (H.out.keep HB1.out)
    have HG1 := Aside0.mk (grown_of_below HB1.out (some g))
    have hi1 : i + 1 ≤ 1048577 := by omega
    have hir : ¬ (r = -1) := by omega
    have hr1 : (0 : Int) ≤ r := by omega
    have hrb : (r == -1) = false := by simp; omega
    have hr2 : r + 1 ≤ 1048577 := by omega
    have HRI := Aside0.mk hri
    clear him hml hpre hri hi1
    go_wp2
    go_loopg [5, 6] (L.length - (i + 1)) (fun g0 v5 v6 wr => ∃ (i j : Nat) (K G : List Meta), v5 = .int .i64 i ∧ v6 = .int .i64 j ∧ g0 + j = L.length ∧ i + 1 ≤ j ∧ Aside0 (i = K.length ∧ i + G.length = j ∧ K = atL (L.take j) lev) ∧ Aside0 (MRow wr g cap (K ++ (G ++ L.drop j))) ∧ Aside0 (w.grownBy wr (some g)))
    case atStart =>
      refine ⟨i, i + 1, L.take i, [m], by rw [HRI.out], by rw [HRI.out]; go_num, by omega, by omega, ⟨HK0.out.2.2.symm, rfl, ?_⟩, ⟨?_⟩, HG1⟩
      · rw [HK0.out.1, atL, List.filter_append, List.filter_cons_of_neg (by simp [HML.out]), List.filter_nil, List.append_nil]; exact HK0.out.2.1.symm
      · have h := HM1.out
        rw [← List.append_assoc, ← HK0.out.1, List.take_append_drop]; exact h
    case round =>
      clear HK0 HM1 HG1 hir hr1 hr2 HRI hrb
      obtain ⟨i, j, K, G, rfl, rfl, hg, hij, HK, HM, HG⟩ := hrel
      by_cases hlt : j < L.length
      · obtain ⟨v, hv⟩ : ∃ v, L[j]? = some v := ⟨_, List.getElem?_eq_getElem hlt⟩
        have hdr : Aside0 (L.drop j = v :: L.drop (j + 1) ∧ L.take (j + 1) = L.take j ++ [v]) := ⟨by rw [List.drop_eq_getElem_cons hlt]; congr 1; exact Option.some.inj ((List.getElem?_eq_getElem hlt).symm.trans hv), by rw [List.take_add_one, hv]; rfl⟩
        obtain ⟨RR, hRR⟩ := named (K ++ (G ++ L.drop j))
        rw [← hRR.out] at HM
        have hgj : RR[j]? = some v := by rw [hRR.out, hdr.out.1, ← List.append_assoc]; exact get_mid (K ++ G) (L.drop (j + 1)) v j (by have := HK.out; simp; omega)
        obtain ⟨c0, c1, c2, c3, c4⟩ := HM.out.cells j v hgj
        obtain ⟨g0, G1, hGc⟩ : ∃ g0 G1, G = g0 :: G1 := by
          rcases G with _ | ⟨g0, G1⟩
          · have := HK.out.2.1; simp at this; omega
          · exact ⟨g0, G1, rfl⟩
        have HGC := Aside0.mk hGc
        have hgi : RR[i]? = some g0 := by rw [hRR.out, hGc]; exact get_mid K (G1 ++ L.drop j) g0 i HK.out.1
        have HIJ := Aside0.mk (And.intro hgi hgj)
        have hp1 := grown_cell HG.out hne hp
        have hjb : (j : Int) + 1 ≤ 1048577 := by omega
        have hib : (i : Int) + 1 ≤ 1048577 := by omega
        have hil : (i : Int) < L.length := by omega
        clear hv hgj hgi hGc
        go_wp2_with fail
        have kb := blk_new wr (Obj.cells #[.int .i64 v.id, .int .i64 v.level, .int .i64 v.count, .string v.low, .string v.high] 63)
        refine (atFn_any v lev pa _ (pw_cell_below (below_alloc (Below.refl _ _) _) hp1)).mono ?_
        rintro e w2 ⟨rfl, o, rfl⟩
        obtain ⟨b0, b1, b2, b3, b4, _, _, _, _, _⟩ := all5 (blk_alloc kb o)
        have hbb2 : Below wr.heap.size wr ((wr.alloc (Obj.cells #[.int .i64 v.id, .int .i64 v.level, .int .i64 v.count, .string v.low, .string v.high] 63)).alloc o) := below_alloc (below_alloc (Below.refl _ _) _) _
        clear c0 c1 c2 c3 c4 hp1 kb
        generalize hw2 : (wr.alloc (Obj.cells #[.int .i64 v.id, .int .i64 v.level, .int .i64 v.count, .string v.low, .string v.high] 63)).alloc o = W2 at b0 b1 b2 b3 b4 hbb2 ⊢
        have HM2 := Aside0.mk (HM.out.keep hbb2)
        have HG2 := Aside0.mk (grown_trans HG.out (grown_of_below hbb2 (some g)))
        clear hw2 hbb2
        cases hlev : (v.level == lev) with
        | false =>
          have hlev' : (v.level != lev) = true := by simp [bne, hlev]
          have HF : Aside0 (K = atL (L.take (j + 1)) lev) := ⟨by rw [hdr.out.2, atL, List.filter_append, List.filter_cons_of_neg (by simp [hlev]), List.filter_nil, List.append_nil]; exact HK.out.2.2⟩
          clear hlev b0 b1 b2 b3 b4
          rw [hlev']
          clear hlev'
          go_wp2
          go_roundg (L.length - (j + 1))
          case measure => omega
          case rel => exact ⟨i, j + 1, K, G ++ [v], rfl, by go_num, by omega, by omega, ⟨HK.out.1, by have := HK.out.2.1; simp; omega, HF.out⟩, ⟨by have := HM2.out; rw [hRR.out, hdr.out.1] at this; simpa using this⟩, HG2⟩
        | true =>
          have hlev' : (v.level != lev) = false := by simp [bne, hlev]
          have HF : Aside0 (K ++ [v] = atL (L.take (j + 1)) lev) := ⟨by rw [hdr.out.2, atL, List.filter_append, List.filter_cons_of_pos (by simpa using hlev), List.filter_nil]; congr 1; exact HK.out.2.2⟩
          obtain ⟨d0, d1, d2, d3, d4⟩ := HM2.out.cells i g0 HIJ.out.1
          have f0 := HM2.out.froz (i * 5)
          have f1 := HM2.out.froz (i * 5 + 1)
          have f2 := HM2.out.froz (i * 5 + 2)
          have f3 := HM2.out.froz (i * 5 + 3)
          have f4 := HM2.out.froz (i * 5 + 4)
          have HS := Aside0.mk (HM2.out.set i v ((List.getElem?_eq_some_iff.1 HIJ.out.1).1))
          have HS2 := Aside0.mk (grown_trans HG2.out (put5_grown W2 g (i * 5) v))
          clear hlev
          rw [hlev']
          clear hlev'
          go_wp2
          go_roundg (L.length - (j + 1))
          case measure => omega
          case rel =>
            refine ⟨i + 1, j + 1, K ++ [v], G1 ++ [v], by go_num, by go_num, by omega, by omega, ⟨by have := HK.out.1; simp; omega, by have := HK.out.2.1; rw [HGC.out] at this; simp at this ⊢; omega, HF.out⟩, ⟨?_⟩, HS2⟩
            have := HS.out
            rw [hRR.out, HGC.out, hdr.out.1, List.cons_append, set_mid K _ g0 v i HK.out.1] at this
            show MRow (put5 W2 g (i * 5) v) g cap _
            simpa using this
      · have hjn : j = L.length := by omega
        have HKK : Aside0 (i = K.length ∧ K = atL L lev) := ⟨HK.out.1, by have := HK.out.2.2; rwa [List.take_of_length_le (by omega)] at this⟩
        have hMF : MRow wr g cap (K ++ G) := by have := HM.out; rwa [List.drop_of_length_le (by omega), List.append_nil] at this
        have hKG : K.length + G.length ≤ cap := by obtain ⟨cur, h1, h2, h3, h4⟩ := hMF; simpa using h3
        have hgl := HK.out.2.1
        have hik := HK.out.1
        obtain ⟨i0, hi0, hz5⟩ := infoMx
        have hcf := cut_from (P := Try.prog) 47 63 .i64 Try.underlying47 hi0 5 hz5 (some ⟨g, 0, none⟩) L.length cap i (by omega) (by omega)
        have hct := cut_to (P := Try.prog) 47 63 .i64 Try.underlying47 hi0 (some ⟨g, 0, none⟩) L.length cap i (by omega) (by omega) hncap
        rw [Int.toNat_natCast] at hcf hct
        rw [if_neg (by omega)] at hcf
        have hadd : (Option.map (fun x : Addr => x.add (i * 5)) (some (⟨g, 0, none⟩ : Addr))) = some ⟨g, i * 5, none⟩ := by show some (Addr.add _ _) = _; rw [Addr.add_lit, Nat.zero_add]
        rw [hadd] at hcf
        have hcl : ∀ ty c, (Builtin.clear_ #[47] ty #[.slice (some ⟨g, i * 5, none⟩) (L.length - i) c]).run Try.prog wr = .ok (.tuple #[]) (wr.setCells g (i * 5) (zc (L.length - i))) :=
          fun ty c => run_clearN wr ty g _ _ c (by omega) (fun t ht => hMF.there _ (by omega)) (fun t ht => hMF.froz _)
        have HR2 : Aside0 (MRow (wr.setCells g (i * 5) (zc (L.length - i))) g cap K) := ⟨hMF.front.beyond _ _ (by omega) (by rw [zc_len]; omega)⟩
        have HG2 : Aside0 (w.grownBy (wr.setCells g (i * 5) (zc (L.length - i))) (some g)) := ⟨grown_trans HG.out (setCells_grown _ _ _ _)⟩
        clear hMF hKG hgl hik hadd
        go_wp2
        go_ret
        exact ⟨i, rfl, by rw [← HKK.out.2]; exact HKK.out.1, by rw [← HKK.out.2]; exact HR2.out, HG2.out⟩
end Go.Proofs.Ytelnhecpcjoonaa.Edit
