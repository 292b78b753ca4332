/- slices.Delete of one table, walked. -/
import Derived.Test.YtelnhecpcjoonaaSortH
import Derived.Deep.RegionLaw
import Derived.Lib.SliceRun
namespace Go.Proofs.Ytelnhecpcjoonaa.Edit
set_option linter.unusedVariables false
set_option linter.unusedSimpArgs false
open Go.RowKit Go.Proofs.YtelnhecpcjoonaaW.PrintWords Go.Proofs.YtelnhecpcjoonaaW.PrintLast Go.Proofs.Ytelnhecpcjoonaa.Base Go.Proofs.Ytelnhecpcjoonaa.EditPure Go.Proofs.Ytelnhecpcjoonaa.Sets Go.Proofs.Ytelnhecpcjoonaa.Wide Go.Proofs.Ytelnhecpcjoonaa.Cells

theorem cs_one (L : List Meta) : ∀ u ∈ L.flatMap Meta.cs, u.oneCell' = true := by
  intro u hu
  obtain ⟨m, _, hm⟩ := List.mem_flatMap.1 hu
  simp [Meta.cs] at hm
  rcases hm with rfl | rfl | rfl | rfl | rfl <;> rfl
theorem setCells_grown (w : World) (g o : Nat) (vs : List Value) : w.grownBy (w.setCells g o vs) (some g) := by
  obtain ⟨h1, h2, h3, h4⟩ := setCells_same g vs o w
  exact ⟨h1, h2, h3, by rw [h4]; exact Nat.le_refl _, fun k _ hk => setCells_far vs o k (fun e => hk (by rw [e]))⟩
theorem MRow.front {w : World} {g cap : Nat} {A B : List Meta} (h : MRow w g cap (A ++ B)) : MRow w g cap A := by
  obtain ⟨cur, h1, h2, h3, h4⟩ := h
  refine ⟨cur, h1, h2, by simp at h3; omega, ?_⟩
  have h5 := congrArg (List.take (A.length * 5)) h4
  rw [List.take_take, List.flatMap_append, List.take_left' (flat_len A)] at h5
  rw [← h5]
  congr 1
  simp only [List.length_append]
  omega
theorem MRow.over {w : World} {g cap : Nat} {A C : List Meta} (h : MRow w g cap (A ++ C)) (B : List Meta) (hl : A.length + B.length ≤ cap) : MRow (w.setCells g (A.length * 5) (B.flatMap Meta.cs)) g cap (A ++ B) := by
  obtain ⟨cur, h1, h2, h3, h4⟩ := h.front
  obtain ⟨cur', e1, e2, e3⟩ := setCells_row (B.flatMap Meta.cs) (A.length * 5) w cur h1 (by rw [flat_len, h2]; omega)
  refine ⟨cur', e1, by rw [e2]; exact h2, by simpa using hl, ?_⟩
  rw [e3, List.flatMap_append, h4, List.length_append, Nat.add_mul]
  rw [List.take_append_of_le_length (by simp only [List.length_append, flat_len]; omega), List.take_of_length_le (by simp only [List.length_append, flat_len]; omega)]
theorem MRow.beyond {w : World} {g cap : Nat} {L : List Meta} (h : MRow w g cap L) (o : Nat) (vs : List Value) (ho : L.length * 5 ≤ o) (hv : o + vs.length ≤ cap * 5) : MRow (w.setCells g o vs) g cap L := by
  obtain ⟨cur, h1, h2, h3, h4⟩ := h
  obtain ⟨cur', e1, e2, e3⟩ := setCells_row vs o w cur h1 (by rw [h2]; exact hv)
  refine ⟨cur', e1, by rw [e2]; exact h2, h3, ?_⟩
  have hle : L.length * 5 ≤ (cur.toList.take o).length := by
    have hc : cur.toList.length = cap * 5 := by rw [← h2]; exact Array.length_toList
    have : L.length * 5 ≤ cap * 5 := by omega
    rw [List.length_take]; omega
  rw [e3, List.append_assoc, List.take_append_of_le_length hle, List.take_take, show min (L.length * 5) o = L.length * 5 by omega, h4]
theorem MRow.there {w : World} {g cap : Nat} {L : List Meta} (h : MRow w g cap L) (o : Nat) (ho : o < cap * 5) : (w.cell? ⟨g, o, none⟩).isSome = true := by
  obtain ⟨cur, h1, h2, h3, h4⟩ := h
  rw [blk_cell h1, Array.getElem?_eq_getElem (by omega)]
  rfl
theorem MRow.flatcell {w : World} {g cap : Nat} {A B : List Meta} (h : MRow w g cap (A ++ B)) (j : Nat) (u : Value) (hj : (B.flatMap Meta.cs)[j]? = some u) : w.cell? ⟨g, A.length * 5 + j, none⟩ = some u := by
  obtain ⟨cur, h1, h2, h3, h4⟩ := h
  have hjl : j < B.length * 5 := by have := (List.getElem?_eq_some_iff.1 hj).1; rwa [flat_len] at this
  have h5 := congrArg (fun l => l[A.length * 5 + j]?) h4
  simp only [List.flatMap_append] at h5
  rw [List.getElem?_append_right (by rw [flat_len]; omega), flat_len, Nat.add_sub_cancel_left, hj, List.getElem?_take, if_pos (by simp only [List.length_append]; omega), Array.getElem?_toList] at h5
  rw [blk_cell h1]; exact h5
theorem run_clearM (W : World) (ty : TypeId) (g o c : Nat) (hc : ∀ j, j < 5 → (W.cell? ⟨g, o + j, none⟩).isSome = true) (hf : ∀ j, j < 5 → W.frozen? ⟨g, o + j, none⟩ = false) :
    (Builtin.clear_ #[47] ty #[.slice (some ⟨g, o, none⟩) 1 c]).run Try.prog W = .ok (.tuple #[]) (W.setCells g o zMeta.cs) := by
  have hv : ∀ w, (zeroValue 63).run Try.prog w = .ok (.agg #[(.int .i64 0), (.int .i64 0), (.int .i64 0), (.string ⟨#[]⟩), (.string ⟨#[]⟩)]) w := fun w => by kernel_rfl
  have hst := run_storeCells_cells (P := Try.prog) g o zMeta.cs 0 W (by simpa [Meta.cs] using hc) (by simpa [Meta.cs] using hf) (by intro v hv'; have := cs_one [zMeta] v (by simpa using hv'); exact this)
  simp only [Nat.add_zero] at hst
  have hz : (Builtin.zeroCells (Value.agg #[(.int .i64 0), (.int .i64 0), (.int .i64 0), (.string ⟨#[]⟩), (.string ⟨#[]⟩)]).cells 1).toList = zMeta.cs := by kernel_rfl
  simp [Builtin.clear_, run_underlying Try.underlying47, hv, hz, hst]
theorem infoMx : ∃ i0, Try.prog.info? 63 = some i0 ∧ i0.size = 5 := by
  have h := infoM
  obtain ⟨i0, h1, h2⟩ := Option.map_eq_some_iff.1 h
  exact ⟨i0, h1, congrArg (fun x => x.2.1) h2⟩

set_option maxRecDepth 100000 in
set_option maxHeartbeats 1000000 in
theorem delete_any (g cap : Nat) (A B : List Meta) (m : Meta) (n i : Nat) (w : World) (hn : n = A.length + 1 + B.length) (hi : i = A.length) (hl : n ≤ 1048576) (hcm : cap ≤ 9223372036854775807) (h : MRow w g cap (A ++ m :: B)) :
    Calls Try.prog 50 #[.slice (some ⟨g, 0, none⟩) n cap, .int .i64 i, .int .i64 ((i : Int) + 1)] w fun e w' => e = .returned (.slice (some ⟨g, 0, none⟩) (i + B.length) cap) ∧ MRow w' g cap (A ++ B) ∧ w.grownBy w' (some g) := by
  obtain ⟨i0, hi0, hz1⟩ := infoMx
  have hnc : n ≤ cap := by obtain ⟨cur, h1, h2, h3, h4⟩ := h; simp at h3; omega
  have hin : i + 1 ≤ n := by omega
  have H := Aside0.mk h
  have E := Aside0.mk (And.intro hn hi)
  obtain ⟨AD, hAD, hsrc⟩ : ∃ AD : Addr, (if cap = i + 1 then some (⟨g, 0, none⟩ : Addr) else some ⟨g, (i + 1) * 5, none⟩) = some AD ∧ Aside0 (∀ t u, (B.flatMap Meta.cs)[t]? = some u → w.drew.cell? (AD.add t) = some u) := by
    by_cases hc : cap = i + 1
    · refine ⟨_, by rw [if_pos hc], ⟨fun t u hu => ?_⟩⟩
      have : B = [] := List.eq_nil_of_length_eq_zero (by omega)
      rw [this] at hu
      simp at hu
    · refine ⟨_, by rw [if_neg hc], ⟨fun t u hu => ?_⟩⟩
      have h2 : MRow w g cap ((A ++ [m]) ++ B) := by simpa using h
      have h3 := h2.flatcell t u hu
      rw [Addr.add_lit, show (i + 1) * 5 + t = (A ++ [m]).length * 5 + t by simp [hi]]
      exact h3
  have s3 : Aside0 (∀ t, t < (B.flatMap Meta.cs).length → (w.drew.cell? ⟨g, 0 + i * 5 + t, none⟩).isSome = true ∧ w.drew.frozen? ⟨g, 0 + i * 5 + t, none⟩ = false) := ⟨fun t ht => by
    rw [flat_len] at ht
    exact ⟨h.there _ (by omega), h.froz _⟩⟩
  obtain ⟨W1, hW1⟩ : ∃ W1, W1 = w.drew.setCells g (0 + i * 5) (B.flatMap Meta.cs) := ⟨_, rfl⟩
  have hr1 : MRow W1 g cap (A ++ B) := by
    rw [hW1, Nat.zero_add, hi]
    exact (h.drew).over B (by omega)
  have hg1 : w.grownBy W1 (some g) := by
    rw [hW1]
    exact grown_trans (grown_drew (grown_refl _ _)) (setCells_grown _ _ _ _)
  have hcl : ∀ ty c, (Builtin.clear_ #[47] ty #[.slice (some ⟨g, (i + B.length) * 5, none⟩) 1 c]).run Try.prog W1 = .ok (.tuple #[]) (W1.setCells g ((i + B.length) * 5) zMeta.cs) :=
    fun ty c => run_clearM W1 ty g _ c (fun j hj => hr1.there _ (by omega)) (fun j hj => hr1.froz _)
  have hr2 : Aside0 (MRow (W1.setCells g ((i + B.length) * 5) zMeta.cs) g cap (A ++ B)) := ⟨hr1.beyond _ _ (by simp [hi]) (by have : zMeta.cs.length = 5 := rfl; omega)⟩
  have hg2 : Aside0 (w.grownBy (W1.setCells g ((i + B.length) * 5) zMeta.cs) (some g)) := ⟨grown_trans hg1 (setCells_grown _ _ _ _)⟩
  have hW : Aside0 (W1 = w.drew.setCells g (0 + i * 5) (B.flatMap Meta.cs)) := ⟨hW1⟩
  have hfl : Aside0 ((B.flatMap Meta.cs).length = B.length * 5) := ⟨flat_len B⟩
  obtain ⟨bl, hbl⟩ := named B.length
  rw [← hbl.out] at hcl hr2 hg2 hfl ⊢
  have hnb : n = i + 1 + bl := by have := hbl.out; omega
  have hib : (i : Int) + 1 ≤ n := by omega
  have hcl2 : ∀ ty c, (Builtin.clear_ #[47] ty #[.slice (some ⟨g, (i + bl) * 5, none⟩) (i + 1 + bl - (i + bl)) c]).run Try.prog W1 = .ok (.tuple #[]) (W1.setCells g ((i + bl) * 5) zMeta.cs) := fun ty c => by
    rw [show i + 1 + bl - (i + bl) = 1 by omega]; exact hcl ty c
  clear hcl
  have hz0 : (0 : Int) ≤ (i : Int) + 1 := by omega
  have hz2 : (i : Int) + 1 ≤ (i : Int) + 1 + bl := by omega
  subst hnb
  have hic : i ≤ cap := by omega
  have hjc : i + 1 ≤ cap := by omega
  clear hW1 hr1 hg1 h hn hi
  go_enter Try.func50, Try.ntmps50
  go_wp2_with fail
  go_region_law (refine step_append_room rfl (.tmp 22) (.tmp 25) 47 rfl 63 i0 5 Try.underlying47 hi0 hz1 g 0 i cap (by simp [Act.eval, Act.put]) AD bl (cap - (i + 1)) (B.flatMap Meta.cs) (by simp [Act.eval, Act.put]) hfl.out hsrc.out (cs_one B) (by omega) s3.out ?_; rw [← hW.out])
  go_wp2
  go_ret
  exact ⟨rfl, hr2.out, hg2.out⟩
end Go.Proofs.Ytelnhecpcjoonaa.Edit
