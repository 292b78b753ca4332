/- Rows of tables made: OfMetas, slices.Clone, the document's metas. -/
import Derived.Test.YtfakfgblaakgdaaEditD
namespace Go.Proofs.Ytfakfgblaakgdaa.Edit
set_option linter.unusedVariables false
set_option linter.unusedSimpArgs false
open Go.RowKit Go.Proofs.YtfakfgblaakgdaaW.PrintWords Go.Proofs.YtfakfgblaakgdaaW.PrintLast Go.Proofs.Ytfakfgblaakgdaa.Base Go.Proofs.Ytfakfgblaakgdaa.EditPure Go.Proofs.Ytfakfgblaakgdaa.Sets Go.Proofs.Ytfakfgblaakgdaa.Wide

theorem infoM : (Try.prog.info? 96).map (fun i => (i.zero, i.size, i.bytes)) = some (some (.agg #[(.int .i64 0), (.int .i64 0), (.int .i64 0), (.string ⟨#[]⟩), (.string ⟨#[]⟩)]), 5, 56) := by kernel_rfl
theorem infoMr : (Try.prog.info? 48).map (fun i => (i.zero, i.size, i.bytes)) = some (some (.agg #[(.int .i64 0), (.int .i64 0), (.int .i64 0), (.string ⟨#[]⟩), (.string ⟨#[]⟩)]), 5, 56) := by kernel_rfl

/-- a row of tables of one's own -/
abbrev RM (e : TypeId) (w : World) (base : Nat) (v : Value) (l : List Meta) : Prop := kMeta.R e w base (fun _ => True) v l

theorem RM_reads {e : TypeId} {w : World} {base : Nat} {v : Value} {l : List Meta} (h : RM e w base v l) : ∃ A c, v = .slice A l.length c ∧ l.length ≤ c ∧ Kd.C kMeta w A l.length l := Kd.R_reads h
theorem reps_metas (w : World) (base : Nat) (ok : Nat → Prop) : ∀ l : List Meta, Reps (kMeta.M w base ok) kMeta.sz l (l.flatMap Meta.cs) := by
  intro l
  induction l using snocInd with
  | h0 => exact Reps.none _ _
  | h1 l c ih =>
    rw [List.flatMap_append, List.flatMap_cons, List.flatMap_nil, List.append_nil]
    exact Reps.snoc ih (kMeta_mkM w base ok c) rfl
/-- a block of tables that was just made, as a row of one's own -/
theorem RM_block (e : TypeId) (w : World) (base : Nat) (l : List Meta) (cap : Nat) (hb : base ≤ w.heap.size) (hm : l.length ≤ 9223372036854775807) (hc : cap = l.length) :
    RM e (w.alloc (.cells (l.flatMap Meta.cs).toArray e)) base (.slice (some ⟨w.heap.size, 0, none⟩) l.length cap) l := by
  subst hc
  have hrep := reps_metas (w.alloc (.cells (l.flatMap Meta.cs).toArray e)) base (fun k => True ∧ some k ≠ (Value.slice (some ⟨w.heap.size, 0, none⟩) l.length l.length).ownBlock) l
  refine ⟨fun k hk => trivial, _, ?_, hrep⟩
  have h2 := World.ownsRow_lit (base := base) (e := e) (size := kMeta.sz) w (l.flatMap Meta.cs).toArray l.length hb (by simpa [maxLen] using hm) (by simpa using hrep.1)
  simpa using h2

set_option maxRecDepth 100000 in
set_option maxHeartbeats 1000000 in
theorem ofMetas_any (A : Option Addr) (c : Nat) (l : List Meta) (w : World) (hr : Kd.C kMeta w A l.length l) (hb : l.length ≤ 1048576) :
    Calls Try.prog 42 #[.slice A l.length c] w fun e w' => ∃ v, e = .returned v ∧ RM 96 w' w.heap.size v l ∧ Below w.heap.size w w' := by
  have HR := Aside0.mk hr
  clear hr
  go_enter Try.func42, Try.ntmps42
  go_wp2
  go_loopg [3, 4] l.length (fun g v3 v4 wr => ∃ i : Nat, v4 = .int .i64 i ∧ g + i = l.length ∧ Aside0 (RM 96 wr w.heap.size v3 (l.take i)) ∧ Aside0 (Below w.heap.size w wr))
  case atStart => exact ⟨0, rfl, by omega, ⟨Kd.R_nil kMeta _ _ _ _⟩, ⟨Below.refl _ _⟩⟩
  case round =>
    obtain ⟨i, rfl, hg, HO, HB⟩ := hrel
    by_cases hlt : i < l.length
    · have HC := Aside0.mk (Kd.C_below HR.out HB.out)
      obtain ⟨m, hm⟩ : ∃ m, l[i]? = some m := ⟨_, List.getElem?_eq_getElem hlt⟩
      obtain ⟨ad, rfl, c0, c1, c2, c3, c4⟩ := atMeta HC.out i m hm
      have ht : Aside0 (l.take (i + 1) = l.take i ++ [m]) := ⟨by rw [List.take_add_one, hm]; rfl⟩
      have hl : (l.take i).length = i := by rw [List.length_take]; omega
      have HL := Aside0.mk hl
      clear hm hl
      go_wp2_with (first | (at_builtin; refine Kd.R_append kMeta (w0 := w) w.heap.size rfl (.tmp 11) (.tmp 16) 39 96 (.agg #[(.int .i64 0), (.int .i64 0), (.int .i64 0), (.string ⟨#[]⟩), (.string ⟨#[]⟩)]) 56 rfl Try.underlying39 infoM rfl (by decide) (by omega) u3 (l.take i) m m.cs (fun _ => True) (fun _ => False) rfl rfl ?aP (fun _ hk => hk.elim) (fun _ _ => trivial) ?aO ?aB ?aS ?c1 ?_; (case aP => exact kMeta_mkM _ _ _ m); (case aO => exact HO.out); (case aB => exact HB.out); (case aS => exact HB.out.size); (case c1 => rw [HL.out]; omega); intro v1 w1 hown hB1 hg1 hat; have HO1 := Aside0.mk hown; have HB1 := Aside0.mk hB1; clear hown hB1 hg1 hat))
      go_roundg (l.length - (i + 1))
      case measure => omega
      case rel => exact ⟨i + 1, by go_num, by omega, ⟨by rw [ht.out]; exact HO1.out⟩, HB1⟩
    · have hi : Aside0 (l.take i = l) := ⟨List.take_of_length_le (by omega)⟩
      go_wp2
      go_ret
      exact ⟨_, rfl, by rw [← hi.out]; exact HO.out, HB.out⟩

end Go.Proofs.Ytfakfgblaakgdaa.Edit
