/- What a law's row hands in, read: the files of chapter 4 (printed by wip/gen_liftf.py). -/
import Derived.Test.YtfakfgblaakgdaaLift
import Derived.Test.YtfakfgblaakgdaaFilesPure
namespace Go.Proofs.Ytfakfgblaakgdaa.Lift
set_option linter.unusedVariables false
set_option linter.unusedSimpArgs false
open Go.ChangeShapes Go.WideShapes Go.ChangeAt Go.RowKit Go.Proofs.YtfakfgblaakgdaaW.PrintWords Go.Proofs.YtfakfgblaakgdaaW.PrintLast Go.Proofs.Ytfakfgblaakgdaa.Base Go.Proofs.Ytfakfgblaakgdaa.EditPure Go.Proofs.Ytfakfgblaakgdaa.Sets Go.Proofs.Ytfakfgblaakgdaa.Files

theorem bulk_mem {H : Type} : ∀ (l : List (DataW H)) (d : DataW H), d ∈ l → Rows.uptoBulk d ≤ Rows.uptoBulkAll l := by
  intro l
  induction l with
  | nil => intro d h; simp at h
  | cons x l ih =>
    intro d h
    rw [Rows.uptoBulkAll]
    rcases List.mem_cons.1 h with rfl | h
    · omega
    · have := ih d h; omega

set_option maxRecDepth 100000 in
theorem trod_oct {H : Type} {enc : TypeId × Value → H} {W : World} {base : Nat} {spare : Nat → Bool} {held : Bool} {fuel : Nat} {v : Value} {d : DataW H} {p : List MemPlace}
    (h : DataW.trod enc Try.prog W base spare held fuel 62 [v] = some (d, p)) : ∃ A l c, v = .slice A l.length c ∧ l.length ≤ c ∧ ReadsInt W .u8 A l.length l ∧ l.length ≤ Rows.uptoBulk d ∧ ∀ x ∈ l, 0 ≤ x ∧ x ≤ 255 := by
  cases fuel with
  | zero => simp [DataW.trod] at h
  | succ fuel =>
    rcases trod_slice Try.underlying62 h with ⟨rfl, rfl⟩ | ⟨a, len, cap, elems, rest, rfl, hlc, hcm, rfl, hm⟩
    · exact ⟨none, [], 0, rfl, Nat.le_refl _, ReadsInt.nil _ _, by simp, fun m hm => by simp at hm⟩
    · have hc : Try.prog.cellsOf 5 = 1 := by kernel_rfl
      rw [hc] at hm
      obtain ⟨e1, e2⟩ := mapM_each _ _ _ hm
      rw [List.length_range] at e1
      obtain ⟨l, hl, hq⟩ := list_of len (fun i (n : Int) => W.cell? (a.add i) = some (.int .u8 n) ∧ 0 ≤ n ∧ n ≤ 255) (fun i hi => by
        obtain ⟨y, h1, h2⟩ := e2 i i (by rw [List.getElem?_range hi])
        obtain ⟨cs, h3, h4⟩ := Option.bind_eq_some_iff.1 h1
        obtain ⟨_, h6, h7⟩ := World.cells?_some h3
        obtain ⟨v, rfl⟩ : ∃ v, cs = [v] := List.length_eq_one_iff.1 h6
        obtain ⟨d', p'⟩ := y
        obtain ⟨n, rfl, _, h5⟩ := trod_int Try.underlying5 h4
        refine ⟨n, ?_, ?_⟩
        · have := h7 0 (by omega)
          rw [add_add, Nat.mul_one] at this
          simpa using this
        · simpa [Lit.wf, IntKind.min, IntKind.max, IntKind.signed, IntKind.bits] using h5)
      subst hl
      refine ⟨some a, l, cap, rfl, hlc, ⟨rfl, by have : maxLen = 9223372036854775807 := rfl; omega, fun _ => ⟨a, rfl, fun j hj => ?_⟩⟩, ?_, fun m hm => ?_⟩
      · have hj2 : l[j]? = some (l.getD j 0) := by rw [List.getD_eq_getElem?_getD, List.getElem?_eq_getElem hj]; rfl
        exact (hq j _ hj2).1
      · rw [Rows.uptoBulk]
        have := bulk_len (elems.map (·.1))
        rw [List.length_map, e1] at this
        omega
      · obtain ⟨i, hi⟩ := List.mem_iff_getElem?.1 hm
        exact (hq i m hi).2

set_option maxRecDepth 100000 in
set_option maxHeartbeats 1000000 in
theorem trod_file {H : Type} {enc : TypeId × Value → H} {W : World} {base : Nat} {spare : Nat → Bool} {held : Bool} {fuel : Nat} {cs : List Value} {d : DataW H} {p : List MemPlace}
    (h : DataW.trod enc Try.prog W base spare held fuel 106 cs = some (d, p)) : ∃ m : Fl, kFl.K W m cs ∧ (inI64 m.id ∧ inI64 m.sync) ∧ m.data.length ≤ Rows.uptoBulk d := by
  cases fuel with
  | zero => simp [DataW.trod] at h
  | succ fuel =>
    unfold DataW.trod at h
    rw [Try.underlying106] at h
    have hc : Try.prog.cellsOf 106 = 3 := by kernel_rfl
    have hqint : Try.prog.cellsOf 3 = 1 := by kernel_rfl
    have hqoct : Try.prog.cellsOf 62 = 1 := by kernel_rfl
    simp only [hc] at h
    by_cases hl : cs.length = 3
    · rw [if_pos hl] at h
      obtain ⟨v0, v1, v2, rfl⟩ : ∃ v0 v1 v2, cs = [v0, v1, v2] := by
        rcases cs with _ | ⟨v0, _ | ⟨v1, _ | ⟨v2, _ | ⟨v3, r⟩⟩⟩⟩ <;> simp at hl
        exact ⟨v0, v1, v2, rfl⟩
      obtain ⟨xs, h1, h2⟩ := Option.map_eq_some_iff.1 h
      obtain ⟨e1, e2⟩ := mapM_each _ _ _ h1
      obtain ⟨y0, f0, g0⟩ := e2 0 _ rfl
      obtain ⟨y1, f1, g1⟩ := e2 1 _ rfl
      obtain ⟨y2, f2, g2⟩ := e2 2 _ rfl
      simp only [hqint, hqoct, List.drop_zero, List.drop_succ_cons, List.take_succ_cons, List.take_zero] at f0 f1 f2
      obtain ⟨d0, p0⟩ := y0
      obtain ⟨d1, p1⟩ := y1
      obtain ⟨d2, p2⟩ := y2
      obtain ⟨n0, rfl, rfl, w0⟩ := trod_int Try.underlying3 f0
      obtain ⟨A1, x1, c1, rfl, l1, r1, b1, o1⟩ := trod_oct f1
      obtain ⟨n2, rfl, rfl, w2⟩ := trod_int Try.underlying3 f2
      have hx : xs = [(.lit (.int .i64 n0), p0), (d1, p1), (.lit (.int .i64 n2), p2)] := by
        have e1' : xs.length = 3 := e1
        apply List.ext_getElem?
        intro i
        rcases i with _ | _ | _ | i
        · rw [g0]; rfl
        · rw [g1]; rfl
        · rw [g2]; rfl
        · rw [List.getElem?_eq_none (by omega)]; simp
      rw [hx] at h2
      have hd := (Prod.mk.inj h2).1
      subst hd
      refine ⟨⟨n0, x1, n2⟩, kFl_mk l1 r1, ⟨inI64_of_wf w0, inI64_of_wf w2⟩, ?_⟩
      simp only [Rows.uptoBulk, Rows.uptoBulkAll, List.map_cons, List.map_nil]
      omega
    · rw [if_neg hl] at h; cases h

set_option maxRecDepth 100000 in
set_option maxHeartbeats 1000000 in
theorem trod_name {H : Type} {enc : TypeId × Value → H} {W : World} {base : Nat} {spare : Nat → Bool} {held : Bool} {fuel : Nat} {cs : List Value} {d : DataW H} {p : List MemPlace}
    (h : DataW.trod enc Try.prog W base spare held fuel 120 cs = some (d, p)) : ∃ m : Nm, kNm.K W m cs ∧ inI64 m.id ∧ m.name.size ≤ Rows.uptoBulk d := by
  cases fuel with
  | zero => simp [DataW.trod] at h
  | succ fuel =>
    unfold DataW.trod at h
    rw [Try.underlying120] at h
    have hc : Try.prog.cellsOf 120 = 2 := by kernel_rfl
    have hqint : Try.prog.cellsOf 3 = 1 := by kernel_rfl
    have hqstr : Try.prog.cellsOf 9 = 1 := by kernel_rfl
    simp only [hc] at h
    by_cases hl : cs.length = 2
    · rw [if_pos hl] at h
      obtain ⟨v0, v1, rfl⟩ : ∃ v0 v1, cs = [v0, v1] := by
        rcases cs with _ | ⟨v0, _ | ⟨v1, _ | ⟨v2, r⟩⟩⟩ <;> simp at hl
        exact ⟨v0, v1, rfl⟩
      obtain ⟨xs, h1, h2⟩ := Option.map_eq_some_iff.1 h
      obtain ⟨e1, e2⟩ := mapM_each _ _ _ h1
      obtain ⟨y0, f0, g0⟩ := e2 0 _ rfl
      obtain ⟨y1, f1, g1⟩ := e2 1 _ rfl
      simp only [hqint, hqstr, List.drop_zero, List.drop_succ_cons, List.take_succ_cons, List.take_zero] at f0 f1
      obtain ⟨d0, p0⟩ := y0
      obtain ⟨d1, p1⟩ := y1
      obtain ⟨s0, rfl, rfl⟩ := trod_str Try.underlying9 f0
      obtain ⟨n1, rfl, rfl, w1⟩ := trod_int Try.underlying3 f1
      have hx : xs = [(.lit (.string s0.data.toList), p0), (.lit (.int .i64 n1), p1)] := by
        have e1' : xs.length = 2 := e1
        apply List.ext_getElem?
        intro i
        rcases i with _ | _ | i
        · rw [g0]; rfl
        · rw [g1]; rfl
        · rw [List.getElem?_eq_none (by omega)]; simp
      rw [hx] at h2
      have hd := (Prod.mk.inj h2).1
      subst hd
      refine ⟨⟨s0, n1⟩, kNm_mk W _, inI64_of_wf w1, ?_⟩
      simp only [Rows.uptoBulk, Rows.uptoBulkAll, List.map_cons, List.map_nil]
      have e1 : s0.data.toList.length = s0.size := by rw [Array.length_toList]; rfl
      omega
    · rw [if_neg hl] at h; cases h

set_option maxRecDepth 100000 in
theorem trod_files {H : Type} {enc : TypeId × Value → H} {W : World} {base : Nat} {spare : Nat → Bool} {held : Bool} {fuel : Nat} {v : Value} {d : DataW H} {p : List MemPlace}
    (h : DataW.trod enc Try.prog W base spare held fuel 22 [v] = some (d, p)) : ∃ A l c, v = .slice A l.length c ∧ l.length ≤ c ∧ kFl.C W A l.length l ∧ (∀ m ∈ l, (inI64 m.id ∧ inI64 m.sync) ∧ m.data.length ≤ Rows.uptoBulk d) ∧ l.length ≤ Rows.uptoBulk d := by
  cases fuel with
  | zero => simp [DataW.trod] at h
  | succ fuel =>
    rcases trod_slice Try.underlying22 h with ⟨rfl, rfl⟩ | ⟨a, len, cap, elems, rest, rfl, hlc, hcm, rfl, hm⟩
    · exact ⟨none, [], 0, rfl, Nat.le_refl _, Kd.C_nil kFl W, fun m hm => by simp at hm, by simp⟩
    · have hc : Try.prog.cellsOf 106 = 3 := by kernel_rfl
      rw [hc] at hm
      obtain ⟨e1, e2⟩ := mapM_each _ _ _ hm
      rw [List.length_range] at e1
      obtain ⟨l, hl, hq⟩ := list_of len (fun i (m : Fl) => ∃ cs, (∀ j u, cs[j]? = some u → W.cell? ((a.add (i * 3)).add j) = some u) ∧ kFl.K W m cs ∧ ∃ d', d' ∈ elems.map (·.1) ∧ (inI64 m.id ∧ inI64 m.sync) ∧ m.data.length ≤ Rows.uptoBulk d') (fun i hi => by
        obtain ⟨y, h1, hy⟩ := e2 i i (by rw [List.getElem?_range hi])
        obtain ⟨cs, h3, h4⟩ := Option.bind_eq_some_iff.1 h1
        obtain ⟨d', p'⟩ := y
        obtain ⟨m, hK, h6⟩ := trod_file h4
        obtain ⟨_, _, h7⟩ := World.cells?_some h3
        have h8 := kFl.K_len hK
        exact ⟨m, cs, fun j u hu => by
          have hj : j < 3 := by have := (List.getElem?_eq_some_iff.1 hu).1; rw [h8] at this; exact this
          rw [h7 j hj, hu], hK, d', List.mem_map.2 ⟨_, List.mem_of_getElem? hy, rfl⟩, h6⟩)
      subst hl
      refine ⟨some a, l, cap, rfl, hlc, ?_, fun m hm => ?_, ?_⟩
      · have hm63 : l.length ≤ 9223372036854775807 := by have : maxLen = 9223372036854775807 := rfl; omega
        exact ⟨rfl, hm63, fun _ => ⟨a, rfl, fun j p hj => by
          obtain ⟨cs, q1, q2, _⟩ := hq j p hj
          exact ⟨cs, kFl.K_len q2, q2, fun i u hu => by
            show W.cell? (a.add (j * 3 + i)) = some u
            rw [← add_add]; exact q1 i u hu⟩⟩⟩
      · obtain ⟨i, hi⟩ := List.mem_iff_getElem?.1 hm
        obtain ⟨cs, _, _, d', h1, h2⟩ := hq i m hi
        have h3 := bulk_mem (elems.map (·.1)) d' h1
        rw [Rows.uptoBulk]
        exact ⟨h2.1, by omega⟩
      · rw [Rows.uptoBulk]
        have := bulk_len (elems.map (·.1))
        rw [List.length_map, e1] at this
        omega

set_option maxRecDepth 100000 in
theorem trod_names {H : Type} {enc : TypeId × Value → H} {W : World} {base : Nat} {spare : Nat → Bool} {held : Bool} {fuel : Nat} {v : Value} {d : DataW H} {p : List MemPlace}
    (h : DataW.trod enc Try.prog W base spare held fuel 23 [v] = some (d, p)) : ∃ A l c, v = .slice A l.length c ∧ l.length ≤ c ∧ kNm.C W A l.length l ∧ (∀ m ∈ l, inI64 m.id ∧ m.name.size ≤ Rows.uptoBulk d) ∧ l.length ≤ Rows.uptoBulk d := by
  cases fuel with
  | zero => simp [DataW.trod] at h
  | succ fuel =>
    rcases trod_slice Try.underlying23 h with ⟨rfl, rfl⟩ | ⟨a, len, cap, elems, rest, rfl, hlc, hcm, rfl, hm⟩
    · exact ⟨none, [], 0, rfl, Nat.le_refl _, Kd.C_nil kNm W, fun m hm => by simp at hm, by simp⟩
    · have hc : Try.prog.cellsOf 120 = 2 := by kernel_rfl
      rw [hc] at hm
      obtain ⟨e1, e2⟩ := mapM_each _ _ _ hm
      rw [List.length_range] at e1
      obtain ⟨l, hl, hq⟩ := list_of len (fun i (m : Nm) => ∃ cs, (∀ j u, cs[j]? = some u → W.cell? ((a.add (i * 2)).add j) = some u) ∧ kNm.K W m cs ∧ ∃ d', d' ∈ elems.map (·.1) ∧ inI64 m.id ∧ m.name.size ≤ Rows.uptoBulk d') (fun i hi => by
        obtain ⟨y, h1, hy⟩ := e2 i i (by rw [List.getElem?_range hi])
        obtain ⟨cs, h3, h4⟩ := Option.bind_eq_some_iff.1 h1
        obtain ⟨d', p'⟩ := y
        obtain ⟨m, hK, h6⟩ := trod_name h4
        obtain ⟨_, _, h7⟩ := World.cells?_some h3
        have h8 := kNm.K_len hK
        exact ⟨m, cs, fun j u hu => by
          have hj : j < 2 := by have := (List.getElem?_eq_some_iff.1 hu).1; rw [h8] at this; exact this
          rw [h7 j hj, hu], hK, d', List.mem_map.2 ⟨_, List.mem_of_getElem? hy, rfl⟩, h6⟩)
      subst hl
      refine ⟨some a, l, cap, rfl, hlc, ?_, fun m hm => ?_, ?_⟩
      · have hm63 : l.length ≤ 9223372036854775807 := by have : maxLen = 9223372036854775807 := rfl; omega
        exact ⟨rfl, hm63, fun _ => ⟨a, rfl, fun j p hj => by
          obtain ⟨cs, q1, q2, _⟩ := hq j p hj
          exact ⟨cs, kNm.K_len q2, q2, fun i u hu => by
            show W.cell? (a.add (j * 2 + i)) = some u
            rw [← add_add]; exact q1 i u hu⟩⟩⟩
      · obtain ⟨i, hi⟩ := List.mem_iff_getElem?.1 hm
        obtain ⟨cs, _, _, d', h1, h2⟩ := hq i m hi
        have h3 := bulk_mem (elems.map (·.1)) d' h1
        rw [Rows.uptoBulk]
        exact ⟨h2.1, by omega⟩
      · rw [Rows.uptoBulk]
        have := bulk_len (elems.map (·.1))
        rw [List.length_map, e1] at this
        omega

set_option maxRecDepth 100000 in
set_option maxHeartbeats 1000000 in
/-- files that are handed in -/
theorem trod_state {H : Type} {enc : TypeId × Value → H} {W : World} {base : Nat} {spare : Nat → Bool} {held : Bool} {fuel : Nat} {v : Value} {d : DataW H} {p : List MemPlace} (hv : ∃ cs, v = .agg cs)
    (h : DataW.trod enc Try.prog W base spare held fuel 25 v.cells.toList = some (d, p)) : ∃ (s : St) (F N S : Option Addr) (fc nc sc : Nat), v = .agg #[.int .i64 s.cap, .slice F s.files.length fc, .slice N s.names.length nc, .slice S s.safe.length sc, .int .i64 s.next] ∧ Hd W s F fc N nc S sc ∧ Wf s ∧ (inI64 s.cap ∧ inI64 s.next ∧ ∀ f ∈ s.files, inI64 f.id ∧ inI64 f.sync) ∧ (Rows.uptoBulk d ≤ 1048576 → Small s ∧ s.files.length + s.names.length + s.safe.length ≤ 1048576) := by
  obtain ⟨ca, rfl⟩ := hv
  have hcs : (Value.agg ca).cells.toList = ca.toList := rfl
  rw [hcs] at h
  obtain ⟨cs, hcc⟩ : ∃ cs, ca.toList = cs := ⟨_, rfl⟩
  rw [hcc] at h
  cases fuel with
  | zero => simp [DataW.trod] at h
  | succ fuel =>
    unfold DataW.trod at h
    rw [Try.underlying25] at h
    have hc : Try.prog.cellsOf 25 = 5 := by kernel_rfl
    have hqfiles : Try.prog.cellsOf 22 = 1 := by kernel_rfl
    have hqint : Try.prog.cellsOf 3 = 1 := by kernel_rfl
    have hqnames : Try.prog.cellsOf 23 = 1 := by kernel_rfl
    simp only [hc] at h
    by_cases hl : cs.length = 5
    · rw [if_pos hl] at h
      obtain ⟨v0, v1, v2, v3, v4, rfl⟩ : ∃ v0 v1 v2 v3 v4, cs = [v0, v1, v2, v3, v4] := by
        rcases cs with _ | ⟨v0, _ | ⟨v1, _ | ⟨v2, _ | ⟨v3, _ | ⟨v4, _ | ⟨v5, r⟩⟩⟩⟩⟩⟩ <;> simp at hl
        exact ⟨v0, v1, v2, v3, v4, rfl⟩
      obtain ⟨xs, h1, h2⟩ := Option.map_eq_some_iff.1 h
      obtain ⟨e1, e2⟩ := mapM_each _ _ _ h1
      obtain ⟨y0, f0, g0⟩ := e2 0 _ rfl
      obtain ⟨y1, f1, g1⟩ := e2 1 _ rfl
      obtain ⟨y2, f2, g2⟩ := e2 2 _ rfl
      obtain ⟨y3, f3, g3⟩ := e2 3 _ rfl
      obtain ⟨y4, f4, g4⟩ := e2 4 _ rfl
      simp only [hqfiles, hqint, hqnames, List.drop_zero, List.drop_succ_cons, List.take_succ_cons, List.take_zero] at f0 f1 f2 f3 f4
      obtain ⟨d0, p0⟩ := y0
      obtain ⟨d1, p1⟩ := y1
      obtain ⟨d2, p2⟩ := y2
      obtain ⟨d3, p3⟩ := y3
      obtain ⟨d4, p4⟩ := y4
      obtain ⟨n0, rfl, rfl, w0⟩ := trod_int Try.underlying3 f0
      obtain ⟨A1, x1, c1, rfl, l1, r1, k1, b1⟩ := trod_files f1
      obtain ⟨A2, x2, c2, rfl, l2, r2, k2, b2⟩ := trod_names f2
      obtain ⟨A3, x3, c3, rfl, l3, r3, k3, b3⟩ := trod_names f3
      obtain ⟨n4, rfl, rfl, w4⟩ := trod_int Try.underlying3 f4
      have hx : xs = [(.lit (.int .i64 n0), p0), (d1, p1), (d2, p2), (d3, p3), (.lit (.int .i64 n4), p4)] := by
        have e1' : xs.length = 5 := e1
        apply List.ext_getElem?
        intro i
        rcases i with _ | _ | _ | _ | _ | i
        · rw [g0]; rfl
        · rw [g1]; rfl
        · rw [g2]; rfl
        · rw [g3]; rfl
        · rw [g4]; rfl
        · rw [List.getElem?_eq_none (by omega)]; simp
      rw [hx] at h2
      have hd := (Prod.mk.inj h2).1
      subst hd
      refine ⟨⟨n0, x1, x2, x3, n4⟩, A1, A2, A3, c1, c2, c3, ?_, ⟨r1, r2, r3, l1, l2, l3⟩, ⟨fun n hn => (k2 n hn).1, fun n hn => (k3 n hn).1⟩, ⟨inI64_of_wf w0, inI64_of_wf w4, fun f hf => (k1 f hf).1⟩, fun hb => ?_⟩
      · congr 1
        exact Array.toList_inj.1 hcc
      · simp only [Rows.uptoBulk, Rows.uptoBulkAll, List.map_cons, List.map_nil] at hb
        exact ⟨⟨by show x1.length ≤ _; omega, by show x2.length ≤ _; omega, by show x3.length ≤ _; omega, fun f hf => by have := (k1 f hf).2; omega⟩, by show x1.length + x2.length + x3.length ≤ _; omega⟩
    · rw [if_neg hl] at h; cases h
end Go.Proofs.Ytfakfgblaakgdaa.Lift
