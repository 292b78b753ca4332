/- manifest.Orphans$1 and manifest.Orphans: walked. -/
import Derived.Test.YtfakfgblaakgdaaFilesG
import Derived.Test.YtfakfgblaakgdaaNamesC
import Derived.Test.YtfakfgblaakgdaaEditF
namespace Go.Proofs.Ytfakfgblaakgdaa.Files
set_option linter.unusedVariables false
set_option linter.unusedSimpArgs false
open Go.RowKit Go.Maps Go.Proofs.YtfakfgblaakgdaaW.PrintWords Go.Proofs.YtfakfgblaakgdaaW.PrintLast Go.Proofs.Ytfakfgblaakgdaa.Base Go.Proofs.Ytfakfgblaakgdaa.Cells Go.Proofs.Ytfakfgblaakgdaa.Ints Go.Proofs.Ytfakfgblaakgdaa.Var Go.Proofs.Ytfakfgblaakgdaa.EditPure Go.Proofs.Ytfakfgblaakgdaa.Edit Go.Proofs.Ytfakfgblaakgdaa.Sets Go.Proofs.Ytfakfgblaakgdaa.Wide Go.Proofs.Ytfakfgblaakgdaa.StrRows Go.Proofs.Ytfakfgblaakgdaa.NamesPure Go.Proofs.Ytfakfgblaakgdaa.Names

/-- texts as keys -/
def slits (l : List ByteArray) : List Lit := l.map (fun s => Lit.string s.data.toList)
def sameB (y s : ByteArray) : Bool := y.data.toList == s.data.toList
theorem sameB_iff {y s : ByteArray} : sameB y s = true ↔ y = s := by
  unfold sameB
  rw [beq_iff_eq]
  constructor
  · intro h
    obtain ⟨⟨y⟩⟩ := y
    obtain ⟨⟨s⟩⟩ := s
    simp at h
    rw [h]
  · intro h; rw [h]
theorem any_slits (l : List ByteArray) (x : ByteArray) : ((slits l).any fun y => y.sameKey (.string x.data.toList)) = l.any (fun y => sameB y x) := by
  unfold slits
  rw [List.any_map]
  refine congrArg (fun f => l.any f) (funext fun y => ?_)
  by_cases h : y = x
  · subst h; simp [Lit.sameKey, sameB]
  · rw [show ((fun y : Lit => y.sameKey (.string x.data.toList)) ∘ fun s : ByteArray => Lit.string s.data.toList) y = (Lit.string y.data.toList).sameKey (.string x.data.toList) from rfl]
    have hn : Lit.string y.data.toList ≠ Lit.string x.data.toList := fun e => h (sameB_iff.1 (by unfold sameB; rw [beq_iff_eq]; injection e))
    rw [sameKey_ne hn]
    cases hq : sameB y x with
    | false => rfl
    | true => exact absurd (sameB_iff.1 hq) h

def sCur : ByteArray := ⟨#[67, 85, 82, 82, 69, 78, 84]⟩
def nmOpt (k id : Int) : List ByteArray := if nameE k id = 0 then [nameS k id] else []
/-- what a version needs, by name -/
def needL (id : Int) (t : List Meta) : List ByteArray := sCur :: (nmOpt 109 id ++ t.flatMap fun m => nmOpt 116 m.id)
def logAt (log : Int) (s : ByteArray) : Bool := parseOk (bytesOf s) && (parseK (bytesOf s) == 108 && decide (log ≤ parseN (bytesOf s)))
def needB (id log : Int) (t : List Meta) (s : ByteArray) : Bool := (needL id t).any (fun y => sameB y s) || logAt log s
def orphL (s : St) (id log : Int) (t : List Meta) : List ByteArray := (listL s).filter fun x => !needB id log t x

set_option maxRecDepth 100000 in
set_option maxHeartbeats 1000000 in
theorem orphFn_any (s : ByteArray) (b : Nat) (pn pl : Addr) (K : List ByteArray) (log : Int) (w : World) (hs : s.size ≤ 1048576) (hn : w.cell? pn = some (.map (some b))) (hl : w.cell? pl = some (.int .i64 log)) (hK : SetL Try.prog 9 4 w b (slits K)) :
    Calls Try.prog 41 #[.string s, .pointer (some pn), .pointer (some pl)] w fun e w' => e = .returned (.bool (K.any (fun y => sameB y s) || logAt log s)) ∧ Below w.heap.size w w' := by
  obtain ⟨q, hq⟩ := named (K.any (fun y => sameB y s) || logAt log s)
  rw [← hq.out]
  have HN := Aside0.mk hn
  have HL := Aside0.mk hl
  have HK := Aside0.mk hK
  clear hn hl hK
  go_enter Try.func41, Try.ntmps41
  go_wp2_with fail
  refine (parse_any s _).mono ?_
  obtain ⟨pk, hpk⟩ := named (parseK (bytesOf s))
  obtain ⟨pn', hpn⟩ := named (parseN (bytesOf s))
  obtain ⟨po, hpo⟩ := named (parseOk (bytesOf s))
  rw [← hpk.out, ← hpn.out, ← hpo.out]
  rintro e w1 ⟨rfl, hb1⟩
  have HB := Aside0.mk hb1
  have HLA : Aside0 (logAt log s = (po && (pk == 108 && decide (log ≤ pn')))) := ⟨by rw [logAt, hpk.out, hpn.out, hpo.out]⟩
  have n1 := (HB.out.cell (World.block_lt_of_cell? w _ HN.out)).trans HN.out
  have l1 := (HB.out.cell (World.block_lt_of_cell? w _ HL.out)).trans HL.out
  obtain ⟨kn, hkn⟩ := named (K.any fun y => sameB y s)
  have HQ : Aside0 (q = (kn || (po && (pk == 108 && decide (log ≤ pn'))))) := ⟨by rw [hq.out, HLA.out, hkn.out]⟩
  have hlk : (Instr.lookup 95 (.map (some b)) (.string s) false).run Try.prog w1 = .ok (.bool kn) w1 := by
    rw [(HK.out.below HB.out).lookup (t := 95) (Maps.string_keyed Try.underlying9) Try.underlying95 Try.underlying4 (zeroBool _) (WideMaps.keyOf_string_mk Try.underlying9 (by simp [maxLen]; omega)) trivial, any_slits, hkn.out]
  clear hb1
  go_wp2
  all_goals go_ret
  all_goals refine ⟨?_, HB.out⟩
  all_goals rw [HQ.out]
  all_goals first | (simp [*]; done) | (simp [*]; omega)

theorem names_small {files : List Fl} {l : List Nm} : ∀ n, n ≤ l.length → nmTo files l n = true → ∀ x ∈ l.take n, x.name.size ≤ 32
  | 0, _, _ => by simp
  | n + 1, hn, h => by
    rw [nmTo, Bool.and_eq_true] at h
    have hf : l[n]? = some (l[n]'(by omega)) := List.getElem?_eq_getElem (by omega)
    have hg : l.getD n zNm = l[n]'(by omega) := by rw [List.getD_eq_getElem?_getD, hf]; rfl
    rw [hg] at h
    intro x hx
    rw [List.take_add_one, hf] at hx
    rcases List.mem_append.1 hx with hx | hx
    · exact names_small n (by omega) h.1 x hx
    · rw [Option.toList_some, List.mem_singleton] at hx
      have h2 := h.2
      simp only [nmOk, mayF, Bool.and_eq_true, decide_eq_true_eq] at h2
      rw [hx]; exact h2.1.2.1
theorem listL_small {s : St} : ∀ x ∈ listL s, x.size ≤ 32 := by
  intro x hx
  unfold listL at hx
  split at hx
  · rename_i h
    obtain ⟨n, hn, rfl⟩ := List.mem_map.1 hx
    simp only [stB, Bool.and_eq_true] at h
    have := names_small s.names.length (Nat.le_refl _) h.2.2.1
    rw [List.take_length] at this
    exact this n hn
  · simp at hx
theorem listL_len {s : St} : (listL s).length ≤ s.names.length := by
  unfold listL
  split
  · simp [nmsL]
  · simp
theorem nmOpt_yes {k id : Int} (h : nameE k id = 0) : nmOpt k id = [nameS k id] := by rw [nmOpt, if_pos h]
theorem nmOpt_no {k id : Int} (h : ¬ nameE k id = 0) : nmOpt k id = [] := by rw [nmOpt, if_neg h]
theorem nmOpt_len (k id : Int) : (nmOpt k id).length ≤ 1 := by unfold nmOpt; split <;> simp
/-- the keys behind i tables -/
def keysTo (id : Int) (t : List Meta) (i : Nat) : List ByteArray := sCur :: (nmOpt 109 id ++ (t.take i).flatMap fun m => nmOpt 116 m.id)
theorem keysTo_len (id : Int) (t : List Meta) : ∀ i, (keysTo id t i).length ≤ i + 2 := by
  intro i
  have h1 : ∀ l : List Meta, (l.flatMap fun m => nmOpt 116 m.id).length ≤ l.length := by
    intro l
    induction l with
    | nil => simp
    | cons a l ih => rw [List.flatMap_cons, List.length_append, List.length_cons]; have := nmOpt_len 116 a.id; omega
  have h2 := h1 (t.take i)
  have h3 := nmOpt_len 109 id
  have h4 : (t.take i).length ≤ i := by rw [List.length_take]; omega
  rw [keysTo, List.length_cons, List.length_append]
  omega
theorem keysTo_yes {id : Int} {t : List Meta} {i : Nat} {m : Meta} (hm : t[i]? = some m) (h : nameE 116 m.id = 0) : keysTo id t (i + 1) = keysTo id t i ++ [nameS 116 m.id] := by
  rw [keysTo, keysTo, List.take_add_one, hm, Option.toList_some, List.flatMap_append, List.flatMap_singleton, nmOpt_yes h, List.cons_append, List.append_assoc]
theorem keysTo_no {id : Int} {t : List Meta} {i : Nat} {m : Meta} (hm : t[i]? = some m) (h : ¬ nameE 116 m.id = 0) : keysTo id t (i + 1) = keysTo id t i := by
  rw [keysTo, keysTo, List.take_add_one, hm, Option.toList_some, List.flatMap_append, List.flatMap_singleton, nmOpt_no h, List.append_nil]
theorem keysTo_all (id : Int) (t : List Meta) : keysTo id t t.length = needL id t := by rw [keysTo, List.take_length]; rfl
theorem nameS_small (k id : Int) : (nameS k id).size ≤ 1048576 := by
  unfold nameS
  split
  · rename_i h
    simp only [nameOk, Bool.and_eq_true, decide_eq_true_eq] at h
    have := digs_len_le 10 id.toNat (by omega)
    rw [strOfNums_size, nameL, List.length_cons, List.length_reverse]
    omega
  · decide
end Go.Proofs.Ytfakfgblaakgdaa.Files
