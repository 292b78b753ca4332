/- A part of the proof: job.Check, walked. -/
import Derived.Test.YteloamnakikbbaaDoorPkBack3
import Derived.Test.YteloamnakikbbaaDoorPkBack2
import Derived.Deep.RegionHeld3
import Derived.RangeFuncNested
import Derived.RangeFuncBound
import Derived.RangeFuncCalls
import Derived.RangeFuncLeaves

/- job.Check, walked. -/
namespace Go.Proofs.YteloamnakikbbaaDoor.Job
set_option linter.unusedVariables false
set_option linter.unusedSimpArgs false
open Go.RowKit Go.Proofs.YteloamnakikbbaaDoorW.PrintWords Go.Proofs.YteloamnakikbbaaDoorW.PrintLast Go.Proofs.YteloamnakikbbaaDoor.Base Go.Proofs.YteloamnakikbbaaDoor.Cells Go.Proofs.YteloamnakikbbaaDoor.JobPure

/-- what a world must hold for a rule to be read, and whatever comes later holds too -/
def Lasts (T : World → Prop) : Prop := ∀ w w', T w → Below w.heap.size w w' → T w'
theorem Lasts.all : Lasts fun _ => True := fun _ _ _ _ => trivial
/-- what reading a rule's text tells: its error, and a rule -/
def ParseSays (T : World → Prop) (r : ByteArray) (pe : Int) : Prop := r ≠ ⟨#[]⟩ → ∀ w, T w → Calls Tryd.prog 25 #[.string r] w fun e w' => ∃ (a b c d f : Int) (x y : Bool), e = .returned (.tuple #[.agg #[.int .u64 a, .int .u64 b, .int .u64 c, .int .u64 d, .int .u64 f, .bool x, .bool y], .int .i64 pe]) ∧ Below w.heap.size w w'

theorem tl0 {r : ByteArray} (h : r ≠ ⟨#[]⟩) : ¬ r.toList = [] ∧ r.toList.isEmpty = false := by
  have h1 : ¬ r.toList = [] := fun e => h (by
    rw [ByteArray.toList_eq] at e
    cases r with
    | mk d =>
      have : d = #[] := by simpa using e
      rw [this])
  exact ⟨h1, by simpa using h1⟩
theorem size0 {r : ByteArray} : r.size = 0 ↔ r = ⟨#[]⟩ := ByteArray.size_eq_zero_iff
set_option maxRecDepth 100000 in
set_option maxHeartbeats 1000000 in
theorem check_any {T : World → Prop} (hT : Lasts T) (pe : Int) (j : Jb) (w : World) (hw : T w) (hp : ParseSays T j.rule pe) :
    Calls Tryd.prog 11 #[.agg #[.int .i64 j.id, .string j.name, .string j.rule, .string j.payload, .int .i64 j.status, .int .i64 j.due, .int .i64 j.tries, .int .i64 j.worker, .int .i64 j.token, .int .i64 j.til]] w fun e w' => e = .returned (.int .i64 (chkE pe j)) ∧ Below w.heap.size w w' := by
  obtain ⟨id, name, rule, payload, status, due, tries, worker, token, til⟩ := j
  dsimp only at hp ⊢
  obtain ⟨r, hr⟩ := named (chkE pe ⟨id, name, rule, payload, status, due, tries, worker, token, til⟩)
  obtain ⟨A, hA⟩ := named (chkA ⟨id, name, rule, payload, status, due, tries, worker, token, til⟩)
  obtain ⟨B, hB⟩ := named (chkB ⟨id, name, rule, payload, status, due, tries, worker, token, til⟩)
  have HA : Aside0 (A = (within id 1 1099511627776 && (decide ((name.size : Int) ≤ 32) && (decide ((payload.size : Int) ≤ 200) && (within due 0 32503680000 && within tries 0 16))))) := ⟨by
    rw [hA.out, chkA, Bool.eq_iff_iff]; simp [within]; omega⟩
  have HP := Aside0.mk hp
  have HTW := Aside0.mk (And.intro hT hw)
  have HR : Aside0 (r = if (A && B && chkC pe ⟨id, name, rule, payload, status, due, tries, worker, token, til⟩) = true then 0 else 9) := ⟨by rw [hr.out, chkE, chk, hA.out, hB.out]⟩
  rw [← hr.out]
  clear hp hT hw
  go_enter Tryd.func11, Tryd.ntmps11
  go_upto_region 1 with (fail)
  obtain ⟨W, hW⟩ : ∃ W, W = w.alloc (.cells #[.int .i64 id, .string name, .string rule, .string payload, .int .i64 status, .int .i64 due, .int .i64 tries, .int .i64 worker, .int .i64 token, .int .i64 til] 35) := ⟨_, rfl⟩
  rw [← hW]
  have HJ : Aside0 (W.heap[w.heap.size]? = some (.cells #[.int .i64 id, .string name, .string rule, .string payload, .int .i64 status, .int .i64 due, .int .i64 tries, .int .i64 worker, .int .i64 token, .int .i64 til] 35 (0, 0))) := ⟨by rw [hW]; exact blk_new _ _⟩
  have HW : Aside0 (Below w.heap.size w W) := ⟨by rw [hW]; exact below_alloc (Below.refl _ _) _⟩
  clear hW
  obtain ⟨c0, c1, c2, c3, c4, c5, c6, c7, c8, c9⟩ := all10 HJ.out
  go_cut [3] (fun v3 wc => v3 = .bool A ∧ wc = W)
  case first =>
    go_wp2_with (go_at_call 22; refine (within_any _ _ _ _).mono ?_; rintro e w' ⟨rfl, rfl⟩)
    all_goals go_meet
    all_goals refine ⟨?_, rfl⟩
    all_goals rw [HA.out]
    all_goals first | (simp [*]; done) | (simp; intros; omega)
  case rest =>
    obtain ⟨rfl, rfl⟩ := hcut
    go_upto_block 0 with (fail)
    go_cut [3] (fun v3 wx => v3 = .bool (A && B) ∧ Aside0 (wx.heap[w.heap.size]? = some (.cells #[.int .i64 id, .string name, .string rule, .string payload, .int .i64 status, .int .i64 due, .int .i64 tries, .int .i64 worker, .int .i64 token, .int .i64 til] 35 (0, 0)) ∧ Below w.heap.size w wx))
    case first =>
      obtain ⟨q, hq⟩ := named (hmay worker token til)
      have HWc : Aside0 (Below wc.heap.size wc wc) := ⟨Below.refl _ _⟩
      by_cases s2 : status = 2
      · have HB : Aside0 (B = (q && decide (due = 0))) := ⟨by rw [hB.out, chkB, if_pos s2, hq.out]⟩
        have e2 : (status == 2) = true := by simpa using s2
        clear s2
        cases A with
        | true =>
          cases q with
          | true =>
            go_wp2_with (first
              | (go_at_call 23; refine (holder_any ⟨id, name, rule, payload, status, due, tries, worker, token, til⟩ _).mono ?_; rintro e w1 ⟨rfl, hb1⟩; (have HB1 := Aside0.mk hb1); clear hb1 c0 c1 c2 c3 c4 c5 c6 c7 c8 c9)
              | (go_at_call 24; refine (may_any _ _ _ _).mono ?_; rw [← hq.out]; rintro e w2 ⟨rfl, hb2⟩; (have HB2 := Aside0.mk (bthen HB1.out hb2)); obtain ⟨_, _, _, _, _, d5, _, _, _, _⟩ := all10 (blk_keep HJ.out HB2.out); clear hb2))
            all_goals go_meet
            all_goals refine ⟨?_, blk_keep HJ.out HB2.out, bthen HW.out HB2.out⟩
            all_goals rw [HB.out]
            all_goals rfl
          | false =>
            go_wp2_with (first
              | (go_at_call 23; refine (holder_any ⟨id, name, rule, payload, status, due, tries, worker, token, til⟩ _).mono ?_; rintro e w1 ⟨rfl, hb1⟩; (have HB1 := Aside0.mk hb1); clear hb1 c0 c1 c2 c3 c4 c5 c6 c7 c8 c9)
              | (go_at_call 24; refine (may_any _ _ _ _).mono ?_; rw [← hq.out]; rintro e w2 ⟨rfl, hb2⟩; (have HB2 := Aside0.mk (bthen HB1.out hb2)); obtain ⟨_, _, _, _, _, d5, _, _, _, _⟩ := all10 (blk_keep HJ.out HB2.out); clear hb2))
            all_goals go_meet
            all_goals refine ⟨?_, blk_keep HJ.out HB2.out, bthen HW.out HB2.out⟩
            all_goals rw [HB.out]
            all_goals rfl
        | false =>
          go_wp2
          go_meet
          exact ⟨rfl, HJ.out, HW.out⟩
      · have e2 : (status == 2) = false := by simpa using s2
        have n2 := Aside0.mk s2
        clear s2
        by_cases s3 : status = 3
        · have HB : Aside0 (B = (decide (rule = ⟨#[]⟩) && hnone worker token til)) := ⟨by rw [hB.out, chkB, if_neg n2.out, if_pos s3]; congr 1; rw [decide_eq_decide]; exact size0⟩
          have e3 : (status == 3) = true := by simpa using s3
          clear s3
          cases A with
          | true =>
            by_cases r0 : rule = ⟨#[]⟩
            · subst r0
              by_cases w0 : worker = 0
              · subst w0
                by_cases t0 : token = 0
                · subst t0
                  by_cases u0 : til = 0
                  · subst u0
                    go_wp2_with (go_at_call 23; refine (holder_any ⟨id, name, ⟨#[]⟩, payload, status, due, tries, 0, 0, 0⟩ _).mono ?_; rintro e w1 ⟨rfl, hb1⟩; (have HB1 := Aside0.mk hb1); clear hb1 c0 c1 c2 c3 c4 c5 c6 c7 c8 c9)
                    all_goals go_meet
                    all_goals refine ⟨?_, blk_keep HJ.out HB1.out, bthen HW.out HB1.out⟩
                    all_goals rw [HB.out]
                    all_goals rfl
                  · go_wp2_with (go_at_call 23; refine (holder_any ⟨id, name, ⟨#[]⟩, payload, status, due, tries, 0, 0, til⟩ _).mono ?_; rintro e w1 ⟨rfl, hb1⟩; (have HB1 := Aside0.mk hb1); clear hb1 c0 c1 c2 c3 c4 c5 c6 c7 c8 c9)
                    all_goals go_meet
                    all_goals refine ⟨?_, blk_keep HJ.out HB1.out, bthen HW.out HB1.out⟩
                    all_goals rw [HB.out]
                    all_goals simp [hnone, u0]
                · go_wp2_with (go_at_call 23; refine (holder_any ⟨id, name, ⟨#[]⟩, payload, status, due, tries, 0, token, til⟩ _).mono ?_; rintro e w1 ⟨rfl, hb1⟩; (have HB1 := Aside0.mk hb1); clear hb1 c0 c1 c2 c3 c4 c5 c6 c7 c8 c9)
                  all_goals go_meet
                  all_goals refine ⟨?_, blk_keep HJ.out HB1.out, bthen HW.out HB1.out⟩
                  all_goals rw [HB.out]
                  all_goals simp [hnone, t0]
              · go_wp2_with (go_at_call 23; refine (holder_any ⟨id, name, ⟨#[]⟩, payload, status, due, tries, worker, token, til⟩ _).mono ?_; rintro e w1 ⟨rfl, hb1⟩; (have HB1 := Aside0.mk hb1); clear hb1 c0 c1 c2 c3 c4 c5 c6 c7 c8 c9)
                all_goals go_meet
                all_goals refine ⟨?_, blk_keep HJ.out HB1.out, bthen HW.out HB1.out⟩
                all_goals rw [HB.out]
                all_goals simp [hnone, w0]
            · obtain ⟨r1, r2⟩ := tl0 r0
              go_wp2
              all_goals go_meet
              all_goals exact ⟨by rw [HB.out]; simp [r0], HJ.out, HW.out⟩
          | false =>
            go_wp2
            go_meet
            exact ⟨rfl, HJ.out, HW.out⟩
        · have e3 : (status == 3) = false := by simpa using s3
          have n3 := Aside0.mk s3
          clear s3
          by_cases s1 : status = 1
          · have HB : Aside0 (B = hnone worker token til) := ⟨by rw [hB.out, chkB, if_neg n2.out, if_neg n3.out, if_pos s1]⟩
            have e1 : (status == 1) = true := by simpa using s1
            clear s1
            cases A with
            | true =>
              by_cases w0 : worker = 0
              · subst w0
                by_cases t0 : token = 0
                · subst t0
                  by_cases u0 : til = 0
                  · subst u0
                    go_wp2_with (go_at_call 23; refine (holder_any ⟨id, name, rule, payload, status, due, tries, 0, 0, 0⟩ _).mono ?_; rintro e w1 ⟨rfl, hb1⟩; (have HB1 := Aside0.mk hb1); clear hb1 c0 c1 c2 c3 c4 c5 c6 c7 c8 c9)
                    all_goals go_meet
                    all_goals refine ⟨?_, blk_keep HJ.out HB1.out, bthen HW.out HB1.out⟩
                    all_goals rw [HB.out]
                    all_goals rfl
                  · go_wp2_with (go_at_call 23; refine (holder_any ⟨id, name, rule, payload, status, due, tries, 0, 0, til⟩ _).mono ?_; rintro e w1 ⟨rfl, hb1⟩; (have HB1 := Aside0.mk hb1); clear hb1 c0 c1 c2 c3 c4 c5 c6 c7 c8 c9)
                    all_goals go_meet
                    all_goals refine ⟨?_, blk_keep HJ.out HB1.out, bthen HW.out HB1.out⟩
                    all_goals rw [HB.out]
                    all_goals simp [hnone, u0]
                · go_wp2_with (go_at_call 23; refine (holder_any ⟨id, name, rule, payload, status, due, tries, 0, token, til⟩ _).mono ?_; rintro e w1 ⟨rfl, hb1⟩; (have HB1 := Aside0.mk hb1); clear hb1 c0 c1 c2 c3 c4 c5 c6 c7 c8 c9)
                  all_goals go_meet
                  all_goals refine ⟨?_, blk_keep HJ.out HB1.out, bthen HW.out HB1.out⟩
                  all_goals rw [HB.out]
                  all_goals simp [hnone, t0]
              · go_wp2_with (go_at_call 23; refine (holder_any ⟨id, name, rule, payload, status, due, tries, worker, token, til⟩ _).mono ?_; rintro e w1 ⟨rfl, hb1⟩; (have HB1 := Aside0.mk hb1); clear hb1 c0 c1 c2 c3 c4 c5 c6 c7 c8 c9)
                all_goals go_meet
                all_goals refine ⟨?_, blk_keep HJ.out HB1.out, bthen HW.out HB1.out⟩
                all_goals rw [HB.out]
                all_goals simp [hnone, w0]
            | false =>
              go_wp2
              go_meet
              exact ⟨rfl, HJ.out, HW.out⟩
          · have HB : Aside0 (B = false) := ⟨by rw [hB.out, chkB, if_neg n2.out, if_neg n3.out, if_neg s1]⟩
            have e1 : (status == 1) = false := by simpa using s1
            clear s1
            obtain rfl := HB.out
            go_wp2
            go_meet
            exact ⟨by rw [Bool.and_false], HJ.out, HW.out⟩
    case rest =>
      obtain ⟨rfl, HK⟩ := hcut
      obtain ⟨A', hA'⟩ := named (A && B)
      rw [← hA'.out] at HR ⊢
      have HK1 := Aside0.mk HK.out.1
      have HK2 := Aside0.mk HK.out.2
      clear HK c0 c1 c2 c3 c4 c5 c6 c7 c8 c9 HJ HW HA
      obtain ⟨c0, c1, c2, c3, c4, c5, c6, c7, c8, c9⟩ := all10 HK1.out
      by_cases r0 : rule = ⟨#[]⟩
      · have HC : Aside0 (r = if A' = true then 0 else 9) := ⟨by
          rw [HR.out]
          have : chkC pe ⟨id, name, rule, payload, status, due, tries, worker, token, til⟩ = true := by rw [chkC]; simp only [decide_eq_true (size0.2 r0), Bool.true_or]
          rw [this, Bool.and_true]⟩
        subst r0
        cases A' with
        | true =>
          have HC1 : Aside0 (r = 0) := ⟨by rw [HC.out]; rfl⟩
          obtain rfl := HC1.out
          go_wp2
          go_ret
          exact ⟨rfl, HK2.out⟩
        | false =>
          have HC1 : Aside0 (r = 9) := ⟨by rw [HC.out]; rfl⟩
          obtain rfl := HC1.out
          go_wp2
          go_ret
          exact ⟨rfl, HK2.out⟩
      · obtain ⟨r1, r2⟩ := tl0 r0
        cases A' with
        | true =>
          have HC : Aside0 (r = if (pe == 0 && decide (rule.size ≤ 200)) = true then 0 else 9) := ⟨by
            rw [HR.out, Bool.true_and, chkC]
            have : decide (rule.size = 0) = false := decide_eq_false (fun h => r0 (size0.1 h))
            rw [this, Bool.false_or]⟩
          have HPr := Aside0.mk (HP.out r0)
          by_cases p0 : pe = 0
          · subst p0
            by_cases l0 : rule.size ≤ 200
            · have HC1 : Aside0 (r = 0) := ⟨by rw [HC.out]; simp [l0]⟩
              obtain rfl := HC1.out
              have hl : decide ((rule.size : Int) ≤ 200) = true := decide_eq_true (by omega)
              go_wp2_with (go_at_call 25; refine (HPr.out _ (HTW.out.1 _ _ HTW.out.2 HK2.out)).mono ?_; rintro e w1 ⟨p1, p2, p3, p4, p5, p6, p7, rfl, hb1⟩; (have HB1 := Aside0.mk hb1); obtain ⟨_, _, d2, _, _, _, _, _, _, _⟩ := all10 (blk_keep HK1.out hb1); (have hlt := blk_lt (blk_keep HK1.out hb1)); clear hb1 c0 c1 c2 c3 c4 c5 c6 c7 c8 c9)
              go_ret
              exact ⟨rfl, below_alloc (bthen HK2.out HB1.out) _⟩
            · have HC1 : Aside0 (r = 9) := ⟨by rw [HC.out]; simp [l0]⟩
              obtain rfl := HC1.out
              have hl : decide ((rule.size : Int) ≤ 200) = false := decide_eq_false (by omega)
              go_wp2_with (go_at_call 25; refine (HPr.out _ (HTW.out.1 _ _ HTW.out.2 HK2.out)).mono ?_; rintro e w1 ⟨p1, p2, p3, p4, p5, p6, p7, rfl, hb1⟩; (have HB1 := Aside0.mk hb1); obtain ⟨_, _, d2, _, _, _, _, _, _, _⟩ := all10 (blk_keep HK1.out hb1); (have hlt := blk_lt (blk_keep HK1.out hb1)); clear hb1 c0 c1 c2 c3 c4 c5 c6 c7 c8 c9)
              go_ret
              exact ⟨rfl, below_alloc (bthen HK2.out HB1.out) _⟩
          · have HC1 : Aside0 (r = 9) := ⟨by rw [HC.out]; simp [p0]⟩
            obtain rfl := HC1.out
            go_wp2_with (go_at_call 25; refine (HPr.out _ (HTW.out.1 _ _ HTW.out.2 HK2.out)).mono ?_; rintro e w1 ⟨p1, p2, p3, p4, p5, p6, p7, rfl, hb1⟩; (have HB1 := Aside0.mk hb1); obtain ⟨_, _, d2, _, _, _, _, _, _, _⟩ := all10 (blk_keep HK1.out hb1); (have hlt := blk_lt (blk_keep HK1.out hb1)); clear hb1 c0 c1 c2 c3 c4 c5 c6 c7 c8 c9)
            go_ret
            exact ⟨rfl, below_alloc (bthen HK2.out HB1.out) _⟩
        | false =>
          have HC1 : Aside0 (r = 9) := ⟨by rw [HR.out, Bool.false_and]; decide⟩
          obtain rfl := HC1.out
          go_wp2
          go_ret
          exact ⟨rfl, HK2.out⟩
end Go.Proofs.YteloamnakikbbaaDoor.Job

/- backoff.Due, job.Lease, again: walked. -/
namespace Go.Proofs.YteloamnakikbbaaDoor.Job
set_option linter.unusedVariables false
set_option linter.unusedSimpArgs false
open Go.RowKit Go.Proofs.YteloamnakikbbaaDoorW.PrintWords Go.Proofs.YteloamnakikbbaaDoorW.PrintLast Go.Proofs.YteloamnakikbbaaDoor.Base Go.Proofs.YteloamnakikbbaaDoor.Cells Go.Proofs.YteloamnakikbbaaDoor.JobPure

theorem results_ct {P : Program} {fn : Func} {p t2 : Tmp} {ty : TypeId} (h : fn.results = #[.cell p ty, .tmp t2]) (tmps : Array Value) (w : World) (g : Nat) (t : TypeId) (cs : Array Value) (fr : Nat × Nat) (d : TypeDesc)
    (hp : tmps.getD p undef = .pointer (some ⟨g, 0, none⟩)) (hg : w.heap[g]? = some (.cells cs t fr))
    (hu : P.underlying ty = some d) (hd : (match d with | .struct _ | .array _ _ => true | _ => false) = true) (hi : (P.info? ty).map (·.size) = some cs.size) :
    (results fn tmps).run P w = .ok (.tuple #[.agg cs, tmps.getD t2 undef]) w := by
  have hp' : tmps[p]?.getD undef = .pointer (some ⟨g, 0, none⟩) := by simpa using hp
  simp [results, h, hp', asAddr, run_loadVar_row w g t ty cs fr d hg hu hd hi]

def dueE (b c now : Int) (k : Nat) : Int := if now + delayP b c k < 32503680000 then 0 else 4
def dueV (b c now : Int) (k : Nat) : Int := if now + delayP b c k < 32503680000 then now + delayP b c k else 0
set_option maxRecDepth 100000 in
theorem due_any (b c t now : Int) (k : Nat) (w : World) (hl : limOk b c t = true) (hk : k ≤ 64) (n0 : 0 ≤ now) (n1 : now < 32503680000) :
    Calls Tryd.prog 33 #[.agg #[.int .i64 b, .int .i64 c, .int .i64 t], .int .i64 now, .int .i64 k] w fun e w' => e = .returned (.tuple #[.int .i64 (dueV b c now k), .int .i64 (dueE b c now k)]) ∧ Below w.heap.size w w' := by
  obtain ⟨b1, b2, bc, c2, t1, t2⟩ := limOk_iff.1 hl
  have hL := Aside0.mk hl
  clear hl
  obtain ⟨d, hd⟩ := named (delayP b c k)
  have hdb : 1 ≤ d ∧ d ≤ c := by rw [hd.out]; exact delay_bd k b1 (by omega)
  obtain ⟨d1, d2⟩ := hdb
  rw [dueV, dueE, ← hd.out]
  by_cases hx : now + d < 32503680000
  · rw [if_pos hx, if_pos hx]
    go_enter Tryd.func33, Tryd.ntmps33
    go_wp2_with (go_at_call 47; refine (delay_any _ _ _ _ _ hL.out hk).mono ?_; rw [← hd.out]; rintro e w1 ⟨rfl, hb1⟩; (have HB1 := Aside0.mk hb1); clear hb1)
    go_ret2
    exact ⟨rfl, bthen (below_alloc (Below.refl _ _) _) HB1.out⟩
  · rw [if_neg hx, if_neg hx]
    go_enter Tryd.func33, Tryd.ntmps33
    go_wp2_with (go_at_call 47; refine (delay_any _ _ _ _ _ hL.out hk).mono ?_; rw [← hd.out]; rintro e w1 ⟨rfl, hb1⟩; (have HB1 := Aside0.mk hb1); clear hb1)
    go_ret2
    exact ⟨rfl, bthen (below_alloc (Below.refl _ _) _) HB1.out⟩

/-- what a rule's text means: pe what reading it tells, nx when it comes next -/
def CronSays (T : World → Prop) (r : ByteArray) (pe : Int) (nx : Int → Int × Bool) : Prop := r ≠ ⟨#[]⟩ → ∃ (a b c d f : Int) (x y : Bool),
  (∀ w, T w → Calls Tryd.prog 25 #[.string r] w fun e w' => e = .returned (.tuple #[.agg #[.int .u64 a, .int .u64 b, .int .u64 c, .int .u64 d, .int .u64 f, .bool x, .bool y], .int .i64 pe]) ∧ Below w.heap.size w w') ∧
  (pe = 0 → ∀ (now : Int) w, T w → 0 ≤ now → now < 32503680000 → Calls Tryd.prog 46 #[.agg #[.int .u64 a, .int .u64 b, .int .u64 c, .int .u64 d, .int .u64 f, .bool x, .bool y], .int .i64 now] w fun e w' => ∃ ne, e = .returned (.tuple #[.int .i64 (nx now).1, .bool (nx now).2, .int .i64 ne]) ∧ Below w.heap.size w w')
theorem CronSays.parse {T : World → Prop} {r : ByteArray} {pe : Int} {nx : Int → Int × Bool} (h : CronSays T r pe nx) : ParseSays T r pe := fun hr w hw => by
  obtain ⟨a, b, c, d, f, x, y, h1, _⟩ := h hr
  exact (h1 w hw).mono fun e w' ⟨he, hb⟩ => ⟨a, b, c, d, f, x, y, he, hb⟩
theorem CronSays.none (T : World → Prop) (pe : Int) (nx : Int → Int × Bool) : CronSays T ⟨#[]⟩ pe nx := fun h => absurd rfl h

set_option maxRecDepth 100000 in
set_option maxHeartbeats 1000000 in
theorem lease_any {T : World → Prop} (hT : Lasts T) (pe : Int) (j : Jb) (a b c : Int) (w : World) (hw : T w) (hp : ParseSays T j.rule pe) :
    Calls Tryd.prog 16 #[.agg #[.int .i64 j.id, .string j.name, .string j.rule, .string j.payload, .int .i64 j.status, .int .i64 j.due, .int .i64 j.tries, .int .i64 j.worker, .int .i64 j.token, .int .i64 j.til], .int .i64 a, .int .i64 b, .int .i64 c] w fun e w' => e = .returned (.tuple #[.agg (jc (leaseJ pe j a b c)), .int .i64 (leaseE pe j a b c)]) ∧ Below w.heap.size w w' := by
  have HP := Aside0.mk hp
  have HTW := Aside0.mk (And.intro hT hw)
  clear hT hw
  obtain ⟨LJ, hLJ⟩ := named (jc (leaseJ pe j a b c))
  obtain ⟨LE, hLE⟩ := named (leaseE pe j a b c)
  rw [← hLJ.out, ← hLE.out]
  obtain ⟨q, hq⟩ := named (hmay a b c)
  cases hk : chk pe j with
  | false =>
    have HE : Aside0 (chkE pe j = 9 ∧ LE = 9 ∧ LJ = jc JobPure.j0) := ⟨by
      have h1 : leaseE pe j a b c = 9 := by rw [leaseE, hk]; rfl
      exact ⟨by rw [chkE, hk]; rfl, by rw [hLE.out, h1], by rw [hLJ.out, leaseJ, h1]; rfl⟩⟩
    clear hp hk
    obtain ⟨hce, rfl, rfl⟩ := HE.out
    have HCE := Aside0.mk hce
    clear hce
    go_enter Tryd.func16, Tryd.ntmps16
    go_wp2_with (go_at_call 11; refine (check_any HTW.out.1 pe j _ (HTW.out.1 _ _ HTW.out.2 (below_alloc (below_alloc (Below.refl _ w) _) _)) HP.out).mono ?_; rw [HCE.out]; rintro e w1 ⟨rfl, hb1⟩; (have HB1 := Aside0.mk (bthen (below_alloc (below_alloc (Below.refl _ w) _) _) hb1)); (have HBK := Aside0.mk (blk_keep (blk_new1 _ _ _ _) hb1)); (have HBJ := Aside0.mk (blk_keep (blk_alloc (blk_new _ _) _) hb1)); (have hlt := blk_lt HBK.out); (have hlt0 := blk_lt HBJ.out); obtain ⟨k0, k1, k2, k3, k4, k5, k6, k7, k8, k9⟩ := all10 HBK.out; obtain ⟨f0, f1, f2, f3, f4, f5, f6, f7, f8, f9⟩ := frz10 HBK.out; obtain ⟨j0, j1, j2, j3, j4, j5, j6, j7, j8, j9⟩ := all10 HBJ.out; clear hb1)
    refine bodyPost_ret (results_ct rfl _ _ (w.heap.size + 1) 35 #[.int .i64 0, .string ⟨#[]⟩, .string ⟨#[]⟩, .string ⟨#[]⟩, .int .i64 0, .int .i64 0, .int .i64 0, .int .i64 0, .int .i64 0, .int .i64 0] (0, 0) _ rfl (blk10 HBK.out) Tryd.underlying35 rfl (by kernel_rfl)) rfl ?_
    exact ⟨rfl, below_set10 HB1.out (Nat.le_succ _) _ _ _ _ _ _ _ _ _ _⟩
  | true =>
    have HCE : Aside0 (chkE pe j = 0) := ⟨by rw [chkE, hk]; rfl⟩
    by_cases hs : j.status = 1
    · have e1 : (j.status != 1) = false := by simpa using hs
      cases q with
      | true =>
        have HQ : Aside0 (hmay a b c = true) := ⟨hq.out.symm⟩
        have HE : Aside0 (LE = 0 ∧ LJ = jc (holdJ j 2 0 a b c)) := ⟨by
          have h1 : leaseE pe j a b c = 0 := by rw [leaseE, hk, hs, HQ.out]; rfl
          exact ⟨by rw [hLE.out, h1], by rw [hLJ.out, leaseJ, h1]; rfl⟩⟩
        clear hp hk hs
        obtain ⟨rfl, rfl⟩ := HE.out
        go_enter Tryd.func16, Tryd.ntmps16
        go_wp2_with (first
          | (go_at_call 11; refine (check_any HTW.out.1 pe j _ (HTW.out.1 _ _ HTW.out.2 (below_alloc (below_alloc (Below.refl _ w) _) _)) HP.out).mono ?_; rw [HCE.out]; rintro e w1 ⟨rfl, hb1⟩; (have HB1 := Aside0.mk (bthen (below_alloc (below_alloc (Below.refl _ w) _) _) hb1)); (have HBK := Aside0.mk (blk_keep (blk_new1 _ _ _ _) hb1)); (have HBJ := Aside0.mk (blk_keep (blk_alloc (blk_new _ _) _) hb1)); (have hlt := blk_lt HBK.out); (have hlt0 := blk_lt HBJ.out); obtain ⟨k0, k1, k2, k3, k4, k5, k6, k7, k8, k9⟩ := all10 HBK.out; obtain ⟨f0, f1, f2, f3, f4, f5, f6, f7, f8, f9⟩ := frz10 HBK.out; obtain ⟨j0, j1, j2, j3, j4, j5, j6, j7, j8, j9⟩ := all10 HBJ.out; clear hb1)
          | (go_at_call 24; refine (may_any _ _ _ _).mono ?_; rw [HQ.out]; rintro e w2 ⟨rfl, hb2⟩; (have HB2 := Aside0.mk (bthen (below_alloc HB1.out _) hb2)); (have HBK2 := Aside0.mk (blk_keep (blk_alloc HBK.out _) hb2)); (have HBJ2 := Aside0.mk (blk_keep (blk_alloc HBJ.out _) hb2)); (have HBH2 := Aside0.mk (blk_keep (blk_new _ _) hb2)); (have hlt2 := blk_lt HBK2.out); (have hlt3 := blk_lt HBJ2.out); (have hlt4 := blk_lt HBH2.out); clear k0 k1 k2 k3 k4 k5 k6 k7 k8 k9 f0 f1 f2 f3 f4 f5 f6 f7 f8 f9 j0 j1 j2 j3 j4 j5 j6 j7 j8 j9; obtain ⟨k0, k1, k2, k3, k4, k5, k6, k7, k8, k9⟩ := all10 HBK2.out; obtain ⟨f0, f1, f2, f3, f4, f5, f6, f7, f8, f9⟩ := frz10 HBK2.out; obtain ⟨j0, j1, j2, j3, j4, j5, j6, j7, j8, j9⟩ := all10 HBJ2.out; obtain ⟨h0, h1, h2, _, _, _⟩ := all3 HBH2.out; clear hb2)
          | (go_at_call 34; refine (hold_any j 2 0 a b c _).mono ?_; rintro e w3 ⟨rfl, hb3⟩; (have HB3 := Aside0.mk (bthen HB2.out hb3)); (have HBK3 := Aside0.mk (blk_keep HBK2.out hb3)); clear k0 k1 k2 k3 k4 k5 k6 k7 k8 k9 f0 f1 f2 f3 f4 f5 f6 f7 f8 f9 j0 j1 j2 j3 j4 j5 j6 j7 j8 j9 h0 h1 h2; obtain ⟨k0, k1, k2, k3, k4, k5, k6, k7, k8, k9⟩ := all10 HBK3.out; obtain ⟨f0, f1, f2, f3, f4, f5, f6, f7, f8, f9⟩ := frz10 HBK3.out; clear hb3))
        refine bodyPost_ret (results_ct rfl _ _ (w.heap.size + 1) 35 #[.int .i64 j.id, .string j.name, .string j.rule, .string j.payload, .int .i64 2, .int .i64 0, .int .i64 j.tries, .int .i64 a, .int .i64 b, .int .i64 c] (0, 0) _ rfl (blk10 HBK3.out) Tryd.underlying35 rfl (by kernel_rfl)) rfl ?_
        exact ⟨rfl, below_set10 HB3.out (Nat.le_succ _) _ _ _ _ _ _ _ _ _ _⟩
      | false =>
        have HQ : Aside0 (hmay a b c = false) := ⟨hq.out.symm⟩
        have HE : Aside0 (LE = 4 ∧ LJ = jc JobPure.j0) := ⟨by
          have h1 : leaseE pe j a b c = 4 := by rw [leaseE, hk, hs, HQ.out]; rfl
          exact ⟨by rw [hLE.out, h1], by rw [hLJ.out, leaseJ, h1]; rfl⟩⟩
        clear hp hk hs
        obtain ⟨rfl, rfl⟩ := HE.out
        go_enter Tryd.func16, Tryd.ntmps16
        go_wp2_with (first
          | (go_at_call 11; refine (check_any HTW.out.1 pe j _ (HTW.out.1 _ _ HTW.out.2 (below_alloc (below_alloc (Below.refl _ w) _) _)) HP.out).mono ?_; rw [HCE.out]; rintro e w1 ⟨rfl, hb1⟩; (have HB1 := Aside0.mk (bthen (below_alloc (below_alloc (Below.refl _ w) _) _) hb1)); (have HBK := Aside0.mk (blk_keep (blk_new1 _ _ _ _) hb1)); (have HBJ := Aside0.mk (blk_keep (blk_alloc (blk_new _ _) _) hb1)); (have hlt := blk_lt HBK.out); (have hlt0 := blk_lt HBJ.out); obtain ⟨k0, k1, k2, k3, k4, k5, k6, k7, k8, k9⟩ := all10 HBK.out; obtain ⟨f0, f1, f2, f3, f4, f5, f6, f7, f8, f9⟩ := frz10 HBK.out; obtain ⟨j0, j1, j2, j3, j4, j5, j6, j7, j8, j9⟩ := all10 HBJ.out; clear hb1)
          | (go_at_call 24; refine (may_any _ _ _ _).mono ?_; rw [HQ.out]; rintro e w2 ⟨rfl, hb2⟩; (have HB2 := Aside0.mk (bthen (below_alloc HB1.out _) hb2)); (have HBK2 := Aside0.mk (blk_keep (blk_alloc HBK.out _) hb2)); (have HBJ2 := Aside0.mk (blk_keep (blk_alloc HBJ.out _) hb2)); (have HBH2 := Aside0.mk (blk_keep (blk_new _ _) hb2)); (have hlt2 := blk_lt HBK2.out); (have hlt3 := blk_lt HBJ2.out); (have hlt4 := blk_lt HBH2.out); clear k0 k1 k2 k3 k4 k5 k6 k7 k8 k9 f0 f1 f2 f3 f4 f5 f6 f7 f8 f9 j0 j1 j2 j3 j4 j5 j6 j7 j8 j9; obtain ⟨k0, k1, k2, k3, k4, k5, k6, k7, k8, k9⟩ := all10 HBK2.out; obtain ⟨f0, f1, f2, f3, f4, f5, f6, f7, f8, f9⟩ := frz10 HBK2.out; obtain ⟨j0, j1, j2, j3, j4, j5, j6, j7, j8, j9⟩ := all10 HBJ2.out; obtain ⟨h0, h1, h2, _, _, _⟩ := all3 HBH2.out; clear hb2))
        refine bodyPost_ret (results_ct rfl _ _ (w.heap.size + 1) 35 #[.int .i64 0, .string ⟨#[]⟩, .string ⟨#[]⟩, .string ⟨#[]⟩, .int .i64 0, .int .i64 0, .int .i64 0, .int .i64 0, .int .i64 0, .int .i64 0] (0, 0) _ rfl (blk10 HBK2.out) Tryd.underlying35 rfl (by kernel_rfl)) rfl ?_
        exact ⟨rfl, below_set10 HB2.out (Nat.le_succ _) _ _ _ _ _ _ _ _ _ _⟩
    · have e1 : (j.status != 1) = true := by simpa using hs
      have HE : Aside0 (LE = 81 ∧ LJ = jc JobPure.j0) := ⟨by
        have h1 : leaseE pe j a b c = 81 := by rw [leaseE, hk, if_pos rfl, if_neg hs]
        exact ⟨by rw [hLE.out, h1], by rw [hLJ.out, leaseJ, h1]; rfl⟩⟩
      clear hp hk hs
      obtain ⟨rfl, rfl⟩ := HE.out
      go_enter Tryd.func16, Tryd.ntmps16
      go_wp2_with (go_at_call 11; refine (check_any HTW.out.1 pe j _ (HTW.out.1 _ _ HTW.out.2 (below_alloc (below_alloc (Below.refl _ w) _) _)) HP.out).mono ?_; rw [HCE.out]; rintro e w1 ⟨rfl, hb1⟩; (have HB1 := Aside0.mk (bthen (below_alloc (below_alloc (Below.refl _ w) _) _) hb1)); (have HBK := Aside0.mk (blk_keep (blk_new1 _ _ _ _) hb1)); (have HBJ := Aside0.mk (blk_keep (blk_alloc (blk_new _ _) _) hb1)); (have hlt := blk_lt HBK.out); (have hlt0 := blk_lt HBJ.out); obtain ⟨k0, k1, k2, k3, k4, k5, k6, k7, k8, k9⟩ := all10 HBK.out; obtain ⟨f0, f1, f2, f3, f4, f5, f6, f7, f8, f9⟩ := frz10 HBK.out; obtain ⟨j0, j1, j2, j3, j4, j5, j6, j7, j8, j9⟩ := all10 HBJ.out; clear hb1)
      refine bodyPost_ret (results_ct rfl _ _ (w.heap.size + 1) 35 #[.int .i64 0, .string ⟨#[]⟩, .string ⟨#[]⟩, .string ⟨#[]⟩, .int .i64 0, .int .i64 0, .int .i64 0, .int .i64 0, .int .i64 0, .int .i64 0] (0, 0) _ rfl (blk_alloc (blk10 HBK.out) _) Tryd.underlying35 rfl (by kernel_rfl)) rfl ?_
      exact ⟨rfl, below_alloc (below_set10 HB1.out (Nat.le_succ _) _ _ _ _ _ _ _ _ _ _) _⟩
end Go.Proofs.YteloamnakikbbaaDoor.Job

/- job: again, walked. -/
namespace Go.Proofs.YteloamnakikbbaaDoor.Job
set_option linter.unusedVariables false
set_option linter.unusedSimpArgs false
open Go.RowKit Go.Proofs.YteloamnakikbbaaDoorW.PrintWords Go.Proofs.YteloamnakikbbaaDoorW.PrintLast Go.Proofs.YteloamnakikbbaaDoor.Base Go.Proofs.YteloamnakikbbaaDoor.Cells Go.Proofs.YteloamnakikbbaaDoor.JobPure

set_option maxRecDepth 100000 in
set_option maxHeartbeats 1000000 in
theorem again_any {T : World → Prop} (hT : Lasts T) (pe : Int) (nx : Int → Int × Bool) (j : Jb) (now : Int) (w : World) (hw : T w) (hp : CronSays T j.rule pe nx) (hpe : j.rule ≠ ⟨#[]⟩ → pe = 0) (n0 : 0 ≤ now) (n1 : now < 32503680000) :
    Calls Tryd.prog 32 #[.agg #[.int .i64 j.id, .string j.name, .string j.rule, .string j.payload, .int .i64 j.status, .int .i64 j.due, .int .i64 j.tries, .int .i64 j.worker, .int .i64 j.token, .int .i64 j.til], .int .i64 now] w fun e w' => e = .returned (.tuple #[.agg (jc (againJ (nx now) j).1), .bool (againJ (nx now) j).2]) ∧ Below w.heap.size w w' := by
  obtain ⟨id, name, rule, payload, status, due, tries, worker, token, til⟩ := j
  dsimp only at hp hpe ⊢
  have HTW := Aside0.mk (And.intro hT hw)
  clear hT hw
  by_cases r0 : rule = ⟨#[]⟩
  · subst r0
    have HE : Aside0 (againJ (nx now) ⟨id, name, ⟨#[]⟩, payload, status, due, tries, worker, token, til⟩ = (JobPure.j0, false)) := ⟨rfl⟩
    rw [HE.out]
    clear hp hpe
    go_enter Tryd.func32, Tryd.ntmps32
    go_wp2
    refine bodyPost_ret (results_ct rfl _ _ (w.heap.size + 1) 35 #[.int .i64 0, .string ⟨#[]⟩, .string ⟨#[]⟩, .string ⟨#[]⟩, .int .i64 0, .int .i64 0, .int .i64 0, .int .i64 0, .int .i64 0, .int .i64 0] (0, 0) _ rfl (blk_new1 _ _ _ _) Tryd.underlying35 rfl (by kernel_rfl)) rfl ?_
    exact ⟨rfl, below_alloc (below_alloc (Below.refl _ _) _) _⟩
  · obtain ⟨r1, r2⟩ := tl0 r0
    obtain rfl := hpe r0
    obtain ⟨a, b, c, d, f, x, y, h1, h2⟩ := hp r0
    have HPA := Aside0.mk h1
    have HNX := Aside0.mk (h2 rfl now)
    obtain ⟨t, ht⟩ := named (nx now).1
    obtain ⟨ok, hok⟩ := named (nx now).2
    have HE : Aside0 (againJ (nx now) ⟨id, name, rule, payload, status, due, tries, worker, token, til⟩ = (⟨id, name, rule, payload, 1, t, 0, 0, 0, 0⟩, ok)) := ⟨by
      rw [againJ, if_neg (fun h => r0 (size0.1 h)), ht.out, hok.out]; rfl⟩
    rw [HE.out]
    clear hp hpe h1 h2
    go_enter Tryd.func32, Tryd.ntmps32
    go_wp2_with (first
      | (go_at_call 25; refine (HPA.out _ (HTW.out.1 _ _ HTW.out.2 (below_alloc (below_alloc (Below.refl _ w) _) _))).mono ?_; rintro e w1 ⟨rfl, hb1⟩; (have HB1 := Aside0.mk (bthen (below_alloc (below_alloc (Below.refl _ w) _) _) hb1)); (have HBK1 := Aside0.mk (blk_keep (blk_new1 _ _ _ _) hb1)); (have HBJ1 := Aside0.mk (blk_keep (blk_alloc (blk_new _ _) _) hb1)); clear hb1)
      | (go_at_call 46; refine (HNX.out _ (HTW.out.1 _ _ HTW.out.2 (below_alloc HB1.out _)) n0 n1).mono ?_; rw [← ht.out, ← hok.out]; rintro e w2 ⟨ne, rfl, hb2⟩; (have HB2 := Aside0.mk (bthen (below_alloc HB1.out _) hb2)); (have HBK2 := Aside0.mk (blk_keep (blk_alloc HBK1.out _) hb2)); (have HBJ2 := Aside0.mk (blk_keep (blk_alloc HBJ1.out _) hb2)); (have lk := blk_lt HBK2.out); (have lj := blk_lt HBJ2.out); obtain ⟨j0, j1, j2, j3, j4, j5, j6, j7, j8, j9⟩ := all10 HBJ2.out; (have g6 := blk_frozen HBJ2.out 6); clear hb2)
      | (go_at_call 34; refine (hold_any ⟨id, name, rule, payload, status, due, 0, worker, token, til⟩ 1 t 0 0 0 _).mono ?_; rintro e w3 ⟨rfl, hb3⟩; (have HB3 := Aside0.mk (bthen (HB2.out.setCell (p := ⟨w.heap.size, 6, none⟩) (Nat.le_refl _) _) hb3)); (have HBK3 := Aside0.mk (blk_keep ((Below.heap_setCell _ ⟨w.heap.size, 6, none⟩ _ _ (by simp)).trans HBK2.out) hb3)); clear j0 j1 j2 j3 j4 j5 j6 j7 j8 j9; obtain ⟨k0, k1, k2, k3, k4, k5, k6, k7, k8, k9⟩ := all10 HBK3.out; obtain ⟨f0, f1, f2, f3, f4, f5, f6, f7, f8, f9⟩ := frz10 HBK3.out; clear hb3))
    refine bodyPost_ret (results_ct rfl _ _ (w.heap.size + 1) 35 #[.int .i64 id, .string name, .string rule, .string payload, .int .i64 1, .int .i64 t, .int .i64 0, .int .i64 0, .int .i64 0, .int .i64 0] (0, 0) _ rfl (blk10 HBK3.out) Tryd.underlying35 rfl (by kernel_rfl)) rfl ?_
    exact ⟨rfl, below_set10 HB3.out (Nat.le_succ _) _ _ _ _ _ _ _ _ _ _⟩
end Go.Proofs.YteloamnakikbbaaDoor.Job

/- job: Fail, walked. -/
namespace Go.Proofs.YteloamnakikbbaaDoor.Job
set_option linter.unusedVariables false
set_option linter.unusedSimpArgs false
open Go.RowKit Go.Proofs.YteloamnakikbbaaDoorW.PrintWords Go.Proofs.YteloamnakikbbaaDoorW.PrintLast Go.Proofs.YteloamnakikbbaaDoor.Base Go.Proofs.YteloamnakikbbaaDoor.Cells Go.Proofs.YteloamnakikbbaaDoor.JobPure


theorem due_int (b c t now k : Int) (w : World) (hl : limOk b c t = true) (k0 : 0 ≤ k) (hk : k ≤ 64) (n0 : 0 ≤ now) (n1 : now < 32503680000) :
    Calls Tryd.prog 33 #[.agg #[.int .i64 b, .int .i64 c, .int .i64 t], .int .i64 now, .int .i64 k] w fun e w' => e = .returned (.tuple #[.int .i64 (dueV b c now k.toNat), .int .i64 (dueE b c now k.toNat)]) ∧ Below w.heap.size w w' := by
  obtain ⟨n, rfl⟩ := Int.eq_ofNat_of_zero_le k0
  exact due_any b c t now n w hl (by omega) n0 n1

theorem idx3_0 (a b c : Int) (w : World) : (Instr.index 78 (.agg #[.int .i64 a, .int .i64 b, .int .i64 c]) (.int .i64 0)).run Tryd.prog w = .ok (.int .i64 a) w := by
  simp [Instr.index, run_underlying Tryd.underlying78, asIntOf, go_sem, Tryd.sizeOf32]
theorem idx3_1 (a b c : Int) (w : World) : (Instr.index 78 (.agg #[.int .i64 a, .int .i64 b, .int .i64 c]) (.int .i64 1)).run Tryd.prog w = .ok (.int .i64 b) w := by
  simp [Instr.index, run_underlying Tryd.underlying78, asIntOf, go_sem, Tryd.sizeOf32]
theorem idx3_2 (a b c : Int) (w : World) : (Instr.index 78 (.agg #[.int .i64 a, .int .i64 b, .int .i64 c]) (.int .i64 2)).run Tryd.prog w = .ok (.int .i64 c) w := by
  simp [Instr.index, run_underlying Tryd.underlying78, asIntOf, go_sem, Tryd.sizeOf32]
/-- what stands behind the three tests -/
def Head (w : World) (id status due tries worker token til b c t : Int) (name rule payload : ByteArray) (wc : World) : Prop :=
  wc.heap[w.heap.size]? = some (.cells #[.int .i64 id, .string name, .string rule, .string payload, .int .i64 status, .int .i64 due, .int .i64 tries, .int .i64 worker, .int .i64 token, .int .i64 til] 35 (0, 0)) ∧ wc.heap[w.heap.size + 1]? = some (.cells #[.int .i64 b, .int .i64 c, .int .i64 t] 42 (0, 0)) ∧ wc.heap[w.heap.size + 1 + 1]? = some (.cells #[.int .i64 0, .string ⟨#[]⟩, .string ⟨#[]⟩, .string ⟨#[]⟩, .int .i64 0, .int .i64 0, .int .i64 0, .int .i64 0, .int .i64 0, .int .i64 0] 35 (0, 0)) ∧ Below w.heap.size w wc
theorem Head.below {w wc w1 : World} {id status due tries worker token til b c t : Int} {name rule payload : ByteArray} (h : Head w id status due tries worker token til b c t name rule payload wc) (hb : Below wc.heap.size wc w1) : Head w id status due tries worker token til b c t name rule payload w1 :=
  ⟨blk_keep h.1 hb, blk_keep h.2.1 hb, blk_keep h.2.2.1 hb, bthen h.2.2.2 hb⟩

set_option maxRecDepth 100000 in
set_option maxHeartbeats 4000000 in
theorem fail_any {T : World → Prop} (hT : Lasts T) (pe : Int) (nx : Int → Int × Bool) (j : Jb) (b c t now : Int) (w : World) (hw : T w) (hp : CronSays T j.rule pe nx) :
    Calls Tryd.prog 14 #[.agg #[.int .i64 j.id, .string j.name, .string j.rule, .string j.payload, .int .i64 j.status, .int .i64 j.due, .int .i64 j.tries, .int .i64 j.worker, .int .i64 j.token, .int .i64 j.til], .agg #[.int .i64 b, .int .i64 c, .int .i64 t], .int .i64 now] w fun e w' => e = .returned (.tuple #[.agg (jc (failJ pe (nx now) j b c t now)), .int .i64 (failE pe j b c t now)]) ∧ Below w.heap.size w w' := by
  obtain ⟨id, name, rule, payload, status, due, tries, worker, token, til⟩ := j
  dsimp only at hp ⊢
  have HP := Aside0.mk hp
  have HTW : Aside0 (∀ w', Below w.heap.size w w' → T w') := ⟨fun w' h => hT _ _ hw h⟩
  have HLT := Aside0.mk hT
  clear hp hT hw
  obtain ⟨ce, hce⟩ := named (chkE pe ⟨id, name, rule, payload, status, due, tries, worker, token, til⟩)
  obtain ⟨le, hle⟩ := named (limE b c t)
  obtain ⟨se, hse⟩ := named (leasedE ⟨id, name, rule, payload, status, due, tries, worker, token, til⟩ now)
  obtain ⟨FJ, hFJ⟩ := named (jc (failJ pe (nx now) ⟨id, name, rule, payload, status, due, tries, worker, token, til⟩ b c t now))
  obtain ⟨FE, hFE⟩ := named (failE pe ⟨id, name, rule, payload, status, due, tries, worker, token, til⟩ b c t now)
  have HFE : Aside0 (FE = if ce ≠ 0 then ce else if le ≠ 0 then le else se) := ⟨by
    rw [hFE.out, hce.out, hle.out, hse.out, failE, chkE, limE]
    cases chk pe ⟨id, name, rule, payload, status, due, tries, worker, token, til⟩ <;> cases limOk b c t <;> simp⟩
  rw [← hFJ.out, ← hFE.out]
  go_enter Tryd.func14, Tryd.ntmps14
  go_upto_region 1 with (fail)
  obtain ⟨W, hW⟩ : ∃ W, W = ((w.alloc (.cells #[.int .i64 id, .string name, .string rule, .string payload, .int .i64 status, .int .i64 due, .int .i64 tries, .int .i64 worker, .int .i64 token, .int .i64 til] 35)).alloc (.cells #[.int .i64 b, .int .i64 c, .int .i64 t] 42)).alloc (.cells #[.int .i64 0, .string ⟨#[]⟩, .string ⟨#[]⟩, .string ⟨#[]⟩, .int .i64 0, .int .i64 0, .int .i64 0, .int .i64 0, .int .i64 0, .int .i64 0] 35) := ⟨_, rfl⟩
  have HH : Aside0 (Head w id status due tries worker token til b c t name rule payload W) := ⟨by
    rw [hW]
    exact ⟨blk_alloc (blk_alloc (blk_new _ _) _) _, blk_alloc (blk_new1 _ _ _ _) _, blk_new2 _ _ _ _ _, below_alloc (below_alloc (below_alloc (Below.refl _ _) _) _) _⟩⟩
  rw [← hW]
  clear hW
  go_cut [21, 22] (fun v21 v22 wc => v21 = .agg #[.int .i64 ce, .int .i64 le, .int .i64 se] ∧ v22 = .int .i64 0 ∧ Aside0 (Head w id status due tries worker token til b c t name rule payload wc))
  case first =>
    have FK : Aside0 (∀ w', Below W.heap.size W w' → w'.cell? ⟨w.heap.size, 0, none⟩ = some (.int .i64 id) ∧ w'.cell? ⟨w.heap.size, 1, none⟩ = some (.string name) ∧ w'.cell? ⟨w.heap.size, 2, none⟩ = some (.string rule) ∧ w'.cell? ⟨w.heap.size, 3, none⟩ = some (.string payload) ∧ w'.cell? ⟨w.heap.size, 4, none⟩ = some (.int .i64 status) ∧ w'.cell? ⟨w.heap.size, 5, none⟩ = some (.int .i64 due) ∧ w'.cell? ⟨w.heap.size, 6, none⟩ = some (.int .i64 tries) ∧ w'.cell? ⟨w.heap.size, 7, none⟩ = some (.int .i64 worker) ∧ w'.cell? ⟨w.heap.size, 8, none⟩ = some (.int .i64 token) ∧ w'.cell? ⟨w.heap.size, 9, none⟩ = some (.int .i64 til) ∧ w'.cell? ⟨w.heap.size + 1, 0, none⟩ = some (.int .i64 b) ∧ w'.cell? ⟨w.heap.size + 1, 1, none⟩ = some (.int .i64 c) ∧ w'.cell? ⟨w.heap.size + 1, 2, none⟩ = some (.int .i64 t)) := ⟨fun w' h => by
      obtain ⟨j0, j1, j2, j3, j4, j5, j6, j7, j8, j9⟩ := all10 (blk_keep HH.out.1 h)
      obtain ⟨l0, l1, l2, _, _, _⟩ := all3 (blk_keep HH.out.2.1 h)
      exact ⟨j0, j1, j2, j3, j4, j5, j6, j7, j8, j9, l0, l1, l2⟩⟩
    have CC : Aside0 (∀ W', Below W.heap.size W W' → Calls Tryd.prog 11 #[.agg #[.int .i64 id, .string name, .string rule, .string payload, .int .i64 status, .int .i64 due, .int .i64 tries, .int .i64 worker, .int .i64 token, .int .i64 til]] W' fun e w' => e = .returned (.int .i64 ce) ∧ Below W'.heap.size W' w') := ⟨fun W' hW => by
      rw [hce.out]; exact check_any HLT.out pe ⟨id, name, rule, payload, status, due, tries, worker, token, til⟩ W' (HTW.out _ (bthen HH.out.2.2.2 hW)) HP.out.parse⟩
    have CL : Aside0 (∀ W', Calls Tryd.prog 15 #[.agg #[.int .i64 b, .int .i64 c, .int .i64 t]] W' fun e w' => e = .returned (.int .i64 le) ∧ Below W'.heap.size W' w') := ⟨fun W' => by
      rw [hle.out]; exact lim_any b c t W'⟩
    have CS : Aside0 (∀ W', Calls Tryd.prog 31 #[.agg #[.int .i64 id, .string name, .string rule, .string payload, .int .i64 status, .int .i64 due, .int .i64 tries, .int .i64 worker, .int .i64 token, .int .i64 til], .int .i64 now] W' fun e w' => e = .returned (.int .i64 se) ∧ Below W'.heap.size W' w') := ⟨fun W' => by
      rw [hse.out]; exact leased_any ⟨id, name, rule, payload, status, due, tries, worker, token, til⟩ now W'⟩
    obtain ⟨j0, j1, j2, j3, j4, j5, j6, j7, j8, j9, l0, l1, l2⟩ := FK.out _ (below_drew (Below.refl _ W))
    go_region_held3 (fun w' => w'.cell? ⟨w.heap.size, 0, none⟩ = some (.int .i64 id) ∧ w'.cell? ⟨w.heap.size, 1, none⟩ = some (.string name) ∧ w'.cell? ⟨w.heap.size, 2, none⟩ = some (.string rule) ∧ w'.cell? ⟨w.heap.size, 3, none⟩ = some (.string payload) ∧ w'.cell? ⟨w.heap.size, 4, none⟩ = some (.int .i64 status) ∧ w'.cell? ⟨w.heap.size, 5, none⟩ = some (.int .i64 due) ∧ w'.cell? ⟨w.heap.size, 6, none⟩ = some (.int .i64 tries) ∧ w'.cell? ⟨w.heap.size, 7, none⟩ = some (.int .i64 worker) ∧ w'.cell? ⟨w.heap.size, 8, none⟩ = some (.int .i64 token) ∧ w'.cell? ⟨w.heap.size, 9, none⟩ = some (.int .i64 til) ∧ w'.cell? ⟨w.heap.size + 1, 0, none⟩ = some (.int .i64 b) ∧ w'.cell? ⟨w.heap.size + 1, 1, none⟩ = some (.int .i64 c) ∧ w'.cell? ⟨w.heap.size + 1, 2, none⟩ = some (.int .i64 t)) (first | with_reducible exact ⟨j0, j1, j2, j3, j4, j5, j6, j7, j8, j9, l0, l1, l2⟩ | (refine FK.out _ ?_; (repeat (first | with_reducible exact Below.refl _ _ | with_reducible exact BX1.out | with_reducible exact BX2.out | with_reducible exact BX3.out | with_reducible apply below_drew | with_reducible apply below_alloc)); done) | go_keep) (first
      | (go_at_call 11; refine (CC.out _ (by (repeat (first | with_reducible exact Below.refl _ _ | with_reducible exact BX1.out | with_reducible exact BX2.out | with_reducible exact BX3.out | with_reducible apply below_drew | with_reducible apply below_alloc)))).mono ?_; rintro e w1 ⟨rfl, hb1⟩; (have BX1 : Aside0 (Below W.heap.size W w1) := ⟨bthen (by (repeat (first | with_reducible exact Below.refl _ _ | with_reducible exact BX1.out | with_reducible exact BX2.out | with_reducible exact BX3.out | with_reducible apply below_drew | with_reducible apply below_alloc))) hb1⟩); clear hb1)
      | (go_at_call 15; refine (CL.out _).mono ?_; rintro e w2 ⟨rfl, hb2⟩; (have BX2 : Aside0 (Below W.heap.size W w2) := ⟨bthen (by (repeat (first | with_reducible exact Below.refl _ _ | with_reducible exact BX1.out | with_reducible exact BX2.out | with_reducible exact BX3.out | with_reducible apply below_drew | with_reducible apply below_alloc))) hb2⟩); clear hb2)
      | (go_at_call 31; refine (CS.out _).mono ?_; rintro e w3 ⟨rfl, hb3⟩; (have BX3 : Aside0 (Below W.heap.size W w3) := ⟨bthen (by (repeat (first | with_reducible exact Below.refl _ _ | with_reducible exact BX1.out | with_reducible exact BX2.out | with_reducible exact BX3.out | with_reducible apply below_drew | with_reducible apply below_alloc))) hb3⟩); clear hb3))
    all_goals go_wp2_with fail
    all_goals go_meet
    all_goals refine ⟨rfl, rfl, ⟨HH.out.below ?_⟩⟩
    all_goals (repeat (first | with_reducible exact Below.refl _ _ | with_reducible exact BX1.out | with_reducible exact BX2.out | with_reducible exact BX3.out | with_reducible apply below_drew | with_reducible apply below_alloc))
  case rest =>
    obtain ⟨rfl, rfl, HC⟩ := hcut
    clear HH W
    have HFN : Aside0 (FE ≠ 0 → FJ = jc JobPure.j0) := ⟨fun h => by rw [hFJ.out, failJ, ← hFE.out, if_neg h]⟩
    have HCJ := Aside0.mk HC.out.1
    have HCL := Aside0.mk HC.out.2.1
    have HCK := Aside0.mk HC.out.2.2.1
    have HCB := Aside0.mk HC.out.2.2.2
    go_wp2_with fail
    go_loopg [9, 22] 3 (fun g v9 v22 wr => ∃ i : Nat, v22 = .int .i64 i ∧ g + i = 3 ∧ (0 < i → ce = 0) ∧ (1 < i → le = 0) ∧ (2 < i → se = 0) ∧ wr = wc)
    case atStart => exact ⟨0, rfl, by omega, fun h => by omega, fun h => by omega, fun h => by omega, rfl⟩
    case round =>
      obtain ⟨i, rfl, hg, g0, g1, g2, rfl⟩ := hrel
      obtain ⟨k0, k1, k2, k3, k4, k5, k6, k7, k8, k9⟩ := all10 HCK.out; obtain ⟨f0, f1, f2, f3, f4, f5, f6, f7, f8, f9⟩ := frz10 HCK.out
      have ix0 := idx3_0 ce le se wr
      have ix1 := idx3_1 ce le se wr
      have ix2 := idx3_2 ce le se wr
      rcases (show i = 0 ∨ i = 1 ∨ i = 2 ∨ i = 3 by omega) with rfl | rfl | rfl | rfl
      · by_cases h0 : ce = 0
        · have hn : (ce != 0) = false := by simpa using h0
          have H0 := Aside0.mk h0
          have G0 := Aside0.mk (And.intro g0 (And.intro g1 g2))
          clear g0 g1 g2 h0
          go_wp2
          go_roundg 2
          case measure => omega
          case rel => exact ⟨1, rfl, by omega, fun _ => H0.out, fun h => by omega, fun h => by omega, rfl⟩
        · have hn : (ce != 0) = true := by simpa using h0
          have HX : Aside0 (FE = ce ∧ FJ = jc JobPure.j0) := ⟨by
            have h1 : FE = ce := by
              rw [HFE.out]
              rw [if_pos h0]
            exact ⟨h1, HFN.out (by rw [h1]; exact h0)⟩⟩
          obtain ⟨rfl, rfl⟩ := HX.out
          clear g0 g1 g2 h0
          go_wp2
          refine bodyPost_ret (results_ct rfl _ _ (w.heap.size + 1 + 1) 35 #[.int .i64 0, .string ⟨#[]⟩, .string ⟨#[]⟩, .string ⟨#[]⟩, .int .i64 0, .int .i64 0, .int .i64 0, .int .i64 0, .int .i64 0, .int .i64 0] (0, 0) _ rfl (blk10 HCK.out) Tryd.underlying35 rfl (by kernel_rfl)) rfl ?_
          exact ⟨rfl, below_set10 HCB.out (by omega) _ _ _ _ _ _ _ _ _ _⟩
      · by_cases h0 : le = 0
        · have hn : (le != 0) = false := by simpa using h0
          have H0 := Aside0.mk h0
          have G0 := Aside0.mk (And.intro g0 (And.intro g1 g2))
          clear g0 g1 g2 h0
          go_wp2
          go_roundg 1
          case measure => omega
          case rel => exact ⟨2, rfl, by omega, fun _ => G0.out.1 (by omega), fun _ => H0.out, fun h => by omega, rfl⟩
        · have hn : (le != 0) = true := by simpa using h0
          have HX : Aside0 (FE = le ∧ FJ = jc JobPure.j0) := ⟨by
            have h1 : FE = le := by
              rw [HFE.out]
              rw [if_neg (by rw [g0 (by omega)]; decide), if_pos h0]
            exact ⟨h1, HFN.out (by rw [h1]; exact h0)⟩⟩
          obtain ⟨rfl, rfl⟩ := HX.out
          clear g0 g1 g2 h0
          go_wp2
          refine bodyPost_ret (results_ct rfl _ _ (w.heap.size + 1 + 1) 35 #[.int .i64 0, .string ⟨#[]⟩, .string ⟨#[]⟩, .string ⟨#[]⟩, .int .i64 0, .int .i64 0, .int .i64 0, .int .i64 0, .int .i64 0, .int .i64 0] (0, 0) _ rfl (blk10 HCK.out) Tryd.underlying35 rfl (by kernel_rfl)) rfl ?_
          exact ⟨rfl, below_set10 HCB.out (by omega) _ _ _ _ _ _ _ _ _ _⟩
      · by_cases h0 : se = 0
        · have hn : (se != 0) = false := by simpa using h0
          have H0 := Aside0.mk h0
          have G0 := Aside0.mk (And.intro g0 (And.intro g1 g2))
          clear g0 g1 g2 h0
          go_wp2
          go_roundg 0
          case measure => omega
          case rel => exact ⟨3, rfl, by omega, fun _ => G0.out.1 (by omega), fun _ => G0.out.2.1 (by omega), fun _ => H0.out, rfl⟩
        · have hn : (se != 0) = true := by simpa using h0
          have HX : Aside0 (FE = se ∧ FJ = jc JobPure.j0) := ⟨by
            have h1 : FE = se := by
              rw [HFE.out]
              rw [if_neg (by rw [g0 (by omega)]; decide), if_neg (by rw [g1 (by omega)]; decide)]
            exact ⟨h1, HFN.out (by rw [h1]; exact h0)⟩⟩
          obtain ⟨rfl, rfl⟩ := HX.out
          clear g0 g1 g2 h0
          go_wp2
          refine bodyPost_ret (results_ct rfl _ _ (w.heap.size + 1 + 1) 35 #[.int .i64 0, .string ⟨#[]⟩, .string ⟨#[]⟩, .string ⟨#[]⟩, .int .i64 0, .int .i64 0, .int .i64 0, .int .i64 0, .int .i64 0, .int .i64 0] (0, 0) _ rfl (blk10 HCK.out) Tryd.underlying35 rfl (by kernel_rfl)) rfl ?_
          exact ⟨rfl, below_set10 HCB.out (by omega) _ _ _ _ _ _ _ _ _ _⟩
      · have HZ : Aside0 (ce = 0 ∧ le = 0 ∧ se = 0) := ⟨g0 (by omega), g1 (by omega), g2 (by omega)⟩
        clear g0 g1 g2 k0 k1 k2 k3 k4 k5 k6 k7 k8 k9 f0 f1 f2 f3 f4 f5 f6 f7 f8 f9
        have HE0 : Aside0 (FE = 0) := ⟨by rw [HFE.out, HZ.out.1, HZ.out.2.1, HZ.out.2.2]; rfl⟩
        have HG : Aside0 (FJ = jc (failG (nx now) ⟨id, name, rule, payload, status, due, tries, worker, token, til⟩ b c t now)) := ⟨by rw [hFJ.out, failJ, ← hFE.out, HE0.out]; rfl⟩
        have HK : Aside0 (chk pe ⟨id, name, rule, payload, status, due, tries, worker, token, til⟩ = true ∧ limOk b c t = true ∧ 0 ≤ now ∧ now ≤ 32503679999) := ⟨by
          obtain ⟨z0, z1, z2⟩ := HZ.out
          refine ⟨?_, ?_, ?_⟩
          · rw [hce.out, chkE] at z0
            split at z0
            · assumption
            · cases z0
          · rw [hle.out, limE] at z1
            split at z1
            · assumption
            · cases z1
          · rw [hse.out, leasedE] at z2
            split at z2
            · split at z2
              · assumption
              · cases z2
            · cases z2⟩
        obtain ⟨n0, n1⟩ := HK.out.2.2
        have HTR : 0 ≤ tries ∧ tries ≤ 16 := by
          have h := HK.out.1
          rw [chk, Bool.and_eq_true, Bool.and_eq_true] at h
          have h1 := h.1.1
          simp only [chkA, decide_eq_true_eq] at h1
          omega
        obtain ⟨t0, t16⟩ := HTR
        have HPE : Aside0 (rule ≠ ⟨#[]⟩ → pe = 0) := ⟨fun hr => by
          have h := HK.out.1
          rw [chk, Bool.and_eq_true, chkC] at h
          have h2 := h.2
          have : decide (rule.size = 0) = false := decide_eq_false (fun h => hr (size0.1 h))
          simp only [this, Bool.false_or, Bool.and_eq_true, beq_iff_eq] at h2
          exact h2.1⟩
        have HLM := Aside0.mk HK.out.2.1
        obtain rfl := HE0.out
        obtain ⟨j0, j1, j2, j3, j4, j5, j6, j7, j8, j9⟩ := all10 HCJ.out
        have g6 := blk_frozen HCJ.out 6
        go_upto_region 8 with (fail)
        obtain ⟨T, hT⟩ : ∃ T, min (tries + 1) 16 = T := ⟨_, rfl⟩
        have HT := Aside0.mk hT
        have T1 : 1 ≤ T ∧ T ≤ 16 := by omega
        obtain ⟨T1, T2⟩ := T1
        rw [hT]
        clear hT t0 t16 j0 j1 j2 j3 j4 j5 j6 j7 j8 j9 g6 ix0 ix1 ix2
        obtain ⟨W2, hW2⟩ : ∃ W2, W2 = wr.setCell ⟨w.heap.size, 6, none⟩ (.int .i64 T) := ⟨_, rfl⟩
        have HJ2 : Aside0 (W2.heap[w.heap.size]? = some (.cells #[.int .i64 id, .string name, .string rule, .string payload, .int .i64 status, .int .i64 due, .int .i64 T, .int .i64 worker, .int .i64 token, .int .i64 til] 35 (0, 0))) := ⟨by rw [hW2]; exact blk_put HCJ.out 6 _ rfl⟩
        have HL2 : Aside0 (W2.heap[w.heap.size + 1]? = some (.cells #[.int .i64 b, .int .i64 c, .int .i64 t] 42 (0, 0))) := ⟨by rw [hW2]; exact (Below.heap_setCell _ ⟨w.heap.size, 6, none⟩ _ _ (by show _ ≠ w.heap.size; omega)).trans HCL.out⟩
        have HK2 : Aside0 (W2.heap[w.heap.size + 1 + 1]? = some (.cells #[.int .i64 0, .string ⟨#[]⟩, .string ⟨#[]⟩, .string ⟨#[]⟩, .int .i64 0, .int .i64 0, .int .i64 0, .int .i64 0, .int .i64 0, .int .i64 0] 35 (0, 0))) := ⟨by rw [hW2]; exact (Below.heap_setCell _ ⟨w.heap.size, 6, none⟩ _ _ (by show _ ≠ w.heap.size; omega)).trans HCK.out⟩
        have HB2 : Aside0 (Below w.heap.size w W2) := ⟨by rw [hW2]; exact HCB.out.setCell (p := ⟨w.heap.size, 6, none⟩) (Nat.le_refl _) _⟩
        rw [← hW2]
        clear hW2 HC HCJ HCL HCK HCB
        obtain ⟨V, hV⟩ := named (dueV b c now (T - 1).toNat)
        obtain ⟨D, hD⟩ := named (dueE b c now (T - 1).toNat)
        have HFT : Aside0 (failT ⟨id, name, rule, payload, status, due, tries, worker, token, til⟩ = T) := ⟨HT.out⟩
        obtain ⟨j0, j1, j2, j3, j4, j5, j6, j7, j8, j9⟩ := all10 HJ2.out
        obtain ⟨l0, l1, l2, _, _, _⟩ := all3 HL2.out
        by_cases hP : now + delayP b c (T - 1).toNat < 32503680000 ∧ T < t
        · have HX : Aside0 (D = 0 ∧ FJ = jc (holdJ ⟨id, name, rule, payload, status, due, T, worker, token, til⟩ 1 V 0 0 0)) := ⟨by
            refine ⟨by rw [hD.out, dueE, if_pos hP.1], ?_⟩
            rw [HG.out, failG, HFT.out, if_pos hP, hV.out, dueV, if_pos hP.1]⟩
          obtain ⟨_, hTt⟩ := hP
          obtain ⟨rfl, rfl⟩ := HX.out
          have hlt : decide (T < t) = true := decide_eq_true hTt
          clear hTt
          go_wp2_with (first
            | (go_at_call 33; refine (due_int b c t now (T - 1) _ HLM.out (by omega) (by omega) n0 (by omega)).mono ?_; rw [← hV.out, ← hD.out]; rintro e w3 ⟨rfl, hb3⟩; (have HB3 := Aside0.mk (bthen HB2.out hb3)); (have HJ3 := Aside0.mk (blk_keep HJ2.out hb3)); (have HL3 := Aside0.mk (blk_keep HL2.out hb3)); (have HK3 := Aside0.mk (blk_keep HK2.out hb3)); clear j0 j1 j2 j3 j4 j5 j6 j7 j8 j9 l0 l1 l2; obtain ⟨q0, q1, q2, q3, q4, q5, q6, q7, q8, q9⟩ := all10 HJ3.out; obtain ⟨p0, p1, p2, _, _, _⟩ := all3 HL3.out; clear hb3)
            | (go_at_call 34; refine (hold_any ⟨id, name, rule, payload, status, due, T, worker, token, til⟩ 1 V 0 0 0 _).mono ?_; rintro e w4 ⟨rfl, hb4⟩; (have HB4 := Aside0.mk (bthen HB3.out hb4)); (have HK4 := Aside0.mk (blk_keep HK3.out hb4)); clear q0 q1 q2 q3 q4 q5 q6 q7 q8 q9 p0 p1 p2; obtain ⟨k0, k1, k2, k3, k4, k5, k6, k7, k8, k9⟩ := all10 HK4.out; obtain ⟨f0, f1, f2, f3, f4, f5, f6, f7, f8, f9⟩ := frz10 HK4.out; clear hb4))
          refine bodyPost_ret (results_ct rfl _ _ (w.heap.size + 1 + 1) 35 #[.int .i64 id, .string name, .string rule, .string payload, .int .i64 1, .int .i64 V, .int .i64 T, .int .i64 0, .int .i64 0, .int .i64 0] (0, 0) _ rfl (blk10 HK4.out) Tryd.underlying35 rfl (by kernel_rfl)) rfl ?_
          exact ⟨rfl, below_set10 HB4.out (by omega) _ _ _ _ _ _ _ _ _ _⟩
        · obtain ⟨X, hX⟩ := named (againJ (nx now) ⟨id, name, rule, payload, status, due, T, worker, token, til⟩).1
          obtain ⟨ok, hok⟩ := named (againJ (nx now) ⟨id, name, rule, payload, status, due, T, worker, token, til⟩).2
          have HX : Aside0 (FJ = if ok then jc X else jc (holdJ ⟨id, name, ⟨#[]⟩, payload, status, due, T, worker, token, til⟩ 3 now 0 0 0)) := ⟨by
            rw [HG.out, failG, HFT.out, if_neg hP, hX.out, hok.out]
            split <;> rfl⟩
          have HDT : Aside0 ((D == 0 && decide (T < t)) = false) := ⟨by
            rw [hD.out, dueE]
            by_cases h1 : now + delayP b c (T - 1).toNat < 32503680000
            · rw [if_pos h1]
              have : ¬ T < t := fun h => hP ⟨h1, h⟩
              simp [this]
            · rw [if_neg h1]; rfl⟩
          clear hP
          obtain ⟨x1, x2, x3, x4, x5, x6, x7, x8, x9, x10⟩ := X
          have CA : Aside0 (∀ W', Below w.heap.size w W' → Calls Tryd.prog 32 #[.agg #[.int .i64 id, .string name, .string rule, .string payload, .int .i64 status, .int .i64 due, .int .i64 T, .int .i64 worker, .int .i64 token, .int .i64 til], .int .i64 now] W' fun e w' => e = .returned (.tuple #[.agg #[.int .i64 x1, .string x2, .string x3, .string x4, .int .i64 x5, .int .i64 x6, .int .i64 x7, .int .i64 x8, .int .i64 x9, .int .i64 x10], .bool ok]) ∧ Below W'.heap.size W' w') := ⟨fun W' hW => by
            have h := again_any HLT.out pe nx ⟨id, name, rule, payload, status, due, T, worker, token, til⟩ now W' (HTW.out _ hW) HP.out HPE.out n0 (by omega)
            rw [← hX.out, ← hok.out] at h
            exact h⟩
          cases ok with
          | true =>
            have HY : Aside0 (FJ = #[.int .i64 x1, .string x2, .string x3, .string x4, .int .i64 x5, .int .i64 x6, .int .i64 x7, .int .i64 x8, .int .i64 x9, .int .i64 x10]) := ⟨by rw [HX.out]; rfl⟩
            obtain rfl := HY.out
            by_cases h1 : D = 0
            · have hlt : decide (T < t) = false := by have := HDT.out; rw [h1] at this; simpa using this
              obtain rfl := h1
              go_wp2_with (first
                | (go_at_call 33; refine (due_int b c t now (T - 1) _ HLM.out (by omega) (by omega) n0 (by omega)).mono ?_; rw [← hV.out, ← hD.out]; rintro e w3 ⟨rfl, hb3⟩; (have HB3 := Aside0.mk (bthen HB2.out hb3)); (have HJ3 := Aside0.mk (blk_keep HJ2.out hb3)); (have HL3 := Aside0.mk (blk_keep HL2.out hb3)); (have HK3 := Aside0.mk (blk_keep HK2.out hb3)); clear j0 j1 j2 j3 j4 j5 j6 j7 j8 j9 l0 l1 l2; obtain ⟨q0, q1, q2, q3, q4, q5, q6, q7, q8, q9⟩ := all10 HJ3.out; obtain ⟨p0, p1, p2, _, _, _⟩ := all3 HL3.out; clear hb3)
                | (go_at_call 32; refine (CA.out _ HB3.out).mono ?_; rintro e w4 ⟨rfl, hb4⟩; (have HB4 := Aside0.mk (bthen HB3.out hb4)); (have HJ4 := Aside0.mk (blk_keep HJ3.out hb4)); (have HK4 := Aside0.mk (blk_keep HK3.out hb4)); (have hlj := blk_lt HJ4.out); (have hlk := blk_lt HK4.out); clear q0 q1 q2 q3 q4 q5 q6 q7 q8 q9 p0 p1 p2; obtain ⟨q0, q1, q2, q3, q4, q5, q6, q7, q8, q9⟩ := all10 HJ4.out; (have g2 := blk_frozen HJ4.out 2); obtain ⟨k0, k1, k2, k3, k4, k5, k6, k7, k8, k9⟩ := all10 HK4.out; obtain ⟨f0, f1, f2, f3, f4, f5, f6, f7, f8, f9⟩ := frz10 HK4.out; clear hb4))
              refine bodyPost_ret (results_ct rfl _ _ (w.heap.size + 1 + 1) 35 #[.int .i64 x1, .string x2, .string x3, .string x4, .int .i64 x5, .int .i64 x6, .int .i64 x7, .int .i64 x8, .int .i64 x9, .int .i64 x10] (0, 0) _ rfl (blk_alloc (blk10 HK4.out) _) Tryd.underlying35 rfl (by kernel_rfl)) rfl ?_
              exact ⟨rfl, below_alloc (below_set10 HB4.out (by omega) _ _ _ _ _ _ _ _ _ _) _⟩
            · have hd : (D == 0) = false := by simpa using h1
              clear h1
              go_wp2_with (first
                | (go_at_call 33; refine (due_int b c t now (T - 1) _ HLM.out (by omega) (by omega) n0 (by omega)).mono ?_; rw [← hV.out, ← hD.out]; rintro e w3 ⟨rfl, hb3⟩; (have HB3 := Aside0.mk (bthen HB2.out hb3)); (have HJ3 := Aside0.mk (blk_keep HJ2.out hb3)); (have HL3 := Aside0.mk (blk_keep HL2.out hb3)); (have HK3 := Aside0.mk (blk_keep HK2.out hb3)); clear j0 j1 j2 j3 j4 j5 j6 j7 j8 j9 l0 l1 l2; obtain ⟨q0, q1, q2, q3, q4, q5, q6, q7, q8, q9⟩ := all10 HJ3.out; obtain ⟨p0, p1, p2, _, _, _⟩ := all3 HL3.out; clear hb3)
                | (go_at_call 32; refine (CA.out _ HB3.out).mono ?_; rintro e w4 ⟨rfl, hb4⟩; (have HB4 := Aside0.mk (bthen HB3.out hb4)); (have HJ4 := Aside0.mk (blk_keep HJ3.out hb4)); (have HK4 := Aside0.mk (blk_keep HK3.out hb4)); (have hlj := blk_lt HJ4.out); (have hlk := blk_lt HK4.out); clear q0 q1 q2 q3 q4 q5 q6 q7 q8 q9 p0 p1 p2; obtain ⟨q0, q1, q2, q3, q4, q5, q6, q7, q8, q9⟩ := all10 HJ4.out; (have g2 := blk_frozen HJ4.out 2); obtain ⟨k0, k1, k2, k3, k4, k5, k6, k7, k8, k9⟩ := all10 HK4.out; obtain ⟨f0, f1, f2, f3, f4, f5, f6, f7, f8, f9⟩ := frz10 HK4.out; clear hb4))
              refine bodyPost_ret (results_ct rfl _ _ (w.heap.size + 1 + 1) 35 #[.int .i64 x1, .string x2, .string x3, .string x4, .int .i64 x5, .int .i64 x6, .int .i64 x7, .int .i64 x8, .int .i64 x9, .int .i64 x10] (0, 0) _ rfl (blk_alloc (blk10 HK4.out) _) Tryd.underlying35 rfl (by kernel_rfl)) rfl ?_
              exact ⟨rfl, below_alloc (below_set10 HB4.out (by omega) _ _ _ _ _ _ _ _ _ _) _⟩
          | false =>
            have HY : Aside0 (FJ = #[.int .i64 id, .string name, .string ⟨#[]⟩, .string payload, .int .i64 3, .int .i64 now, .int .i64 T, .int .i64 0, .int .i64 0, .int .i64 0]) := ⟨by rw [HX.out]; rfl⟩
            obtain rfl := HY.out
            by_cases h1 : D = 0
            · have hlt : decide (T < t) = false := by have := HDT.out; rw [h1] at this; simpa using this
              obtain rfl := h1
              go_wp2_with (first
                | (go_at_call 33; refine (due_int b c t now (T - 1) _ HLM.out (by omega) (by omega) n0 (by omega)).mono ?_; rw [← hV.out, ← hD.out]; rintro e w3 ⟨rfl, hb3⟩; (have HB3 := Aside0.mk (bthen HB2.out hb3)); (have HJ3 := Aside0.mk (blk_keep HJ2.out hb3)); (have HL3 := Aside0.mk (blk_keep HL2.out hb3)); (have HK3 := Aside0.mk (blk_keep HK2.out hb3)); clear j0 j1 j2 j3 j4 j5 j6 j7 j8 j9 l0 l1 l2; obtain ⟨q0, q1, q2, q3, q4, q5, q6, q7, q8, q9⟩ := all10 HJ3.out; obtain ⟨p0, p1, p2, _, _, _⟩ := all3 HL3.out; clear hb3)
                | (go_at_call 32; refine (CA.out _ HB3.out).mono ?_; rintro e w4 ⟨rfl, hb4⟩; (have HB4 := Aside0.mk (bthen HB3.out hb4)); (have HJ4 := Aside0.mk (blk_keep HJ3.out hb4)); (have HK4 := Aside0.mk (blk_keep HK3.out hb4)); (have hlj := blk_lt HJ4.out); (have hlk := blk_lt HK4.out); clear q0 q1 q2 q3 q4 q5 q6 q7 q8 q9 p0 p1 p2; obtain ⟨q0, q1, q2, q3, q4, q5, q6, q7, q8, q9⟩ := all10 HJ4.out; (have g2 := blk_frozen HJ4.out 2); obtain ⟨k0, k1, k2, k3, k4, k5, k6, k7, k8, k9⟩ := all10 HK4.out; obtain ⟨f0, f1, f2, f3, f4, f5, f6, f7, f8, f9⟩ := frz10 HK4.out; clear hb4)
                | (go_at_call 34; refine (hold_any ⟨id, name, ⟨#[]⟩, payload, status, due, T, worker, token, til⟩ 3 now 0 0 0 _).mono ?_; rintro e w5 ⟨rfl, hb5⟩; (have HB5 := Aside0.mk (bthen (below_alloc (HB4.out.setCell (p := ⟨w.heap.size, 2, none⟩) (Nat.le_refl _) _) _) hb5)); (have HK5 := Aside0.mk (blk_keep (blk_alloc ((Below.heap_setCell _ ⟨w.heap.size, 2, none⟩ _ _ (by show _ ≠ w.heap.size; omega)).trans HK4.out) _) hb5)); clear q0 q1 q2 q3 q4 q5 q6 q7 q8 q9 k0 k1 k2 k3 k4 k5 k6 k7 k8 k9 f0 f1 f2 f3 f4 f5 f6 f7 f8 f9; obtain ⟨k0, k1, k2, k3, k4, k5, k6, k7, k8, k9⟩ := all10 HK5.out; obtain ⟨f0, f1, f2, f3, f4, f5, f6, f7, f8, f9⟩ := frz10 HK5.out; clear hb5))
              refine bodyPost_ret (results_ct rfl _ _ (w.heap.size + 1 + 1) 35 #[.int .i64 id, .string name, .string ⟨#[]⟩, .string payload, .int .i64 3, .int .i64 now, .int .i64 T, .int .i64 0, .int .i64 0, .int .i64 0] (0, 0) _ rfl (blk10 HK5.out) Tryd.underlying35 rfl (by kernel_rfl)) rfl ?_
              exact ⟨rfl, below_set10 HB5.out (by omega) _ _ _ _ _ _ _ _ _ _⟩
            · have hd : (D == 0) = false := by simpa using h1
              clear h1
              go_wp2_with (first
                | (go_at_call 33; refine (due_int b c t now (T - 1) _ HLM.out (by omega) (by omega) n0 (by omega)).mono ?_; rw [← hV.out, ← hD.out]; rintro e w3 ⟨rfl, hb3⟩; (have HB3 := Aside0.mk (bthen HB2.out hb3)); (have HJ3 := Aside0.mk (blk_keep HJ2.out hb3)); (have HL3 := Aside0.mk (blk_keep HL2.out hb3)); (have HK3 := Aside0.mk (blk_keep HK2.out hb3)); clear j0 j1 j2 j3 j4 j5 j6 j7 j8 j9 l0 l1 l2; obtain ⟨q0, q1, q2, q3, q4, q5, q6, q7, q8, q9⟩ := all10 HJ3.out; obtain ⟨p0, p1, p2, _, _, _⟩ := all3 HL3.out; clear hb3)
                | (go_at_call 32; refine (CA.out _ HB3.out).mono ?_; rintro e w4 ⟨rfl, hb4⟩; (have HB4 := Aside0.mk (bthen HB3.out hb4)); (have HJ4 := Aside0.mk (blk_keep HJ3.out hb4)); (have HK4 := Aside0.mk (blk_keep HK3.out hb4)); (have hlj := blk_lt HJ4.out); (have hlk := blk_lt HK4.out); clear q0 q1 q2 q3 q4 q5 q6 q7 q8 q9 p0 p1 p2; obtain ⟨q0, q1, q2, q3, q4, q5, q6, q7, q8, q9⟩ := all10 HJ4.out; (have g2 := blk_frozen HJ4.out 2); obtain ⟨k0, k1, k2, k3, k4, k5, k6, k7, k8, k9⟩ := all10 HK4.out; obtain ⟨f0, f1, f2, f3, f4, f5, f6, f7, f8, f9⟩ := frz10 HK4.out; clear hb4)
                | (go_at_call 34; refine (hold_any ⟨id, name, ⟨#[]⟩, payload, status, due, T, worker, token, til⟩ 3 now 0 0 0 _).mono ?_; rintro e w5 ⟨rfl, hb5⟩; (have HB5 := Aside0.mk (bthen (below_alloc (HB4.out.setCell (p := ⟨w.heap.size, 2, none⟩) (Nat.le_refl _) _) _) hb5)); (have HK5 := Aside0.mk (blk_keep (blk_alloc ((Below.heap_setCell _ ⟨w.heap.size, 2, none⟩ _ _ (by show _ ≠ w.heap.size; omega)).trans HK4.out) _) hb5)); clear q0 q1 q2 q3 q4 q5 q6 q7 q8 q9 k0 k1 k2 k3 k4 k5 k6 k7 k8 k9 f0 f1 f2 f3 f4 f5 f6 f7 f8 f9; obtain ⟨k0, k1, k2, k3, k4, k5, k6, k7, k8, k9⟩ := all10 HK5.out; obtain ⟨f0, f1, f2, f3, f4, f5, f6, f7, f8, f9⟩ := frz10 HK5.out; clear hb5))
              refine bodyPost_ret (results_ct rfl _ _ (w.heap.size + 1 + 1) 35 #[.int .i64 id, .string name, .string ⟨#[]⟩, .string payload, .int .i64 3, .int .i64 now, .int .i64 T, .int .i64 0, .int .i64 0, .int .i64 0] (0, 0) _ rfl (blk10 HK5.out) Tryd.underlying35 rfl (by kernel_rfl)) rfl ?_
              exact ⟨rfl, below_set10 HB5.out (by omega) _ _ _ _ _ _ _ _ _ _⟩
end Go.Proofs.YteloamnakikbbaaDoor.Job

/- cron: item, walked. -/
namespace Go.Proofs.YteloamnakikbbaaDoor.Cron
set_option linter.unusedVariables false
set_option linter.unusedSimpArgs false
open Go.RowKit Go.Proofs.YteloamnakikbbaaDoorW.PrintWords Go.Proofs.YteloamnakikbbaaDoorW.PrintLast Go.Proofs.YteloamnakikbbaaDoor.Base Go.Proofs.YteloamnakikbbaaDoor.Cells Go.Proofs.YteloamnakikbbaaDoor.CronPure Go.Proofs.YteloamnakikbbaaDoor.NamesPure

def itemV (lo hi : Int) (l : List UInt8) : Int := ((itemP lo hi l).getD 0 : Nat)
def itemOk (lo hi : Int) (l : List UInt8) : Bool := (itemP lo hi l).isSome

theorem spread_bd {lo hi : Int} {l : List UInt8} (h0 : 0 ≤ lo) (h1 : lo ≤ hi) (h2 : hi ≤ 63) (h : (spreadP lo hi l).2.2.2 = true) : 0 ≤ (spreadP lo hi l).1 ∧ (spreadP lo hi l).1 ≤ (spreadP lo hi l).2.1 ∧ (spreadP lo hi l).2.1 ≤ 63 := by
  unfold spreadP at h ⊢
  split
  · exact ⟨h0, h1, h2⟩
  · rename_i hne
    rw [if_neg hne] at h
    simp only [Bool.and_eq_true, decide_eq_true_eq] at h
    have := numV_bd (Lib.cut l [45]).1
    have h3 := h.2.2.2.1
    refine ⟨this.1, h.2.2.2.2, ?_⟩
    dsimp only
    omega
theorem many_iff {low high step k : Nat} (hs : 0 < step) : k < many low high step ↔ low + k * step ≤ high := by
  unfold many
  split
  · rename_i h
    rw [Nat.lt_succ_iff, Nat.le_div_iff_mul_le hs]
    omega
  · rename_i h
    have : 0 ≤ k * step := Nat.zero_le _
    omega

theorem or_bit {S x : Nat} (hS : S < 2 ^ 64) (hx : x ≤ 63) : bits .or .u64 (S : Int) (IntKind.u64.wrap (2 ^ x)) = ((S ||| 2 ^ x : Nat) : Int) := by
  have h1 : (2 : Nat) ^ x < 18446744073709551616 := Nat.lt_of_le_of_lt (Nat.pow_le_pow_right (by omega) hx) (by decide)
  have h2 : IntKind.u64.wrap (2 ^ x) = ((2 ^ x : Nat) : Int) := by
    rw [show ((2 : Int) ^ x) = ((2 ^ x : Nat) : Int) by push_cast; rfl, IntKind.wrap_u64]
    generalize 2 ^ x = p at h1
    omega
  rw [h2]
  exact bits_or_u64_nat S (2 ^ x) (by have : (2 : Nat) ^ 64 = 18446744073709551616 := rfl; omega) h1
set_option maxRecDepth 100000 in
set_option maxHeartbeats 2000000 in
theorem item_any (lo hi : Int) (s : ByteArray) (w : World) (hs : s.size ≤ 1000) (hm : MaxL w) (h0 : 0 ≤ lo) (h1 : lo ≤ hi) (h2 : hi ≤ 63) :
    Calls Tryd.prog 55 #[.agg #[.int .i64 lo, .int .i64 hi], .string s] w fun e w' => e = .returned (.tuple #[.int .u64 (itemV lo hi s.data.toList), .bool (itemOk lo hi s.data.toList)]) ∧ Below w.heap.size w w' := by
  obtain ⟨V, hV⟩ := named (itemV lo hi s.data.toList)
  obtain ⟨O, hO⟩ := named (itemOk lo hi s.data.toList)
  obtain ⟨X, hX⟩ := named (Lib.cut s.data.toList [47])
  have HLA : Aside0 (X.1.length ≤ 1000 ∧ X.2.1.length ≤ 1000) := ⟨by
    have := cut_len s.data.toList [47]
    rw [← hX.out] at this
    have hs' : s.data.toList.length = s.size := by simp
    omega⟩
  obtain ⟨S, hS⟩ := named (spreadP lo hi X.1)
  have HSB : Aside0 (S.2.2.2 = true → 0 ≤ S.1 ∧ S.1 ≤ S.2.1 ∧ S.2.1 ≤ 63) := ⟨fun h => by rw [hS.out] at h ⊢; exact spread_bd h0 h1 h2 h⟩
  have HI : Aside0 (itemP lo hi s.data.toList = if X.2.2 && (!numOk X.2.1 || decide (numV X.2.1 = 0)) then none else if !S.2.2.2 || (X.2.2 && !S.2.2.1) then none else some (setOf S.1.toNat S.2.1.toNat (if X.2.2 then (numV X.2.1).toNat else 1))) := ⟨by
    rw [itemP, hX.out, hS.out, hX.out]⟩
  have HNO : Aside0 (itemP lo hi s.data.toList = none → V = 0 ∧ O = false) := ⟨fun h => ⟨by rw [hV.out, itemV, h]; rfl, by rw [hO.out, itemOk, h]; rfl⟩⟩
  have HYES : Aside0 (∀ x, itemP lo hi s.data.toList = some x → V = (x : Nat) ∧ O = true) := ⟨fun x h => ⟨by rw [hV.out, itemV, h]; rfl, by rw [hO.out, itemOk, h]; rfl⟩⟩
  rw [← hV.out, ← hO.out]
  obtain ⟨A, Bc, stepped⟩ := X
  obtain ⟨r1, r2, wide, ok⟩ := S
  dsimp only at HLA HSB HI hS
  obtain ⟨n, hn⟩ := named (numV Bc)
  obtain ⟨no, hno⟩ := named (numOk Bc)
  have nb := numV_bd Bc
  rw [← hn.out] at nb
  obtain ⟨nb0, nb1⟩ := nb
  rw [← hn.out, ← hno.out] at HI
  have HM := Aside0.mk hm
  clear hm h0 h1 h2
  have CN : Aside0 (∀ W', Calls Tryd.prog 67 #[.string ⟨Bc.toArray⟩] W' fun e w' => e = .returned (.tuple #[.int .i64 n, .bool no]) ∧ Below W'.heap.size W' w') := ⟨fun W' => by
    have h := number_any ⟨Bc.toArray⟩ W' (by have := HLA.out.2; show Bc.toArray.size ≤ _; simp; omega)
    rw [show (ByteArray.mk Bc.toArray).data.toList = Bc by simp, ← hn.out, ← hno.out] at h
    exact h⟩
  have CS : Aside0 (∀ W', Below w.heap.size w W' → Calls Tryd.prog 68 #[.agg #[.int .i64 lo, .int .i64 hi], .string ⟨A.toArray⟩] W' fun e w' => e = .returned (.tuple #[.agg #[.int .i64 r1, .int .i64 r2], .bool wide, .bool ok]) ∧ Below W'.heap.size W' w') := ⟨fun W' hW => by
    have h := spread_any lo hi ⟨A.toArray⟩ W' (by have := HLA.out.1; show A.toArray.size ≤ _; simp; omega) (HM.out.below hW)
    rw [show (ByteArray.mk A.toArray).data.toList = A by simp, ← hS.out] at h
    exact h⟩
  cases stepped with
  | true =>
    by_cases hbad : no = false ∨ n = 0
    · have HN : Aside0 (V = 0 ∧ O = false) := ⟨HNO.out (by rw [HI.out]; rcases hbad with h | h <;> simp [h])⟩
      obtain ⟨rfl, rfl⟩ := HN.out
      have hx : (n == 0) = decide (n = 0) := rfl
      by_cases hno' : no = false
      · subst hno'
        clear hbad
        go_enter Tryd.func55, Tryd.ntmps55
        go_wp2_with (first
          | (go_at_call 66; refine (cut_any s 47 _ hs (HM.out.below (below_alloc (Below.refl _ w) _))).mono ?_; rw [← hX.out]; rintro e w1 ⟨rfl, hb1⟩; (have HB1 := Aside0.mk (bthen (below_alloc (Below.refl _ w) _) hb1)); (have HS1 := Aside0.mk (blk_keep (blk_new _ _) hb1)); obtain ⟨c0, c1, _, _⟩ := all2 HS1.out; (have lt1 := blk_lt HS1.out); clear hb1)
          | (go_at_call 67; refine (CN.out _).mono ?_; rintro e w2 ⟨rfl, hb2⟩; (have HB2 := Aside0.mk (bthen HB1.out hb2)); (have HS2 := Aside0.mk (blk_keep HS1.out hb2)); clear c0 c1 lt1; obtain ⟨c0, c1, _, _⟩ := all2 HS2.out; (have lt1 := blk_lt HS2.out); clear hb2))
        go_ret2
        exact ⟨rfl, HB2.out⟩
      · have hno1 : no = true := by simpa using hno'
        have hn0 : n = 0 := hbad.resolve_left hno'
        subst hno1 hn0
        clear hbad hno'
        go_enter Tryd.func55, Tryd.ntmps55
        go_wp2_with (first
          | (go_at_call 66; refine (cut_any s 47 _ hs (HM.out.below (below_alloc (Below.refl _ w) _))).mono ?_; rw [← hX.out]; rintro e w1 ⟨rfl, hb1⟩; (have HB1 := Aside0.mk (bthen (below_alloc (Below.refl _ w) _) hb1)); (have HS1 := Aside0.mk (blk_keep (blk_new _ _) hb1)); obtain ⟨c0, c1, _, _⟩ := all2 HS1.out; (have lt1 := blk_lt HS1.out); clear hb1)
          | (go_at_call 67; refine (CN.out _).mono ?_; rintro e w2 ⟨rfl, hb2⟩; (have HB2 := Aside0.mk (bthen HB1.out hb2)); (have HS2 := Aside0.mk (blk_keep HS1.out hb2)); clear c0 c1 lt1; obtain ⟨c0, c1, _, _⟩ := all2 HS2.out; (have lt1 := blk_lt HS2.out); clear hb2))
        go_ret2
        exact ⟨rfl, HB2.out⟩
    · have hno1 : no = true := by cases no <;> simp_all
      have hn0 : (n == 0) = false := by simp; exact fun h => hbad (.inr h)
      have hn1 : 1 ≤ n := by have : n ≠ 0 := fun h => hbad (.inr h); omega
      subst hno1
      clear hbad
      cases ok with
      | false =>
        have HN : Aside0 (V = 0 ∧ O = false) := ⟨HNO.out (by rw [HI.out]; have : ¬ n = 0 := (by omega); simp [this])⟩
        obtain ⟨rfl, rfl⟩ := HN.out
        go_enter Tryd.func55, Tryd.ntmps55
        go_wp2_with (first
          | (go_at_call 66; refine (cut_any s 47 _ hs (HM.out.below (below_alloc (Below.refl _ w) _))).mono ?_; rw [← hX.out]; rintro e w1 ⟨rfl, hb1⟩; (have HB1 := Aside0.mk (bthen (below_alloc (Below.refl _ w) _) hb1)); (have HS1 := Aside0.mk (blk_keep (blk_new _ _) hb1)); obtain ⟨c0, c1, _, _⟩ := all2 HS1.out; (have lt1 := blk_lt HS1.out); clear hb1)
          | (go_at_call 67; refine (CN.out _).mono ?_; rintro e w2 ⟨rfl, hb2⟩; (have HB2 := Aside0.mk (bthen HB1.out hb2)); (have HS2 := Aside0.mk (blk_keep HS1.out hb2)); clear c0 c1 lt1; obtain ⟨c0, c1, _, _⟩ := all2 HS2.out; (have lt1 := blk_lt HS2.out); clear hb2)
          | (go_at_call 68; refine (CS.out _ HB2.out).mono ?_; rintro e w3 ⟨rfl, hb3⟩; (have HB3 := Aside0.mk (below_alloc (bthen HB2.out hb3) (.cells #[.int .i64 r1, .int .i64 r2] 98))); clear hb3))
        go_ret2
        exact ⟨rfl, HB3.out⟩
      | true =>
        cases wide with
        | false =>
          have HN : Aside0 (V = 0 ∧ O = false) := ⟨HNO.out (by rw [HI.out]; have : ¬ n = 0 := (by omega); simp [this])⟩
          obtain ⟨rfl, rfl⟩ := HN.out
          go_enter Tryd.func55, Tryd.ntmps55
          go_wp2_with (first
            | (go_at_call 66; refine (cut_any s 47 _ hs (HM.out.below (below_alloc (Below.refl _ w) _))).mono ?_; rw [← hX.out]; rintro e w1 ⟨rfl, hb1⟩; (have HB1 := Aside0.mk (bthen (below_alloc (Below.refl _ w) _) hb1)); (have HS1 := Aside0.mk (blk_keep (blk_new _ _) hb1)); obtain ⟨c0, c1, _, _⟩ := all2 HS1.out; (have lt1 := blk_lt HS1.out); clear hb1)
            | (go_at_call 67; refine (CN.out _).mono ?_; rintro e w2 ⟨rfl, hb2⟩; (have HB2 := Aside0.mk (bthen HB1.out hb2)); (have HS2 := Aside0.mk (blk_keep HS1.out hb2)); clear c0 c1 lt1; obtain ⟨c0, c1, _, _⟩ := all2 HS2.out; (have lt1 := blk_lt HS2.out); clear hb2)
            | (go_at_call 68; refine (CS.out _ HB2.out).mono ?_; rintro e w3 ⟨rfl, hb3⟩; (have HB3 := Aside0.mk (below_alloc (bthen HB2.out hb3) (.cells #[.int .i64 r1, .int .i64 r2] 98))); clear hb3))
          go_ret2
          exact ⟨rfl, HB3.out⟩
        | true =>
          obtain ⟨a, rfl⟩ := Int.eq_ofNat_of_zero_le (HSB.out rfl).1
          obtain ⟨b, rfl⟩ := Int.eq_ofNat_of_zero_le (show 0 ≤ r2 by have := HSB.out rfl; omega)
          obtain ⟨st, rfl⟩ := Int.eq_ofNat_of_zero_le nb0
          have HAB : a ≤ b ∧ b ≤ 63 := by have := HSB.out rfl; omega
          obtain ⟨ab, b63⟩ := HAB
          have HN : Aside0 (V = (setOf a b st : Nat) ∧ O = true) := ⟨HYES.out _ (by rw [HI.out]; have : ¬ st = 0 := (by omega); simp [this])⟩
          obtain ⟨rfl, rfl⟩ := HN.out
          go_enter Tryd.func55, Tryd.ntmps55
          go_wp2_with (first
            | (go_at_call 66; refine (cut_any s 47 _ hs (HM.out.below (below_alloc (Below.refl _ w) _))).mono ?_; rw [← hX.out]; rintro e w1 ⟨rfl, hb1⟩; (have HB1 := Aside0.mk (bthen (below_alloc (Below.refl _ w) _) hb1)); (have HS1 := Aside0.mk (blk_keep (blk_new _ _) hb1)); obtain ⟨c0, c1, _, _⟩ := all2 HS1.out; (have lt1 := blk_lt HS1.out); clear hb1)
            | (go_at_call 67; refine (CN.out _).mono ?_; rintro e w2 ⟨rfl, hb2⟩; (have HB2 := Aside0.mk (bthen HB1.out hb2)); (have HS2 := Aside0.mk (blk_keep HS1.out hb2)); clear c0 c1 lt1; obtain ⟨c0, c1, _, _⟩ := all2 HS2.out; (have lt1 := blk_lt HS2.out); clear hb2)
            | (go_at_call 68; refine (CS.out _ HB2.out).mono ?_; rintro e w3 ⟨rfl, hb3⟩; (have HB3 := Aside0.mk (bthen HB2.out hb3)); clear hb3))
          obtain ⟨W4, hW4⟩ : ∃ W4, W4 = w3.alloc (.cells #[.int .i64 (a : Int), .int .i64 (b : Int)] 98) := ⟨_, rfl⟩
          have HK4 : Aside0 (W4.heap[w3.heap.size]? = some (.cells #[.int .i64 (a : Int), .int .i64 (b : Int)] 98 (0, 0))) := ⟨by rw [hW4]; exact blk_new _ _⟩
          have HB4 : Aside0 (Below w.heap.size w W4) := ⟨by rw [hW4]; exact below_alloc HB3.out _⟩
          rw [← hW4]
          clear hW4 c0 c1 lt1
          have st1 : 1 ≤ st := by omega
          go_loopg [4, 11] (many a b st) (fun g v4 v11 wr => ∃ k x S : Nat, Aside0 (x = a + k * st ∧ S = setTo a st k) ∧ v11 = .int .i64 x ∧ g + k = many a b st ∧ v4 = .int .u64 S ∧ wr = W4)
          case atStart => exact ⟨0, a, 0, ⟨by simp, rfl⟩, rfl, by omega, rfl, rfl⟩
          case round =>
            obtain ⟨k, x, S, HX, rfl, hg, rfl, rfl⟩ := hrel
            obtain ⟨c0, c1, _, _⟩ := all2 HK4.out
            by_cases hx : x ≤ b
            · have HK : Aside0 (k < many a b st) := ⟨(many_iff st1).2 (by rw [← HX.out.1]; exact hx)⟩
              have hkm := HK.out
              have xi : (x : Int) ≤ (b : Int) := by omega
              have x63 : (x : Int) ≤ 63 := by omega
              go_wp2
              go_roundg (many a b st - k - 1)
              case measure => omega
              case rel =>
                have hS : S < 2 ^ 64 := by
                  rw [HX.out.2]
                  exact setTo_lt _ _ _ _ fun j hj => by
                    have := (many_iff (low := a) (high := b) (k := j) st1).1 (by omega)
                    omega
                exact ⟨k + 1, x + st, S ||| 2 ^ x, ⟨by rw [HX.out.1, Nat.add_mul]; omega, by rw [setTo_succ, ← HX.out.1, HX.out.2]⟩, by push_cast; rfl, by omega, by rw [or_bit hS (by omega)], rfl⟩
            · have xi : ¬ (x : Int) ≤ (b : Int) := by omega
              have HK : Aside0 (k = many a b st) := ⟨by
                have : ¬ k < many a b st := fun h => hx (by rw [HX.out.1]; exact (many_iff st1).1 h)
                omega⟩
              have HSS : Aside0 (S = setOf a b st) := ⟨by rw [HX.out.2, HK.out]; rfl⟩
              obtain rfl := HSS.out
              go_wp2
              go_ret2
              exact ⟨rfl, HB4.out⟩
  | false =>
    cases ok with
    | false =>
      have HN : Aside0 (V = 0 ∧ O = false) := ⟨HNO.out (by rw [HI.out]; simp)⟩
      obtain ⟨rfl, rfl⟩ := HN.out
      go_enter Tryd.func55, Tryd.ntmps55
      go_wp2_with (first
          | (go_at_call 66; refine (cut_any s 47 _ hs (HM.out.below (below_alloc (Below.refl _ w) _))).mono ?_; rw [← hX.out]; rintro e w1 ⟨rfl, hb1⟩; (have HB1 := Aside0.mk (bthen (below_alloc (Below.refl _ w) _) hb1)); (have HS1 := Aside0.mk (blk_keep (blk_new _ _) hb1)); obtain ⟨c0, c1, _, _⟩ := all2 HS1.out; (have lt1 := blk_lt HS1.out); clear hb1)
          | (go_at_call 68; refine (CS.out _ HB1.out).mono ?_; rintro e w3 ⟨rfl, hb3⟩; (have HB3 := Aside0.mk (below_alloc (bthen HB1.out hb3) (.cells #[.int .i64 r1, .int .i64 r2] 98))); clear hb3))
      go_ret2
      exact ⟨rfl, HB3.out⟩
    | true =>
      obtain ⟨a, rfl⟩ := Int.eq_ofNat_of_zero_le (HSB.out rfl).1
      obtain ⟨b, rfl⟩ := Int.eq_ofNat_of_zero_le (show 0 ≤ r2 by have := HSB.out rfl; omega)
      have HAB : a ≤ b ∧ b ≤ 63 := by have := HSB.out rfl; omega
      obtain ⟨ab, b63⟩ := HAB
      have HN : Aside0 (V = (setOf a b 1 : Nat) ∧ O = true) := ⟨HYES.out _ (by rw [HI.out]; simp)⟩
      obtain ⟨rfl, rfl⟩ := HN.out
      go_enter Tryd.func55, Tryd.ntmps55
      go_wp2_with (first
          | (go_at_call 66; refine (cut_any s 47 _ hs (HM.out.below (below_alloc (Below.refl _ w) _))).mono ?_; rw [← hX.out]; rintro e w1 ⟨rfl, hb1⟩; (have HB1 := Aside0.mk (bthen (below_alloc (Below.refl _ w) _) hb1)); (have HS1 := Aside0.mk (blk_keep (blk_new _ _) hb1)); obtain ⟨c0, c1, _, _⟩ := all2 HS1.out; (have lt1 := blk_lt HS1.out); clear hb1)
          | (go_at_call 68; refine (CS.out _ HB1.out).mono ?_; rintro e w3 ⟨rfl, hb3⟩; (have HB3 := Aside0.mk (bthen HB1.out hb3)); clear hb3))
      obtain ⟨W4, hW4⟩ : ∃ W4, W4 = w3.alloc (.cells #[.int .i64 (a : Int), .int .i64 (b : Int)] 98) := ⟨_, rfl⟩
      have HK4 : Aside0 (W4.heap[w3.heap.size]? = some (.cells #[.int .i64 (a : Int), .int .i64 (b : Int)] 98 (0, 0))) := ⟨by rw [hW4]; exact blk_new _ _⟩
      have HB4 : Aside0 (Below w.heap.size w W4) := ⟨by rw [hW4]; exact below_alloc HB3.out _⟩
      rw [← hW4]
      clear hW4 c0 c1 lt1
      have st1 : 0 < 1 := by omega
      go_loopg [4, 11] (many a b 1) (fun g v4 v11 wr => ∃ k x S : Nat, Aside0 (x = a + k * 1 ∧ S = setTo a 1 k) ∧ v11 = .int .i64 x ∧ g + k = many a b 1 ∧ v4 = .int .u64 S ∧ wr = W4)
      case atStart => exact ⟨0, a, 0, ⟨by simp, rfl⟩, rfl, by omega, rfl, rfl⟩
      case round =>
        obtain ⟨k, x, S, HX, rfl, hg, rfl, rfl⟩ := hrel
        obtain ⟨c0, c1, _, _⟩ := all2 HK4.out
        by_cases hx : x ≤ b
        · have HK : Aside0 (k < many a b 1) := ⟨(many_iff st1).2 (by rw [← HX.out.1]; exact hx)⟩
          have hkm := HK.out
          have xi : (x : Int) ≤ (b : Int) := by omega
          have x63 : (x : Int) ≤ 63 := by omega
          go_wp2
          go_roundg (many a b 1 - k - 1)
          case measure => omega
          case rel =>
            have hS : S < 2 ^ 64 := by
              rw [HX.out.2]
              exact setTo_lt _ _ _ _ fun j hj => by
                have := (many_iff (low := a) (high := b) (k := j) st1).1 (by omega)
                omega
            exact ⟨k + 1, x + 1, S ||| 2 ^ x, ⟨by rw [HX.out.1, Nat.add_mul]; omega, by rw [setTo_succ, ← HX.out.1, HX.out.2]⟩, by push_cast; rfl, by omega, by rw [or_bit hS (by omega)], rfl⟩
        · have xi : ¬ (x : Int) ≤ (b : Int) := by omega
          have HK : Aside0 (k = many a b 1) := ⟨by
            have : ¬ k < many a b 1 := fun h => hx (by rw [HX.out.1]; exact (many_iff st1).1 h)
            omega⟩
          have HSS : Aside0 (S = setOf a b 1) := ⟨by rw [HX.out.2, HK.out]; rfl⟩
          obtain rfl := HSS.out
          go_wp2
          go_ret2
          exact ⟨rfl, HB4.out⟩
end Go.Proofs.YteloamnakikbbaaDoor.Cron

/- A range over a function whose body never leaves: one caller and its iterator walked together. -/
namespace Go.Proofs.YteloamnakikbbaaDoor.RangeOne
open Go.RowKit
set_option linter.unusedVariables false
variable {F : Fence} {n : Nat} {P : Program}

/-- the loop's record and the block of its deferred calls, between two rounds -/
def Rec (r : Loop) (D : Nat) (W : World) : Prop := W.heap[D + 1]? = some (.loop r) ∧ W.heap[D]? = some (.deferred (some []))

theorem Rec.lt {r : Loop} {D : Nat} {W : World} (h : Rec r D W) : D + 1 < W.heap.size := (Array.getElem?_eq_some_iff.1 h.1).1

/-- one round: its body ends off its end. -/
theorem yield_at {m : Nat} {r : Loop} {D : Nat} {W : World} {args : Array Value} {R : World → Prop} (hF : F.fn r.fn) (hrec : Rec r D W) (hr : r.state = .ready) (hp : r.pending = none) (hs : args.size = r.params.size)
    (h : r.assign.wpIn (F.inRound (D + 1)) m P (Exit.then (fun a1 W1 => Rec r D W1 ∧
        r.body.wpIn (F.inRound (D + 1)) m P (fun e _ W3 => e = .normal ∧ W3.heap[D + 1]? = some (.loop { r with state := .busy }) ∧ W3.heap[D]? = some (.deferred (some [])) ∧ R (W3.putObj (D + 1) (.loop r))) a1 (W1.putObj (D + 1) (.loop { r with state := .busy }))) (fun _ _ _ => False))
      { tmps := (r.params.zip args).foldl (fun t (p, v) => t.setIfInBounds p v) r.tmps, defers := [] } W) :
    YieldAt F m P (D + 1) args W fun e W' => e = .returned (.bool true) ∧ Rec r D W' ∧ R W' := by
  refine ⟨r.fn, _, r.assign, r.body, run_yield (P := P) (args := args) hrec.1 hs, roundIn_of_wpIn hF (wpIn_mono h ?_)⟩
  rintro e a1 W1 hq
  cases e with
  | normal =>
    obtain ⟨hr1, hb⟩ := hq
    refine ⟨_, run_beginRound hr1.1 hr, wpIn_mono hb ?_⟩
    rintro e a3 W3 ⟨rfl, hl3, hd3, hR⟩
    have hend := run_endRound (P := P) none hl3
    have he : ({ r with state := .ready, pending := none } : Loop) = r := by
      cases r; simp_all
    have he2 : ({ { r with state := .busy } with state := if (none : Option Code).isNone then .ready else .done, pending := none } : Loop) = r := by
      cases r; simp_all
    rw [he2] at hend
    have hlt : D + 1 < W3.heap.size := (Array.getElem?_eq_some_iff.1 hl3).1
    exact ⟨_, _, hend, rfl, ⟨World.putObj_heap_same hlt, (World.putObj_heap_other (by omega)).trans hd3⟩, hR⟩
  | ret => exact hq.elim
  | exit id => exact hq.elim
  | goto t => exact hq.elim
  | panic c => exact hq.elim
  | outgrown => exact hq.elim

/-- the statement: the iterator's own contract, at this loop's record. -/
theorem wp_range {g : Operand} {ps : Array Tmp} {assign body : Code} {Q : Exit → Act → World → Prop} {a : Act} {w : World} {K : World → Prop}
    (hro : F.round = none) (h1 : 1 ≤ n) {gf : Nat} {lb : Array Value} (hg : a.eval g = .func (.func gf) #[] lb) (hFg : F.fn gf) (eg : ∀ args w, (callFunc gf args).run P w = .ok (.enter gf args) w)
    (h : ∀ fn, F.fn fn → ∀ r : Loop, r = { state := .ready, pending := none, fn, tmps := a.tmps, params := ps, assign, body, defers := w.heap.size } →
      CallsIn F (n - 1) P gf (#[.func (.yield (w.heap.size + 1)) #[] #[]] ++ lb) ((w.alloc (.deferred (some []))).alloc (.loop r)) (fun e W' => (∃ v, e = .returned v) ∧ Rec r w.heap.size W' ∧ K (W'.putObj (w.heap.size + 1) (.loop { r with state := .exhausted }))))
    (hK : ∀ W, K W → W.heap[w.heap.size]? = some (.deferred (some [])) → Q .normal { a with defers := { target := .collected w.heap.size, args := #[] } :: a.defers } W) :
    (Code.rangeFunc g ps assign body).wpIn F n P Q a w := by
  refine wpIn_rangeFunc ?_
  intro fn hfn
  rw [hro]
  obtain ⟨r, hr⟩ : ∃ r : Loop, r = { state := .ready, pending := none, fn, tmps := a.tmps, params := ps, assign, body, defers := w.heap.size } := ⟨_, rfl⟩
  obtain ⟨W1, hW1⟩ : ∃ W1, W1 = (w.alloc (.deferred (some []))).alloc (.loop r) := ⟨_, rfl⟩
  refine ⟨w.heap.size + 1, [{ target := .collected w.heap.size, args := #[] }], W1, { target := .fn (.func gf) lb, args := #[.func (.yield (w.heap.size + 1)) #[] #[]] }, W1, gf,
    #[.func (.yield (w.heap.size + 1)) #[] #[]] ++ lb, W1, ?_, ?_, ?_, ?_, fun _ => h1, ?_⟩
  · rw [hW1, hr]; exact run_enterLoop_outer _ _ _ _ _
  · simp only [resolve, hg]
    simp [go_sem]
  · intro f' hf'; simp [Target.leads] at hf'; subst hf'; exact hFg
  · simp [invoke, go_sem, eg]
  · rw [hW1]
    refine (h fn hfn r hr).mono ?_
    rintro e W' ⟨⟨v, rfl⟩, hrec, hk⟩
    refine ⟨none, _, by have := run_endLoop (P := P) hrec.1 (by rw [hr]; simp); rw [show r.pending = none by rw [hr]] at this; exact this, ?_⟩
    have hk' : K (W'.putObj (w.heap.size + 1) (.loop { r with state := .exhausted, pending := none })) := by
      have he : ({ r with state := .exhausted, pending := none } : Loop) = { r with state := .exhausted } := by rw [hr]
      rw [he]; exact hk
    exact hK _ hk' ((World.putObj_heap_other (by omega)).trans hrec.2)
end Go.Proofs.YteloamnakikbbaaDoor.RangeOne

/- A range over a function whose body goes on or returns: one caller and its iterator walked together. -/
namespace Go.Proofs.YteloamnakikbbaaDoor.RangeOne
open Go.RowKit
set_option linter.unusedVariables false
set_option linter.unusedSimpArgs false
variable {F : Fence} {n : Nat} {P : Program}

/-- the record behind a round that returned -/
abbrev Loop.left (r : Loop) : Loop := { r with state := .done, pending := some .ret }
/-- one round: its body ends off its end, or returns. -/
theorem yield_two {m : Nat} {r : Loop} {D : Nat} {W : World} {args : Array Value} {R : Bool → World → Prop} (hF : F.fn r.fn) (hrec : Rec r D W) (hr : r.state = .ready) (hp : r.pending = none) (hs : args.size = r.params.size)
    (h : r.assign.wpIn (F.inRound (D + 1)) m P (Exit.then (fun a1 W1 => Rec r D W1 ∧
        r.body.wpIn (F.inRound (D + 1)) m P (fun e _ W3 => W3.heap[D + 1]? = some (.loop { r with state := .busy }) ∧ W3.heap[D]? = some (.deferred (some [])) ∧
          ((e = .normal ∧ R true (W3.putObj (D + 1) (.loop r))) ∨ (e = .ret ∧ R false (W3.putObj (D + 1) (.loop (Loop.left r)))))) a1 (W1.putObj (D + 1) (.loop { r with state := .busy }))) (fun _ _ _ => False))
      { tmps := (r.params.zip args).foldl (fun t (p, v) => t.setIfInBounds p v) r.tmps, defers := [] } W) :
    YieldAt F m P (D + 1) args W fun e W' => (e = .returned (.bool true) ∧ Rec r D W' ∧ R true W') ∨ (e = .returned (.bool false) ∧ Rec (Loop.left r) D W' ∧ R false W') := by
  refine ⟨r.fn, _, r.assign, r.body, run_yield (P := P) (args := args) hrec.1 hs, roundIn_of_wpIn hF (wpIn_mono h ?_)⟩
  rintro e a1 W1 hq
  cases e with
  | normal =>
    obtain ⟨hr1, hb⟩ := hq
    refine ⟨_, run_beginRound hr1.1 hr, wpIn_mono hb ?_⟩
    rintro e a3 W3 ⟨hl3, hd3, hR⟩
    have hlt : D + 1 < W3.heap.size := (Array.getElem?_eq_some_iff.1 hl3).1
    rcases hR with ⟨rfl, hR⟩ | ⟨rfl, hR⟩
    · have hend := run_endRound (P := P) none hl3
      have he2 : ({ { r with state := .busy } with state := if (none : Option Code).isNone then .ready else .done, pending := none } : Loop) = r := by
        cases r; simp_all
      rw [he2] at hend
      exact ⟨_, _, hend, .inl ⟨rfl, ⟨World.putObj_heap_same hlt, (World.putObj_heap_other (by omega)).trans hd3⟩, hR⟩⟩
    · have hend := run_endRound (P := P) (some .ret) hl3
      have he2 : ({ { r with state := .busy } with state := if (some Code.ret : Option Code).isNone then .ready else .done, pending := some .ret } : Loop) = Loop.left r := by
        cases r; simp_all [Loop.left]
      rw [he2] at hend
      exact ⟨_, _, hend, .inr ⟨rfl, ⟨World.putObj_heap_same hlt, (World.putObj_heap_other (by omega)).trans hd3⟩, hR⟩⟩
  | ret => exact hq.elim
  | exit id => exact hq.elim
  | goto t => exact hq.elim
  | panic c => exact hq.elim
  | outgrown => exact hq.elim

/-- the statement: the iterator's own contract, at this loop's record; where a round returned the function returns. -/
theorem wp_range2 {g : Operand} {ps : Array Tmp} {assign body : Code} {Q : Exit → Act → World → Prop} {a : Act} {w : World} {K Kx : World → Prop}
    (hro : F.round = none) (h1 : 1 ≤ n) {gf : Nat} {lb : Array Value} (hg : a.eval g = .func (.func gf) #[] lb) (hFg : F.fn gf) (eg : ∀ args w, (callFunc gf args).run P w = .ok (.enter gf args) w)
    (h : ∀ fn, F.fn fn → ∀ r : Loop, r = { state := .ready, pending := none, fn, tmps := a.tmps, params := ps, assign, body, defers := w.heap.size } →
      CallsIn F (n - 1) P gf (#[.func (.yield (w.heap.size + 1)) #[] #[]] ++ lb) ((w.alloc (.deferred (some []))).alloc (.loop r)) (fun e W' => (∃ v, e = .returned v) ∧
        ((Rec r w.heap.size W' ∧ K (W'.putObj (w.heap.size + 1) (.loop { r with state := .exhausted }))) ∨ (Rec (Loop.left r) w.heap.size W' ∧ Kx (W'.putObj (w.heap.size + 1) (.loop { Loop.left r with state := .exhausted }))))))
    (hK : ∀ W, K W → W.heap[w.heap.size]? = some (.deferred (some [])) → Q .normal { a with defers := { target := .collected w.heap.size, args := #[] } :: a.defers } W)
    (hKx : ∀ W, Kx W → W.heap[w.heap.size]? = some (.deferred (some [])) → Code.ret.wpIn F n P Q { a with defers := { target := .collected w.heap.size, args := #[] } :: a.defers } W) :
    (Code.rangeFunc g ps assign body).wpIn F n P Q a w := by
  refine wpIn_rangeFunc ?_
  intro fn hfn
  rw [hro]
  obtain ⟨r, hr⟩ : ∃ r : Loop, r = { state := .ready, pending := none, fn, tmps := a.tmps, params := ps, assign, body, defers := w.heap.size } := ⟨_, rfl⟩
  obtain ⟨W1, hW1⟩ : ∃ W1, W1 = (w.alloc (.deferred (some []))).alloc (.loop r) := ⟨_, rfl⟩
  refine ⟨w.heap.size + 1, [{ target := .collected w.heap.size, args := #[] }], W1, { target := .fn (.func gf) lb, args := #[.func (.yield (w.heap.size + 1)) #[] #[]] }, W1, gf,
    #[.func (.yield (w.heap.size + 1)) #[] #[]] ++ lb, W1, ?_, ?_, ?_, ?_, fun _ => h1, ?_⟩
  · rw [hW1, hr]; exact run_enterLoop_outer _ _ _ _ _
  · simp only [resolve, hg]
    simp [go_sem]
  · intro f' hf'; simp [Target.leads] at hf'; subst hf'; exact hFg
  · simp [invoke, go_sem, eg]
  · rw [hW1]
    refine (h fn hfn r hr).mono ?_
    rintro e W' ⟨⟨v, rfl⟩, ⟨hrec, hk⟩ | ⟨hrec, hk⟩⟩
    · refine ⟨none, _, by have := run_endLoop (P := P) hrec.1 (by rw [hr]; simp); rw [show r.pending = none by rw [hr]] at this; exact this, ?_⟩
      have hk' : K (W'.putObj (w.heap.size + 1) (.loop { r with state := .exhausted, pending := none })) := by
        have he : ({ r with state := .exhausted, pending := none } : Loop) = { r with state := .exhausted } := by rw [hr]
        rw [he]; exact hk
      exact hK _ hk' ((World.putObj_heap_other (by omega)).trans hrec.2)
    · exact ⟨some .ret, _, run_endLoop (P := P) hrec.1 (by simp [Loop.left]), hKx _ hk ((World.putObj_heap_other (by omega)).trans hrec.2)⟩
end Go.Proofs.YteloamnakikbbaaDoor.RangeOne
