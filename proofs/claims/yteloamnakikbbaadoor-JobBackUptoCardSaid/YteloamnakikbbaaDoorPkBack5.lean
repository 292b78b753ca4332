/- A part of the proof: cron: field, and the library's strings.SplitSeq, walked together. -/
import Derived.Test.YteloamnakikbbaaDoorPkBack4
import Derived.Test.YteloamnakikbbaaDoorPkBack3
import Derived.Shelf.Abstract
import Derived.Shelf.RegionOpen
import Derived.WalkKit
import Derived.OwnWalkIn
import Derived.TacticsInMore
import Derived.LoopNIn
import Derived.LoopIn
import Derived.Deep.RegionHeld3

/- cron: field, and the library's strings.SplitSeq, walked together. -/
namespace Go.Proofs.YteloamnakikbbaaDoor.Cron
set_option linter.unusedVariables false
set_option linter.unusedSimpArgs false
open Go.RowKit Go.Shelf Go.Proofs.YteloamnakikbbaaDoorW.PrintWords Go.Proofs.YteloamnakikbbaaDoorW.PrintLast Go.Proofs.YteloamnakikbbaaDoor.Base Go.Proofs.YteloamnakikbbaaDoor.Cells Go.Proofs.YteloamnakikbbaaDoor.CronPure Go.Proofs.YteloamnakikbbaaDoor.NamesPure Go.Proofs.YteloamnakikbbaaDoor.RangeOne
attribute [local go_sem] Oper.semAt_some

theorem index44 (R : ByteArray) : Lib.index R.data.toList [44] = -1 ∨ ∃ i : Nat, Lib.index R.data.toList [44] = i ∧ i + 1 ≤ R.size := Lib.indexB_cases R ⟨#[44]⟩
theorem list_of {l : List UInt8} {s : ByteArray} (h : (⟨l.toArray⟩ : ByteArray) = s) : l = s.data.toList := by rw [← h]
theorem cut44_hit {R : ByteArray} {i : Nat} (h : Lib.index R.data.toList [44] = i) : Lib.cut R.data.toList [44] = ((R.extract 0 i).data.toList, (R.extract (i + 1) R.size).data.toList, true) := by
  obtain ⟨e1, e2, e3⟩ := Lib.cutB_hit R ⟨#[44]⟩ i h
  exact Prod.ext (list_of e1) (Prod.ext (list_of e2) e3)
theorem cut44_miss {R : ByteArray} (h : Lib.index R.data.toList [44] = -1) : Lib.cut R.data.toList [44] = (R.data.toList, [], false) := by
  obtain ⟨e1, e2, e3⟩ := Lib.cutB_miss R ⟨#[44]⟩ h
  exact Prod.ext (list_of e1) (Prod.ext (list_of e2) e3)
theorem item_lt {lo hi : Int} {l : List UInt8} {x : Nat} (h0 : 0 ≤ lo) (h1 : lo ≤ hi) (h2 : hi ≤ 63) (h : itemP lo hi l = some x) : x < 2 ^ 64 := by
  unfold itemP at h
  dsimp only at h
  generalize Lib.cut l [47] = X at h
  have nb := numV_bd X.2.1
  split at h
  · cases h
  · rename_i hn
    split at h
    · cases h
    · rename_i hs
      injection h with h
      subst h
      have hok : (spreadP lo hi X.1).2.2.2 = true := by
        cases hk : (spreadP lo hi X.1).2.2.2 with
        | true => rfl
        | false => rw [hk] at hs; simp at hs
      have hb := spread_bd h0 h1 h2 hok
      have hst : 0 < (if X.2.2 then (numV X.2.1).toNat else 1) := by
        split
        · rename_i hx
          rw [hx] at hn
          simp at hn
          have := hn.2
          omega
        · omega
      refine setTo_lt _ _ _ _ fun j hj => ?_
      have := (many_iff hst).1 hj
      omega
theorem fieldF_miss {lo hi : Int} {f set : Nat} {R : ByteArray} (h : Lib.index R.data.toList [44] = -1) : fieldF lo hi (f + 1) set R.data.toList = (itemP lo hi R.data.toList).map (set ||| ·) := by
  rw [fieldF, cut44_miss h]
  dsimp only
  cases itemP lo hi R.data.toList <;> rfl
theorem fieldF_hit {lo hi : Int} {f set i : Nat} {R : ByteArray} (h : Lib.index R.data.toList [44] = i) : fieldF lo hi (f + 1) set R.data.toList = (itemP lo hi (R.extract 0 i).data.toList).bind fun x => fieldF lo hi f (set ||| x) (R.extract (i + 1) R.size).data.toList := by
  rw [fieldF, cut44_hit h]
  dsimp only
  cases itemP lo hi (R.extract 0 i).data.toList <;> rfl

theorem data_len (s : ByteArray) : s.data.toList.length = s.size := by simp
theorem cut_short {l : List UInt8} (h : (Lib.cut l [44]).2.2 = true) : (Lib.cut l [44]).2.1.length < l.length := by
  unfold Lib.cut at h ⊢
  split at h
  · rename_i h0
    rw [if_pos h0]
    have hr := Lib.index_room l [44] h0
    simp only [List.length_drop, List.length_singleton] at hr ⊢
    omega
  · cases h
theorem fieldF_fuel (lo hi : Int) : ∀ (f g set : Nat) (l : List UInt8), l.length < f → l.length < g → fieldF lo hi f set l = fieldF lo hi g set l
  | 0, _, _, _, h, _ => by omega
  | _ + 1, 0, _, _, _, h => by omega
  | f + 1, g + 1, set, l, h1, h2 => by
    rw [fieldF, fieldF]
    split
    · rfl
    · split
      · rename_i hc
        have := cut_short hc
        exact fieldF_fuel lo hi f g _ _ (by omega) (by omega)
      · rfl
/-- between two rounds -/
structure Fd (w0 : World) (lo hi : Int) (set : Nat) (rest : ByteArray) (W : World) : Prop where
  scope : W.heap[w0.heap.size]? = some (.cells #[.int .i64 lo, .int .i64 hi] 98 (0, 0))
  set : W.heap[w0.heap.size + 1]? = some (.cells #[.int .u64 (set : Nat)] 25 (0, 0))
  ok : W.heap[w0.heap.size + 1 + 1]? = some (.cells #[.bool false] 4 (0, 0))
  rest : W.heap[w0.heap.size + 1 + 1 + 1]? = some (.cells #[.string rest] 9 (0, 0))
  sep : W.heap[w0.heap.size + 1 + 1 + 1 + 1]? = some (.cells #[.string ⟨#[44]⟩] 9 (0, 0))
  save : W.heap[w0.heap.size + 1 + 1 + 1 + 1 + 1]? = some (.cells #[.int .i64 0] 3 (0, 0))
  below : Below w0.heap.size w0 W
/-- a round has returned -/
structure Fx (w0 : World) (W : World) : Prop where
  set : W.heap[w0.heap.size + 1]? = some (.cells #[.int .u64 0] 25 (0, 0))
  ok : W.heap[w0.heap.size + 1 + 1]? = some (.cells #[.bool false] 4 (0, 0))
  below : Below w0.heap.size w0 W
theorem Fd.step {w0 : World} {lo hi : Int} {set : Nat} {rest : ByteArray} {W W' : World} (h : Fd w0 lo hi set rest W) (hb : Below W.heap.size W W') : Fd w0 lo hi set rest W' :=
  ⟨blk_keep h.scope hb, blk_keep h.set hb, blk_keep h.ok hb, blk_keep h.rest hb, blk_keep h.sep hb, blk_keep h.save hb, bthen h.below hb⟩
theorem Fd.add {w0 : World} {lo hi : Int} {set : Nat} {rest : ByteArray} {W : World} (h : Fd w0 lo hi set rest W) (x : Nat) : Fd w0 lo hi (set ||| x) rest (W.setCell ⟨w0.heap.size + 1, 0, none⟩ (.int .u64 ((set ||| x : Nat) : Int))) := by
  have q1 : ∀ k o, k ≠ w0.heap.size + 1 → W.heap[k]? = some o → (W.setCell ⟨w0.heap.size + 1, 0, none⟩ (.int .u64 ((set ||| x : Nat) : Int))).heap[k]? = some o := fun k o n1 h => (Below.heap_setCell _ ⟨w0.heap.size + 1, 0, none⟩ _ k n1).trans h
  exact ⟨q1 _ _ (by omega) h.scope, blk_put h.set 0 _ rfl, q1 _ _ (by omega) h.ok, q1 _ _ (by omega) h.rest, q1 _ _ (by omega) h.sep, q1 _ _ (by omega) h.save, h.below.setCell (p := ⟨w0.heap.size + 1, 0, none⟩) (Nat.le_succ _) _⟩
theorem Fd.next {w0 : World} {lo hi : Int} {set : Nat} {rest : ByteArray} {W : World} (h : Fd w0 lo hi set rest W) (R : ByteArray) : Fd w0 lo hi set R (W.setCell ⟨w0.heap.size + 1 + 1 + 1, 0, none⟩ (.string R)) := by
  have q1 : ∀ k o, k ≠ w0.heap.size + 1 + 1 + 1 → W.heap[k]? = some o → (W.setCell ⟨w0.heap.size + 1 + 1 + 1, 0, none⟩ (.string R)).heap[k]? = some o := fun k o n1 h => (Below.heap_setCell _ ⟨w0.heap.size + 1 + 1 + 1, 0, none⟩ _ k n1).trans h
  exact ⟨q1 _ _ (by omega) h.scope, q1 _ _ (by omega) h.set, q1 _ _ (by omega) h.ok, blk_put h.rest 0 _ rfl, q1 _ _ (by omega) h.sep, q1 _ _ (by omega) h.save, h.below.setCell (p := ⟨w0.heap.size + 1 + 1 + 1, 0, none⟩) (by show w0.heap.size ≤ w0.heap.size + 1 + 1 + 1; omega) _⟩
theorem Fd.leave {w0 : World} {lo hi : Int} {set : Nat} {rest : ByteArray} {W : World} (h : Fd w0 lo hi set rest W) : Fx w0 ((W.setCell ⟨w0.heap.size + 1, 0, none⟩ (.int .u64 0)).setCell ⟨w0.heap.size + 1 + 1, 0, none⟩ (.bool false)) :=
  ⟨(Below.heap_setCell _ ⟨w0.heap.size + 1 + 1, 0, none⟩ _ _ (by show _ ≠ w0.heap.size + 1 + 1; omega)).trans (blk_put h.set 0 _ rfl), blk_put ((Below.heap_setCell _ ⟨w0.heap.size + 1, 0, none⟩ _ _ (by show _ ≠ w0.heap.size + 1; omega)).trans h.ok) 0 _ rfl,
    (h.below.setCell (p := ⟨w0.heap.size + 1, 0, none⟩) (Nat.le_succ _) _).setCell (p := ⟨w0.heap.size + 1 + 1, 0, none⟩) (by show w0.heap.size ≤ w0.heap.size + 1 + 1; omega) _⟩
theorem put_at {W : World} {k l : Nat} {o ob : Obj} (h : W.heap[k]? = some ob) (hne : k ≠ l) : (W.putObj l o).heap[k]? = some ob := (World.putObj_heap_other hne).trans h
theorem Fd.put {w0 : World} {lo hi : Int} {set : Nat} {rest : ByteArray} {W : World} {l : Nat} {o o' : Obj} (h : Fd w0 lo hi set rest W) (hl : w0.heap.size + 6 ≤ l) (ho : W.heap[l]? = some o) (hc : o.isCells = false) (hw : o.isWalk = false) : Fd w0 lo hi set rest (W.putObj l o') :=
  ⟨put_at h.scope (by omega), put_at h.set (by omega), put_at h.ok (by omega), put_at h.rest (by omega), put_at h.sep (by omega), put_at h.save (by omega), h.below.trans (belowK_b (w := w0) (Nat.le_refl _) W l o o' (by omega) ho hc hw)⟩
theorem Fx.put {w0 W : World} {l : Nat} {o o' : Obj} (h : Fx w0 W) (hl : w0.heap.size + 6 ≤ l) (ho : W.heap[l]? = some o) (hc : o.isCells = false) (hw : o.isWalk = false) : Fx w0 (W.putObj l o') :=
  ⟨put_at h.set (by omega), put_at h.ok (by omega), h.below.trans (belowK_b (w := w0) (Nat.le_refl _) W l o o' (by omega) ho hc hw)⟩
theorem Rec_below {r : Loop} {D : Nat} {W W1 : World} (h : Rec r D W) (hb : Below W.heap.size W W1) : Rec r D W1 := ⟨(hb.block _ h.lt).trans h.1, (hb.block _ (by have := h.lt; omega)).trans h.2⟩

theorem heap6 (w : World) (o1 o2 o3 o4 o5 o6 : Array Value) {t1 t2 t3 t4 t5 t6 : TypeId} {w1 : World} (h : w1 = (((((w.alloc (.cells o1 t1)).alloc (.cells o2 t2)).alloc (.cells o3 t3)).alloc (.cells o4 t4)).alloc (.cells o5 t5)).alloc (.cells o6 t6)) :
    w1.heap[w.heap.size]? = some (.cells o1 t1 (0, 0)) ∧ w1.heap[w.heap.size + 1]? = some (.cells o2 t2 (0, 0)) ∧ w1.heap[w.heap.size + 1 + 1]? = some (.cells o3 t3 (0, 0)) ∧ w1.heap[w.heap.size + 1 + 1 + 1]? = some (.cells o4 t4 (0, 0)) ∧ w1.heap[w.heap.size + 1 + 1 + 1 + 1]? = some (.cells o5 t5 (0, 0)) ∧ w1.heap[w.heap.size + 1 + 1 + 1 + 1 + 1]? = some (.cells o6 t6 (0, 0)) ∧ Below w.heap.size w w1 := by
  subst h
  have n1 := blk_new w (.cells o1 t1)
  have n2 := blk_new1 w (.cells o1 t1) o2 t2
  have n3 := blk_new1 (w.alloc (.cells o1 t1)) (.cells o2 t2) o3 t3
  have n4 := blk_new1 ((w.alloc (.cells o1 t1)).alloc (.cells o2 t2)) (.cells o3 t3) o4 t4
  have n5 := blk_new1 (((w.alloc (.cells o1 t1)).alloc (.cells o2 t2)).alloc (.cells o3 t3)) (.cells o4 t4) o5 t5
  have n6 := blk_new1 ((((w.alloc (.cells o1 t1)).alloc (.cells o2 t2)).alloc (.cells o3 t3)).alloc (.cells o4 t4)) (.cells o5 t5) o6 t6
  simp only [World.size_alloc] at n3 n4 n5 n6
  exact ⟨blk_alloc (blk_alloc (blk_alloc (blk_alloc (blk_alloc n1 _) _) _) _) _, blk_alloc (blk_alloc (blk_alloc (blk_alloc n2 _) _) _) _, blk_alloc (blk_alloc (blk_alloc n3 _) _) _, blk_alloc (blk_alloc n4 _) _, blk_alloc n5 _, n6,
    below_alloc (below_alloc (below_alloc (below_alloc (below_alloc (below_alloc (Below.refl _ _) _) _) _) _) _) _⟩
set_option maxRecDepth 100000 in
theorem splitSeq_any (s sep : ByteArray) (w : World) : Calls Tryd.prog 54 #[.string s, .string sep] w fun e w' => e = .returned (.func (.func 77) #[] #[.pointer (some ⟨w.heap.size + 1, 0, none⟩), .pointer (some ⟨w.heap.size, 0, none⟩), .pointer (some ⟨w.heap.size + 1 + 1, 0, none⟩)]) ∧ w' = ((w.alloc (.cells #[.string s] 9)).alloc (.cells #[.string sep] 9)).alloc (.cells #[.int .i64 0] 3) := by
  go_enter Tryd.func54, Tryd.ntmps54
  go_wp2
  go_ret
  exact ⟨rfl, rfl⟩

set_option maxRecDepth 100000 in
set_option maxHeartbeats 4000000 in
theorem field_any (lo hi : Int) (s : ByteArray) (w : World) (hs : s.size ≤ 1000) (hm : MaxL w) (h0 : 0 ≤ lo) (h1 : lo ≤ hi) (h2 : hi ≤ 63) :
    Calls Tryd.prog 42 #[.agg #[.int .i64 lo, .int .i64 hi], .string s] w fun e w' => e = .returned (.tuple #[.int .u64 ((fieldP lo hi s.data.toList).getD 0 : Nat), .bool (fieldP lo hi s.data.toList).isSome]) ∧ Below w.heap.size w w' := by
  obtain ⟨FR, hFR⟩ := named (fieldP lo hi s.data.toList)
  rw [← hFR.out]
  have HM := Aside0.mk hm
  have HLH := Aside0.mk (And.intro h0 (And.intro h1 h2))
  clear hm h0 h1 h2
  refine (callsIn_wide (n := 5)).1 ?_
  refine callsIn_of_wp_marks Tryd.func42 rfl trivial ?_ rfl
  simp only [Tryd.ntmps42, List.size_toArray, List.length_cons, List.length_nil, Nat.reduceAdd, Nat.reduceSub, Array.replicate_succ, Array.replicate_zero, List.push_toArray, List.append_toArray, List.nil_append, List.cons_append]
  gi_wp2_with fail
  refine ⟨trivial, callsIn_wide.2 ((splitSeq_any _ _ _).mono ?_)⟩
  rintro e w1 ⟨rfl, hw1⟩
  have HS1 : Aside0 (w1.heap.size = w.heap.size + 6) := ⟨by rw [hw1]; simp⟩
  have HI1 : Aside0 (Fd w lo hi 0 s w1) := ⟨by
    have e1 := heap6 w _ _ _ _ _ _ hw1
    exact ⟨e1.1, e1.2.1, e1.2.2.1, e1.2.2.2.1, e1.2.2.2.2.1, e1.2.2.2.2.2.1, e1.2.2.2.2.2.2⟩⟩
  clear hw1
  gi_wp2_with fail
  refine RangeOne.wp_range2 (K := fun W => ∃ set rest, Fd w lo hi set rest W ∧ FR = some set) (Kx := fun W => Fx w W ∧ FR = none) rfl (by omega) (gf := 77) (lb := #[.pointer (some ⟨w.heap.size + 1 + 1 + 1 + 1, 0, none⟩), .pointer (some ⟨w.heap.size + 1 + 1 + 1, 0, none⟩), .pointer (some ⟨w.heap.size + 1 + 1 + 1 + 1 + 1, 0, none⟩)]) rfl trivial (enters_of Tryd.func77 (by kernel_rfl) rfl) ?iter ?after ?left
  case iter =>
    intro fn hfn r hr
    have HY : Aside0 (∀ (W : World) (set : Nat) (rest it : ByteArray), it.size ≤ 1000 → set < 2 ^ 64 → Rec r w1.heap.size W → Fd w lo hi set rest W →
        YieldAt Fence.wide 3 Tryd.prog (w1.heap.size + 1) #[.string it] W fun e W' => (e = .returned (.bool true) ∧ Rec r w1.heap.size W' ∧ ∃ x, itemP lo hi it.data.toList = some x ∧ Fd w lo hi (set ||| x) rest W') ∨
          (e = .returned (.bool false) ∧ Rec (Loop.left r) w1.heap.size W' ∧ itemP lo hi it.data.toList = none ∧ Fx w W')) := ⟨by
      intro W set rest it hit hset hrec hfd
      suffices KEY : YieldAt Fence.wide 3 Tryd.prog (w1.heap.size + 1) #[.string it] W fun e W' => (e = .returned (.bool true) ∧ Rec r w1.heap.size W' ∧ ((true = true → ∃ x, itemP lo hi it.data.toList = some x ∧ Fd w lo hi (set ||| x) rest W') ∧ (true = false → itemP lo hi it.data.toList = none ∧ Fx w W'))) ∨
          (e = .returned (.bool false) ∧ Rec (Loop.left r) w1.heap.size W' ∧ ((false = true → ∃ x, itemP lo hi it.data.toList = some x ∧ Fd w lo hi (set ||| x) rest W') ∧ (false = false → itemP lo hi it.data.toList = none ∧ Fx w W'))) by
        obtain ⟨fn', t', a', b', e1, e2⟩ := KEY
        refine ⟨fn', t', a', b', e1, e2.mono ?_⟩
        rintro e W' (⟨h1, h2, h3, _⟩ | ⟨h1, h2, _, h4⟩)
        · exact .inl ⟨h1, h2, h3 rfl⟩
        · exact .inr ⟨h1, h2, h4 rfl⟩
      refine yield_two (R := fun b W' => (b = true → ∃ x, itemP lo hi it.data.toList = some x ∧ Fd w lo hi (set ||| x) rest W') ∧ (b = false → itemP lo hi it.data.toList = none ∧ Fx w W')) trivial hrec (by rw [hr]) (by rw [hr]) (by rw [hr]; rfl) ?_
      have hT : ∀ x : Value, (r.params.zip #[x]).foldl (fun t (p, v) => t.setIfInBounds p v) r.tmps = #[.agg #[.int .i64 lo, .int .i64 hi], .string s, .pointer (some ⟨w.heap.size, 0, none⟩), undef, .pointer (some ⟨w.heap.size + 1, 0, none⟩), .pointer (some ⟨w.heap.size + 1 + 1, 0, none⟩), undef, undef, undef, .string s,
          .func (.func 77) #[] #[.pointer (some ⟨w.heap.size + 1 + 1 + 1 + 1, 0, none⟩), .pointer (some ⟨w.heap.size + 1 + 1 + 1, 0, none⟩), .pointer (some ⟨w.heap.size + 1 + 1 + 1 + 1 + 1, 0, none⟩)], x, undef, undef, undef, undef, undef, undef, undef, undef, undef, undef, undef, undef] := fun x => by rw [hr]; simp
      rw [hT]
      obtain ⟨rb, hrb⟩ : ∃ rb : Loop, rb = { r with state := .busy } := ⟨_, rfl⟩
      rw [← hrb]
      have hA := congrArg Loop.assign hr
      have hB := congrArg Loop.body hr
      dsimp only at hA hB
      rw [hA, hB]
      have HRec := Aside0.mk hrec
      have HFd := Aside0.mk hfd
      have HRB := Aside0.mk hrb
      have HRR := Aside0.mk hr
      have HSE := Aside0.mk hset
      clear hA hB hrec hfd hrb hr hT hset
      gi_wp2
      refine ⟨⟨HRec.out.1, HRec.out.2⟩, ?_⟩
      have hlt := HRec.out.lt
      have hs6 := HS1.out
      obtain ⟨W2, hW2⟩ : ∃ W2, W2 = W.putObj (w1.heap.size + 1) (.loop rb) := ⟨_, rfl⟩
      have HL2 : Aside0 (W2.heap[w1.heap.size + 1]? = some (.loop rb)) := ⟨by rw [hW2]; exact World.putObj_heap_same (by omega)⟩
      have HD2 : Aside0 (W2.heap[w1.heap.size]? = some (.deferred (some []))) := ⟨by rw [hW2]; exact (World.putObj_heap_other (by omega)).trans HRec.out.2⟩
      have HF2 : Aside0 (Fd w lo hi set rest W2) := ⟨by rw [hW2]; exact HFd.out.put (by omega) HRec.out.1 rfl rfl⟩
      rw [← hW2]
      clear hW2 hs6
      obtain ⟨c0, c1, _, _⟩ := all2 HF2.out.scope
      obtain ⟨IP, hIP⟩ := named (itemP lo hi it.data.toList)
      gi_wp2_with fail
      refine ⟨trivial, ?_⟩
      refine (CallsIn.inRound (w1.heap.size + 1) (callsIn_wide.2 (item_any lo hi it W2 hit (HM.out.below HF2.out.below) HLH.out.1 HLH.out.2.1 HLH.out.2.2))).mono ?_
      rw [itemV, itemOk, ← hIP.out]
      rintro e w3 ⟨rfl, hb3⟩
      have HF3 := Aside0.mk (HF2.out.step hb3)
      have HL3 : Aside0 (w3.heap[w1.heap.size + 1]? = some (.loop rb)) := ⟨(hb3.block _ (Array.getElem?_eq_some_iff.1 HL2.out).1).trans HL2.out⟩
      have HD3 : Aside0 (w3.heap[w1.heap.size]? = some (.deferred (some []))) := ⟨(hb3.block _ (Array.getElem?_eq_some_iff.1 HD2.out).1).trans HD2.out⟩
      have d1 : w3.cell? ⟨w.heap.size + 1, 0, none⟩ = some (.int .u64 (set : Nat)) := blk_cell HF3.out.set 0
      have d2 : w3.cell? ⟨w.heap.size + 1 + 1, 0, none⟩ = some (.bool false) := blk_cell HF3.out.ok 0
      have f1 : w3.frozen? ⟨w.heap.size + 1, 0, none⟩ = false := blk_frozen HF3.out.set 0
      have f2 : w3.frozen? ⟨w.heap.size + 1 + 1, 0, none⟩ = false := blk_frozen HF3.out.ok 0
      clear c0 c1 hb3
      cases IP with
      | none =>
        gi_wp2_with fail
        have q1 : ∀ k o, k ≠ w.heap.size + 1 → k ≠ w.heap.size + 1 + 1 → w3.heap[k]? = some o → ((w3.setCell ⟨w.heap.size + 1, 0, none⟩ (.int .u64 0)).setCell ⟨w.heap.size + 1 + 1, 0, none⟩ (.bool false)).heap[k]? = some o := fun k o n1 n2 h => (Below.heap_setCell _ ⟨w.heap.size + 1 + 1, 0, none⟩ _ k n2).trans ((Below.heap_setCell _ ⟨w.heap.size + 1, 0, none⟩ _ k n1).trans h)
        have l1 := q1 _ _ (by have := HS1.out; omega) (by have := HS1.out; omega) HL3.out
        exact ⟨l1, q1 _ _ (by have := HS1.out; omega) (by have := HS1.out; omega) HD3.out, hIP.out.symm, HF3.out.leave.put (by have := HS1.out; omega) l1 rfl rfl⟩
      | some x =>
        have hx : Aside0 (bits .or .u64 (set : Int) (x : Int) = ((set ||| x : Nat) : Int)) := ⟨bits_or_u64_nat set x (by have : (2 : Nat) ^ 64 = 18446744073709551616 := rfl; have := HSE.out; omega) (by have : (2 : Nat) ^ 64 = 18446744073709551616 := rfl; have := item_lt HLH.out.1 HLH.out.2.1 HLH.out.2.2 hIP.out.symm; omega)⟩
        gi_wp2_with fail
        rw [hx.out]
        have q1 : ∀ k o, k ≠ w.heap.size + 1 → w3.heap[k]? = some o → (w3.setCell ⟨w.heap.size + 1, 0, none⟩ (.int .u64 ((set ||| x : Nat) : Int))).heap[k]? = some o := fun k o n1 h => (Below.heap_setCell _ ⟨w.heap.size + 1, 0, none⟩ _ k n1).trans h
        have l1 := q1 _ _ (by have := HS1.out; omega) HL3.out
        exact ⟨l1, q1 _ _ (by have := HS1.out; omega) HD3.out, x, hIP.out.symm, (HF3.out.add x).put (by have := HS1.out; omega) l1 rfl rfl⟩⟩
    obtain ⟨W0, hW0⟩ : ∃ W0, W0 = (w1.alloc (.deferred (some []))).alloc (.loop r) := ⟨_, rfl⟩
    have HR0 : Aside0 (Rec r w1.heap.size W0) := ⟨by
      rw [hW0]
      have h := World.alloc_heap_new (w1.alloc (.deferred (some []))) (.loop r)
      rw [World.size_alloc] at h
      exact ⟨h, (Below.heap_alloc _ _ _ (by simp)).trans (World.alloc_heap_new w1 _)⟩⟩
    have HF0 : Aside0 (Fd w lo hi 0 s W0) := ⟨by rw [hW0]; exact HI1.out.step (below_alloc (below_alloc (Below.refl _ _) _) _)⟩
    rw [← hW0]
    clear hW0 hr
    refine callsIn_of_wp Tryd.func77 rfl trivial ?_ rfl
    simp only [Tryd.ntmps77, List.size_toArray, List.length_cons, List.length_nil, Nat.reduceAdd, Nat.reduceSub, Array.replicate_succ, Array.replicate_zero, List.push_toArray, List.append_toArray, List.nil_append, List.cons_append]
    have b4 : W0.cell? ⟨w.heap.size + 1 + 1 + 1 + 1, 0, none⟩ = some (.string ⟨#[44]⟩) := blk_cell HF0.out.sep 0
    gi_wp2_with fail
    gi_loopw [7] (fun p wr => ∃ (set : Nat) (R : ByteArray), R.size ≤ 1000 ∧ set < 2 ^ 64 ∧ Rec r w1.heap.size wr ∧ Fd w lo hi set R wr ∧ FR = fieldF lo hi (R.size + 1) set R.data.toList)
      (fun p wr => match wr.cell? ⟨w.heap.size + 1 + 1 + 1, 0, none⟩ with | some (.string R) => R.size | _ => 0)
    case atStart => exact ⟨0, s, hs, by decide, HR0.out, HF0.out, by rw [hFR.out, fieldP]; simp⟩
    case round =>
      obtain ⟨set, R, hR, hset, hrec, hfd, hff⟩ := hrel
      have b3 : wr.cell? ⟨w.heap.size + 1 + 1 + 1, 0, none⟩ = some (.string R) := blk_cell hfd.rest 0
      have b4 : wr.cell? ⟨w.heap.size + 1 + 1 + 1 + 1, 0, none⟩ = some (.string ⟨#[44]⟩) := blk_cell hfd.sep 0
      have b5 : wr.cell? ⟨w.heap.size + 1 + 1 + 1 + 1 + 1, 0, none⟩ = some (.int .i64 0) := blk_cell hfd.save 0
      have HRC := Aside0.mk hrec
      have HFD := Aside0.mk hfd
      have HFF := Aside0.mk hff
      have HSE := Aside0.mk hset
      obtain ⟨m, hm⟩ := HM.out.below hfd.below
      have CI : Aside0 (Calls Tryd.prog 79 #[.string R, .string ⟨#[44]⟩] wr fun e w' => e = .returned (.int .i64 (Lib.index R.data.toList [44])) ∧ w' = wr) := ⟨Tryd.strings_Index R ⟨#[44]⟩ m wr (by omega) hm⟩
      clear hrec hfd hff hset hm
      rcases index44 R with hix | ⟨i, hix, hir⟩
      · rw [hix] at CI
        have HIX := Aside0.mk hix
        clear hix
        obtain ⟨fn2, tm2, as2, bd2, hy, hRd⟩ := HY.out wr set R R hR HSE.out HRC.out HFD.out
        gi_wp2_with fail
        refine ⟨trivial, callsIn_wide.2 (CI.out.mono ?_)⟩
        rintro e w' ⟨rfl, hw'⟩
        obtain rfl := hw'.symm
        gi_wp2
        refine hRd.mono ?_
        rintro e W3 (⟨rfl, hrec3, x, hx, hf3⟩ | ⟨rfl, hrec3, hx, hf3⟩)
        · skip
          have HR3 := Aside0.mk hrec3
          have HF3 := Aside0.mk hf3
          have HX := Aside0.mk hx
          clear hrec3 hf3 hx hy
          gi_wp2
          go_end0
          exact ⟨⟨_, rfl⟩, .inl ⟨HR3.out, set ||| x, R, HF3.out.put (by have := HS1.out; omega) HR3.out.1 rfl rfl, by rw [HFF.out, fieldF_miss HIX.out, HX.out]; rfl⟩⟩
        · skip
          have HR3 := Aside0.mk hrec3
          have HF3 := Aside0.mk hf3
          have HX := Aside0.mk hx
          clear hrec3 hf3 hx hy
          gi_wp2
          go_end0
          exact ⟨⟨_, rfl⟩, .inr ⟨HR3.out, HF3.out.put (by have := HS1.out; omega) HR3.out.1 rfl rfl, by rw [HFF.out, fieldF_miss HIX.out, HX.out]; rfl⟩⟩
      · rw [hix] at CI
        have HIX := Aside0.mk hix
        clear hix
        have i0 : (0 : Int) ≤ (i : Int) := by omega
        have ir : (i : Int) + 1 ≤ (R.size : Int) := by omega
        obtain ⟨fn2, tm2, as2, bd2, hy, hRd⟩ := HY.out wr set R (R.extract 0 i) (by rw [ByteArray.size_extract]; omega) HSE.out HRC.out HFD.out
        gi_wp2_with fail
        refine ⟨trivial, callsIn_wide.2 (CI.out.mono ?_)⟩
        rintro e w' ⟨rfl, hw'⟩
        obtain rfl := hw'.symm
        gi_wp2
        refine hRd.mono ?_
        rintro e W3 (⟨rfl, hrec3, x, hx, hf3⟩ | ⟨rfl, hrec3, hx, hf3⟩)
        · have HR3 := Aside0.mk hrec3
          have HF3 := Aside0.mk hf3
          have HX := Aside0.mk hx
          have p3 : W3.cell? ⟨w.heap.size + 1 + 1 + 1, 0, none⟩ = some (.string R) := blk_cell hf3.rest 0
          have p4 : W3.cell? ⟨w.heap.size + 1 + 1 + 1 + 1, 0, none⟩ = some (.string ⟨#[44]⟩) := blk_cell hf3.sep 0
          have p5 : W3.frozen? ⟨w.heap.size + 1 + 1 + 1, 0, none⟩ = false := blk_frozen hf3.rest 0
          clear hrec3 hf3 hx hy
          gi_wp2
          have hn := HF3.out.next (R.extract (i + 1) R.size)
          have hsz : (R.extract (i + 1) R.size).size = R.size - (i + 1) := by rw [ByteArray.size_extract]; omega
          refine ⟨⟨set ||| x, R.extract (i + 1) R.size, by omega, Nat.or_lt_two_pow HSE.out (item_lt HLH.out.1 HLH.out.2.1 HLH.out.2.2 HX.out), ⟨(Below.heap_setCell _ ⟨w.heap.size + 1 + 1 + 1, 0, none⟩ _ _ (by show _ ≠ w.heap.size + 1 + 1 + 1; have := HS1.out; omega)).trans HR3.out.1, (Below.heap_setCell _ ⟨w.heap.size + 1 + 1 + 1, 0, none⟩ _ _ (by show _ ≠ w.heap.size + 1 + 1 + 1; have := HS1.out; omega)).trans HR3.out.2⟩, hn, ?_⟩, ?_⟩
          · rw [HFF.out, fieldF_hit HIX.out, HX.out]
            exact fieldF_fuel _ _ _ _ _ _ (by rw [data_len]; omega) (by rw [data_len]; omega)
          · have q1 : (W3.setCell ⟨w.heap.size + 1 + 1 + 1, 0, none⟩ (.string (R.extract (i + 1) R.size))).cell? ⟨w.heap.size + 1 + 1 + 1, 0, none⟩ = some (.string (R.extract (i + 1) R.size)) := blk_cell hn.rest 0
            have q2 : wr.cell? ⟨w.heap.size + 1 + 1 + 1, 0, none⟩ = some (.string R) := blk_cell HFD.out.rest 0
            rw [q1, q2]
            show (R.extract (i + 1) R.size).size < R.size
            omega
        · have HR3 := Aside0.mk hrec3
          have HF3 := Aside0.mk hf3
          have HX := Aside0.mk hx
          clear hrec3 hf3 hx hy
          gi_wp2
          refine bodyPost_ret (results_none rfl _ _ _) rfl ?_
          exact ⟨⟨_, rfl⟩, .inr ⟨HR3.out, HF3.out.put (by have := HS1.out; omega) HR3.out.1 rfl rfl, by rw [HFF.out, fieldF_hit HIX.out, HX.out]; rfl⟩⟩
  case after =>
    rintro W ⟨set, rest, hfd, hfr⟩ hD
    have d1 : W.cell? ⟨w.heap.size + 1, 0, none⟩ = some (.int .u64 (set : Nat)) := blk_cell hfd.set 0
    have d2 : W.cell? ⟨w.heap.size + 1 + 1, 0, none⟩ = some (.bool false) := blk_cell hfd.ok 0
    have f1 : W.frozen? ⟨w.heap.size + 1, 0, none⟩ = false := blk_frozen hfd.set 0
    have f2 : W.frozen? ⟨w.heap.size + 1 + 1, 0, none⟩ = false := blk_frozen hfd.ok 0
    have HFD := Aside0.mk hfd
    have HFR := Aside0.mk hfr
    have HDD := Aside0.mk hD
    clear hfd hfr hD
    gi_wp2
    obtain ⟨W5, hW5⟩ : ∃ W5, W5 = (W.setCell ⟨w.heap.size + 1, 0, none⟩ (.int .u64 (set : Nat))).setCell ⟨w.heap.size + 1 + 1, 0, none⟩ (.bool true) := ⟨_, rfl⟩
    have q1 : ∀ k o, k ≠ w.heap.size + 1 → k ≠ w.heap.size + 1 + 1 → W.heap[k]? = some o → W5.heap[k]? = some o := fun k o n1 n2 h => by
      rw [hW5]
      exact (Below.heap_setCell _ ⟨w.heap.size + 1 + 1, 0, none⟩ _ k n2).trans ((Below.heap_setCell _ ⟨w.heap.size + 1, 0, none⟩ _ k n1).trans h)
    have k1 : W5.heap[w.heap.size + 1]? = some (.cells #[.int .u64 (set : Nat)] 25 (0, 0)) := by
      rw [hW5]
      exact (Below.heap_setCell _ ⟨w.heap.size + 1 + 1, 0, none⟩ _ _ (by show _ ≠ w.heap.size + 1 + 1; omega)).trans (blk_put HFD.out.set 0 _ rfl)
    have k2 : W5.heap[w.heap.size + 1 + 1]? = some (.cells #[.bool true] 4 (0, 0)) := by
      rw [hW5]
      exact blk_put ((Below.heap_setCell _ ⟨w.heap.size + 1, 0, none⟩ _ _ (by show _ ≠ w.heap.size + 1; omega)).trans HFD.out.ok) 0 _ rfl
    have hD5 : W5.heap[w1.heap.size]? = some (.deferred (some [])) := q1 _ _ (by have := HS1.out; omega) (by have := HS1.out; omega) HDD.out
    have b5 : Below w.heap.size w W5 := by
      rw [hW5]
      exact (HFD.out.below.setCell (p := ⟨w.heap.size + 1, 0, none⟩) (Nat.le_succ _) _).setCell (p := ⟨w.heap.size + 1 + 1, 0, none⟩) (by show w.heap.size ≤ w.heap.size + 1 + 1; omega) _
    rw [← hW5]
    refine ⟨by simp, .inl ⟨_, _, rfl, run_takeDeferred hD5, ?_⟩⟩
    have c0 : (W5.putObj w1.heap.size (.deferred none)).cell? ⟨w.heap.size + 1, 0, none⟩ = some (.int .u64 (set : Nat)) := blk_cell (put_at k1 (by have := HS1.out; omega)) 0
    have c1 : (W5.putObj w1.heap.size (.deferred none)).cell? ⟨w.heap.size + 1 + 1, 0, none⟩ = some (.bool true) := blk_cell (put_at k2 (by have := HS1.out; omega)) 0
    refine ⟨.tuple #[.int .u64 (set : Nat), .bool true], ?_, by rw [HFR.out]; rfl, b5.trans (belowK_b (w := w) (Nat.le_refl _) _ _ _ (.deferred none) (by have := HS1.out; omega) hD5 rfl rfl)⟩
    simp [results, go_sem, Tryd.f42, c0, c1]
  case left =>
    rintro W ⟨hfx, hfr⟩ hD
    have HFX := Aside0.mk hfx
    have HFR := Aside0.mk hfr
    have HDD := Aside0.mk hD
    clear hfx hfr hD
    gi_wp2
    refine ⟨by simp, .inl ⟨_, _, rfl, run_takeDeferred HDD.out, ?_⟩⟩
    have c0 : (W.putObj w1.heap.size (.deferred none)).cell? ⟨w.heap.size + 1, 0, none⟩ = some (.int .u64 0) := blk_cell (put_at HFX.out.set (by have := HS1.out; omega)) 0
    have c1 : (W.putObj w1.heap.size (.deferred none)).cell? ⟨w.heap.size + 1 + 1, 0, none⟩ = some (.bool false) := blk_cell (put_at HFX.out.ok (by have := HS1.out; omega)) 0
    refine ⟨.tuple #[.int .u64 0, .bool false], ?_, by rw [HFR.out]; rfl, HFX.out.below.trans (belowK_b (w := w) (Nat.le_refl _) _ _ _ (.deferred none) (by have := HS1.out; omega) HDD.out rfl rfl)⟩
    simp [results, go_sem, Tryd.f42, c0, c1]
end Go.Proofs.YteloamnakikbbaaDoor.Cron

/- cron: words, scopes, walked; what Parse computes. -/
namespace Go.Proofs.YteloamnakikbbaaDoor.Cron
set_option linter.unusedVariables false
set_option linter.unusedSimpArgs false
open Go.RowKit Go.Proofs.YteloamnakikbbaaDoorW.PrintWords Go.Proofs.YteloamnakikbbaaDoorW.PrintLast Go.Proofs.YteloamnakikbbaaDoor.Base Go.Proofs.YteloamnakikbbaaDoor.Cells Go.Proofs.YteloamnakikbbaaDoor.CronPure Go.Proofs.YteloamnakikbbaaDoor.NamesPure

def blank (x : Nat) : Bool := x == 32
/-- the words of a rule -/
def wordsP (s : ByteArray) : List ByteArray := Lib.goFieldsP blank s
def wordAt (s : ByteArray) (i : Nat) : ByteArray := (wordsP s).getD i ⟨#[]⟩
/-- the five sets -/
def setAt (s : ByteArray) : Nat → Option Nat
  | 0 => fieldP 0 59 (wordAt s 0).data.toList
  | 1 => fieldP 0 23 (wordAt s 1).data.toList
  | 2 => fieldP 1 31 (wordAt s 2).data.toList
  | 3 => fieldP 1 12 (wordAt s 3).data.toList
  | _ => fieldP 0 7 (wordAt s 4).data.toList
def sets5 (s : ByteArray) : Bool := (setAt s 0).isSome && ((setAt s 1).isSome && ((setAt s 2).isSome && ((setAt s 3).isSome && (setAt s 4).isSome)))
def parseE (s : ByteArray) : Int := if 400 < s.size then 5 else if (wordsP s).length ≠ 5 then 3 else if sets5 s then 0 else 12
def weekOf (x : Nat) : Nat := (x &&& 127) ||| (x >>> 7)
def setN (s : ByteArray) (i : Nat) : Nat := (setAt s i).getD 0

set_option maxRecDepth 100000 in
theorem pred_any (x : Nat) (W : World) : Calls Tryd.prog 53 #[.int .i32 x] W fun e w' => e = .returned (.bool (blank x)) ∧ Below W.heap.size W w' := by
  have HX : Aside0 (blank x = ((x : Int) == 32)) := ⟨by rw [blank, Bool.eq_iff_iff]; simp; omega⟩
  rw [HX.out]
  go_enter Tryd.func53, Tryd.ntmps53
  go_wp2
  go_ret
  exact ⟨rfl, Below.refl _ _⟩
set_option maxRecDepth 100000 in
theorem words_any (s : ByteArray) (w : World) (hs : s.size ≤ 1000) :
    Calls Tryd.prog 40 #[.string s] w fun e w' => ∃ A, e = .returned (.slice (some ⟨A, 0, none⟩) (wordsP s).length (wordsP s).length) ∧ w.heap.size ≤ A ∧
      w'.ownsRow w.heap.size 9 1 (.slice (some ⟨A, 0, none⟩) (wordsP s).length (wordsP s).length) (wordsP s).length ((wordsP s).map Value.string) ∧ Below w.heap.size w w' := by
  have C := Tryd.strings_FieldsFunc 53 #[] (enters_of Tryd.func53 (by kernel_rfl) rfl) blank s w (by omega) (fun W x hx hb => by
    have := pred_any x W
    simpa [encR] using this)
  have HC := Aside0.mk C
  clear C
  go_enter Tryd.func40, Tryd.ntmps40
  go_wp2_with (go_at_call 52; refine HC.out.mono ?_; rintro e w1 ⟨A, rfl, hA, ho, hb⟩; have HO := Aside0.mk ho; have HB := Aside0.mk hb; clear ho hb)
  go_ret
  exact ⟨A, rfl, hA, HO.out, HB.out⟩

set_option maxRecDepth 100000 in
theorem scopes_any (w : World) : Calls Tryd.prog 41 #[] w fun e w' => e = .returned (.agg #[.int .i64 0, .int .i64 59, .int .i64 0, .int .i64 23, .int .i64 1, .int .i64 31, .int .i64 1, .int .i64 12, .int .i64 0, .int .i64 7]) ∧ Below w.heap.size w w' := by
  go_enter Tryd.func41, Tryd.ntmps41
  go_wp2
  refine bodyPost_ret (results_cell_row rfl _ _ w.heap.size 99 #[.int .i64 0, .int .i64 59, .int .i64 0, .int .i64 23, .int .i64 1, .int .i64 31, .int .i64 1, .int .i64 12, .int .i64 0, .int .i64 7] (0, 0) _ rfl (blk_new _ _) Tryd.underlying99 rfl (by kernel_rfl)) rfl ?_
  exact ⟨rfl, below_alloc (Below.refl _ _) _⟩
theorem idx5_0 (w : World) : (Instr.index 99 (.agg #[.int .i64 0, .int .i64 59, .int .i64 0, .int .i64 23, .int .i64 1, .int .i64 31, .int .i64 1, .int .i64 12, .int .i64 0, .int .i64 7]) (.int .i64 0)).run Tryd.prog w = .ok (.agg #[.int .i64 0, .int .i64 59]) w := by
  simp [Instr.index, run_underlying Tryd.underlying99, asIntOf, go_sem, Tryd.sizeOf98]
theorem idx5_1 (w : World) : (Instr.index 99 (.agg #[.int .i64 0, .int .i64 59, .int .i64 0, .int .i64 23, .int .i64 1, .int .i64 31, .int .i64 1, .int .i64 12, .int .i64 0, .int .i64 7]) (.int .i64 1)).run Tryd.prog w = .ok (.agg #[.int .i64 0, .int .i64 23]) w := by
  simp [Instr.index, run_underlying Tryd.underlying99, asIntOf, go_sem, Tryd.sizeOf98]
theorem idx5_2 (w : World) : (Instr.index 99 (.agg #[.int .i64 0, .int .i64 59, .int .i64 0, .int .i64 23, .int .i64 1, .int .i64 31, .int .i64 1, .int .i64 12, .int .i64 0, .int .i64 7]) (.int .i64 2)).run Tryd.prog w = .ok (.agg #[.int .i64 1, .int .i64 31]) w := by
  simp [Instr.index, run_underlying Tryd.underlying99, asIntOf, go_sem, Tryd.sizeOf98]
theorem idx5_3 (w : World) : (Instr.index 99 (.agg #[.int .i64 0, .int .i64 59, .int .i64 0, .int .i64 23, .int .i64 1, .int .i64 31, .int .i64 1, .int .i64 12, .int .i64 0, .int .i64 7]) (.int .i64 3)).run Tryd.prog w = .ok (.agg #[.int .i64 1, .int .i64 12]) w := by
  simp [Instr.index, run_underlying Tryd.underlying99, asIntOf, go_sem, Tryd.sizeOf98]
theorem idx5_4 (w : World) : (Instr.index 99 (.agg #[.int .i64 0, .int .i64 59, .int .i64 0, .int .i64 23, .int .i64 1, .int .i64 31, .int .i64 1, .int .i64 12, .int .i64 0, .int .i64 7]) (.int .i64 4)).run Tryd.prog w = .ok (.agg #[.int .i64 0, .int .i64 7]) w := by
  simp [Instr.index, run_underlying Tryd.underlying99, asIntOf, go_sem, Tryd.sizeOf98]
end Go.Proofs.YteloamnakikbbaaDoor.Cron

/- cron.Parse, walked. -/
namespace Go.Proofs.YteloamnakikbbaaDoor.Cron
set_option linter.unusedVariables false
set_option linter.unusedSimpArgs false
open Go.RowKit Go.Proofs.YteloamnakikbbaaDoorW.PrintWords Go.Proofs.YteloamnakikbbaaDoorW.PrintLast Go.Proofs.YteloamnakikbbaaDoor.Base Go.Proofs.YteloamnakikbbaaDoor.Cells Go.Proofs.YteloamnakikbbaaDoor.CronPure Go.Proofs.YteloamnakikbbaaDoor.NamesPure

section
variable {w : World} {g : Nat} {t : TypeId} {a b c d e f h : Value}
theorem all7 (hh : w.heap[g]? = some (.cells #[a, b, c, d, e, f, h] t (0, 0))) : (w.cell? ⟨g, 0, none⟩ = some a ∧ w.cell? ⟨g, 1, none⟩ = some b ∧ w.cell? ⟨g, 2, none⟩ = some c ∧ w.cell? ⟨g, 3, none⟩ = some d ∧ w.cell? ⟨g, 4, none⟩ = some e ∧ w.cell? ⟨g, 5, none⟩ = some f ∧ w.cell? ⟨g, 6, none⟩ = some h) ∧
    w.frozen? ⟨g, 0, none⟩ = false ∧ w.frozen? ⟨g, 1, none⟩ = false ∧ w.frozen? ⟨g, 2, none⟩ = false ∧ w.frozen? ⟨g, 3, none⟩ = false ∧ w.frozen? ⟨g, 4, none⟩ = false ∧ w.frozen? ⟨g, 5, none⟩ = false ∧ w.frozen? ⟨g, 6, none⟩ = false :=
  ⟨⟨blk_cell hh 0, blk_cell hh 1, blk_cell hh 2, blk_cell hh 3, blk_cell hh 4, blk_cell hh 5, blk_cell hh 6⟩, blk_frozen hh 0, blk_frozen hh 1, blk_frozen hh 2, blk_frozen hh 3, blk_frozen hh 4, blk_frozen hh 5, blk_frozen hh 6⟩
theorem blk7 {x0 x1 x2 x3 x4 x5 x6 : Value} (hh : w.heap[g]? = some (.cells #[a, b, c, d, e, f, h] t (0, 0))) : (((((((w.setCell ⟨g, 0, none⟩ x0).setCell ⟨g, 1, none⟩ x1).setCell ⟨g, 2, none⟩ x2).setCell ⟨g, 3, none⟩ x3).setCell ⟨g, 4, none⟩ x4).setCell ⟨g, 5, none⟩ x5).setCell ⟨g, 6, none⟩ x6).heap[g]? = some (.cells #[x0, x1, x2, x3, x4, x5, x6] t (0, 0)) :=
  blk_put (cs := #[x0, x1, x2, x3, x4, x5, h]) (blk_put (cs := #[x0, x1, x2, x3, x4, f, h]) (blk_put (cs := #[x0, x1, x2, x3, e, f, h]) (blk_put (cs := #[x0, x1, x2, d, e, f, h]) (blk_put (cs := #[x0, x1, c, d, e, f, h]) (blk_put (cs := #[x0, b, c, d, e, f, h]) (blk_put (cs := #[a, b, c, d, e, f, h]) hh 0 x0 rfl) 1 x1 rfl) 2 x2 rfl) 3 x3 rfl) 4 x4 rfl) 5 x5 rfl) 6 x6 rfl
theorem below_set7 {B : Nat} {w0 : World} (hb : Below B w0 w) (hg : B ≤ g) (x0 x1 x2 x3 x4 x5 x6 : Value) : Below B w0 (((((((w.setCell ⟨g, 0, none⟩ x0).setCell ⟨g, 1, none⟩ x1).setCell ⟨g, 2, none⟩ x2).setCell ⟨g, 3, none⟩ x3).setCell ⟨g, 4, none⟩ x4).setCell ⟨g, 5, none⟩ x5).setCell ⟨g, 6, none⟩ x6) :=
  ((((((hb.setCell (p := ⟨g, 0, none⟩) hg x0).setCell (p := ⟨g, 1, none⟩) hg x1).setCell (p := ⟨g, 2, none⟩) hg x2).setCell (p := ⟨g, 3, none⟩) hg x3).setCell (p := ⟨g, 4, none⟩) hg x4).setCell (p := ⟨g, 5, none⟩) hg x5).setCell (p := ⟨g, 6, none⟩) hg x6
end
theorem results_ct {P : Program} {fn : Func} {p t2 : Tmp} {ty : TypeId} (h : fn.results = #[.cell p ty, .tmp t2]) (tmps : Array Value) (w : World) (g : Nat) (t : TypeId) (cs : Array Value) (fr : Nat × Nat) (d : TypeDesc)
    (hp : tmps.getD p undef = .pointer (some ⟨g, 0, none⟩)) (hg : w.heap[g]? = some (.cells cs t fr))
    (hu : P.underlying ty = some d) (hd : (match d with | .struct _ | .array _ _ => true | _ => false) = true) (hi : (P.info? ty).map (·.size) = some cs.size) :
    (results fn tmps).run P w = .ok (.tuple #[.agg cs, tmps.getD t2 undef]) w := by
  have hp' : tmps[p]?.getD undef = .pointer (some ⟨g, 0, none⟩) := by simpa using hp
  simp [results, h, hp', asAddr, run_loadVar_row w g t ty cs fr d hg hu hd hi]

/-- what Parse has behind i fields -/
def arrS (s : ByteArray) : Nat → Array Value
  | 0 => #[.int .u64 0, .int .u64 0, .int .u64 0, .int .u64 0, .int .u64 0]
  | 1 => #[.int .u64 (setN s 0 : Nat), .int .u64 0, .int .u64 0, .int .u64 0, .int .u64 0]
  | 2 => #[.int .u64 (setN s 0 : Nat), .int .u64 (setN s 1 : Nat), .int .u64 0, .int .u64 0, .int .u64 0]
  | 3 => #[.int .u64 (setN s 0 : Nat), .int .u64 (setN s 1 : Nat), .int .u64 (setN s 2 : Nat), .int .u64 0, .int .u64 0]
  | 4 => #[.int .u64 (setN s 0 : Nat), .int .u64 (setN s 1 : Nat), .int .u64 (setN s 2 : Nat), .int .u64 (setN s 3 : Nat), .int .u64 0]
  | _ => #[.int .u64 (setN s 0 : Nat), .int .u64 (setN s 1 : Nat), .int .u64 (setN s 2 : Nat), .int .u64 (setN s 3 : Nat), .int .u64 (setN s 4 : Nat)]
structure Pd (w : World) (A G : Nat) (s : ByteArray) (cs : Array Value) (W : World) : Prop where
  rule : W.heap[w.heap.size]? = some (.cells #[.int .u64 0, .int .u64 0, .int .u64 0, .int .u64 0, .int .u64 0, .bool false, .bool false] 63 (0, 0))
  sets : W.heap[G]? = some (.cells cs 96 (0, 0))
  words : W.cell? ⟨A, 0, none⟩ = some (.string (wordAt s 0)) ∧ W.cell? ⟨A, 1, none⟩ = some (.string (wordAt s 1)) ∧ W.cell? ⟨A, 2, none⟩ = some (.string (wordAt s 2)) ∧ W.cell? ⟨A, 3, none⟩ = some (.string (wordAt s 3)) ∧ W.cell? ⟨A, 4, none⟩ = some (.string (wordAt s 4))
  below : Below w.heap.size w W
  one : w.heap.size < A
  two : A < G
theorem Pd.step {w : World} {A G : Nat} {s : ByteArray} {cs : Array Value} {W W' : World} (h : Pd w A G s cs W) (hb : Below W.heap.size W W') : Pd w A G s cs W' := by
  have hA : A < W.heap.size := Nat.lt_trans h.two (blk_lt h.sets)
  obtain ⟨c0, c1, c2, c3, c4⟩ := h.words
  exact ⟨blk_keep h.rule hb, blk_keep h.sets hb, ⟨(hb.cell (p := ⟨A, 0, none⟩) hA).trans c0, (hb.cell (p := ⟨A, 1, none⟩) hA).trans c1, (hb.cell (p := ⟨A, 2, none⟩) hA).trans c2, (hb.cell (p := ⟨A, 3, none⟩) hA).trans c3, (hb.cell (p := ⟨A, 4, none⟩) hA).trans c4⟩, bthen h.below hb, h.one, h.two⟩
theorem Pd.put {w : World} {A G : Nat} {s : ByteArray} {cs cs' : Array Value} {W : World} (h : Pd w A G s cs W) (i : Nat) (u : Value) (hi : i < cs.size) (hc : cs.setIfInBounds i u = cs') : Pd w A G s cs' (W.setCell ⟨G, i, none⟩ u) := by
  have n1 := h.one
  have n2 := h.two
  have q : ∀ j, (W.setCell ⟨G, i, none⟩ u).cell? ⟨A, j, none⟩ = W.cell? ⟨A, j, none⟩ := fun j => World.cell?_of_block (w := W) (w' := W.setCell ⟨G, i, none⟩ u) (a := ⟨A, j, none⟩) (Below.heap_setCell _ ⟨G, i, none⟩ _ A (by show A ≠ G; omega))
  obtain ⟨c0, c1, c2, c3, c4⟩ := h.words
  exact ⟨(Below.heap_setCell _ ⟨G, i, none⟩ _ _ (by show _ ≠ G; omega)).trans h.rule, blk_put h.sets i u hc, ⟨(q 0).trans c0, (q 1).trans c1, (q 2).trans c2, (q 3).trans c3, (q 4).trans c4⟩, h.below.setCell (p := ⟨G, i, none⟩) (by show w.heap.size ≤ G; omega) u, n1, n2⟩

set_option maxRecDepth 100000 in
theorem parse_long (s : ByteArray) (w : World) (hs : 400 < s.size) (hz : s.size ≤ 9223372036854775807) :
    Calls Tryd.prog 25 #[.string s] w fun e w' => e = .returned (.tuple #[.agg #[.int .u64 0, .int .u64 0, .int .u64 0, .int .u64 0, .int .u64 0, .bool false, .bool false], .int .i64 5]) ∧ Below w.heap.size w w' := by
  go_enter Tryd.func25, Tryd.ntmps25
  go_wp2
  refine bodyPost_ret (results_ct rfl _ _ w.heap.size 63 #[.int .u64 0, .int .u64 0, .int .u64 0, .int .u64 0, .int .u64 0, .bool false, .bool false] (0, 0) _ rfl (blk_new _ _) Tryd.underlying63 rfl (by kernel_rfl)) rfl ?_
  exact ⟨rfl, below_alloc (Below.refl _ _) _⟩
set_option maxRecDepth 100000 in
theorem parse_count (s : ByteArray) (w : World) (hs : ¬ 400 < s.size) (hn : (wordsP s).length ≠ 5) :
    Calls Tryd.prog 25 #[.string s] w fun e w' => e = .returned (.tuple #[.agg #[.int .u64 0, .int .u64 0, .int .u64 0, .int .u64 0, .int .u64 0, .bool false, .bool false], .int .i64 3]) ∧ Below w.heap.size w w' := by
  obtain ⟨n, hn'⟩ := named (wordsP s).length
  have hne : ((n : Int) != 5) = true := by rw [hn'.out]; simp; omega
  clear hn
  go_enter Tryd.func25, Tryd.ntmps25
  go_wp2_with (go_at_call 40; refine (words_any s _ (by omega)).mono ?_; rw [← hn'.out]; rintro e w1 ⟨A, rfl, hA, ho, hb⟩; (have HB := Aside0.mk (bthen (below_alloc (Below.refl _ w) _) hb)); (have HK := Aside0.mk (blk_keep (blk_new _ _) hb)); obtain ⟨⟨k0, k1, k2, k3, k4, k5, k6⟩, f0, f1, f2, f3, f4, f5, f6⟩ := all7 HK.out; clear ho hb)
  refine bodyPost_ret (results_ct rfl _ _ w.heap.size 63 #[.int .u64 0, .int .u64 0, .int .u64 0, .int .u64 0, .int .u64 0, .bool false, .bool false] (0, 0) _ rfl (blk7 HK.out) Tryd.underlying63 rfl (by kernel_rfl)) rfl ?_
  exact ⟨rfl, below_set7 HB.out (Nat.le_refl _) _ _ _ _ _ _ _⟩
theorem word_size (s : ByteArray) (i : Nat) (hs : ¬ 400 < s.size) : (wordAt s i).size ≤ 1000 := by
  rw [wordAt, List.getD_eq_getElem?_getD]
  cases h : (wordsP s)[i]? with
  | none => decide
  | some x =>
    have hm := List.mem_of_getElem? h
    rw [wordsP, Lib.goFieldsP] at hm
    obtain ⟨p, _, rfl⟩ := List.mem_map.1 hm
    show (s.extract p.1 p.2).size ≤ 1000
    rw [ByteArray.size_extract]
    omega

theorem week_bits {x : Nat} (h : x < 2 ^ 64) : bits .or .u64 (bits .and .u64 (x : Int) 127) ((x : Int) / 128) = ((weekOf x : Nat) : Int) := by
  have h' : x < 18446744073709551616 := h
  have e1 : bits .and .u64 (x : Int) 127 = ((x &&& 127 : Nat) : Int) := bits_and_u64_nat x 127 h' (by decide)
  have e2 : ((x : Int) / (128 : Int)) = ((x >>> 7 : Nat) : Int) := by rw [Nat.shiftRight_eq_div_pow]; omega
  rw [e1, e2]
  exact bits_or_u64_nat _ _ (Nat.lt_of_le_of_lt Nat.and_le_left h') (by rw [Nat.shiftRight_eq_div_pow]; omega)
theorem fieldF_lt {lo hi : Int} (h0 : 0 ≤ lo) (h1 : lo ≤ hi) (h2 : hi ≤ 63) : ∀ (f set : Nat) (l : List UInt8) (x : Nat), set < 2 ^ 64 → fieldF lo hi f set l = some x → x < 2 ^ 64
  | 0, _, _, _, _, h => by cases h
  | f + 1, set, l, x, hs, h => by
    rw [fieldF] at h
    split at h
    · cases h
    · rename_i y hy
      have := Nat.or_lt_two_pow hs (item_lt h0 h1 h2 hy)
      split at h
      · exact fieldF_lt h0 h1 h2 f _ _ x this h
      · injection h with h
        rw [← h]; exact this
theorem set_lt (s : ByteArray) (i : Nat) : setN s i < 2 ^ 64 := by
  rw [setN]
  cases h : setAt s i with
  | none => decide
  | some x =>
    show x < 2 ^ 64
    rcases i with _ | _ | _ | _ | i
    all_goals exact fieldF_lt (by decide) (by decide) (by decide) _ 0 _ x (by decide) h
theorem word_at {s : ByteArray} (h : (wordsP s).length = 5) (i : Nat) (hi : i < 5) : ((wordsP s).map Value.string)[i]? = some (.string (wordAt s i)) := by
  rw [List.getElem?_map, wordAt, List.getD_eq_getElem?_getD, List.getElem?_eq_getElem (by omega)]
  rfl
set_option maxRecDepth 100000 in
set_option maxHeartbeats 4000000 in
theorem parse_main (s : ByteArray) (w : World) (hs : ¬ 400 < s.size) (hn : (wordsP s).length = 5) (hm : MaxL w) :
    Calls Tryd.prog 25 #[.string s] w fun e w' => e = .returned (.tuple #[if sets5 s then .agg #[.int .u64 (setN s 0 : Nat), .int .u64 (setN s 1 : Nat), .int .u64 (setN s 2 : Nat), .int .u64 (setN s 3 : Nat), .int .u64 (weekOf (setN s 4) : Nat), .bool ((wordAt s 2).toList == [42]), .bool ((wordAt s 4).toList == [42])] else .agg #[.int .u64 0, .int .u64 0, .int .u64 0, .int .u64 0, .int .u64 0, .bool false, .bool false], .int .i64 (if sets5 s then 0 else 12)]) ∧ Below w.heap.size w w' := by
  obtain ⟨RV, hRV⟩ := named (if sets5 s then Value.agg #[.int .u64 (setN s 0 : Nat), .int .u64 (setN s 1 : Nat), .int .u64 (setN s 2 : Nat), .int .u64 (setN s 3 : Nat), .int .u64 (weekOf (setN s 4) : Nat), .bool ((wordAt s 2).toList == [42]), .bool ((wordAt s 4).toList == [42])] else .agg #[.int .u64 0, .int .u64 0, .int .u64 0, .int .u64 0, .int .u64 0, .bool false, .bool false])
  obtain ⟨RE, hRE⟩ := named (if sets5 s then (0 : Int) else 12)
  rw [← hRV.out, ← hRE.out]
  have HM := Aside0.mk hm
  have HN := Aside0.mk hn
  have HWS := Aside0.mk (fun i => word_size s i hs)
  clear hm
  go_enter Tryd.func25, Tryd.ntmps25
  go_upto_region 7 with (go_at_call 40; refine (words_any s _ (by omega)).mono ?_; rw [HN.out]; rintro e w1 ⟨A, rfl, hA, ho, hb⟩; (have HO := Aside0.mk ho); (have HB := Aside0.mk (bthen (below_alloc (Below.refl _ w) _) hb)); (have HK := Aside0.mk (blk_keep (blk_new _ _) hb)); clear ho hb)
  obtain ⟨W, hW⟩ : ∃ W, W = w1.alloc (.cells #[.int .u64 0, .int .u64 0, .int .u64 0, .int .u64 0, .int .u64 0] 96) := ⟨_, rfl⟩
  obtain ⟨G, hG⟩ : ∃ G, G = w1.heap.size := ⟨_, rfl⟩
  have HP : Aside0 (Pd w A G s (arrS s 0) W) := ⟨by
    have q : ∀ i, i < 5 → w1.cell? ⟨A, i, none⟩ = some (.string (wordAt s i)) := fun i hi => by
      rw [HO.out.cellAt i (by omega)]
      exact word_at HN.out i hi
    have hA' : A < w1.heap.size := World.block_lt_of_cell? w1 _ (q 0 (by omega))
    have e : ∀ i, W.cell? ⟨A, i, none⟩ = w1.cell? ⟨A, i, none⟩ := fun i => by rw [hW]; exact World.cell?_of_block (w := w1) (w' := w1.alloc _) (a := ⟨A, i, none⟩) (Below.heap_alloc _ _ _ hA')
    refine ⟨by rw [hW]; exact blk_alloc HK.out _, by rw [hW, hG]; exact blk_new _ _, ⟨(e 0).trans (q 0 (by omega)), (e 1).trans (q 1 (by omega)), (e 2).trans (q 2 (by omega)), (e 3).trans (q 3 (by omega)), (e 4).trans (q 4 (by omega))⟩, by rw [hW]; exact below_alloc HB.out _, by simp at hA; omega, by rw [hG]; exact hA'⟩⟩
  rw [← hW, ← hG]
  clear hW hG hA HO HB HK
  go_wp2_with (go_at_call 41; refine (scopes_any _).mono ?_; rintro e w2 ⟨rfl, hb2⟩; (have HP2 := Aside0.mk (HP.out.step hb2)); clear hb2)
  go_loopg [6, 21] 5 (fun g v6 v21 wr => ∃ i : Nat, v21 = .int .i64 i ∧ g + i = 5 ∧ Aside0 (Pd w A G s (arrS s i) wr) ∧ Aside0 (∀ j, j < i → (setAt s j).isSome = true))
  case atStart => exact ⟨0, rfl, by omega, HP2, ⟨fun j hj => by omega⟩⟩
  case round =>
    obtain ⟨i, rfl, hg, HPR, HSM⟩ := hrel
    have n1 := HPR.out.one
    have n2 := HPR.out.two
    have n3 := blk_lt HPR.out.sets
    have n4 : A < wr.heap.size := by omega
    rcases (show i = 0 ∨ i = 1 ∨ i = 2 ∨ i = 3 ∨ i = 4 ∨ i = 5 by omega) with rfl | rfl | rfl | rfl | rfl | rfl
    · have ix := idx5_0 wr
      go_upto_region 10 with (fail)
      clear ix
      obtain ⟨W3, hW3⟩ : ∃ W3, W3 = wr.alloc (.cells #[.int .i64 0, .int .i64 59] 98) := ⟨_, rfl⟩
      obtain ⟨g3, hg3⟩ : ∃ g3, g3 = wr.heap.size := ⟨_, rfl⟩
      have HS3 : Aside0 (W3.heap[g3]? = some (.cells #[.int .i64 0, .int .i64 59] 98 (0, 0))) := ⟨by rw [hW3, hg3]; exact blk_new _ _⟩
      have HP3 : Aside0 (Pd w A G s (arrS s 0) W3) := ⟨by rw [hW3]; exact HPR.out.step (below_alloc (Below.refl _ _) _)⟩
      rw [← hW3, ← hg3]
      clear hW3 hg3 n4
      obtain ⟨S, hS⟩ := named (setAt s 0)
      have FK : Aside0 (∀ w', Below W3.heap.size W3 w' → w'.cell? ⟨g3, 0, none⟩ = some (.int .i64 0) ∧ w'.cell? ⟨g3, 1, none⟩ = some (.int .i64 59) ∧ w'.cell? ⟨A, 0, none⟩ = some (.string (wordAt s 0))) := ⟨fun w' h => by
        obtain ⟨c0, c1, _, _⟩ := all2 (blk_keep HS3.out h)
        exact ⟨c0, c1, (HP3.out.step h).words.1⟩⟩
      have CF : Aside0 (∀ W', Below W3.heap.size W3 W' → Calls Tryd.prog 42 #[.agg #[.int .i64 0, .int .i64 59], .string (wordAt s 0)] W' fun e w' => e = .returned (.tuple #[.int .u64 (S.getD 0 : Nat), .bool S.isSome]) ∧ Below W'.heap.size W' w') := ⟨fun W' h => by
        rw [hS.out]
        exact field_any 0 59 (wordAt s 0) W' (HWS.out 0) (HM.out.below (HP3.out.step h).below) (by decide) (by decide) (by decide)⟩
      obtain ⟨c0, c1, c2⟩ := FK.out _ (below_drew (Below.refl _ W3))
      go_region_held3 (fun w' => w'.cell? ⟨g3, 0, none⟩ = some (.int .i64 0) ∧ w'.cell? ⟨g3, 1, none⟩ = some (.int .i64 59) ∧ w'.cell? ⟨A, 0, none⟩ = some (.string (wordAt s 0))) (first | with_reducible exact ⟨c0, c1, c2⟩ | (refine FK.out _ ?_; (repeat (first | with_reducible exact Below.refl _ _ | with_reducible exact BX1.out | with_reducible apply below_drew | with_reducible apply below_alloc)); done) | go_keep) (first | (go_at_call 42; refine (CF.out _ (by (repeat (first | with_reducible exact Below.refl _ _ | with_reducible exact BX1.out | with_reducible apply below_drew | with_reducible apply below_alloc)))).mono ?_; rintro e w4 ⟨rfl, hb4⟩; (have BX1 : Aside0 (Below W3.heap.size W3 w4) := ⟨bthen (by (repeat (first | with_reducible exact Below.refl _ _ | with_reducible exact BX1.out | with_reducible apply below_drew | with_reducible apply below_alloc))) hb4⟩); clear hb4))
      have HP4 := Aside0.mk (HP3.out.step BX1.out)
      obtain ⟨⟨k0, k1, k2, k3, k4, k5, k6⟩, f0, f1, f2, f3, f4, f5, f6⟩ := all7 HP4.out.rule
      have m0 : w4.cell? ⟨G, 0, none⟩ = some (.int .u64 0) := blk_cell HP4.out.sets 0
      have p0 : w4.frozen? ⟨G, 0, none⟩ = false := blk_frozen HP4.out.sets 0
      clear c0 c1 c2
      cases S with
      | none =>
        have HN5 : Aside0 (RV = .agg #[.int .u64 0, .int .u64 0, .int .u64 0, .int .u64 0, .int .u64 0, .bool false, .bool false] ∧ RE = 12) := ⟨by
          have h5 : sets5 s = false := by rw [sets5, ← hS.out]; simp
          exact ⟨by rw [hRV.out, h5]; rfl, by rw [hRE.out, h5]; rfl⟩⟩
        obtain ⟨rfl, rfl⟩ := HN5.out
        go_wp2
        refine bodyPost_ret (results_ct rfl _ _ w.heap.size 63 #[.int .u64 0, .int .u64 0, .int .u64 0, .int .u64 0, .int .u64 0, .bool false, .bool false] (0, 0) _ rfl (blk7 HP4.out.rule) Tryd.underlying63 rfl (by kernel_rfl)) rfl ?_
        exact ⟨rfl, below_set7 HP4.out.below (Nat.le_refl _) _ _ _ _ _ _ _⟩
      | some x =>
        go_wp2
        go_roundg 4
        case measure => omega
        case rel =>
          refine ⟨1, rfl, by omega, ⟨HP4.out.put 0 _ (by show 0 < 5; decide) ?_⟩, ⟨fun j hj => ?_⟩⟩
          · have : setN s 0 = x := by rw [setN, ← hS.out]; rfl
            show (#[.int .u64 0, .int .u64 0, .int .u64 0, .int .u64 0, .int .u64 0] : Array Value).setIfInBounds 0 _ = #[.int .u64 (setN s 0 : Nat), .int .u64 0, .int .u64 0, .int .u64 0, .int .u64 0]
            rw [this]
            rfl
          · by_cases h : j < 0
            · exact HSM.out j h
            · obtain rfl : j = 0 := by omega
              rw [← hS.out]; rfl
    · have ix := idx5_1 wr
      go_upto_region 10 with (fail)
      clear ix
      obtain ⟨W3, hW3⟩ : ∃ W3, W3 = wr.alloc (.cells #[.int .i64 0, .int .i64 23] 98) := ⟨_, rfl⟩
      obtain ⟨g3, hg3⟩ : ∃ g3, g3 = wr.heap.size := ⟨_, rfl⟩
      have HS3 : Aside0 (W3.heap[g3]? = some (.cells #[.int .i64 0, .int .i64 23] 98 (0, 0))) := ⟨by rw [hW3, hg3]; exact blk_new _ _⟩
      have HP3 : Aside0 (Pd w A G s (arrS s 1) W3) := ⟨by rw [hW3]; exact HPR.out.step (below_alloc (Below.refl _ _) _)⟩
      rw [← hW3, ← hg3]
      clear hW3 hg3 n4
      obtain ⟨S, hS⟩ := named (setAt s 1)
      have FK : Aside0 (∀ w', Below W3.heap.size W3 w' → w'.cell? ⟨g3, 0, none⟩ = some (.int .i64 0) ∧ w'.cell? ⟨g3, 1, none⟩ = some (.int .i64 23) ∧ w'.cell? ⟨A, 1, none⟩ = some (.string (wordAt s 1))) := ⟨fun w' h => by
        obtain ⟨c0, c1, _, _⟩ := all2 (blk_keep HS3.out h)
        exact ⟨c0, c1, (HP3.out.step h).words.2.1⟩⟩
      have CF : Aside0 (∀ W', Below W3.heap.size W3 W' → Calls Tryd.prog 42 #[.agg #[.int .i64 0, .int .i64 23], .string (wordAt s 1)] W' fun e w' => e = .returned (.tuple #[.int .u64 (S.getD 0 : Nat), .bool S.isSome]) ∧ Below W'.heap.size W' w') := ⟨fun W' h => by
        rw [hS.out]
        exact field_any 0 23 (wordAt s 1) W' (HWS.out 1) (HM.out.below (HP3.out.step h).below) (by decide) (by decide) (by decide)⟩
      obtain ⟨c0, c1, c2⟩ := FK.out _ (below_drew (Below.refl _ W3))
      go_region_held3 (fun w' => w'.cell? ⟨g3, 0, none⟩ = some (.int .i64 0) ∧ w'.cell? ⟨g3, 1, none⟩ = some (.int .i64 23) ∧ w'.cell? ⟨A, 1, none⟩ = some (.string (wordAt s 1))) (first | with_reducible exact ⟨c0, c1, c2⟩ | (refine FK.out _ ?_; (repeat (first | with_reducible exact Below.refl _ _ | with_reducible exact BX1.out | with_reducible apply below_drew | with_reducible apply below_alloc)); done) | go_keep) (first | (go_at_call 42; refine (CF.out _ (by (repeat (first | with_reducible exact Below.refl _ _ | with_reducible exact BX1.out | with_reducible apply below_drew | with_reducible apply below_alloc)))).mono ?_; rintro e w4 ⟨rfl, hb4⟩; (have BX1 : Aside0 (Below W3.heap.size W3 w4) := ⟨bthen (by (repeat (first | with_reducible exact Below.refl _ _ | with_reducible exact BX1.out | with_reducible apply below_drew | with_reducible apply below_alloc))) hb4⟩); clear hb4))
      have HP4 := Aside0.mk (HP3.out.step BX1.out)
      obtain ⟨⟨k0, k1, k2, k3, k4, k5, k6⟩, f0, f1, f2, f3, f4, f5, f6⟩ := all7 HP4.out.rule
      have m0 : w4.cell? ⟨G, 1, none⟩ = some (.int .u64 0) := blk_cell HP4.out.sets 1
      have p0 : w4.frozen? ⟨G, 1, none⟩ = false := blk_frozen HP4.out.sets 1
      clear c0 c1 c2
      cases S with
      | none =>
        have HN5 : Aside0 (RV = .agg #[.int .u64 0, .int .u64 0, .int .u64 0, .int .u64 0, .int .u64 0, .bool false, .bool false] ∧ RE = 12) := ⟨by
          have h5 : sets5 s = false := by rw [sets5, ← hS.out]; simp
          exact ⟨by rw [hRV.out, h5]; rfl, by rw [hRE.out, h5]; rfl⟩⟩
        obtain ⟨rfl, rfl⟩ := HN5.out
        go_wp2
        refine bodyPost_ret (results_ct rfl _ _ w.heap.size 63 #[.int .u64 0, .int .u64 0, .int .u64 0, .int .u64 0, .int .u64 0, .bool false, .bool false] (0, 0) _ rfl (blk7 HP4.out.rule) Tryd.underlying63 rfl (by kernel_rfl)) rfl ?_
        exact ⟨rfl, below_set7 HP4.out.below (Nat.le_refl _) _ _ _ _ _ _ _⟩
      | some x =>
        go_wp2
        go_roundg 3
        case measure => omega
        case rel =>
          refine ⟨2, rfl, by omega, ⟨HP4.out.put 1 _ (by show 1 < 5; decide) ?_⟩, ⟨fun j hj => ?_⟩⟩
          · have : setN s 1 = x := by rw [setN, ← hS.out]; rfl
            show (#[.int .u64 (setN s 0 : Nat), .int .u64 0, .int .u64 0, .int .u64 0, .int .u64 0] : Array Value).setIfInBounds 1 _ = #[.int .u64 (setN s 0 : Nat), .int .u64 (setN s 1 : Nat), .int .u64 0, .int .u64 0, .int .u64 0]
            rw [this]
            rfl
          · by_cases h : j < 1
            · exact HSM.out j h
            · obtain rfl : j = 1 := by omega
              rw [← hS.out]; rfl
    · have ix := idx5_2 wr
      go_upto_region 10 with (fail)
      clear ix
      obtain ⟨W3, hW3⟩ : ∃ W3, W3 = wr.alloc (.cells #[.int .i64 1, .int .i64 31] 98) := ⟨_, rfl⟩
      obtain ⟨g3, hg3⟩ : ∃ g3, g3 = wr.heap.size := ⟨_, rfl⟩
      have HS3 : Aside0 (W3.heap[g3]? = some (.cells #[.int .i64 1, .int .i64 31] 98 (0, 0))) := ⟨by rw [hW3, hg3]; exact blk_new _ _⟩
      have HP3 : Aside0 (Pd w A G s (arrS s 2) W3) := ⟨by rw [hW3]; exact HPR.out.step (below_alloc (Below.refl _ _) _)⟩
      rw [← hW3, ← hg3]
      clear hW3 hg3 n4
      obtain ⟨S, hS⟩ := named (setAt s 2)
      have FK : Aside0 (∀ w', Below W3.heap.size W3 w' → w'.cell? ⟨g3, 0, none⟩ = some (.int .i64 1) ∧ w'.cell? ⟨g3, 1, none⟩ = some (.int .i64 31) ∧ w'.cell? ⟨A, 2, none⟩ = some (.string (wordAt s 2))) := ⟨fun w' h => by
        obtain ⟨c0, c1, _, _⟩ := all2 (blk_keep HS3.out h)
        exact ⟨c0, c1, (HP3.out.step h).words.2.2.1⟩⟩
      have CF : Aside0 (∀ W', Below W3.heap.size W3 W' → Calls Tryd.prog 42 #[.agg #[.int .i64 1, .int .i64 31], .string (wordAt s 2)] W' fun e w' => e = .returned (.tuple #[.int .u64 (S.getD 0 : Nat), .bool S.isSome]) ∧ Below W'.heap.size W' w') := ⟨fun W' h => by
        rw [hS.out]
        exact field_any 1 31 (wordAt s 2) W' (HWS.out 2) (HM.out.below (HP3.out.step h).below) (by decide) (by decide) (by decide)⟩
      obtain ⟨c0, c1, c2⟩ := FK.out _ (below_drew (Below.refl _ W3))
      go_region_held3 (fun w' => w'.cell? ⟨g3, 0, none⟩ = some (.int .i64 1) ∧ w'.cell? ⟨g3, 1, none⟩ = some (.int .i64 31) ∧ w'.cell? ⟨A, 2, none⟩ = some (.string (wordAt s 2))) (first | with_reducible exact ⟨c0, c1, c2⟩ | (refine FK.out _ ?_; (repeat (first | with_reducible exact Below.refl _ _ | with_reducible exact BX1.out | with_reducible apply below_drew | with_reducible apply below_alloc)); done) | go_keep) (first | (go_at_call 42; refine (CF.out _ (by (repeat (first | with_reducible exact Below.refl _ _ | with_reducible exact BX1.out | with_reducible apply below_drew | with_reducible apply below_alloc)))).mono ?_; rintro e w4 ⟨rfl, hb4⟩; (have BX1 : Aside0 (Below W3.heap.size W3 w4) := ⟨bthen (by (repeat (first | with_reducible exact Below.refl _ _ | with_reducible exact BX1.out | with_reducible apply below_drew | with_reducible apply below_alloc))) hb4⟩); clear hb4))
      have HP4 := Aside0.mk (HP3.out.step BX1.out)
      obtain ⟨⟨k0, k1, k2, k3, k4, k5, k6⟩, f0, f1, f2, f3, f4, f5, f6⟩ := all7 HP4.out.rule
      have m0 : w4.cell? ⟨G, 2, none⟩ = some (.int .u64 0) := blk_cell HP4.out.sets 2
      have p0 : w4.frozen? ⟨G, 2, none⟩ = false := blk_frozen HP4.out.sets 2
      clear c0 c1 c2
      cases S with
      | none =>
        have HN5 : Aside0 (RV = .agg #[.int .u64 0, .int .u64 0, .int .u64 0, .int .u64 0, .int .u64 0, .bool false, .bool false] ∧ RE = 12) := ⟨by
          have h5 : sets5 s = false := by rw [sets5, ← hS.out]; simp
          exact ⟨by rw [hRV.out, h5]; rfl, by rw [hRE.out, h5]; rfl⟩⟩
        obtain ⟨rfl, rfl⟩ := HN5.out
        go_wp2
        refine bodyPost_ret (results_ct rfl _ _ w.heap.size 63 #[.int .u64 0, .int .u64 0, .int .u64 0, .int .u64 0, .int .u64 0, .bool false, .bool false] (0, 0) _ rfl (blk7 HP4.out.rule) Tryd.underlying63 rfl (by kernel_rfl)) rfl ?_
        exact ⟨rfl, below_set7 HP4.out.below (Nat.le_refl _) _ _ _ _ _ _ _⟩
      | some x =>
        go_wp2
        go_roundg 2
        case measure => omega
        case rel =>
          refine ⟨3, rfl, by omega, ⟨HP4.out.put 2 _ (by show 2 < 5; decide) ?_⟩, ⟨fun j hj => ?_⟩⟩
          · have : setN s 2 = x := by rw [setN, ← hS.out]; rfl
            show (#[.int .u64 (setN s 0 : Nat), .int .u64 (setN s 1 : Nat), .int .u64 0, .int .u64 0, .int .u64 0] : Array Value).setIfInBounds 2 _ = #[.int .u64 (setN s 0 : Nat), .int .u64 (setN s 1 : Nat), .int .u64 (setN s 2 : Nat), .int .u64 0, .int .u64 0]
            rw [this]
            rfl
          · by_cases h : j < 2
            · exact HSM.out j h
            · obtain rfl : j = 2 := by omega
              rw [← hS.out]; rfl
    · have ix := idx5_3 wr
      go_upto_region 10 with (fail)
      clear ix
      obtain ⟨W3, hW3⟩ : ∃ W3, W3 = wr.alloc (.cells #[.int .i64 1, .int .i64 12] 98) := ⟨_, rfl⟩
      obtain ⟨g3, hg3⟩ : ∃ g3, g3 = wr.heap.size := ⟨_, rfl⟩
      have HS3 : Aside0 (W3.heap[g3]? = some (.cells #[.int .i64 1, .int .i64 12] 98 (0, 0))) := ⟨by rw [hW3, hg3]; exact blk_new _ _⟩
      have HP3 : Aside0 (Pd w A G s (arrS s 3) W3) := ⟨by rw [hW3]; exact HPR.out.step (below_alloc (Below.refl _ _) _)⟩
      rw [← hW3, ← hg3]
      clear hW3 hg3 n4
      obtain ⟨S, hS⟩ := named (setAt s 3)
      have FK : Aside0 (∀ w', Below W3.heap.size W3 w' → w'.cell? ⟨g3, 0, none⟩ = some (.int .i64 1) ∧ w'.cell? ⟨g3, 1, none⟩ = some (.int .i64 12) ∧ w'.cell? ⟨A, 3, none⟩ = some (.string (wordAt s 3))) := ⟨fun w' h => by
        obtain ⟨c0, c1, _, _⟩ := all2 (blk_keep HS3.out h)
        exact ⟨c0, c1, (HP3.out.step h).words.2.2.2.1⟩⟩
      have CF : Aside0 (∀ W', Below W3.heap.size W3 W' → Calls Tryd.prog 42 #[.agg #[.int .i64 1, .int .i64 12], .string (wordAt s 3)] W' fun e w' => e = .returned (.tuple #[.int .u64 (S.getD 0 : Nat), .bool S.isSome]) ∧ Below W'.heap.size W' w') := ⟨fun W' h => by
        rw [hS.out]
        exact field_any 1 12 (wordAt s 3) W' (HWS.out 3) (HM.out.below (HP3.out.step h).below) (by decide) (by decide) (by decide)⟩
      obtain ⟨c0, c1, c2⟩ := FK.out _ (below_drew (Below.refl _ W3))
      go_region_held3 (fun w' => w'.cell? ⟨g3, 0, none⟩ = some (.int .i64 1) ∧ w'.cell? ⟨g3, 1, none⟩ = some (.int .i64 12) ∧ w'.cell? ⟨A, 3, none⟩ = some (.string (wordAt s 3))) (first | with_reducible exact ⟨c0, c1, c2⟩ | (refine FK.out _ ?_; (repeat (first | with_reducible exact Below.refl _ _ | with_reducible exact BX1.out | with_reducible apply below_drew | with_reducible apply below_alloc)); done) | go_keep) (first | (go_at_call 42; refine (CF.out _ (by (repeat (first | with_reducible exact Below.refl _ _ | with_reducible exact BX1.out | with_reducible apply below_drew | with_reducible apply below_alloc)))).mono ?_; rintro e w4 ⟨rfl, hb4⟩; (have BX1 : Aside0 (Below W3.heap.size W3 w4) := ⟨bthen (by (repeat (first | with_reducible exact Below.refl _ _ | with_reducible exact BX1.out | with_reducible apply below_drew | with_reducible apply below_alloc))) hb4⟩); clear hb4))
      have HP4 := Aside0.mk (HP3.out.step BX1.out)
      obtain ⟨⟨k0, k1, k2, k3, k4, k5, k6⟩, f0, f1, f2, f3, f4, f5, f6⟩ := all7 HP4.out.rule
      have m0 : w4.cell? ⟨G, 3, none⟩ = some (.int .u64 0) := blk_cell HP4.out.sets 3
      have p0 : w4.frozen? ⟨G, 3, none⟩ = false := blk_frozen HP4.out.sets 3
      clear c0 c1 c2
      cases S with
      | none =>
        have HN5 : Aside0 (RV = .agg #[.int .u64 0, .int .u64 0, .int .u64 0, .int .u64 0, .int .u64 0, .bool false, .bool false] ∧ RE = 12) := ⟨by
          have h5 : sets5 s = false := by rw [sets5, ← hS.out]; simp
          exact ⟨by rw [hRV.out, h5]; rfl, by rw [hRE.out, h5]; rfl⟩⟩
        obtain ⟨rfl, rfl⟩ := HN5.out
        go_wp2
        refine bodyPost_ret (results_ct rfl _ _ w.heap.size 63 #[.int .u64 0, .int .u64 0, .int .u64 0, .int .u64 0, .int .u64 0, .bool false, .bool false] (0, 0) _ rfl (blk7 HP4.out.rule) Tryd.underlying63 rfl (by kernel_rfl)) rfl ?_
        exact ⟨rfl, below_set7 HP4.out.below (Nat.le_refl _) _ _ _ _ _ _ _⟩
      | some x =>
        go_wp2
        go_roundg 1
        case measure => omega
        case rel =>
          refine ⟨4, rfl, by omega, ⟨HP4.out.put 3 _ (by show 3 < 5; decide) ?_⟩, ⟨fun j hj => ?_⟩⟩
          · have : setN s 3 = x := by rw [setN, ← hS.out]; rfl
            show (#[.int .u64 (setN s 0 : Nat), .int .u64 (setN s 1 : Nat), .int .u64 (setN s 2 : Nat), .int .u64 0, .int .u64 0] : Array Value).setIfInBounds 3 _ = #[.int .u64 (setN s 0 : Nat), .int .u64 (setN s 1 : Nat), .int .u64 (setN s 2 : Nat), .int .u64 (setN s 3 : Nat), .int .u64 0]
            rw [this]
            rfl
          · by_cases h : j < 3
            · exact HSM.out j h
            · obtain rfl : j = 3 := by omega
              rw [← hS.out]; rfl
    · have ix := idx5_4 wr
      go_upto_region 10 with (fail)
      clear ix
      obtain ⟨W3, hW3⟩ : ∃ W3, W3 = wr.alloc (.cells #[.int .i64 0, .int .i64 7] 98) := ⟨_, rfl⟩
      obtain ⟨g3, hg3⟩ : ∃ g3, g3 = wr.heap.size := ⟨_, rfl⟩
      have HS3 : Aside0 (W3.heap[g3]? = some (.cells #[.int .i64 0, .int .i64 7] 98 (0, 0))) := ⟨by rw [hW3, hg3]; exact blk_new _ _⟩
      have HP3 : Aside0 (Pd w A G s (arrS s 4) W3) := ⟨by rw [hW3]; exact HPR.out.step (below_alloc (Below.refl _ _) _)⟩
      rw [← hW3, ← hg3]
      clear hW3 hg3 n4
      obtain ⟨S, hS⟩ := named (setAt s 4)
      have FK : Aside0 (∀ w', Below W3.heap.size W3 w' → w'.cell? ⟨g3, 0, none⟩ = some (.int .i64 0) ∧ w'.cell? ⟨g3, 1, none⟩ = some (.int .i64 7) ∧ w'.cell? ⟨A, 4, none⟩ = some (.string (wordAt s 4))) := ⟨fun w' h => by
        obtain ⟨c0, c1, _, _⟩ := all2 (blk_keep HS3.out h)
        exact ⟨c0, c1, (HP3.out.step h).words.2.2.2.2⟩⟩
      have CF : Aside0 (∀ W', Below W3.heap.size W3 W' → Calls Tryd.prog 42 #[.agg #[.int .i64 0, .int .i64 7], .string (wordAt s 4)] W' fun e w' => e = .returned (.tuple #[.int .u64 (S.getD 0 : Nat), .bool S.isSome]) ∧ Below W'.heap.size W' w') := ⟨fun W' h => by
        rw [hS.out]
        exact field_any 0 7 (wordAt s 4) W' (HWS.out 4) (HM.out.below (HP3.out.step h).below) (by decide) (by decide) (by decide)⟩
      obtain ⟨c0, c1, c2⟩ := FK.out _ (below_drew (Below.refl _ W3))
      go_region_held3 (fun w' => w'.cell? ⟨g3, 0, none⟩ = some (.int .i64 0) ∧ w'.cell? ⟨g3, 1, none⟩ = some (.int .i64 7) ∧ w'.cell? ⟨A, 4, none⟩ = some (.string (wordAt s 4))) (first | with_reducible exact ⟨c0, c1, c2⟩ | (refine FK.out _ ?_; (repeat (first | with_reducible exact Below.refl _ _ | with_reducible exact BX1.out | with_reducible apply below_drew | with_reducible apply below_alloc)); done) | go_keep) (first | (go_at_call 42; refine (CF.out _ (by (repeat (first | with_reducible exact Below.refl _ _ | with_reducible exact BX1.out | with_reducible apply below_drew | with_reducible apply below_alloc)))).mono ?_; rintro e w4 ⟨rfl, hb4⟩; (have BX1 : Aside0 (Below W3.heap.size W3 w4) := ⟨bthen (by (repeat (first | with_reducible exact Below.refl _ _ | with_reducible exact BX1.out | with_reducible apply below_drew | with_reducible apply below_alloc))) hb4⟩); clear hb4))
      have HP4 := Aside0.mk (HP3.out.step BX1.out)
      obtain ⟨⟨k0, k1, k2, k3, k4, k5, k6⟩, f0, f1, f2, f3, f4, f5, f6⟩ := all7 HP4.out.rule
      have m0 : w4.cell? ⟨G, 4, none⟩ = some (.int .u64 0) := blk_cell HP4.out.sets 4
      have p0 : w4.frozen? ⟨G, 4, none⟩ = false := blk_frozen HP4.out.sets 4
      clear c0 c1 c2
      cases S with
      | none =>
        have HN5 : Aside0 (RV = .agg #[.int .u64 0, .int .u64 0, .int .u64 0, .int .u64 0, .int .u64 0, .bool false, .bool false] ∧ RE = 12) := ⟨by
          have h5 : sets5 s = false := by rw [sets5, ← hS.out]; simp
          exact ⟨by rw [hRV.out, h5]; rfl, by rw [hRE.out, h5]; rfl⟩⟩
        obtain ⟨rfl, rfl⟩ := HN5.out
        go_wp2
        refine bodyPost_ret (results_ct rfl _ _ w.heap.size 63 #[.int .u64 0, .int .u64 0, .int .u64 0, .int .u64 0, .int .u64 0, .bool false, .bool false] (0, 0) _ rfl (blk7 HP4.out.rule) Tryd.underlying63 rfl (by kernel_rfl)) rfl ?_
        exact ⟨rfl, below_set7 HP4.out.below (Nat.le_refl _) _ _ _ _ _ _ _⟩
      | some x =>
        go_wp2
        go_roundg 0
        case measure => omega
        case rel =>
          refine ⟨5, rfl, by omega, ⟨HP4.out.put 4 _ (by show 4 < 5; decide) ?_⟩, ⟨fun j hj => ?_⟩⟩
          · have : setN s 4 = x := by rw [setN, ← hS.out]; rfl
            show (#[.int .u64 (setN s 0 : Nat), .int .u64 (setN s 1 : Nat), .int .u64 (setN s 2 : Nat), .int .u64 (setN s 3 : Nat), .int .u64 0] : Array Value).setIfInBounds 4 _ = #[.int .u64 (setN s 0 : Nat), .int .u64 (setN s 1 : Nat), .int .u64 (setN s 2 : Nat), .int .u64 (setN s 3 : Nat), .int .u64 (setN s 4 : Nat)]
            rw [this]
            rfl
          · by_cases h : j < 4
            · exact HSM.out j h
            · obtain rfl : j = 4 := by omega
              rw [← hS.out]; rfl
    · have HS5 : Aside0 (sets5 s = true) := ⟨by rw [sets5, HSM.out 0 (by omega), HSM.out 1 (by omega), HSM.out 2 (by omega), HSM.out 3 (by omega), HSM.out 4 (by omega)]; rfl⟩
      have HN5 : Aside0 (RV = .agg #[.int .u64 (setN s 0 : Nat), .int .u64 (setN s 1 : Nat), .int .u64 (setN s 2 : Nat), .int .u64 (setN s 3 : Nat), .int .u64 (weekOf (setN s 4) : Nat), .bool ((wordAt s 2).toList == [42]), .bool ((wordAt s 4).toList == [42])] ∧ RE = 0) := ⟨by rw [hRV.out, HS5.out]; rfl, by rw [hRE.out, HS5.out]; rfl⟩
      obtain ⟨rfl, rfl⟩ := HN5.out
      have HPF : Pd w A G s #[.int .u64 (setN s 0 : Nat), .int .u64 (setN s 1 : Nat), .int .u64 (setN s 2 : Nat), .int .u64 (setN s 3 : Nat), .int .u64 (setN s 4 : Nat)] wr := HPR.out
      have e0 : wr.cell? ⟨G, 0, none⟩ = some (.int .u64 (setN s 0 : Nat)) := blk_cell HPF.sets 0
      have e1 : wr.cell? ⟨G, 1, none⟩ = some (.int .u64 (setN s 1 : Nat)) := blk_cell HPF.sets 1
      have e2 : wr.cell? ⟨G, 2, none⟩ = some (.int .u64 (setN s 2 : Nat)) := blk_cell HPF.sets 2
      have e3 : wr.cell? ⟨G, 3, none⟩ = some (.int .u64 (setN s 3 : Nat)) := blk_cell HPF.sets 3
      have e4 : wr.cell? ⟨G, 4, none⟩ = some (.int .u64 (setN s 4 : Nat)) := blk_cell HPF.sets 4
      have p4 : wr.frozen? ⟨G, 4, none⟩ = false := blk_frozen HPF.sets 4
      have HPFF := Aside0.mk HPF
      clear HPF
      go_upto_region 16 with (fail)
      have hwk := week_bits (set_lt s 4)
      rw [hwk]
      clear hwk e0 e1 e2 e3 e4 p4
      obtain ⟨W8, hW8⟩ : ∃ W8, W8 = wr.setCell ⟨G, 4, none⟩ (.int .u64 (weekOf (setN s 4) : Nat)) := ⟨_, rfl⟩
      have HP8 : Pd w A G s #[.int .u64 (setN s 0 : Nat), .int .u64 (setN s 1 : Nat), .int .u64 (setN s 2 : Nat), .int .u64 (setN s 3 : Nat), .int .u64 (weekOf (setN s 4) : Nat)] W8 := by rw [hW8]; exact HPFF.out.put 4 _ (by show 4 < 5; decide) rfl
      rw [← hW8]
      clear hW8
      have e0 : W8.cell? ⟨G, 0, none⟩ = some (.int .u64 (setN s 0 : Nat)) := blk_cell HP8.sets 0
      have e1 : W8.cell? ⟨G, 1, none⟩ = some (.int .u64 (setN s 1 : Nat)) := blk_cell HP8.sets 1
      have e2 : W8.cell? ⟨G, 2, none⟩ = some (.int .u64 (setN s 2 : Nat)) := blk_cell HP8.sets 2
      have e3 : W8.cell? ⟨G, 3, none⟩ = some (.int .u64 (setN s 3 : Nat)) := blk_cell HP8.sets 3
      have e4 : W8.cell? ⟨G, 4, none⟩ = some (.int .u64 (weekOf (setN s 4) : Nat)) := blk_cell HP8.sets 4
      obtain ⟨_, _, c2, _, c4⟩ := HP8.words
      obtain ⟨⟨k0, k1, k2, k3, k4, k5, k6⟩, f0, f1, f2, f3, f4, f5, f6⟩ := all7 HP8.rule
      have HP88 := Aside0.mk HP8
      clear HP8
      go_region
      go_wp2
      refine bodyPost_ret (results_ct rfl _ _ w.heap.size 63 #[.int .u64 (setN s 0 : Nat), .int .u64 (setN s 1 : Nat), .int .u64 (setN s 2 : Nat), .int .u64 (setN s 3 : Nat), .int .u64 (weekOf (setN s 4) : Nat), .bool ((wordAt s 2).toList == [42]), .bool ((wordAt s 4).toList == [42])] (0, 0) _ rfl (blk_drew (blk7 HP88.out.rule)) Tryd.underlying63 rfl (by kernel_rfl)) rfl ?_
      exact ⟨rfl, below_drew (below_set7 HP88.out.below (Nat.le_refl _) _ _ _ _ _ _ _)⟩

/-- a rule, as Parse lays it -/
def ruleV (s : ByteArray) : Array Value := if parseE s = 0 then #[.int .u64 (setN s 0 : Nat), .int .u64 (setN s 1 : Nat), .int .u64 (setN s 2 : Nat), .int .u64 (setN s 3 : Nat), .int .u64 (weekOf (setN s 4) : Nat), .bool ((wordAt s 2).toList == [42]), .bool ((wordAt s 4).toList == [42])] else #[.int .u64 0, .int .u64 0, .int .u64 0, .int .u64 0, .int .u64 0, .bool false, .bool false]
theorem parse_any (s : ByteArray) (w : World) (hz : s.size ≤ 9223372036854775807) (hm : MaxL w) :
    Calls Tryd.prog 25 #[.string s] w fun e w' => e = .returned (.tuple #[.agg (ruleV s), .int .i64 (parseE s)]) ∧ Below w.heap.size w w' := by
  by_cases h1 : 400 < s.size
  · have e : parseE s = 5 := by rw [parseE, if_pos h1]
    rw [ruleV, e]
    exact parse_long s w h1 hz
  · by_cases h2 : (wordsP s).length = 5
    · have e : parseE s = if sets5 s then 0 else 12 := by rw [parseE, if_neg h1, if_neg (fun h => h h2)]
      refine (parse_main s w h1 h2 hm).mono ?_
      rintro e' w' ⟨rfl, hb⟩
      refine ⟨?_, hb⟩
      rw [ruleV, e]
      cases sets5 s <;> rfl
    · have e : parseE s = 3 := by rw [parseE, if_neg h1, if_pos h2]
      rw [ruleV, e]
      exact parse_count s w h1 h2
end Go.Proofs.YteloamnakikbbaaDoor.Cron

/- job.Decode: what it computes; walked. -/
namespace Go.Proofs.YteloamnakikbbaaDoor.JDec
set_option linter.unusedVariables false
set_option linter.unusedSimpArgs false
open Go.RowKit Go.Proofs.YteloamnakikbbaaDoorW.PrintWords Go.Proofs.YteloamnakikbbaaDoorW.PrintLast Go.Proofs.YteloamnakikbbaaDoor.Base Go.Proofs.YteloamnakikbbaaDoor.Cells Go.Proofs.YteloamnakikbbaaDoor.Ints Go.Proofs.YteloamnakikbbaaDoor.Var Go.Proofs.YteloamnakikbbaaDoor.VarPure Go.Proofs.YteloamnakikbbaaDoor.Codec Go.Proofs.YteloamnakikbbaaDoor.JScan Go.Proofs.YteloamnakikbbaaDoor.JobPure Go.Proofs.YteloamnakikbbaaDoor.Job

/-- the numbers and the texts, one behind the other -/
def sN (b : List Nat) : Nat → St
  | 0 => (b, 0)
  | i + 1 => (numS 1099511627776 4 (sN b i)).2
def nN (b : List Nat) (i : Nat) : Int := (numS 1099511627776 4 (sN b i)).1
def sT (b : List Nat) : Nat → St
  | 0 => sN b 7
  | i + 1 => (text2 (sT b i)).2
def tT (b : List Nat) (i : Nat) : ByteArray := (text2 (sT b i)).1
def jobD (b : List Nat) : Jb := ⟨nN b 0, tT b 0, tT b 1, tT b 2, nN b 1, nN b 2, nN b 3, nN b 4, nN b 5, nN b 6⟩
def decE (b : List Nat) : Int :=
  if (sT b 3).2 ≠ 0 then (sT b 3).2 else if (sT b 3).1.length ≠ 0 then 23 else chkE (Cron.parseE (tT b 1)) (jobD b)
def decJ (b : List Nat) : Jb := if decE b = 0 then jobD b else j0

/-- the job's cells behind i numbers, behind i texts -/
def arrN (b : List Nat) : Nat → Array Value
  | 0 => #[.int .i64 0, .string ⟨#[]⟩, .string ⟨#[]⟩, .string ⟨#[]⟩, .int .i64 0, .int .i64 0, .int .i64 0, .int .i64 0, .int .i64 0, .int .i64 0]
  | 1 => #[.int .i64 (nN b 0), .string ⟨#[]⟩, .string ⟨#[]⟩, .string ⟨#[]⟩, .int .i64 0, .int .i64 0, .int .i64 0, .int .i64 0, .int .i64 0, .int .i64 0]
  | 2 => #[.int .i64 (nN b 0), .string ⟨#[]⟩, .string ⟨#[]⟩, .string ⟨#[]⟩, .int .i64 (nN b 1), .int .i64 0, .int .i64 0, .int .i64 0, .int .i64 0, .int .i64 0]
  | 3 => #[.int .i64 (nN b 0), .string ⟨#[]⟩, .string ⟨#[]⟩, .string ⟨#[]⟩, .int .i64 (nN b 1), .int .i64 (nN b 2), .int .i64 0, .int .i64 0, .int .i64 0, .int .i64 0]
  | 4 => #[.int .i64 (nN b 0), .string ⟨#[]⟩, .string ⟨#[]⟩, .string ⟨#[]⟩, .int .i64 (nN b 1), .int .i64 (nN b 2), .int .i64 (nN b 3), .int .i64 0, .int .i64 0, .int .i64 0]
  | 5 => #[.int .i64 (nN b 0), .string ⟨#[]⟩, .string ⟨#[]⟩, .string ⟨#[]⟩, .int .i64 (nN b 1), .int .i64 (nN b 2), .int .i64 (nN b 3), .int .i64 (nN b 4), .int .i64 0, .int .i64 0]
  | 6 => #[.int .i64 (nN b 0), .string ⟨#[]⟩, .string ⟨#[]⟩, .string ⟨#[]⟩, .int .i64 (nN b 1), .int .i64 (nN b 2), .int .i64 (nN b 3), .int .i64 (nN b 4), .int .i64 (nN b 5), .int .i64 0]
  | _ => #[.int .i64 (nN b 0), .string ⟨#[]⟩, .string ⟨#[]⟩, .string ⟨#[]⟩, .int .i64 (nN b 1), .int .i64 (nN b 2), .int .i64 (nN b 3), .int .i64 (nN b 4), .int .i64 (nN b 5), .int .i64 (nN b 6)]
def arrT (b : List Nat) : Nat → Array Value
  | 0 => #[.int .i64 (nN b 0), .string ⟨#[]⟩, .string ⟨#[]⟩, .string ⟨#[]⟩, .int .i64 (nN b 1), .int .i64 (nN b 2), .int .i64 (nN b 3), .int .i64 (nN b 4), .int .i64 (nN b 5), .int .i64 (nN b 6)]
  | 1 => #[.int .i64 (nN b 0), .string (tT b 0), .string ⟨#[]⟩, .string ⟨#[]⟩, .int .i64 (nN b 1), .int .i64 (nN b 2), .int .i64 (nN b 3), .int .i64 (nN b 4), .int .i64 (nN b 5), .int .i64 (nN b 6)]
  | 2 => #[.int .i64 (nN b 0), .string (tT b 0), .string (tT b 1), .string ⟨#[]⟩, .int .i64 (nN b 1), .int .i64 (nN b 2), .int .i64 (nN b 3), .int .i64 (nN b 4), .int .i64 (nN b 5), .int .i64 (nN b 6)]
  | _ => #[.int .i64 (nN b 0), .string (tT b 0), .string (tT b 1), .string (tT b 2), .int .i64 (nN b 1), .int .i64 (nN b 2), .int .i64 (nN b 3), .int .i64 (nN b 4), .int .i64 (nN b 5), .int .i64 (nN b 6)]
theorem text2_len (s : St) : (text2 s).2.1.length ≤ s.1.length := by
  have h := numS_len (most := 256) (code := 5) (s := s) (n := (numS 256 5 s).1) (l := (numS 256 5 s).2.1) (e := (numS 256 5 s).2.2) rfl
  rw [text2]
  split
  · exact h
  · split
    · exact h
    · rw [List.length_drop]; omega
theorem text2_size (s : St) : (text2 s).1.size ≤ s.1.length := by
  have h := numS_len (most := 256) (code := 5) (s := s) (n := (numS 256 5 s).1) (l := (numS 256 5 s).2.1) (e := (numS 256 5 s).2.2) rfl
  rw [text2]
  split
  · exact Nat.zero_le _
  · split
    · exact Nat.zero_le _
    · show (ofB _).size ≤ _
      rw [ofB_size, List.length_take]
      omega
theorem sN_len (b : List Nat) : ∀ i, (sN b i).1.length ≤ b.length
  | 0 => Nat.le_refl _
  | i + 1 => Nat.le_trans (numS_len (s := sN b i) (n := (numS 1099511627776 4 (sN b i)).1) (l := (numS 1099511627776 4 (sN b i)).2.1) (e := (numS 1099511627776 4 (sN b i)).2.2) rfl) (sN_len b i)
theorem sT_len (b : List Nat) : ∀ i, (sT b i).1.length ≤ b.length
  | 0 => sN_len b 7
  | i + 1 => Nat.le_trans (text2_len _) (sT_len b i)
theorem tT_size (b : List Nat) (i : Nat) : (tT b i).size ≤ b.length := Nat.le_trans (text2_size _) (sT_len b i)
theorem nb_strB (s : ByteArray) : nb (strB s) = bytesOf s := by simp [nb, strB, bytesOf, List.map_map, Function.comp_def]

theorem Scan.far {w : World} {g G : Nat} {s : St} (h : Scan w g s) (hne : g < G) (j : Nat) (v : Value) : Scan (w.setCell ⟨G, j, none⟩ v) g s := by
  obtain ⟨A, c, hk, hr, hlc, hby, hlt⟩ := h
  exact ⟨A, c, (Below.heap_setCell _ ⟨G, j, none⟩ _ _ (by show g ≠ G; omega)).trans hk, reads_set hr (fun ad e h0 => Nat.lt_trans (hlt ad e h0) hne) _ _, hlc, hby, hlt⟩

/-- between two fields -/
structure Dd (w : World) (g G : Nat) (cs : Array Value) (s : St) (W : World) : Prop where
  res : W.heap[w.heap.size]? = some (.cells #[.int .i64 0, .string ⟨#[]⟩, .string ⟨#[]⟩, .string ⟨#[]⟩, .int .i64 0, .int .i64 0, .int .i64 0, .int .i64 0, .int .i64 0, .int .i64 0] 35 (0, 0))
  job : W.heap[G]? = some (.cells cs 35 (0, 0))
  scan : Scan W g s
  below : Below w.heap.size w W
  one : w.heap.size < g
  two : g < G
theorem Dd.next {w : World} {g G : Nat} {cs : Array Value} {s s' : St} {W W' : World} (h : Dd w g G cs s W) (hs : Scan W' g s') (hg : W.grownBy W' (some g)) : Dd w g G cs s' W' := by
  have n1 := h.one
  have n2 := h.two
  exact ⟨(hg.block _ (blk_lt h.res) (by simp; omega)).trans h.res, (hg.block _ (blk_lt h.job) (by simp; omega)).trans h.job, hs, h.below.grown hg h.below.size (fun k e => by cases e; omega), n1, n2⟩
theorem Dd.put {w : World} {g G : Nat} {cs cs' : Array Value} {s : St} {W : World} (h : Dd w g G cs s W) (i : Nat) (u : Value) (hc : cs.setIfInBounds i u = cs') : Dd w g G cs' s (W.setCell ⟨G, i, none⟩ u) := by
  have n1 := h.one
  have n2 := h.two
  exact ⟨(Below.heap_setCell _ ⟨G, i, none⟩ _ _ (by show _ ≠ G; omega)).trans h.res, blk_put h.job i u hc, Scan.far h.scan n2 _ _, h.below.setCell (p := ⟨G, i, none⟩) (by show w.heap.size ≤ G; omega) u, n1, n2⟩
theorem Dd.step {w : World} {g G : Nat} {cs : Array Value} {s : St} {W W' : World} (h : Dd w g G cs s W) (hb : Below W.heap.size W W') : Dd w g G cs s W' :=
  ⟨blk_keep h.res hb, blk_keep h.job hb, Scan.below h.scan hb, bthen h.below hb, h.one, h.two⟩
theorem Dd.err {w : World} {g G : Nat} {cs : Array Value} {l : List Nat} {e : Int} {W : World} (h : Dd w g G cs (l, e) W) (e' : Int) : Dd w g G cs (l, e') (W.setCell ⟨g, 1, none⟩ (.int .i64 e')) := h.next (Scan.err h.scan e') (grown_set _ _ _ _)
theorem pidx7_0 (G : Nat) (w : World) : (Instr.index 90 (.agg #[.pointer (some ⟨G, 0, none⟩), .pointer (some ⟨G, 4, none⟩), .pointer (some ⟨G, 5, none⟩), .pointer (some ⟨G, 6, none⟩), .pointer (some ⟨G, 7, none⟩), .pointer (some ⟨G, 8, none⟩), .pointer (some ⟨G, 9, none⟩)]) (.int .i64 0)).run Tryd.prog w = .ok (.pointer (some ⟨G, 0, none⟩)) w := by
  simp [Instr.index, run_underlying Tryd.underlying90, asIntOf, go_sem, Tryd.sizeOf89]
theorem pidx7_1 (G : Nat) (w : World) : (Instr.index 90 (.agg #[.pointer (some ⟨G, 0, none⟩), .pointer (some ⟨G, 4, none⟩), .pointer (some ⟨G, 5, none⟩), .pointer (some ⟨G, 6, none⟩), .pointer (some ⟨G, 7, none⟩), .pointer (some ⟨G, 8, none⟩), .pointer (some ⟨G, 9, none⟩)]) (.int .i64 1)).run Tryd.prog w = .ok (.pointer (some ⟨G, 4, none⟩)) w := by
  simp [Instr.index, run_underlying Tryd.underlying90, asIntOf, go_sem, Tryd.sizeOf89]
theorem pidx7_2 (G : Nat) (w : World) : (Instr.index 90 (.agg #[.pointer (some ⟨G, 0, none⟩), .pointer (some ⟨G, 4, none⟩), .pointer (some ⟨G, 5, none⟩), .pointer (some ⟨G, 6, none⟩), .pointer (some ⟨G, 7, none⟩), .pointer (some ⟨G, 8, none⟩), .pointer (some ⟨G, 9, none⟩)]) (.int .i64 2)).run Tryd.prog w = .ok (.pointer (some ⟨G, 5, none⟩)) w := by
  simp [Instr.index, run_underlying Tryd.underlying90, asIntOf, go_sem, Tryd.sizeOf89]
theorem pidx7_3 (G : Nat) (w : World) : (Instr.index 90 (.agg #[.pointer (some ⟨G, 0, none⟩), .pointer (some ⟨G, 4, none⟩), .pointer (some ⟨G, 5, none⟩), .pointer (some ⟨G, 6, none⟩), .pointer (some ⟨G, 7, none⟩), .pointer (some ⟨G, 8, none⟩), .pointer (some ⟨G, 9, none⟩)]) (.int .i64 3)).run Tryd.prog w = .ok (.pointer (some ⟨G, 6, none⟩)) w := by
  simp [Instr.index, run_underlying Tryd.underlying90, asIntOf, go_sem, Tryd.sizeOf89]
theorem pidx7_4 (G : Nat) (w : World) : (Instr.index 90 (.agg #[.pointer (some ⟨G, 0, none⟩), .pointer (some ⟨G, 4, none⟩), .pointer (some ⟨G, 5, none⟩), .pointer (some ⟨G, 6, none⟩), .pointer (some ⟨G, 7, none⟩), .pointer (some ⟨G, 8, none⟩), .pointer (some ⟨G, 9, none⟩)]) (.int .i64 4)).run Tryd.prog w = .ok (.pointer (some ⟨G, 7, none⟩)) w := by
  simp [Instr.index, run_underlying Tryd.underlying90, asIntOf, go_sem, Tryd.sizeOf89]
theorem pidx7_5 (G : Nat) (w : World) : (Instr.index 90 (.agg #[.pointer (some ⟨G, 0, none⟩), .pointer (some ⟨G, 4, none⟩), .pointer (some ⟨G, 5, none⟩), .pointer (some ⟨G, 6, none⟩), .pointer (some ⟨G, 7, none⟩), .pointer (some ⟨G, 8, none⟩), .pointer (some ⟨G, 9, none⟩)]) (.int .i64 5)).run Tryd.prog w = .ok (.pointer (some ⟨G, 8, none⟩)) w := by
  simp [Instr.index, run_underlying Tryd.underlying90, asIntOf, go_sem, Tryd.sizeOf89]
theorem pidx7_6 (G : Nat) (w : World) : (Instr.index 90 (.agg #[.pointer (some ⟨G, 0, none⟩), .pointer (some ⟨G, 4, none⟩), .pointer (some ⟨G, 5, none⟩), .pointer (some ⟨G, 6, none⟩), .pointer (some ⟨G, 7, none⟩), .pointer (some ⟨G, 8, none⟩), .pointer (some ⟨G, 9, none⟩)]) (.int .i64 6)).run Tryd.prog w = .ok (.pointer (some ⟨G, 9, none⟩)) w := by
  simp [Instr.index, run_underlying Tryd.underlying90, asIntOf, go_sem, Tryd.sizeOf89]
theorem pidx3_0 (G : Nat) (w : World) : (Instr.index 93 (.agg #[.pointer (some ⟨G, 1, none⟩), .pointer (some ⟨G, 2, none⟩), .pointer (some ⟨G, 3, none⟩)]) (.int .i64 0)).run Tryd.prog w = .ok (.pointer (some ⟨G, 1, none⟩)) w := by
  simp [Instr.index, run_underlying Tryd.underlying93, asIntOf, go_sem, Tryd.sizeOf92]
theorem pidx3_1 (G : Nat) (w : World) : (Instr.index 93 (.agg #[.pointer (some ⟨G, 1, none⟩), .pointer (some ⟨G, 2, none⟩), .pointer (some ⟨G, 3, none⟩)]) (.int .i64 1)).run Tryd.prog w = .ok (.pointer (some ⟨G, 2, none⟩)) w := by
  simp [Instr.index, run_underlying Tryd.underlying93, asIntOf, go_sem, Tryd.sizeOf92]
theorem pidx3_2 (G : Nat) (w : World) : (Instr.index 93 (.agg #[.pointer (some ⟨G, 1, none⟩), .pointer (some ⟨G, 2, none⟩), .pointer (some ⟨G, 3, none⟩)]) (.int .i64 2)).run Tryd.prog w = .ok (.pointer (some ⟨G, 3, none⟩)) w := by
  simp [Instr.index, run_underlying Tryd.underlying93, asIntOf, go_sem, Tryd.sizeOf92]
theorem parse_says (r : ByteArray) (hz : r.size ≤ 9223372036854775807) : ParseSays Cron.MaxL r (Cron.parseE r) := fun _ w hw => by
  refine (Cron.parse_any r w hz hw).mono ?_
  rintro e w' ⟨rfl, hb⟩
  rw [Cron.ruleV]
  split
  · exact ⟨_, _, _, _, _, _, _, rfl, hb⟩
  · exact ⟨_, _, _, _, _, _, _, rfl, hb⟩
theorem maxL_lasts : Lasts Cron.MaxL := fun _ _ h hb => h.below hb

set_option maxRecDepth 100000 in
set_option maxHeartbeats 4000000 in
theorem decode_any (s : ByteArray) (w : World) (hs : s.size ≤ 1048576) (hm : Cron.MaxL w) :
    Calls Tryd.prog 19 #[.string s] w fun e w' => e = .returned (.tuple #[.agg (jc (decJ (strB s))), .int .i64 (decE (strB s))]) ∧ Below w.heap.size w w' := by
  have kb := fun (x : ByteArray) (W : World) => print_bytes (P := Tryd.prog) 9 82 5 Tryd.underlying9 Tryd.underlying82 Tryd.underlying5 x W
  obtain ⟨b, hb⟩ := named (strB s)
  have HBL : Aside0 (b.length = s.size ∧ Bytes b ∧ nb b = bytesOf s) := ⟨by rw [hb.out]; exact ⟨strB_len s, strB_bytes s, nb_strB s⟩⟩
  have HM := Aside0.mk hm
  rw [← hb.out]
  obtain ⟨DJ, hDJ⟩ := named (jc (decJ b))
  obtain ⟨DE, hDE⟩ := named (decE b)
  rw [← hDJ.out, ← hDE.out]
  clear hm
  go_enter Tryd.func19, Tryd.ntmps19
  go_upto_region 3 with (fail)
  obtain ⟨B, hB⟩ : ∃ B, B = Lib.bytesWorld (w.alloc (.cells #[.int .i64 0, .string ⟨#[]⟩, .string ⟨#[]⟩, .string ⟨#[]⟩, .int .i64 0, .int .i64 0, .int .i64 0, .int .i64 0, .int .i64 0, .int .i64 0] 35)) 5 s := ⟨_, rfl⟩
  obtain ⟨cap, hcap⟩ : ∃ cap, cap = grownCap (w.alloc (.cells #[.int .i64 0, .string ⟨#[]⟩, .string ⟨#[]⟩, .string ⟨#[]⟩, .int .i64 0, .int .i64 0, .int .i64 0, .int .i64 0, .int .i64 0, .int .i64 0] 35)) s.size 0 5 := ⟨_, rfl⟩
  rw [← hB, ← hcap]
  obtain ⟨W, hW⟩ : ∃ W, W = (B.alloc (.cells #[.slice (some ⟨w.heap.size + 1, 0, none⟩) s.size cap, .int .i64 0] 88)).alloc (.cells #[.int .i64 0, .string ⟨#[]⟩, .string ⟨#[]⟩, .string ⟨#[]⟩, .int .i64 0, .int .i64 0, .int .i64 0, .int .i64 0, .int .i64 0, .int .i64 0] 35) := ⟨_, rfl⟩
  obtain ⟨g, hg⟩ : ∃ g, g = B.heap.size := ⟨_, rfl⟩
  have hBs : B.heap.size = w.heap.size + 1 + 1 := by rw [hB, Lib.bytesWorld_size]; simp
  have HD0 : Aside0 (Dd w g (g + 1) #[.int .i64 0, .string ⟨#[]⟩, .string ⟨#[]⟩, .string ⟨#[]⟩, .int .i64 0, .int .i64 0, .int .i64 0, .int .i64 0, .int .i64 0, .int .i64 0] (sN b 0) W) := ⟨by
    have r0 : B.heap[w.heap.size]? = some (.cells #[.int .i64 0, .string ⟨#[]⟩, .string ⟨#[]⟩, .string ⟨#[]⟩, .int .i64 0, .int .i64 0, .int .i64 0, .int .i64 0, .int .i64 0, .int .i64 0] 35 (0, 0)) := by rw [hB]; exact (Lib.bytesWorld_at_old _ _ _ _ (by simp)).trans (blk_new _ _)
    have hr : ReadsInt B .u8 (some ⟨w.heap.size + 1, 0, none⟩) s.size (bytesOf s) := by
      rw [hB]
      have := bytes_reads (w.alloc (.cells #[.int .i64 0, .string ⟨#[]⟩, .string ⟨#[]⟩, .string ⟨#[]⟩, .int .i64 0, .int .i64 0, .int .i64 0, .int .i64 0, .int .i64 0, .int .i64 0] 35)) 5 s (by omega)
      simpa using this
    have bb : Below w.heap.size w B := by rw [hB]; exact (below_alloc (Below.refl _ _) _).trans ((bytes_below (Below.refl _ _) (Nat.le_refl _) _ _).mono (by simp))
    have b2 : Below B.heap.size B W := by rw [hW]; exact below_alloc (below_alloc (Below.refl _ _) _) _
    refine ⟨by rw [hW]; exact blk_alloc (blk_alloc r0 _) _, by rw [hW, hg]; exact blk_new1 _ _ _ _, ⟨some ⟨w.heap.size + 1, 0, none⟩, cap, ?_, ?_, ?_, HBL.out.2.1, fun ad e _ => ?_⟩, bthen bb b2, by omega, Nat.lt_succ_self _⟩
    · rw [hW, hg]
      show _ = some (Obj.cells #[.slice (some ⟨w.heap.size + 1, 0, none⟩) b.length cap, .int .i64 0] _ _)
      rw [HBL.out.1]
      exact blk_alloc (blk_new _ _) _
    · show ReadsInt W .u8 _ b.length (nb b)
      rw [HBL.out.1, HBL.out.2.2]
      exact hr.below b2
    · show b.length ≤ cap
      rw [HBL.out.1, hcap]
      exact grownCap_ge _ _ _ _
    · injection e with e
      rw [← e]
      show w.heap.size + 1 < g
      omega⟩
  rw [← hW, ← hg]
  clear hW hg hBs hB hcap kb
  have HL : Aside0 (∀ i, (sN b i).1.length ≤ 1048576) := ⟨fun i => Nat.le_trans (sN_len b i) (by rw [HBL.out.1]; exact hs)⟩
  have HLT : Aside0 (∀ i, (sT b i).1.length ≤ 1048576) := ⟨fun i => Nat.le_trans (sT_len b i) (by rw [HBL.out.1]; exact hs)⟩
  go_wp2_with fail
  go_loopg [7, 22] 7 (fun gg v7 v22 wr => ∃ i : Nat, v22 = .int .i64 i ∧ gg + i = 7 ∧ Aside0 (Dd w g (g + 1) (arrN b i) (sN b i) wr))
  case atStart => exact ⟨0, rfl, by omega, HD0⟩
  case round =>
    obtain ⟨i, rfl, hgg, HDi⟩ := hrel
    rcases (show i = 0 ∨ i = 1 ∨ i = 2 ∨ i = 3 ∨ i = 4 ∨ i = 5 ∨ i = 6 ∨ i = 7 by omega) with rfl | rfl | rfl | rfl | rfl | rfl | rfl | rfl
    · have ix := pidx7_0 (g + 1) wr
      go_wp2_with (go_at_call 36; refine (number_any g (sN b 0) 1099511627776 4 _ HDi.out.scan (HL.out 0) (by decide) (by decide) (by decide)).mono ?_; rintro e w1 ⟨rfl, hs1, hg1⟩; (have HDn := Aside0.mk (HDi.out.next (s' := sN b 1) hs1 hg1)); (have c0 : w1.cell? ⟨g + 1, 0, none⟩ = some (.int .i64 0) := blk_cell HDn.out.job 0); (have f0 : w1.frozen? ⟨g + 1, 0, none⟩ = false := blk_frozen HDn.out.job 0); clear hs1 hg1)
      go_roundg 6
      case measure => omega
      case rel => exact ⟨1, rfl, by omega, ⟨HDn.out.put 0 (.int .i64 (nN b 0)) rfl⟩⟩
    · have ix := pidx7_1 (g + 1) wr
      go_wp2_with (go_at_call 36; refine (number_any g (sN b 1) 1099511627776 4 _ HDi.out.scan (HL.out 1) (by decide) (by decide) (by decide)).mono ?_; rintro e w1 ⟨rfl, hs1, hg1⟩; (have HDn := Aside0.mk (HDi.out.next (s' := sN b 2) hs1 hg1)); (have c0 : w1.cell? ⟨g + 1, 4, none⟩ = some (.int .i64 0) := blk_cell HDn.out.job 4); (have f0 : w1.frozen? ⟨g + 1, 4, none⟩ = false := blk_frozen HDn.out.job 4); clear hs1 hg1)
      go_roundg 5
      case measure => omega
      case rel => exact ⟨2, rfl, by omega, ⟨HDn.out.put 4 (.int .i64 (nN b 1)) rfl⟩⟩
    · have ix := pidx7_2 (g + 1) wr
      go_wp2_with (go_at_call 36; refine (number_any g (sN b 2) 1099511627776 4 _ HDi.out.scan (HL.out 2) (by decide) (by decide) (by decide)).mono ?_; rintro e w1 ⟨rfl, hs1, hg1⟩; (have HDn := Aside0.mk (HDi.out.next (s' := sN b 3) hs1 hg1)); (have c0 : w1.cell? ⟨g + 1, 5, none⟩ = some (.int .i64 0) := blk_cell HDn.out.job 5); (have f0 : w1.frozen? ⟨g + 1, 5, none⟩ = false := blk_frozen HDn.out.job 5); clear hs1 hg1)
      go_roundg 4
      case measure => omega
      case rel => exact ⟨3, rfl, by omega, ⟨HDn.out.put 5 (.int .i64 (nN b 2)) rfl⟩⟩
    · have ix := pidx7_3 (g + 1) wr
      go_wp2_with (go_at_call 36; refine (number_any g (sN b 3) 1099511627776 4 _ HDi.out.scan (HL.out 3) (by decide) (by decide) (by decide)).mono ?_; rintro e w1 ⟨rfl, hs1, hg1⟩; (have HDn := Aside0.mk (HDi.out.next (s' := sN b 4) hs1 hg1)); (have c0 : w1.cell? ⟨g + 1, 6, none⟩ = some (.int .i64 0) := blk_cell HDn.out.job 6); (have f0 : w1.frozen? ⟨g + 1, 6, none⟩ = false := blk_frozen HDn.out.job 6); clear hs1 hg1)
      go_roundg 3
      case measure => omega
      case rel => exact ⟨4, rfl, by omega, ⟨HDn.out.put 6 (.int .i64 (nN b 3)) rfl⟩⟩
    · have ix := pidx7_4 (g + 1) wr
      go_wp2_with (go_at_call 36; refine (number_any g (sN b 4) 1099511627776 4 _ HDi.out.scan (HL.out 4) (by decide) (by decide) (by decide)).mono ?_; rintro e w1 ⟨rfl, hs1, hg1⟩; (have HDn := Aside0.mk (HDi.out.next (s' := sN b 5) hs1 hg1)); (have c0 : w1.cell? ⟨g + 1, 7, none⟩ = some (.int .i64 0) := blk_cell HDn.out.job 7); (have f0 : w1.frozen? ⟨g + 1, 7, none⟩ = false := blk_frozen HDn.out.job 7); clear hs1 hg1)
      go_roundg 2
      case measure => omega
      case rel => exact ⟨5, rfl, by omega, ⟨HDn.out.put 7 (.int .i64 (nN b 4)) rfl⟩⟩
    · have ix := pidx7_5 (g + 1) wr
      go_wp2_with (go_at_call 36; refine (number_any g (sN b 5) 1099511627776 4 _ HDi.out.scan (HL.out 5) (by decide) (by decide) (by decide)).mono ?_; rintro e w1 ⟨rfl, hs1, hg1⟩; (have HDn := Aside0.mk (HDi.out.next (s' := sN b 6) hs1 hg1)); (have c0 : w1.cell? ⟨g + 1, 8, none⟩ = some (.int .i64 0) := blk_cell HDn.out.job 8); (have f0 : w1.frozen? ⟨g + 1, 8, none⟩ = false := blk_frozen HDn.out.job 8); clear hs1 hg1)
      go_roundg 1
      case measure => omega
      case rel => exact ⟨6, rfl, by omega, ⟨HDn.out.put 8 (.int .i64 (nN b 5)) rfl⟩⟩
    · have ix := pidx7_6 (g + 1) wr
      go_wp2_with (go_at_call 36; refine (number_any g (sN b 6) 1099511627776 4 _ HDi.out.scan (HL.out 6) (by decide) (by decide) (by decide)).mono ?_; rintro e w1 ⟨rfl, hs1, hg1⟩; (have HDn := Aside0.mk (HDi.out.next (s' := sN b 7) hs1 hg1)); (have c0 : w1.cell? ⟨g + 1, 9, none⟩ = some (.int .i64 0) := blk_cell HDn.out.job 9); (have f0 : w1.frozen? ⟨g + 1, 9, none⟩ = false := blk_frozen HDn.out.job 9); clear hs1 hg1)
      go_roundg 0
      case measure => omega
      case rel => exact ⟨7, rfl, by omega, ⟨HDn.out.put 9 (.int .i64 (nN b 6)) rfl⟩⟩
    · have HT0 : Aside0 (Dd w g (g + 1) (arrT b 0) (sT b 0) wr) := ⟨HDi.out⟩
      clear HDi
      go_wp2_with fail
      go_loopg [9, 34] 3 (fun gg v9 v34 wr => ∃ i : Nat, v34 = .int .i64 i ∧ gg + i = 3 ∧ Aside0 (Dd w g (g + 1) (arrT b i) (sT b i) wr))
      case atStart => exact ⟨0, rfl, by omega, HT0⟩
      case round =>
        clear HT0 hgg
        obtain ⟨i, rfl, hgg, HDi⟩ := hrel
        rcases (show i = 0 ∨ i = 1 ∨ i = 2 ∨ i = 3 by omega) with rfl | rfl | rfl | rfl
        · have ix := pidx3_0 (g + 1) wr
          go_wp2_with (go_at_call 37; refine (text_any g (sT b 0) _ HDi.out.scan (HLT.out 0)).mono ?_; rintro e w1 ⟨rfl, hs1, hg1⟩; (have HDn := Aside0.mk (HDi.out.next (s' := sT b 1) hs1 hg1)); (have c0 : w1.cell? ⟨g + 1, 1, none⟩ = some (.string ⟨#[]⟩) := blk_cell HDn.out.job 1); (have f0 : w1.frozen? ⟨g + 1, 1, none⟩ = false := blk_frozen HDn.out.job 1); clear hs1 hg1)
          go_roundg 2
          case measure => omega
          case rel => exact ⟨1, rfl, by omega, ⟨HDn.out.put 1 (.string (tT b 0)) rfl⟩⟩
        · have ix := pidx3_1 (g + 1) wr
          go_wp2_with (go_at_call 37; refine (text_any g (sT b 1) _ HDi.out.scan (HLT.out 1)).mono ?_; rintro e w1 ⟨rfl, hs1, hg1⟩; (have HDn := Aside0.mk (HDi.out.next (s' := sT b 2) hs1 hg1)); (have c0 : w1.cell? ⟨g + 1, 2, none⟩ = some (.string ⟨#[]⟩) := blk_cell HDn.out.job 2); (have f0 : w1.frozen? ⟨g + 1, 2, none⟩ = false := blk_frozen HDn.out.job 2); clear hs1 hg1)
          go_roundg 1
          case measure => omega
          case rel => exact ⟨2, rfl, by omega, ⟨HDn.out.put 2 (.string (tT b 1)) rfl⟩⟩
        · have ix := pidx3_2 (g + 1) wr
          go_wp2_with (go_at_call 37; refine (text_any g (sT b 2) _ HDi.out.scan (HLT.out 2)).mono ?_; rintro e w1 ⟨rfl, hs1, hg1⟩; (have HDn := Aside0.mk (HDi.out.next (s' := sT b 3) hs1 hg1)); (have c0 : w1.cell? ⟨g + 1, 3, none⟩ = some (.string ⟨#[]⟩) := blk_cell HDn.out.job 3); (have f0 : w1.frozen? ⟨g + 1, 3, none⟩ = false := blk_frozen HDn.out.job 3); clear hs1 hg1)
          go_roundg 0
          case measure => omega
          case rel => exact ⟨3, rfl, by omega, ⟨HDn.out.put 3 (.string (tT b 2)) rfl⟩⟩
        · obtain ⟨rest, hrest⟩ := named (sT b 3).1
          obtain ⟨er, her⟩ := named (sT b 3).2
          have HDF : Aside0 (Dd w g (g + 1) #[.int .i64 (nN b 0), .string (tT b 0), .string (tT b 1), .string (tT b 2), .int .i64 (nN b 1), .int .i64 (nN b 2), .int .i64 (nN b 3), .int .i64 (nN b 4), .int .i64 (nN b 5), .int .i64 (nN b 6)] (rest, er) wr) := ⟨by
            have h := HDi.out
            rw [show sT b 3 = (rest, er) by rw [hrest.out, her.out]] at h
            exact h⟩
          have HE : Aside0 (DE = if er ≠ 0 then er else if rest.length ≠ 0 then 23 else chkE (Cron.parseE (tT b 1)) (jobD b)) := ⟨by rw [hDE.out, decE, hrest.out, her.out]⟩
          have HJN : Aside0 (DE ≠ 0 → DJ = #[.int .i64 0, .string ⟨#[]⟩, .string ⟨#[]⟩, .string ⟨#[]⟩, .int .i64 0, .int .i64 0, .int .i64 0, .int .i64 0, .int .i64 0, .int .i64 0]) := ⟨fun h => by rw [hDJ.out, decJ, ← hDE.out, if_neg h]; rfl⟩
          obtain ⟨A, c, hk, hr, hlc, hby, hlt⟩ := HDF.out.scan
          have HLR : Aside0 ((tT b 1).size ≤ 9223372036854775807) := ⟨Nat.le_trans (tT_size b 1) (by rw [HBL.out.1]; omega)⟩
          have HK := Aside0.mk hk
          dsimp only at hk
          obtain ⟨ln, hln⟩ : ∃ ln, rest.length = ln := ⟨_, rfl⟩
          rw [hln] at HE hk
          have x0 := blk_cell hk 0
          have x1 := blk_cell hk 1
          have g1 := blk_frozen hk 1
          clear hk hr hlc hby hlt HDi HD0 HL HLT
          obtain ⟨k0, k1, k2, k3, k4, k5, k6, k7, k8, k9⟩ := all10 HDF.out.res
          obtain ⟨f0, f1, f2, f3, f4, f5, f6, f7, f8, f9⟩ := frz10 HDF.out.res
          have n1 := HDF.out.one
          by_cases he : er = 0
          · subst he
            by_cases hl0 : ln = 0
            · subst hl0
              obtain ⟨CE, hCE⟩ := named (chkE (Cron.parseE (tT b 1)) (jobD b))
              have HX : Aside0 (DE = CE) := ⟨by rw [HE.out, if_neg (by decide), if_neg (by decide), hCE.out]⟩
              obtain rfl := HX.out
              have CC : Aside0 (Calls Tryd.prog 11 #[.agg #[.int .i64 (nN b 0), .string (tT b 0), .string (tT b 1), .string (tT b 2), .int .i64 (nN b 1), .int .i64 (nN b 2), .int .i64 (nN b 3), .int .i64 (nN b 4), .int .i64 (nN b 5), .int .i64 (nN b 6)]] wr fun e w' => e = .returned (.int .i64 DE) ∧ Below wr.heap.size wr w') := ⟨by
                rw [hCE.out]
                exact check_any maxL_lasts (Cron.parseE (tT b 1)) (jobD b) wr (HM.out.below HDF.out.below) (parse_says _ HLR.out)⟩
              obtain ⟨q0, q1, q2, q3, q4, q5, q6, q7, q8, q9⟩ := all10 HDF.out.job
              go_upto_region 17 with (go_at_call 11; refine CC.out.mono ?_; rintro e w5 ⟨rfl, hb5⟩; (have HD4 := Aside0.mk (HDF.out.step hb5)); (have y1 : w5.cell? ⟨g, 1, none⟩ = some (.int .i64 0) := by (obtain ⟨_, _, hk, _⟩ := HD4.out.scan; exact blk_cell hk 1)); (have y2 : w5.frozen? ⟨g, 1, none⟩ = false := by (obtain ⟨_, _, hk, _⟩ := HD4.out.scan; exact blk_frozen hk 1)); clear hb5)
              obtain ⟨W5, hW5⟩ : ∃ W5, W5 = w5.setCell ⟨g, 1, none⟩ (.int .i64 DE) := ⟨_, rfl⟩
              have HD5 : Aside0 (Dd w g (g + 1) #[.int .i64 (nN b 0), .string (tT b 0), .string (tT b 1), .string (tT b 2), .int .i64 (nN b 1), .int .i64 (nN b 2), .int .i64 (nN b 3), .int .i64 (nN b 4), .int .i64 (nN b 5), .int .i64 (nN b 6)] (rest, DE) W5) := ⟨by rw [hW5]; exact HD4.out.err DE⟩
              rw [← hW5]
              clear hW5 x0 x1 g1 k0 k1 k2 k3 k4 k5 k6 k7 k8 k9 f0 f1 f2 f3 f4 f5 f6 f7 f8 f9 q0 q1 q2 q3 q4 q5 q6 q7 q8 q9 y1 y2
              have x1 : W5.cell? ⟨g, 1, none⟩ = some (.int .i64 DE) := by
                obtain ⟨_, _, hk, _⟩ := HD5.out.scan
                exact blk_cell hk 1
              obtain ⟨k0, k1, k2, k3, k4, k5, k6, k7, k8, k9⟩ := all10 HD5.out.res
              obtain ⟨f0, f1, f2, f3, f4, f5, f6, f7, f8, f9⟩ := frz10 HD5.out.res
              obtain ⟨q0, q1, q2, q3, q4, q5, q6, q7, q8, q9⟩ := all10 HD5.out.job
              by_cases hd : DE = 0
              · have HX : Aside0 (DJ = #[.int .i64 (nN b 0), .string (tT b 0), .string (tT b 1), .string (tT b 2), .int .i64 (nN b 1), .int .i64 (nN b 2), .int .i64 (nN b 3), .int .i64 (nN b 4), .int .i64 (nN b 5), .int .i64 (nN b 6)]) := ⟨by rw [hDJ.out, decJ, ← hDE.out, if_pos hd]; rfl⟩
                obtain rfl := HX.out
                subst hd
                go_wp2
                refine bodyPost_ret (Job.results_ct rfl _ _ w.heap.size 35 #[.int .i64 (nN b 0), .string (tT b 0), .string (tT b 1), .string (tT b 2), .int .i64 (nN b 1), .int .i64 (nN b 2), .int .i64 (nN b 3), .int .i64 (nN b 4), .int .i64 (nN b 5), .int .i64 (nN b 6)] (0, 0) _ rfl (blk10 HD5.out.res) Tryd.underlying35 rfl (by kernel_rfl)) rfl ?_
                exact ⟨rfl, below_set10 HD5.out.below (Nat.le_refl _) _ _ _ _ _ _ _ _ _ _⟩
              · have HX : Aside0 (DJ = #[.int .i64 0, .string ⟨#[]⟩, .string ⟨#[]⟩, .string ⟨#[]⟩, .int .i64 0, .int .i64 0, .int .i64 0, .int .i64 0, .int .i64 0, .int .i64 0]) := ⟨HJN.out hd⟩
                obtain rfl := HX.out
                have hb2 : (DE != 0) = true := by simpa using hd
                clear hd
                go_wp2_with fail
                go_region
                go_wp2
                refine bodyPost_ret (Job.results_ct rfl _ _ w.heap.size 35 #[.int .i64 0, .string ⟨#[]⟩, .string ⟨#[]⟩, .string ⟨#[]⟩, .int .i64 0, .int .i64 0, .int .i64 0, .int .i64 0, .int .i64 0, .int .i64 0] (0, 0) _ rfl (blk_drew (blk10 HD5.out.res)) Tryd.underlying35 rfl (by kernel_rfl)) rfl ?_
                exact ⟨rfl, below_drew (below_set10 HD5.out.below (Nat.le_refl _) _ _ _ _ _ _ _ _ _ _)⟩
            · have hln1 : (0 : Int) < (ln : Int) := by omega
              have HX : Aside0 (DE = 23 ∧ DJ = #[.int .i64 0, .string ⟨#[]⟩, .string ⟨#[]⟩, .string ⟨#[]⟩, .int .i64 0, .int .i64 0, .int .i64 0, .int .i64 0, .int .i64 0, .int .i64 0]) := ⟨by
                have h1 : DE = 23 := by rw [HE.out, if_neg (by decide), if_pos hl0]
                exact ⟨h1, HJN.out (by rw [h1]; decide)⟩⟩
              obtain ⟨rfl, rfl⟩ := HX.out
              go_upto_region 15 with (fail)
              obtain ⟨W5, hW5⟩ : ∃ W5, W5 = wr.setCell ⟨g, 1, none⟩ (.int .i64 23) := ⟨_, rfl⟩
              have HD5 : Aside0 (Dd w g (g + 1) #[.int .i64 (nN b 0), .string (tT b 0), .string (tT b 1), .string (tT b 2), .int .i64 (nN b 1), .int .i64 (nN b 2), .int .i64 (nN b 3), .int .i64 (nN b 4), .int .i64 (nN b 5), .int .i64 (nN b 6)] (rest, 23) W5) := ⟨by rw [hW5]; exact HDF.out.err 23⟩
              rw [← hW5]
              clear hW5 x0 x1 g1 k0 k1 k2 k3 k4 k5 k6 k7 k8 k9 f0 f1 f2 f3 f4 f5 f6 f7 f8 f9
              have x1 : W5.cell? ⟨g, 1, none⟩ = some (.int .i64 23) := by
                obtain ⟨_, _, hk, _⟩ := HD5.out.scan
                exact blk_cell hk 1
              obtain ⟨k0, k1, k2, k3, k4, k5, k6, k7, k8, k9⟩ := all10 HD5.out.res
              obtain ⟨f0, f1, f2, f3, f4, f5, f6, f7, f8, f9⟩ := frz10 HD5.out.res
              go_wp2_with fail
              go_region
              go_wp2
              refine bodyPost_ret (Job.results_ct rfl _ _ w.heap.size 35 #[.int .i64 0, .string ⟨#[]⟩, .string ⟨#[]⟩, .string ⟨#[]⟩, .int .i64 0, .int .i64 0, .int .i64 0, .int .i64 0, .int .i64 0, .int .i64 0] (0, 0) _ rfl (blk_drew (blk10 HD5.out.res)) Tryd.underlying35 rfl (by kernel_rfl)) rfl ?_
              exact ⟨rfl, below_drew (below_set10 HD5.out.below (Nat.le_refl _) _ _ _ _ _ _ _ _ _ _)⟩
          · have hb1 : (er == 0) = false := by simpa using he
            have hb2 : (er != 0) = true := by simpa using he
            have HX : Aside0 (DE = er ∧ DJ = #[.int .i64 0, .string ⟨#[]⟩, .string ⟨#[]⟩, .string ⟨#[]⟩, .int .i64 0, .int .i64 0, .int .i64 0, .int .i64 0, .int .i64 0, .int .i64 0]) := ⟨by
              have h1 : DE = er := by rw [HE.out, if_pos he]
              exact ⟨h1, HJN.out (by rw [h1]; exact he)⟩⟩
            obtain ⟨rfl, rfl⟩ := HX.out
            clear he
            go_wp2_with fail
            go_region
            go_wp2
            refine bodyPost_ret (Job.results_ct rfl _ _ w.heap.size 35 #[.int .i64 0, .string ⟨#[]⟩, .string ⟨#[]⟩, .string ⟨#[]⟩, .int .i64 0, .int .i64 0, .int .i64 0, .int .i64 0, .int .i64 0, .int .i64 0] (0, 0) _ rfl (blk_drew (blk10 HDF.out.res)) Tryd.underlying35 rfl (by kernel_rfl)) rfl ?_
            exact ⟨rfl, below_drew (below_set10 HDF.out.below (Nat.le_refl _) _ _ _ _ _ _ _ _ _ _)⟩
end Go.Proofs.YteloamnakikbbaaDoor.JDec
