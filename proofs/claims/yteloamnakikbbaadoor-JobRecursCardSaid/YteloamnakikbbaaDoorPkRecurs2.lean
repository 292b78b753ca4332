/- A part of the proof: cron: field, and the library's strings.SplitSeq, walked together. -/
import Derived.Test.YteloamnakikbbaaDoorPkRecurs1
import Derived.Shelf.Abstract
import Derived.Shelf.RegionOpen
import Derived.WalkKit
import Derived.OwnWalkIn
import Derived.TacticsInMore
import Derived.LoopNIn
import Derived.LoopIn
import Derived.Deep.RegionHeld3
import Derived.Shelf.Spec.TrailingZeros
import Derived.Lib.LaidTab
import Derived.Below
import Derived.Test.YteloamnakikbbaaDoorProg

/- cron: field, and the library's strings.SplitSeq, walked together. -/
namespace Go.Proofs.YteloamnakikbbaaDoor.Cron
set_option linter.unusedVariables false
set_option linter.unusedSimpArgs false
open Go.RowKit Go.Shelf Go.Proofs.YteloamnakikbbaaDoorW.PrintWords Go.Proofs.YteloamnakikbbaaDoorW.PrintLast Go.Proofs.YteloamnakikbbaaDoor.Base Go.Proofs.YteloamnakikbbaaDoor.Cells Go.Proofs.YteloamnakikbbaaDoor.CronPure Go.Proofs.YteloamnakikbbaaDoor.NamesPure Go.Proofs.YteloamnakikbbaaDoor.RangeOne
attribute [local go_sem] Oper.semAt_some

theorem index44 (R : ByteArray) : Lib.index R.data.toList [44] = -1 ∨ ∃ i : Nat, Lib.index R.data.toList [44] = i ∧ i + 1 ≤ R.size := Lib.indexB_cases R ⟨#[44]⟩
theorem list_of {l : List UInt8} {s : ByteArray} (h : (⟨l.toArray⟩ : ByteArray) = s) : l = s.data.toList := by rw [← h]
theorem cut44_hit {R : ByteArray} {i : Nat} (h : Lib.index R.data.toList [44] = i) : Lib.cut R.data.toList [44] = ((R.extract 0 i).data.toList, (R.extract (i + 1) R.size).data.toList, true) := by
  obtain ⟨e1, e2, e3⟩ := Lib.cutB_hit R ⟨#[44]⟩ i h
  exact Prod.ext (list_of e1) (Prod.ext (list_of e2) e3)
theorem cut44_miss {R : ByteArray} (h : Lib.index R.data.toList [44] = -1) : Lib.cut R.data.toList [44] = (R.data.toList, [], false) := by
  obtain ⟨e1, e2, e3⟩ := Lib.cutB_miss R ⟨#[44]⟩ h
  exact Prod.ext (list_of e1) (Prod.ext (list_of e2) e3)
theorem item_lt {lo hi : Int} {l : List UInt8} {x : Nat} (h0 : 0 ≤ lo) (h1 : lo ≤ hi) (h2 : hi ≤ 63) (h : itemP lo hi l = some x) : x < 2 ^ 64 := by
  unfold itemP at h
  dsimp only at h
  generalize Lib.cut l [47] = X at h
  have nb := numV_bd X.2.1
  split at h
  · cases h
  · rename_i hn
    split at h
    · cases h
    · rename_i hs
      injection h with h
      subst h
      have hok : (spreadP lo hi X.1).2.2.2 = true := by
        cases hk : (spreadP lo hi X.1).2.2.2 with
        | true => rfl
        | false => rw [hk] at hs; simp at hs
      have hb := spread_bd h0 h1 h2 hok
      have hst : 0 < (if X.2.2 then (numV X.2.1).toNat else 1) := by
        split
        · rename_i hx
          rw [hx] at hn
          simp at hn
          have := hn.2
          omega
        · omega
      refine setTo_lt _ _ _ _ fun j hj => ?_
      have := (many_iff hst).1 hj
      omega
theorem fieldF_miss {lo hi : Int} {f set : Nat} {R : ByteArray} (h : Lib.index R.data.toList [44] = -1) : fieldF lo hi (f + 1) set R.data.toList = (itemP lo hi R.data.toList).map (set ||| ·) := by
  rw [fieldF, cut44_miss h]
  dsimp only
  cases itemP lo hi R.data.toList <;> rfl
theorem fieldF_hit {lo hi : Int} {f set i : Nat} {R : ByteArray} (h : Lib.index R.data.toList [44] = i) : fieldF lo hi (f + 1) set R.data.toList = (itemP lo hi (R.extract 0 i).data.toList).bind fun x => fieldF lo hi f (set ||| x) (R.extract (i + 1) R.size).data.toList := by
  rw [fieldF, cut44_hit h]
  dsimp only
  cases itemP lo hi (R.extract 0 i).data.toList <;> rfl

theorem data_len (s : ByteArray) : s.data.toList.length = s.size := by simp
theorem cut_short {l : List UInt8} (h : (Lib.cut l [44]).2.2 = true) : (Lib.cut l [44]).2.1.length < l.length := by
  unfold Lib.cut at h ⊢
  split at h
  · rename_i h0
    rw [if_pos h0]
    have hr := Lib.index_room l [44] h0
    simp only [List.length_drop, List.length_singleton] at hr ⊢
    omega
  · cases h
theorem fieldF_fuel (lo hi : Int) : ∀ (f g set : Nat) (l : List UInt8), l.length < f → l.length < g → fieldF lo hi f set l = fieldF lo hi g set l
  | 0, _, _, _, h, _ => by omega
  | _ + 1, 0, _, _, _, h => by omega
  | f + 1, g + 1, set, l, h1, h2 => by
    rw [fieldF, fieldF]
    split
    · rfl
    · split
      · rename_i hc
        have := cut_short hc
        exact fieldF_fuel lo hi f g _ _ (by omega) (by omega)
      · rfl
/-- between two rounds -/
structure Fd (w0 : World) (lo hi : Int) (set : Nat) (rest : ByteArray) (W : World) : Prop where
  scope : W.heap[w0.heap.size]? = some (.cells #[.int .i64 lo, .int .i64 hi] 98 (0, 0))
  set : W.heap[w0.heap.size + 1]? = some (.cells #[.int .u64 (set : Nat)] 25 (0, 0))
  ok : W.heap[w0.heap.size + 1 + 1]? = some (.cells #[.bool false] 4 (0, 0))
  rest : W.heap[w0.heap.size + 1 + 1 + 1]? = some (.cells #[.string rest] 9 (0, 0))
  sep : W.heap[w0.heap.size + 1 + 1 + 1 + 1]? = some (.cells #[.string ⟨#[44]⟩] 9 (0, 0))
  save : W.heap[w0.heap.size + 1 + 1 + 1 + 1 + 1]? = some (.cells #[.int .i64 0] 3 (0, 0))
  below : Below w0.heap.size w0 W
/-- a round has returned -/
structure Fx (w0 : World) (W : World) : Prop where
  set : W.heap[w0.heap.size + 1]? = some (.cells #[.int .u64 0] 25 (0, 0))
  ok : W.heap[w0.heap.size + 1 + 1]? = some (.cells #[.bool false] 4 (0, 0))
  below : Below w0.heap.size w0 W
theorem Fd.step {w0 : World} {lo hi : Int} {set : Nat} {rest : ByteArray} {W W' : World} (h : Fd w0 lo hi set rest W) (hb : Below W.heap.size W W') : Fd w0 lo hi set rest W' :=
  ⟨blk_keep h.scope hb, blk_keep h.set hb, blk_keep h.ok hb, blk_keep h.rest hb, blk_keep h.sep hb, blk_keep h.save hb, bthen h.below hb⟩
theorem Fd.add {w0 : World} {lo hi : Int} {set : Nat} {rest : ByteArray} {W : World} (h : Fd w0 lo hi set rest W) (x : Nat) : Fd w0 lo hi (set ||| x) rest (W.setCell ⟨w0.heap.size + 1, 0, none⟩ (.int .u64 ((set ||| x : Nat) : Int))) := by
  have q1 : ∀ k o, k ≠ w0.heap.size + 1 → W.heap[k]? = some o → (W.setCell ⟨w0.heap.size + 1, 0, none⟩ (.int .u64 ((set ||| x : Nat) : Int))).heap[k]? = some o := fun k o n1 h => (Below.heap_setCell _ ⟨w0.heap.size + 1, 0, none⟩ _ k n1).trans h
  exact ⟨q1 _ _ (by omega) h.scope, blk_put h.set 0 _ rfl, q1 _ _ (by omega) h.ok, q1 _ _ (by omega) h.rest, q1 _ _ (by omega) h.sep, q1 _ _ (by omega) h.save, h.below.setCell (p := ⟨w0.heap.size + 1, 0, none⟩) (Nat.le_succ _) _⟩
theorem Fd.next {w0 : World} {lo hi : Int} {set : Nat} {rest : ByteArray} {W : World} (h : Fd w0 lo hi set rest W) (R : ByteArray) : Fd w0 lo hi set R (W.setCell ⟨w0.heap.size + 1 + 1 + 1, 0, none⟩ (.string R)) := by
  have q1 : ∀ k o, k ≠ w0.heap.size + 1 + 1 + 1 → W.heap[k]? = some o → (W.setCell ⟨w0.heap.size + 1 + 1 + 1, 0, none⟩ (.string R)).heap[k]? = some o := fun k o n1 h => (Below.heap_setCell _ ⟨w0.heap.size + 1 + 1 + 1, 0, none⟩ _ k n1).trans h
  exact ⟨q1 _ _ (by omega) h.scope, q1 _ _ (by omega) h.set, q1 _ _ (by omega) h.ok, blk_put h.rest 0 _ rfl, q1 _ _ (by omega) h.sep, q1 _ _ (by omega) h.save, h.below.setCell (p := ⟨w0.heap.size + 1 + 1 + 1, 0, none⟩) (by show w0.heap.size ≤ w0.heap.size + 1 + 1 + 1; omega) _⟩
theorem Fd.leave {w0 : World} {lo hi : Int} {set : Nat} {rest : ByteArray} {W : World} (h : Fd w0 lo hi set rest W) : Fx w0 ((W.setCell ⟨w0.heap.size + 1, 0, none⟩ (.int .u64 0)).setCell ⟨w0.heap.size + 1 + 1, 0, none⟩ (.bool false)) :=
  ⟨(Below.heap_setCell _ ⟨w0.heap.size + 1 + 1, 0, none⟩ _ _ (by show _ ≠ w0.heap.size + 1 + 1; omega)).trans (blk_put h.set 0 _ rfl), blk_put ((Below.heap_setCell _ ⟨w0.heap.size + 1, 0, none⟩ _ _ (by show _ ≠ w0.heap.size + 1; omega)).trans h.ok) 0 _ rfl,
    (h.below.setCell (p := ⟨w0.heap.size + 1, 0, none⟩) (Nat.le_succ _) _).setCell (p := ⟨w0.heap.size + 1 + 1, 0, none⟩) (by show w0.heap.size ≤ w0.heap.size + 1 + 1; omega) _⟩
theorem put_at {W : World} {k l : Nat} {o ob : Obj} (h : W.heap[k]? = some ob) (hne : k ≠ l) : (W.putObj l o).heap[k]? = some ob := (World.putObj_heap_other hne).trans h
theorem Fd.put {w0 : World} {lo hi : Int} {set : Nat} {rest : ByteArray} {W : World} {l : Nat} {o o' : Obj} (h : Fd w0 lo hi set rest W) (hl : w0.heap.size + 6 ≤ l) (ho : W.heap[l]? = some o) (hc : o.isCells = false) (hw : o.isWalk = false) : Fd w0 lo hi set rest (W.putObj l o') :=
  ⟨put_at h.scope (by omega), put_at h.set (by omega), put_at h.ok (by omega), put_at h.rest (by omega), put_at h.sep (by omega), put_at h.save (by omega), h.below.trans (belowK_b (w := w0) (Nat.le_refl _) W l o o' (by omega) ho hc hw)⟩
theorem Fx.put {w0 W : World} {l : Nat} {o o' : Obj} (h : Fx w0 W) (hl : w0.heap.size + 6 ≤ l) (ho : W.heap[l]? = some o) (hc : o.isCells = false) (hw : o.isWalk = false) : Fx w0 (W.putObj l o') :=
  ⟨put_at h.set (by omega), put_at h.ok (by omega), h.below.trans (belowK_b (w := w0) (Nat.le_refl _) W l o o' (by omega) ho hc hw)⟩
theorem Rec_below {r : Loop} {D : Nat} {W W1 : World} (h : Rec r D W) (hb : Below W.heap.size W W1) : Rec r D W1 := ⟨(hb.block _ h.lt).trans h.1, (hb.block _ (by have := h.lt; omega)).trans h.2⟩

theorem heap6 (w : World) (o1 o2 o3 o4 o5 o6 : Array Value) {t1 t2 t3 t4 t5 t6 : TypeId} {w1 : World} (h : w1 = (((((w.alloc (.cells o1 t1)).alloc (.cells o2 t2)).alloc (.cells o3 t3)).alloc (.cells o4 t4)).alloc (.cells o5 t5)).alloc (.cells o6 t6)) :
    w1.heap[w.heap.size]? = some (.cells o1 t1 (0, 0)) ∧ w1.heap[w.heap.size + 1]? = some (.cells o2 t2 (0, 0)) ∧ w1.heap[w.heap.size + 1 + 1]? = some (.cells o3 t3 (0, 0)) ∧ w1.heap[w.heap.size + 1 + 1 + 1]? = some (.cells o4 t4 (0, 0)) ∧ w1.heap[w.heap.size + 1 + 1 + 1 + 1]? = some (.cells o5 t5 (0, 0)) ∧ w1.heap[w.heap.size + 1 + 1 + 1 + 1 + 1]? = some (.cells o6 t6 (0, 0)) ∧ Below w.heap.size w w1 := by
  subst h
  have n1 := blk_new w (.cells o1 t1)
  have n2 := blk_new1 w (.cells o1 t1) o2 t2
  have n3 := blk_new1 (w.alloc (.cells o1 t1)) (.cells o2 t2) o3 t3
  have n4 := blk_new1 ((w.alloc (.cells o1 t1)).alloc (.cells o2 t2)) (.cells o3 t3) o4 t4
  have n5 := blk_new1 (((w.alloc (.cells o1 t1)).alloc (.cells o2 t2)).alloc (.cells o3 t3)) (.cells o4 t4) o5 t5
  have n6 := blk_new1 ((((w.alloc (.cells o1 t1)).alloc (.cells o2 t2)).alloc (.cells o3 t3)).alloc (.cells o4 t4)) (.cells o5 t5) o6 t6
  simp only [World.size_alloc] at n3 n4 n5 n6
  exact ⟨blk_alloc (blk_alloc (blk_alloc (blk_alloc (blk_alloc n1 _) _) _) _) _, blk_alloc (blk_alloc (blk_alloc (blk_alloc n2 _) _) _) _, blk_alloc (blk_alloc (blk_alloc n3 _) _) _, blk_alloc (blk_alloc n4 _) _, blk_alloc n5 _, n6,
    below_alloc (below_alloc (below_alloc (below_alloc (below_alloc (below_alloc (Below.refl _ _) _) _) _) _) _) _⟩
set_option maxRecDepth 100000 in
theorem splitSeq_any (s sep : ByteArray) (w : World) : Calls Tryd.prog 54 #[.string s, .string sep] w fun e w' => e = .returned (.func (.func 77) #[] #[.pointer (some ⟨w.heap.size + 1, 0, none⟩), .pointer (some ⟨w.heap.size, 0, none⟩), .pointer (some ⟨w.heap.size + 1 + 1, 0, none⟩)]) ∧ w' = ((w.alloc (.cells #[.string s] 9)).alloc (.cells #[.string sep] 9)).alloc (.cells #[.int .i64 0] 3) := by
  go_enter Tryd.func54, Tryd.ntmps54
  go_wp2
  go_ret
  exact ⟨rfl, rfl⟩

set_option maxRecDepth 100000 in
set_option maxHeartbeats 4000000 in
theorem field_any (lo hi : Int) (s : ByteArray) (w : World) (hs : s.size ≤ 1000) (hm : MaxL w) (h0 : 0 ≤ lo) (h1 : lo ≤ hi) (h2 : hi ≤ 63) :
    Calls Tryd.prog 42 #[.agg #[.int .i64 lo, .int .i64 hi], .string s] w fun e w' => e = .returned (.tuple #[.int .u64 ((fieldP lo hi s.data.toList).getD 0 : Nat), .bool (fieldP lo hi s.data.toList).isSome]) ∧ Below w.heap.size w w' := by
  obtain ⟨FR, hFR⟩ := named (fieldP lo hi s.data.toList)
  rw [← hFR.out]
  have HM := Aside0.mk hm
  have HLH := Aside0.mk (And.intro h0 (And.intro h1 h2))
  clear hm h0 h1 h2
  refine (callsIn_wide (n := 5)).1 ?_
  refine callsIn_of_wp_marks Tryd.func42 rfl trivial ?_ rfl
  simp only [Tryd.ntmps42, List.size_toArray, List.length_cons, List.length_nil, Nat.reduceAdd, Nat.reduceSub, Array.replicate_succ, Array.replicate_zero, List.push_toArray, List.append_toArray, List.nil_append, List.cons_append]
  gi_wp2_with fail
  refine ⟨trivial, callsIn_wide.2 ((splitSeq_any _ _ _).mono ?_)⟩
  rintro e w1 ⟨rfl, hw1⟩
  have HS1 : Aside0 (w1.heap.size = w.heap.size + 6) := ⟨by rw [hw1]; simp⟩
  have HI1 : Aside0 (Fd w lo hi 0 s w1) := ⟨by
    have e1 := heap6 w _ _ _ _ _ _ hw1
    exact ⟨e1.1, e1.2.1, e1.2.2.1, e1.2.2.2.1, e1.2.2.2.2.1, e1.2.2.2.2.2.1, e1.2.2.2.2.2.2⟩⟩
  clear hw1
  gi_wp2_with fail
  refine RangeOne.wp_range2 (K := fun W => ∃ set rest, Fd w lo hi set rest W ∧ FR = some set) (Kx := fun W => Fx w W ∧ FR = none) rfl (by omega) (gf := 77) (lb := #[.pointer (some ⟨w.heap.size + 1 + 1 + 1 + 1, 0, none⟩), .pointer (some ⟨w.heap.size + 1 + 1 + 1, 0, none⟩), .pointer (some ⟨w.heap.size + 1 + 1 + 1 + 1 + 1, 0, none⟩)]) rfl trivial (enters_of Tryd.func77 (by kernel_rfl) rfl) ?iter ?after ?left
  case iter =>
    intro fn hfn r hr
    have HY : Aside0 (∀ (W : World) (set : Nat) (rest it : ByteArray), it.size ≤ 1000 → set < 2 ^ 64 → Rec r w1.heap.size W → Fd w lo hi set rest W →
        YieldAt Fence.wide 3 Tryd.prog (w1.heap.size + 1) #[.string it] W fun e W' => (e = .returned (.bool true) ∧ Rec r w1.heap.size W' ∧ ∃ x, itemP lo hi it.data.toList = some x ∧ Fd w lo hi (set ||| x) rest W') ∨
          (e = .returned (.bool false) ∧ Rec (Loop.left r) w1.heap.size W' ∧ itemP lo hi it.data.toList = none ∧ Fx w W')) := ⟨by
      intro W set rest it hit hset hrec hfd
      suffices KEY : YieldAt Fence.wide 3 Tryd.prog (w1.heap.size + 1) #[.string it] W fun e W' => (e = .returned (.bool true) ∧ Rec r w1.heap.size W' ∧ ((true = true → ∃ x, itemP lo hi it.data.toList = some x ∧ Fd w lo hi (set ||| x) rest W') ∧ (true = false → itemP lo hi it.data.toList = none ∧ Fx w W'))) ∨
          (e = .returned (.bool false) ∧ Rec (Loop.left r) w1.heap.size W' ∧ ((false = true → ∃ x, itemP lo hi it.data.toList = some x ∧ Fd w lo hi (set ||| x) rest W') ∧ (false = false → itemP lo hi it.data.toList = none ∧ Fx w W'))) by
        obtain ⟨fn', t', a', b', e1, e2⟩ := KEY
        refine ⟨fn', t', a', b', e1, e2.mono ?_⟩
        rintro e W' (⟨h1, h2, h3, _⟩ | ⟨h1, h2, _, h4⟩)
        · exact .inl ⟨h1, h2, h3 rfl⟩
        · exact .inr ⟨h1, h2, h4 rfl⟩
      refine yield_two (R := fun b W' => (b = true → ∃ x, itemP lo hi it.data.toList = some x ∧ Fd w lo hi (set ||| x) rest W') ∧ (b = false → itemP lo hi it.data.toList = none ∧ Fx w W')) trivial hrec (by rw [hr]) (by rw [hr]) (by rw [hr]; rfl) ?_
      have hT : ∀ x : Value, (r.params.zip #[x]).foldl (fun t (p, v) => t.setIfInBounds p v) r.tmps = #[.agg #[.int .i64 lo, .int .i64 hi], .string s, .pointer (some ⟨w.heap.size, 0, none⟩), undef, .pointer (some ⟨w.heap.size + 1, 0, none⟩), .pointer (some ⟨w.heap.size + 1 + 1, 0, none⟩), undef, undef, undef, .string s,
          .func (.func 77) #[] #[.pointer (some ⟨w.heap.size + 1 + 1 + 1 + 1, 0, none⟩), .pointer (some ⟨w.heap.size + 1 + 1 + 1, 0, none⟩), .pointer (some ⟨w.heap.size + 1 + 1 + 1 + 1 + 1, 0, none⟩)], x, undef, undef, undef, undef, undef, undef, undef, undef, undef, undef, undef, undef] := fun x => by rw [hr]; simp
      rw [hT]
      obtain ⟨rb, hrb⟩ : ∃ rb : Loop, rb = { r with state := .busy } := ⟨_, rfl⟩
      rw [← hrb]
      have hA := congrArg Loop.assign hr
      have hB := congrArg Loop.body hr
      dsimp only at hA hB
      rw [hA, hB]
      have HRec := Aside0.mk hrec
      have HFd := Aside0.mk hfd
      have HRB := Aside0.mk hrb
      have HRR := Aside0.mk hr
      have HSE := Aside0.mk hset
      clear hA hB hrec hfd hrb hr hT hset
      gi_wp2
      refine ⟨⟨HRec.out.1, HRec.out.2⟩, ?_⟩
      have hlt := HRec.out.lt
      have hs6 := HS1.out
      obtain ⟨W2, hW2⟩ : ∃ W2, W2 = W.putObj (w1.heap.size + 1) (.loop rb) := ⟨_, rfl⟩
      have HL2 : Aside0 (W2.heap[w1.heap.size + 1]? = some (.loop rb)) := ⟨by rw [hW2]; exact World.putObj_heap_same (by omega)⟩
      have HD2 : Aside0 (W2.heap[w1.heap.size]? = some (.deferred (some []))) := ⟨by rw [hW2]; exact (World.putObj_heap_other (by omega)).trans HRec.out.2⟩
      have HF2 : Aside0 (Fd w lo hi set rest W2) := ⟨by rw [hW2]; exact HFd.out.put (by omega) HRec.out.1 rfl rfl⟩
      rw [← hW2]
      clear hW2 hs6
      obtain ⟨c0, c1, _, _⟩ := all2 HF2.out.scope
      obtain ⟨IP, hIP⟩ := named (itemP lo hi it.data.toList)
      gi_wp2_with fail
      refine ⟨trivial, ?_⟩
      refine (CallsIn.inRound (w1.heap.size + 1) (callsIn_wide.2 (item_any lo hi it W2 hit (HM.out.below HF2.out.below) HLH.out.1 HLH.out.2.1 HLH.out.2.2))).mono ?_
      rw [itemV, itemOk, ← hIP.out]
      rintro e w3 ⟨rfl, hb3⟩
      have HF3 := Aside0.mk (HF2.out.step hb3)
      have HL3 : Aside0 (w3.heap[w1.heap.size + 1]? = some (.loop rb)) := ⟨(hb3.block _ (Array.getElem?_eq_some_iff.1 HL2.out).1).trans HL2.out⟩
      have HD3 : Aside0 (w3.heap[w1.heap.size]? = some (.deferred (some []))) := ⟨(hb3.block _ (Array.getElem?_eq_some_iff.1 HD2.out).1).trans HD2.out⟩
      have d1 : w3.cell? ⟨w.heap.size + 1, 0, none⟩ = some (.int .u64 (set : Nat)) := blk_cell HF3.out.set 0
      have d2 : w3.cell? ⟨w.heap.size + 1 + 1, 0, none⟩ = some (.bool false) := blk_cell HF3.out.ok 0
      have f1 : w3.frozen? ⟨w.heap.size + 1, 0, none⟩ = false := blk_frozen HF3.out.set 0
      have f2 : w3.frozen? ⟨w.heap.size + 1 + 1, 0, none⟩ = false := blk_frozen HF3.out.ok 0
      clear c0 c1 hb3
      cases IP with
      | none =>
        gi_wp2_with fail
        have q1 : ∀ k o, k ≠ w.heap.size + 1 → k ≠ w.heap.size + 1 + 1 → w3.heap[k]? = some o → ((w3.setCell ⟨w.heap.size + 1, 0, none⟩ (.int .u64 0)).setCell ⟨w.heap.size + 1 + 1, 0, none⟩ (.bool false)).heap[k]? = some o := fun k o n1 n2 h => (Below.heap_setCell _ ⟨w.heap.size + 1 + 1, 0, none⟩ _ k n2).trans ((Below.heap_setCell _ ⟨w.heap.size + 1, 0, none⟩ _ k n1).trans h)
        have l1 := q1 _ _ (by have := HS1.out; omega) (by have := HS1.out; omega) HL3.out
        exact ⟨l1, q1 _ _ (by have := HS1.out; omega) (by have := HS1.out; omega) HD3.out, hIP.out.symm, HF3.out.leave.put (by have := HS1.out; omega) l1 rfl rfl⟩
      | some x =>
        have hx : Aside0 (bits .or .u64 (set : Int) (x : Int) = ((set ||| x : Nat) : Int)) := ⟨bits_or_u64_nat set x (by have : (2 : Nat) ^ 64 = 18446744073709551616 := rfl; have := HSE.out; omega) (by have : (2 : Nat) ^ 64 = 18446744073709551616 := rfl; have := item_lt HLH.out.1 HLH.out.2.1 HLH.out.2.2 hIP.out.symm; omega)⟩
        gi_wp2_with fail
        rw [hx.out]
        have q1 : ∀ k o, k ≠ w.heap.size + 1 → w3.heap[k]? = some o → (w3.setCell ⟨w.heap.size + 1, 0, none⟩ (.int .u64 ((set ||| x : Nat) : Int))).heap[k]? = some o := fun k o n1 h => (Below.heap_setCell _ ⟨w.heap.size + 1, 0, none⟩ _ k n1).trans h
        have l1 := q1 _ _ (by have := HS1.out; omega) HL3.out
        exact ⟨l1, q1 _ _ (by have := HS1.out; omega) HD3.out, x, hIP.out.symm, (HF3.out.add x).put (by have := HS1.out; omega) l1 rfl rfl⟩⟩
    obtain ⟨W0, hW0⟩ : ∃ W0, W0 = (w1.alloc (.deferred (some []))).alloc (.loop r) := ⟨_, rfl⟩
    have HR0 : Aside0 (Rec r w1.heap.size W0) := ⟨by
      rw [hW0]
      have h := World.alloc_heap_new (w1.alloc (.deferred (some []))) (.loop r)
      rw [World.size_alloc] at h
      exact ⟨h, (Below.heap_alloc _ _ _ (by simp)).trans (World.alloc_heap_new w1 _)⟩⟩
    have HF0 : Aside0 (Fd w lo hi 0 s W0) := ⟨by rw [hW0]; exact HI1.out.step (below_alloc (below_alloc (Below.refl _ _) _) _)⟩
    rw [← hW0]
    clear hW0 hr
    refine callsIn_of_wp Tryd.func77 rfl trivial ?_ rfl
    simp only [Tryd.ntmps77, List.size_toArray, List.length_cons, List.length_nil, Nat.reduceAdd, Nat.reduceSub, Array.replicate_succ, Array.replicate_zero, List.push_toArray, List.append_toArray, List.nil_append, List.cons_append]
    have b4 : W0.cell? ⟨w.heap.size + 1 + 1 + 1 + 1, 0, none⟩ = some (.string ⟨#[44]⟩) := blk_cell HF0.out.sep 0
    gi_wp2_with fail
    gi_loopw [7] (fun p wr => ∃ (set : Nat) (R : ByteArray), R.size ≤ 1000 ∧ set < 2 ^ 64 ∧ Rec r w1.heap.size wr ∧ Fd w lo hi set R wr ∧ FR = fieldF lo hi (R.size + 1) set R.data.toList)
      (fun p wr => match wr.cell? ⟨w.heap.size + 1 + 1 + 1, 0, none⟩ with | some (.string R) => R.size | _ => 0)
    case atStart => exact ⟨0, s, hs, by decide, HR0.out, HF0.out, by rw [hFR.out, fieldP]; simp⟩
    case round =>
      obtain ⟨set, R, hR, hset, hrec, hfd, hff⟩ := hrel
      have b3 : wr.cell? ⟨w.heap.size + 1 + 1 + 1, 0, none⟩ = some (.string R) := blk_cell hfd.rest 0
      have b4 : wr.cell? ⟨w.heap.size + 1 + 1 + 1 + 1, 0, none⟩ = some (.string ⟨#[44]⟩) := blk_cell hfd.sep 0
      have b5 : wr.cell? ⟨w.heap.size + 1 + 1 + 1 + 1 + 1, 0, none⟩ = some (.int .i64 0) := blk_cell hfd.save 0
      have HRC := Aside0.mk hrec
      have HFD := Aside0.mk hfd
      have HFF := Aside0.mk hff
      have HSE := Aside0.mk hset
      obtain ⟨m, hm⟩ := HM.out.below hfd.below
      have CI : Aside0 (Calls Tryd.prog 79 #[.string R, .string ⟨#[44]⟩] wr fun e w' => e = .returned (.int .i64 (Lib.index R.data.toList [44])) ∧ w' = wr) := ⟨Tryd.strings_Index R ⟨#[44]⟩ m wr (by omega) hm⟩
      clear hrec hfd hff hset hm
      rcases index44 R with hix | ⟨i, hix, hir⟩
      · rw [hix] at CI
        have HIX := Aside0.mk hix
        clear hix
        obtain ⟨fn2, tm2, as2, bd2, hy, hRd⟩ := HY.out wr set R R hR HSE.out HRC.out HFD.out
        gi_wp2_with fail
        refine ⟨trivial, callsIn_wide.2 (CI.out.mono ?_)⟩
        rintro e w' ⟨rfl, hw'⟩
        obtain rfl := hw'.symm
        gi_wp2
        refine hRd.mono ?_
        rintro e W3 (⟨rfl, hrec3, x, hx, hf3⟩ | ⟨rfl, hrec3, hx, hf3⟩)
        · skip
          have HR3 := Aside0.mk hrec3
          have HF3 := Aside0.mk hf3
          have HX := Aside0.mk hx
          clear hrec3 hf3 hx hy
          gi_wp2
          go_end0
          exact ⟨⟨_, rfl⟩, .inl ⟨HR3.out, set ||| x, R, HF3.out.put (by have := HS1.out; omega) HR3.out.1 rfl rfl, by rw [HFF.out, fieldF_miss HIX.out, HX.out]; rfl⟩⟩
        · skip
          have HR3 := Aside0.mk hrec3
          have HF3 := Aside0.mk hf3
          have HX := Aside0.mk hx
          clear hrec3 hf3 hx hy
          gi_wp2
          go_end0
          exact ⟨⟨_, rfl⟩, .inr ⟨HR3.out, HF3.out.put (by have := HS1.out; omega) HR3.out.1 rfl rfl, by rw [HFF.out, fieldF_miss HIX.out, HX.out]; rfl⟩⟩
      · rw [hix] at CI
        have HIX := Aside0.mk hix
        clear hix
        have i0 : (0 : Int) ≤ (i : Int) := by omega
        have ir : (i : Int) + 1 ≤ (R.size : Int) := by omega
        obtain ⟨fn2, tm2, as2, bd2, hy, hRd⟩ := HY.out wr set R (R.extract 0 i) (by rw [ByteArray.size_extract]; omega) HSE.out HRC.out HFD.out
        gi_wp2_with fail
        refine ⟨trivial, callsIn_wide.2 (CI.out.mono ?_)⟩
        rintro e w' ⟨rfl, hw'⟩
        obtain rfl := hw'.symm
        gi_wp2
        refine hRd.mono ?_
        rintro e W3 (⟨rfl, hrec3, x, hx, hf3⟩ | ⟨rfl, hrec3, hx, hf3⟩)
        · have HR3 := Aside0.mk hrec3
          have HF3 := Aside0.mk hf3
          have HX := Aside0.mk hx
          have p3 : W3.cell? ⟨w.heap.size + 1 + 1 + 1, 0, none⟩ = some (.string R) := blk_cell hf3.rest 0
          have p4 : W3.cell? ⟨w.heap.size + 1 + 1 + 1 + 1, 0, none⟩ = some (.string ⟨#[44]⟩) := blk_cell hf3.sep 0
          have p5 : W3.frozen? ⟨w.heap.size + 1 + 1 + 1, 0, none⟩ = false := blk_frozen hf3.rest 0
          clear hrec3 hf3 hx hy
          gi_wp2
          have hn := HF3.out.next (R.extract (i + 1) R.size)
          have hsz : (R.extract (i + 1) R.size).size = R.size - (i + 1) := by rw [ByteArray.size_extract]; omega
          refine ⟨⟨set ||| x, R.extract (i + 1) R.size, by omega, Nat.or_lt_two_pow HSE.out (item_lt HLH.out.1 HLH.out.2.1 HLH.out.2.2 HX.out), ⟨(Below.heap_setCell _ ⟨w.heap.size + 1 + 1 + 1, 0, none⟩ _ _ (by show _ ≠ w.heap.size + 1 + 1 + 1; have := HS1.out; omega)).trans HR3.out.1, (Below.heap_setCell _ ⟨w.heap.size + 1 + 1 + 1, 0, none⟩ _ _ (by show _ ≠ w.heap.size + 1 + 1 + 1; have := HS1.out; omega)).trans HR3.out.2⟩, hn, ?_⟩, ?_⟩
          · rw [HFF.out, fieldF_hit HIX.out, HX.out]
            exact fieldF_fuel _ _ _ _ _ _ (by rw [data_len]; omega) (by rw [data_len]; omega)
          · have q1 : (W3.setCell ⟨w.heap.size + 1 + 1 + 1, 0, none⟩ (.string (R.extract (i + 1) R.size))).cell? ⟨w.heap.size + 1 + 1 + 1, 0, none⟩ = some (.string (R.extract (i + 1) R.size)) := blk_cell hn.rest 0
            have q2 : wr.cell? ⟨w.heap.size + 1 + 1 + 1, 0, none⟩ = some (.string R) := blk_cell HFD.out.rest 0
            rw [q1, q2]
            show (R.extract (i + 1) R.size).size < R.size
            omega
        · have HR3 := Aside0.mk hrec3
          have HF3 := Aside0.mk hf3
          have HX := Aside0.mk hx
          clear hrec3 hf3 hx hy
          gi_wp2
          refine bodyPost_ret (results_none rfl _ _ _) rfl ?_
          exact ⟨⟨_, rfl⟩, .inr ⟨HR3.out, HF3.out.put (by have := HS1.out; omega) HR3.out.1 rfl rfl, by rw [HFF.out, fieldF_hit HIX.out, HX.out]; rfl⟩⟩
  case after =>
    rintro W ⟨set, rest, hfd, hfr⟩ hD
    have d1 : W.cell? ⟨w.heap.size + 1, 0, none⟩ = some (.int .u64 (set : Nat)) := blk_cell hfd.set 0
    have d2 : W.cell? ⟨w.heap.size + 1 + 1, 0, none⟩ = some (.bool false) := blk_cell hfd.ok 0
    have f1 : W.frozen? ⟨w.heap.size + 1, 0, none⟩ = false := blk_frozen hfd.set 0
    have f2 : W.frozen? ⟨w.heap.size + 1 + 1, 0, none⟩ = false := blk_frozen hfd.ok 0
    have HFD := Aside0.mk hfd
    have HFR := Aside0.mk hfr
    have HDD := Aside0.mk hD
    clear hfd hfr hD
    gi_wp2
    obtain ⟨W5, hW5⟩ : ∃ W5, W5 = (W.setCell ⟨w.heap.size + 1, 0, none⟩ (.int .u64 (set : Nat))).setCell ⟨w.heap.size + 1 + 1, 0, none⟩ (.bool true) := ⟨_, rfl⟩
    have q1 : ∀ k o, k ≠ w.heap.size + 1 → k ≠ w.heap.size + 1 + 1 → W.heap[k]? = some o → W5.heap[k]? = some o := fun k o n1 n2 h => by
      rw [hW5]
      exact (Below.heap_setCell _ ⟨w.heap.size + 1 + 1, 0, none⟩ _ k n2).trans ((Below.heap_setCell _ ⟨w.heap.size + 1, 0, none⟩ _ k n1).trans h)
    have k1 : W5.heap[w.heap.size + 1]? = some (.cells #[.int .u64 (set : Nat)] 25 (0, 0)) := by
      rw [hW5]
      exact (Below.heap_setCell _ ⟨w.heap.size + 1 + 1, 0, none⟩ _ _ (by show _ ≠ w.heap.size + 1 + 1; omega)).trans (blk_put HFD.out.set 0 _ rfl)
    have k2 : W5.heap[w.heap.size + 1 + 1]? = some (.cells #[.bool true] 4 (0, 0)) := by
      rw [hW5]
      exact blk_put ((Below.heap_setCell _ ⟨w.heap.size + 1, 0, none⟩ _ _ (by show _ ≠ w.heap.size + 1; omega)).trans HFD.out.ok) 0 _ rfl
    have hD5 : W5.heap[w1.heap.size]? = some (.deferred (some [])) := q1 _ _ (by have := HS1.out; omega) (by have := HS1.out; omega) HDD.out
    have b5 : Below w.heap.size w W5 := by
      rw [hW5]
      exact (HFD.out.below.setCell (p := ⟨w.heap.size + 1, 0, none⟩) (Nat.le_succ _) _).setCell (p := ⟨w.heap.size + 1 + 1, 0, none⟩) (by show w.heap.size ≤ w.heap.size + 1 + 1; omega) _
    rw [← hW5]
    refine ⟨by simp, .inl ⟨_, _, rfl, run_takeDeferred hD5, ?_⟩⟩
    have c0 : (W5.putObj w1.heap.size (.deferred none)).cell? ⟨w.heap.size + 1, 0, none⟩ = some (.int .u64 (set : Nat)) := blk_cell (put_at k1 (by have := HS1.out; omega)) 0
    have c1 : (W5.putObj w1.heap.size (.deferred none)).cell? ⟨w.heap.size + 1 + 1, 0, none⟩ = some (.bool true) := blk_cell (put_at k2 (by have := HS1.out; omega)) 0
    refine ⟨.tuple #[.int .u64 (set : Nat), .bool true], ?_, by rw [HFR.out]; rfl, b5.trans (belowK_b (w := w) (Nat.le_refl _) _ _ _ (.deferred none) (by have := HS1.out; omega) hD5 rfl rfl)⟩
    simp [results, go_sem, Tryd.f42, c0, c1]
  case left =>
    rintro W ⟨hfx, hfr⟩ hD
    have HFX := Aside0.mk hfx
    have HFR := Aside0.mk hfr
    have HDD := Aside0.mk hD
    clear hfx hfr hD
    gi_wp2
    refine ⟨by simp, .inl ⟨_, _, rfl, run_takeDeferred HDD.out, ?_⟩⟩
    have c0 : (W.putObj w1.heap.size (.deferred none)).cell? ⟨w.heap.size + 1, 0, none⟩ = some (.int .u64 0) := blk_cell (put_at HFX.out.set (by have := HS1.out; omega)) 0
    have c1 : (W.putObj w1.heap.size (.deferred none)).cell? ⟨w.heap.size + 1 + 1, 0, none⟩ = some (.bool false) := blk_cell (put_at HFX.out.ok (by have := HS1.out; omega)) 0
    refine ⟨.tuple #[.int .u64 0, .bool false], ?_, by rw [HFR.out]; rfl, HFX.out.below.trans (belowK_b (w := w) (Nat.le_refl _) _ _ _ (.deferred none) (by have := HS1.out; omega) HDD.out rfl rfl)⟩
    simp [results, go_sem, Tryd.f42, c0, c1]
end Go.Proofs.YteloamnakikbbaaDoor.Cron

/- cron: words, scopes, walked; what Parse computes. -/
namespace Go.Proofs.YteloamnakikbbaaDoor.Cron
set_option linter.unusedVariables false
set_option linter.unusedSimpArgs false
open Go.RowKit Go.Proofs.YteloamnakikbbaaDoorW.PrintWords Go.Proofs.YteloamnakikbbaaDoorW.PrintLast Go.Proofs.YteloamnakikbbaaDoor.Base Go.Proofs.YteloamnakikbbaaDoor.Cells Go.Proofs.YteloamnakikbbaaDoor.CronPure Go.Proofs.YteloamnakikbbaaDoor.NamesPure

def blank (x : Nat) : Bool := x == 32
/-- the words of a rule -/
def wordsP (s : ByteArray) : List ByteArray := Lib.goFieldsP blank s
def wordAt (s : ByteArray) (i : Nat) : ByteArray := (wordsP s).getD i ⟨#[]⟩
/-- the five sets -/
def setAt (s : ByteArray) : Nat → Option Nat
  | 0 => fieldP 0 59 (wordAt s 0).data.toList
  | 1 => fieldP 0 23 (wordAt s 1).data.toList
  | 2 => fieldP 1 31 (wordAt s 2).data.toList
  | 3 => fieldP 1 12 (wordAt s 3).data.toList
  | _ => fieldP 0 7 (wordAt s 4).data.toList
def sets5 (s : ByteArray) : Bool := (setAt s 0).isSome && ((setAt s 1).isSome && ((setAt s 2).isSome && ((setAt s 3).isSome && (setAt s 4).isSome)))
def parseE (s : ByteArray) : Int := if 400 < s.size then 5 else if (wordsP s).length ≠ 5 then 3 else if sets5 s then 0 else 12
def weekOf (x : Nat) : Nat := (x &&& 127) ||| (x >>> 7)
def setN (s : ByteArray) (i : Nat) : Nat := (setAt s i).getD 0

set_option maxRecDepth 100000 in
theorem pred_any (x : Nat) (W : World) : Calls Tryd.prog 53 #[.int .i32 x] W fun e w' => e = .returned (.bool (blank x)) ∧ Below W.heap.size W w' := by
  have HX : Aside0 (blank x = ((x : Int) == 32)) := ⟨by rw [blank, Bool.eq_iff_iff]; simp; omega⟩
  rw [HX.out]
  go_enter Tryd.func53, Tryd.ntmps53
  go_wp2
  go_ret
  exact ⟨rfl, Below.refl _ _⟩
set_option maxRecDepth 100000 in
theorem words_any (s : ByteArray) (w : World) (hs : s.size ≤ 1000) :
    Calls Tryd.prog 40 #[.string s] w fun e w' => ∃ A, e = .returned (.slice (some ⟨A, 0, none⟩) (wordsP s).length (wordsP s).length) ∧ w.heap.size ≤ A ∧
      w'.ownsRow w.heap.size 9 1 (.slice (some ⟨A, 0, none⟩) (wordsP s).length (wordsP s).length) (wordsP s).length ((wordsP s).map Value.string) ∧ Below w.heap.size w w' := by
  have C := Tryd.strings_FieldsFunc 53 #[] (enters_of Tryd.func53 (by kernel_rfl) rfl) blank s w (by omega) (fun W x hx hb => by
    have := pred_any x W
    simpa [encR] using this)
  have HC := Aside0.mk C
  clear C
  go_enter Tryd.func40, Tryd.ntmps40
  go_wp2_with (go_at_call 52; refine HC.out.mono ?_; rintro e w1 ⟨A, rfl, hA, ho, hb⟩; have HO := Aside0.mk ho; have HB := Aside0.mk hb; clear ho hb)
  go_ret
  exact ⟨A, rfl, hA, HO.out, HB.out⟩

set_option maxRecDepth 100000 in
theorem scopes_any (w : World) : Calls Tryd.prog 41 #[] w fun e w' => e = .returned (.agg #[.int .i64 0, .int .i64 59, .int .i64 0, .int .i64 23, .int .i64 1, .int .i64 31, .int .i64 1, .int .i64 12, .int .i64 0, .int .i64 7]) ∧ Below w.heap.size w w' := by
  go_enter Tryd.func41, Tryd.ntmps41
  go_wp2
  refine bodyPost_ret (results_cell_row rfl _ _ w.heap.size 99 #[.int .i64 0, .int .i64 59, .int .i64 0, .int .i64 23, .int .i64 1, .int .i64 31, .int .i64 1, .int .i64 12, .int .i64 0, .int .i64 7] (0, 0) _ rfl (blk_new _ _) Tryd.underlying99 rfl (by kernel_rfl)) rfl ?_
  exact ⟨rfl, below_alloc (Below.refl _ _) _⟩
theorem idx5_0 (w : World) : (Instr.index 99 (.agg #[.int .i64 0, .int .i64 59, .int .i64 0, .int .i64 23, .int .i64 1, .int .i64 31, .int .i64 1, .int .i64 12, .int .i64 0, .int .i64 7]) (.int .i64 0)).run Tryd.prog w = .ok (.agg #[.int .i64 0, .int .i64 59]) w := by
  simp [Instr.index, run_underlying Tryd.underlying99, asIntOf, go_sem, Tryd.sizeOf98]
theorem idx5_1 (w : World) : (Instr.index 99 (.agg #[.int .i64 0, .int .i64 59, .int .i64 0, .int .i64 23, .int .i64 1, .int .i64 31, .int .i64 1, .int .i64 12, .int .i64 0, .int .i64 7]) (.int .i64 1)).run Tryd.prog w = .ok (.agg #[.int .i64 0, .int .i64 23]) w := by
  simp [Instr.index, run_underlying Tryd.underlying99, asIntOf, go_sem, Tryd.sizeOf98]
theorem idx5_2 (w : World) : (Instr.index 99 (.agg #[.int .i64 0, .int .i64 59, .int .i64 0, .int .i64 23, .int .i64 1, .int .i64 31, .int .i64 1, .int .i64 12, .int .i64 0, .int .i64 7]) (.int .i64 2)).run Tryd.prog w = .ok (.agg #[.int .i64 1, .int .i64 31]) w := by
  simp [Instr.index, run_underlying Tryd.underlying99, asIntOf, go_sem, Tryd.sizeOf98]
theorem idx5_3 (w : World) : (Instr.index 99 (.agg #[.int .i64 0, .int .i64 59, .int .i64 0, .int .i64 23, .int .i64 1, .int .i64 31, .int .i64 1, .int .i64 12, .int .i64 0, .int .i64 7]) (.int .i64 3)).run Tryd.prog w = .ok (.agg #[.int .i64 1, .int .i64 12]) w := by
  simp [Instr.index, run_underlying Tryd.underlying99, asIntOf, go_sem, Tryd.sizeOf98]
theorem idx5_4 (w : World) : (Instr.index 99 (.agg #[.int .i64 0, .int .i64 59, .int .i64 0, .int .i64 23, .int .i64 1, .int .i64 31, .int .i64 1, .int .i64 12, .int .i64 0, .int .i64 7]) (.int .i64 4)).run Tryd.prog w = .ok (.agg #[.int .i64 0, .int .i64 7]) w := by
  simp [Instr.index, run_underlying Tryd.underlying99, asIntOf, go_sem, Tryd.sizeOf98]
end Go.Proofs.YteloamnakikbbaaDoor.Cron

/- cron.Parse, walked. -/
namespace Go.Proofs.YteloamnakikbbaaDoor.Cron
set_option linter.unusedVariables false
set_option linter.unusedSimpArgs false
open Go.RowKit Go.Proofs.YteloamnakikbbaaDoorW.PrintWords Go.Proofs.YteloamnakikbbaaDoorW.PrintLast Go.Proofs.YteloamnakikbbaaDoor.Base Go.Proofs.YteloamnakikbbaaDoor.Cells Go.Proofs.YteloamnakikbbaaDoor.CronPure Go.Proofs.YteloamnakikbbaaDoor.NamesPure

section
variable {w : World} {g : Nat} {t : TypeId} {a b c d e f h : Value}
theorem all7 (hh : w.heap[g]? = some (.cells #[a, b, c, d, e, f, h] t (0, 0))) : (w.cell? ⟨g, 0, none⟩ = some a ∧ w.cell? ⟨g, 1, none⟩ = some b ∧ w.cell? ⟨g, 2, none⟩ = some c ∧ w.cell? ⟨g, 3, none⟩ = some d ∧ w.cell? ⟨g, 4, none⟩ = some e ∧ w.cell? ⟨g, 5, none⟩ = some f ∧ w.cell? ⟨g, 6, none⟩ = some h) ∧
    w.frozen? ⟨g, 0, none⟩ = false ∧ w.frozen? ⟨g, 1, none⟩ = false ∧ w.frozen? ⟨g, 2, none⟩ = false ∧ w.frozen? ⟨g, 3, none⟩ = false ∧ w.frozen? ⟨g, 4, none⟩ = false ∧ w.frozen? ⟨g, 5, none⟩ = false ∧ w.frozen? ⟨g, 6, none⟩ = false :=
  ⟨⟨blk_cell hh 0, blk_cell hh 1, blk_cell hh 2, blk_cell hh 3, blk_cell hh 4, blk_cell hh 5, blk_cell hh 6⟩, blk_frozen hh 0, blk_frozen hh 1, blk_frozen hh 2, blk_frozen hh 3, blk_frozen hh 4, blk_frozen hh 5, blk_frozen hh 6⟩
theorem blk7 {x0 x1 x2 x3 x4 x5 x6 : Value} (hh : w.heap[g]? = some (.cells #[a, b, c, d, e, f, h] t (0, 0))) : (((((((w.setCell ⟨g, 0, none⟩ x0).setCell ⟨g, 1, none⟩ x1).setCell ⟨g, 2, none⟩ x2).setCell ⟨g, 3, none⟩ x3).setCell ⟨g, 4, none⟩ x4).setCell ⟨g, 5, none⟩ x5).setCell ⟨g, 6, none⟩ x6).heap[g]? = some (.cells #[x0, x1, x2, x3, x4, x5, x6] t (0, 0)) :=
  blk_put (cs := #[x0, x1, x2, x3, x4, x5, h]) (blk_put (cs := #[x0, x1, x2, x3, x4, f, h]) (blk_put (cs := #[x0, x1, x2, x3, e, f, h]) (blk_put (cs := #[x0, x1, x2, d, e, f, h]) (blk_put (cs := #[x0, x1, c, d, e, f, h]) (blk_put (cs := #[x0, b, c, d, e, f, h]) (blk_put (cs := #[a, b, c, d, e, f, h]) hh 0 x0 rfl) 1 x1 rfl) 2 x2 rfl) 3 x3 rfl) 4 x4 rfl) 5 x5 rfl) 6 x6 rfl
theorem below_set7 {B : Nat} {w0 : World} (hb : Below B w0 w) (hg : B ≤ g) (x0 x1 x2 x3 x4 x5 x6 : Value) : Below B w0 (((((((w.setCell ⟨g, 0, none⟩ x0).setCell ⟨g, 1, none⟩ x1).setCell ⟨g, 2, none⟩ x2).setCell ⟨g, 3, none⟩ x3).setCell ⟨g, 4, none⟩ x4).setCell ⟨g, 5, none⟩ x5).setCell ⟨g, 6, none⟩ x6) :=
  ((((((hb.setCell (p := ⟨g, 0, none⟩) hg x0).setCell (p := ⟨g, 1, none⟩) hg x1).setCell (p := ⟨g, 2, none⟩) hg x2).setCell (p := ⟨g, 3, none⟩) hg x3).setCell (p := ⟨g, 4, none⟩) hg x4).setCell (p := ⟨g, 5, none⟩) hg x5).setCell (p := ⟨g, 6, none⟩) hg x6
end
theorem results_ct {P : Program} {fn : Func} {p t2 : Tmp} {ty : TypeId} (h : fn.results = #[.cell p ty, .tmp t2]) (tmps : Array Value) (w : World) (g : Nat) (t : TypeId) (cs : Array Value) (fr : Nat × Nat) (d : TypeDesc)
    (hp : tmps.getD p undef = .pointer (some ⟨g, 0, none⟩)) (hg : w.heap[g]? = some (.cells cs t fr))
    (hu : P.underlying ty = some d) (hd : (match d with | .struct _ | .array _ _ => true | _ => false) = true) (hi : (P.info? ty).map (·.size) = some cs.size) :
    (results fn tmps).run P w = .ok (.tuple #[.agg cs, tmps.getD t2 undef]) w := by
  have hp' : tmps[p]?.getD undef = .pointer (some ⟨g, 0, none⟩) := by simpa using hp
  simp [results, h, hp', asAddr, run_loadVar_row w g t ty cs fr d hg hu hd hi]

/-- what Parse has behind i fields -/
def arrS (s : ByteArray) : Nat → Array Value
  | 0 => #[.int .u64 0, .int .u64 0, .int .u64 0, .int .u64 0, .int .u64 0]
  | 1 => #[.int .u64 (setN s 0 : Nat), .int .u64 0, .int .u64 0, .int .u64 0, .int .u64 0]
  | 2 => #[.int .u64 (setN s 0 : Nat), .int .u64 (setN s 1 : Nat), .int .u64 0, .int .u64 0, .int .u64 0]
  | 3 => #[.int .u64 (setN s 0 : Nat), .int .u64 (setN s 1 : Nat), .int .u64 (setN s 2 : Nat), .int .u64 0, .int .u64 0]
  | 4 => #[.int .u64 (setN s 0 : Nat), .int .u64 (setN s 1 : Nat), .int .u64 (setN s 2 : Nat), .int .u64 (setN s 3 : Nat), .int .u64 0]
  | _ => #[.int .u64 (setN s 0 : Nat), .int .u64 (setN s 1 : Nat), .int .u64 (setN s 2 : Nat), .int .u64 (setN s 3 : Nat), .int .u64 (setN s 4 : Nat)]
structure Pd (w : World) (A G : Nat) (s : ByteArray) (cs : Array Value) (W : World) : Prop where
  rule : W.heap[w.heap.size]? = some (.cells #[.int .u64 0, .int .u64 0, .int .u64 0, .int .u64 0, .int .u64 0, .bool false, .bool false] 63 (0, 0))
  sets : W.heap[G]? = some (.cells cs 96 (0, 0))
  words : W.cell? ⟨A, 0, none⟩ = some (.string (wordAt s 0)) ∧ W.cell? ⟨A, 1, none⟩ = some (.string (wordAt s 1)) ∧ W.cell? ⟨A, 2, none⟩ = some (.string (wordAt s 2)) ∧ W.cell? ⟨A, 3, none⟩ = some (.string (wordAt s 3)) ∧ W.cell? ⟨A, 4, none⟩ = some (.string (wordAt s 4))
  below : Below w.heap.size w W
  one : w.heap.size < A
  two : A < G
theorem Pd.step {w : World} {A G : Nat} {s : ByteArray} {cs : Array Value} {W W' : World} (h : Pd w A G s cs W) (hb : Below W.heap.size W W') : Pd w A G s cs W' := by
  have hA : A < W.heap.size := Nat.lt_trans h.two (blk_lt h.sets)
  obtain ⟨c0, c1, c2, c3, c4⟩ := h.words
  exact ⟨blk_keep h.rule hb, blk_keep h.sets hb, ⟨(hb.cell (p := ⟨A, 0, none⟩) hA).trans c0, (hb.cell (p := ⟨A, 1, none⟩) hA).trans c1, (hb.cell (p := ⟨A, 2, none⟩) hA).trans c2, (hb.cell (p := ⟨A, 3, none⟩) hA).trans c3, (hb.cell (p := ⟨A, 4, none⟩) hA).trans c4⟩, bthen h.below hb, h.one, h.two⟩
theorem Pd.put {w : World} {A G : Nat} {s : ByteArray} {cs cs' : Array Value} {W : World} (h : Pd w A G s cs W) (i : Nat) (u : Value) (hi : i < cs.size) (hc : cs.setIfInBounds i u = cs') : Pd w A G s cs' (W.setCell ⟨G, i, none⟩ u) := by
  have n1 := h.one
  have n2 := h.two
  have q : ∀ j, (W.setCell ⟨G, i, none⟩ u).cell? ⟨A, j, none⟩ = W.cell? ⟨A, j, none⟩ := fun j => World.cell?_of_block (w := W) (w' := W.setCell ⟨G, i, none⟩ u) (a := ⟨A, j, none⟩) (Below.heap_setCell _ ⟨G, i, none⟩ _ A (by show A ≠ G; omega))
  obtain ⟨c0, c1, c2, c3, c4⟩ := h.words
  exact ⟨(Below.heap_setCell _ ⟨G, i, none⟩ _ _ (by show _ ≠ G; omega)).trans h.rule, blk_put h.sets i u hc, ⟨(q 0).trans c0, (q 1).trans c1, (q 2).trans c2, (q 3).trans c3, (q 4).trans c4⟩, h.below.setCell (p := ⟨G, i, none⟩) (by show w.heap.size ≤ G; omega) u, n1, n2⟩

set_option maxRecDepth 100000 in
theorem parse_long (s : ByteArray) (w : World) (hs : 400 < s.size) (hz : s.size ≤ 9223372036854775807) :
    Calls Tryd.prog 25 #[.string s] w fun e w' => e = .returned (.tuple #[.agg #[.int .u64 0, .int .u64 0, .int .u64 0, .int .u64 0, .int .u64 0, .bool false, .bool false], .int .i64 5]) ∧ Below w.heap.size w w' := by
  go_enter Tryd.func25, Tryd.ntmps25
  go_wp2
  refine bodyPost_ret (results_ct rfl _ _ w.heap.size 63 #[.int .u64 0, .int .u64 0, .int .u64 0, .int .u64 0, .int .u64 0, .bool false, .bool false] (0, 0) _ rfl (blk_new _ _) Tryd.underlying63 rfl (by kernel_rfl)) rfl ?_
  exact ⟨rfl, below_alloc (Below.refl _ _) _⟩
set_option maxRecDepth 100000 in
theorem parse_count (s : ByteArray) (w : World) (hs : ¬ 400 < s.size) (hn : (wordsP s).length ≠ 5) :
    Calls Tryd.prog 25 #[.string s] w fun e w' => e = .returned (.tuple #[.agg #[.int .u64 0, .int .u64 0, .int .u64 0, .int .u64 0, .int .u64 0, .bool false, .bool false], .int .i64 3]) ∧ Below w.heap.size w w' := by
  obtain ⟨n, hn'⟩ := named (wordsP s).length
  have hne : ((n : Int) != 5) = true := by rw [hn'.out]; simp; omega
  clear hn
  go_enter Tryd.func25, Tryd.ntmps25
  go_wp2_with (go_at_call 40; refine (words_any s _ (by omega)).mono ?_; rw [← hn'.out]; rintro e w1 ⟨A, rfl, hA, ho, hb⟩; (have HB := Aside0.mk (bthen (below_alloc (Below.refl _ w) _) hb)); (have HK := Aside0.mk (blk_keep (blk_new _ _) hb)); obtain ⟨⟨k0, k1, k2, k3, k4, k5, k6⟩, f0, f1, f2, f3, f4, f5, f6⟩ := all7 HK.out; clear ho hb)
  refine bodyPost_ret (results_ct rfl _ _ w.heap.size 63 #[.int .u64 0, .int .u64 0, .int .u64 0, .int .u64 0, .int .u64 0, .bool false, .bool false] (0, 0) _ rfl (blk7 HK.out) Tryd.underlying63 rfl (by kernel_rfl)) rfl ?_
  exact ⟨rfl, below_set7 HB.out (Nat.le_refl _) _ _ _ _ _ _ _⟩
theorem word_size (s : ByteArray) (i : Nat) (hs : ¬ 400 < s.size) : (wordAt s i).size ≤ 1000 := by
  rw [wordAt, List.getD_eq_getElem?_getD]
  cases h : (wordsP s)[i]? with
  | none => decide
  | some x =>
    have hm := List.mem_of_getElem? h
    rw [wordsP, Lib.goFieldsP] at hm
    obtain ⟨p, _, rfl⟩ := List.mem_map.1 hm
    show (s.extract p.1 p.2).size ≤ 1000
    rw [ByteArray.size_extract]
    omega

theorem week_bits {x : Nat} (h : x < 2 ^ 64) : bits .or .u64 (bits .and .u64 (x : Int) 127) ((x : Int) / 128) = ((weekOf x : Nat) : Int) := by
  have h' : x < 18446744073709551616 := h
  have e1 : bits .and .u64 (x : Int) 127 = ((x &&& 127 : Nat) : Int) := bits_and_u64_nat x 127 h' (by decide)
  have e2 : ((x : Int) / (128 : Int)) = ((x >>> 7 : Nat) : Int) := by rw [Nat.shiftRight_eq_div_pow]; omega
  rw [e1, e2]
  exact bits_or_u64_nat _ _ (Nat.lt_of_le_of_lt Nat.and_le_left h') (by rw [Nat.shiftRight_eq_div_pow]; omega)
theorem fieldF_lt {lo hi : Int} (h0 : 0 ≤ lo) (h1 : lo ≤ hi) (h2 : hi ≤ 63) : ∀ (f set : Nat) (l : List UInt8) (x : Nat), set < 2 ^ 64 → fieldF lo hi f set l = some x → x < 2 ^ 64
  | 0, _, _, _, _, h => by cases h
  | f + 1, set, l, x, hs, h => by
    rw [fieldF] at h
    split at h
    · cases h
    · rename_i y hy
      have := Nat.or_lt_two_pow hs (item_lt h0 h1 h2 hy)
      split at h
      · exact fieldF_lt h0 h1 h2 f _ _ x this h
      · injection h with h
        rw [← h]; exact this
theorem set_lt (s : ByteArray) (i : Nat) : setN s i < 2 ^ 64 := by
  rw [setN]
  cases h : setAt s i with
  | none => decide
  | some x =>
    show x < 2 ^ 64
    rcases i with _ | _ | _ | _ | i
    all_goals exact fieldF_lt (by decide) (by decide) (by decide) _ 0 _ x (by decide) h
theorem word_at {s : ByteArray} (h : (wordsP s).length = 5) (i : Nat) (hi : i < 5) : ((wordsP s).map Value.string)[i]? = some (.string (wordAt s i)) := by
  rw [List.getElem?_map, wordAt, List.getD_eq_getElem?_getD, List.getElem?_eq_getElem (by omega)]
  rfl
set_option maxRecDepth 100000 in
set_option maxHeartbeats 4000000 in
theorem parse_main (s : ByteArray) (w : World) (hs : ¬ 400 < s.size) (hn : (wordsP s).length = 5) (hm : MaxL w) :
    Calls Tryd.prog 25 #[.string s] w fun e w' => e = .returned (.tuple #[if sets5 s then .agg #[.int .u64 (setN s 0 : Nat), .int .u64 (setN s 1 : Nat), .int .u64 (setN s 2 : Nat), .int .u64 (setN s 3 : Nat), .int .u64 (weekOf (setN s 4) : Nat), .bool ((wordAt s 2).toList == [42]), .bool ((wordAt s 4).toList == [42])] else .agg #[.int .u64 0, .int .u64 0, .int .u64 0, .int .u64 0, .int .u64 0, .bool false, .bool false], .int .i64 (if sets5 s then 0 else 12)]) ∧ Below w.heap.size w w' := by
  obtain ⟨RV, hRV⟩ := named (if sets5 s then Value.agg #[.int .u64 (setN s 0 : Nat), .int .u64 (setN s 1 : Nat), .int .u64 (setN s 2 : Nat), .int .u64 (setN s 3 : Nat), .int .u64 (weekOf (setN s 4) : Nat), .bool ((wordAt s 2).toList == [42]), .bool ((wordAt s 4).toList == [42])] else .agg #[.int .u64 0, .int .u64 0, .int .u64 0, .int .u64 0, .int .u64 0, .bool false, .bool false])
  obtain ⟨RE, hRE⟩ := named (if sets5 s then (0 : Int) else 12)
  rw [← hRV.out, ← hRE.out]
  have HM := Aside0.mk hm
  have HN := Aside0.mk hn
  have HWS := Aside0.mk (fun i => word_size s i hs)
  clear hm
  go_enter Tryd.func25, Tryd.ntmps25
  go_upto_region 7 with (go_at_call 40; refine (words_any s _ (by omega)).mono ?_; rw [HN.out]; rintro e w1 ⟨A, rfl, hA, ho, hb⟩; (have HO := Aside0.mk ho); (have HB := Aside0.mk (bthen (below_alloc (Below.refl _ w) _) hb)); (have HK := Aside0.mk (blk_keep (blk_new _ _) hb)); clear ho hb)
  obtain ⟨W, hW⟩ : ∃ W, W = w1.alloc (.cells #[.int .u64 0, .int .u64 0, .int .u64 0, .int .u64 0, .int .u64 0] 96) := ⟨_, rfl⟩
  obtain ⟨G, hG⟩ : ∃ G, G = w1.heap.size := ⟨_, rfl⟩
  have HP : Aside0 (Pd w A G s (arrS s 0) W) := ⟨by
    have q : ∀ i, i < 5 → w1.cell? ⟨A, i, none⟩ = some (.string (wordAt s i)) := fun i hi => by
      rw [HO.out.cellAt i (by omega)]
      exact word_at HN.out i hi
    have hA' : A < w1.heap.size := World.block_lt_of_cell? w1 _ (q 0 (by omega))
    have e : ∀ i, W.cell? ⟨A, i, none⟩ = w1.cell? ⟨A, i, none⟩ := fun i => by rw [hW]; exact World.cell?_of_block (w := w1) (w' := w1.alloc _) (a := ⟨A, i, none⟩) (Below.heap_alloc _ _ _ hA')
    refine ⟨by rw [hW]; exact blk_alloc HK.out _, by rw [hW, hG]; exact blk_new _ _, ⟨(e 0).trans (q 0 (by omega)), (e 1).trans (q 1 (by omega)), (e 2).trans (q 2 (by omega)), (e 3).trans (q 3 (by omega)), (e 4).trans (q 4 (by omega))⟩, by rw [hW]; exact below_alloc HB.out _, by simp at hA; omega, by rw [hG]; exact hA'⟩⟩
  rw [← hW, ← hG]
  clear hW hG hA HO HB HK
  go_wp2_with (go_at_call 41; refine (scopes_any _).mono ?_; rintro e w2 ⟨rfl, hb2⟩; (have HP2 := Aside0.mk (HP.out.step hb2)); clear hb2)
  go_loopg [6, 21] 5 (fun g v6 v21 wr => ∃ i : Nat, v21 = .int .i64 i ∧ g + i = 5 ∧ Aside0 (Pd w A G s (arrS s i) wr) ∧ Aside0 (∀ j, j < i → (setAt s j).isSome = true))
  case atStart => exact ⟨0, rfl, by omega, HP2, ⟨fun j hj => by omega⟩⟩
  case round =>
    obtain ⟨i, rfl, hg, HPR, HSM⟩ := hrel
    have n1 := HPR.out.one
    have n2 := HPR.out.two
    have n3 := blk_lt HPR.out.sets
    have n4 : A < wr.heap.size := by omega
    rcases (show i = 0 ∨ i = 1 ∨ i = 2 ∨ i = 3 ∨ i = 4 ∨ i = 5 by omega) with rfl | rfl | rfl | rfl | rfl | rfl
    · have ix := idx5_0 wr
      go_upto_region 10 with (fail)
      clear ix
      obtain ⟨W3, hW3⟩ : ∃ W3, W3 = wr.alloc (.cells #[.int .i64 0, .int .i64 59] 98) := ⟨_, rfl⟩
      obtain ⟨g3, hg3⟩ : ∃ g3, g3 = wr.heap.size := ⟨_, rfl⟩
      have HS3 : Aside0 (W3.heap[g3]? = some (.cells #[.int .i64 0, .int .i64 59] 98 (0, 0))) := ⟨by rw [hW3, hg3]; exact blk_new _ _⟩
      have HP3 : Aside0 (Pd w A G s (arrS s 0) W3) := ⟨by rw [hW3]; exact HPR.out.step (below_alloc (Below.refl _ _) _)⟩
      rw [← hW3, ← hg3]
      clear hW3 hg3 n4
      obtain ⟨S, hS⟩ := named (setAt s 0)
      have FK : Aside0 (∀ w', Below W3.heap.size W3 w' → w'.cell? ⟨g3, 0, none⟩ = some (.int .i64 0) ∧ w'.cell? ⟨g3, 1, none⟩ = some (.int .i64 59) ∧ w'.cell? ⟨A, 0, none⟩ = some (.string (wordAt s 0))) := ⟨fun w' h => by
        obtain ⟨c0, c1, _, _⟩ := all2 (blk_keep HS3.out h)
        exact ⟨c0, c1, (HP3.out.step h).words.1⟩⟩
      have CF : Aside0 (∀ W', Below W3.heap.size W3 W' → Calls Tryd.prog 42 #[.agg #[.int .i64 0, .int .i64 59], .string (wordAt s 0)] W' fun e w' => e = .returned (.tuple #[.int .u64 (S.getD 0 : Nat), .bool S.isSome]) ∧ Below W'.heap.size W' w') := ⟨fun W' h => by
        rw [hS.out]
        exact field_any 0 59 (wordAt s 0) W' (HWS.out 0) (HM.out.below (HP3.out.step h).below) (by decide) (by decide) (by decide)⟩
      obtain ⟨c0, c1, c2⟩ := FK.out _ (below_drew (Below.refl _ W3))
      go_region_held3 (fun w' => w'.cell? ⟨g3, 0, none⟩ = some (.int .i64 0) ∧ w'.cell? ⟨g3, 1, none⟩ = some (.int .i64 59) ∧ w'.cell? ⟨A, 0, none⟩ = some (.string (wordAt s 0))) (first | with_reducible exact ⟨c0, c1, c2⟩ | (refine FK.out _ ?_; (repeat (first | with_reducible exact Below.refl _ _ | with_reducible exact BX1.out | with_reducible apply below_drew | with_reducible apply below_alloc)); done) | go_keep) (first | (go_at_call 42; refine (CF.out _ (by (repeat (first | with_reducible exact Below.refl _ _ | with_reducible exact BX1.out | with_reducible apply below_drew | with_reducible apply below_alloc)))).mono ?_; rintro e w4 ⟨rfl, hb4⟩; (have BX1 : Aside0 (Below W3.heap.size W3 w4) := ⟨bthen (by (repeat (first | with_reducible exact Below.refl _ _ | with_reducible exact BX1.out | with_reducible apply below_drew | with_reducible apply below_alloc))) hb4⟩); clear hb4))
      have HP4 := Aside0.mk (HP3.out.step BX1.out)
      obtain ⟨⟨k0, k1, k2, k3, k4, k5, k6⟩, f0, f1, f2, f3, f4, f5, f6⟩ := all7 HP4.out.rule
      have m0 : w4.cell? ⟨G, 0, none⟩ = some (.int .u64 0) := blk_cell HP4.out.sets 0
      have p0 : w4.frozen? ⟨G, 0, none⟩ = false := blk_frozen HP4.out.sets 0
      clear c0 c1 c2
      cases S with
      | none =>
        have HN5 : Aside0 (RV = .agg #[.int .u64 0, .int .u64 0, .int .u64 0, .int .u64 0, .int .u64 0, .bool false, .bool false] ∧ RE = 12) := ⟨by
          have h5 : sets5 s = false := by rw [sets5, ← hS.out]; simp
          exact ⟨by rw [hRV.out, h5]; rfl, by rw [hRE.out, h5]; rfl⟩⟩
        obtain ⟨rfl, rfl⟩ := HN5.out
        go_wp2
        refine bodyPost_ret (results_ct rfl _ _ w.heap.size 63 #[.int .u64 0, .int .u64 0, .int .u64 0, .int .u64 0, .int .u64 0, .bool false, .bool false] (0, 0) _ rfl (blk7 HP4.out.rule) Tryd.underlying63 rfl (by kernel_rfl)) rfl ?_
        exact ⟨rfl, below_set7 HP4.out.below (Nat.le_refl _) _ _ _ _ _ _ _⟩
      | some x =>
        go_wp2
        go_roundg 4
        case measure => omega
        case rel =>
          refine ⟨1, rfl, by omega, ⟨HP4.out.put 0 _ (by show 0 < 5; decide) ?_⟩, ⟨fun j hj => ?_⟩⟩
          · have : setN s 0 = x := by rw [setN, ← hS.out]; rfl
            show (#[.int .u64 0, .int .u64 0, .int .u64 0, .int .u64 0, .int .u64 0] : Array Value).setIfInBounds 0 _ = #[.int .u64 (setN s 0 : Nat), .int .u64 0, .int .u64 0, .int .u64 0, .int .u64 0]
            rw [this]
            rfl
          · by_cases h : j < 0
            · exact HSM.out j h
            · obtain rfl : j = 0 := by omega
              rw [← hS.out]; rfl
    · have ix := idx5_1 wr
      go_upto_region 10 with (fail)
      clear ix
      obtain ⟨W3, hW3⟩ : ∃ W3, W3 = wr.alloc (.cells #[.int .i64 0, .int .i64 23] 98) := ⟨_, rfl⟩
      obtain ⟨g3, hg3⟩ : ∃ g3, g3 = wr.heap.size := ⟨_, rfl⟩
      have HS3 : Aside0 (W3.heap[g3]? = some (.cells #[.int .i64 0, .int .i64 23] 98 (0, 0))) := ⟨by rw [hW3, hg3]; exact blk_new _ _⟩
      have HP3 : Aside0 (Pd w A G s (arrS s 1) W3) := ⟨by rw [hW3]; exact HPR.out.step (below_alloc (Below.refl _ _) _)⟩
      rw [← hW3, ← hg3]
      clear hW3 hg3 n4
      obtain ⟨S, hS⟩ := named (setAt s 1)
      have FK : Aside0 (∀ w', Below W3.heap.size W3 w' → w'.cell? ⟨g3, 0, none⟩ = some (.int .i64 0) ∧ w'.cell? ⟨g3, 1, none⟩ = some (.int .i64 23) ∧ w'.cell? ⟨A, 1, none⟩ = some (.string (wordAt s 1))) := ⟨fun w' h => by
        obtain ⟨c0, c1, _, _⟩ := all2 (blk_keep HS3.out h)
        exact ⟨c0, c1, (HP3.out.step h).words.2.1⟩⟩
      have CF : Aside0 (∀ W', Below W3.heap.size W3 W' → Calls Tryd.prog 42 #[.agg #[.int .i64 0, .int .i64 23], .string (wordAt s 1)] W' fun e w' => e = .returned (.tuple #[.int .u64 (S.getD 0 : Nat), .bool S.isSome]) ∧ Below W'.heap.size W' w') := ⟨fun W' h => by
        rw [hS.out]
        exact field_any 0 23 (wordAt s 1) W' (HWS.out 1) (HM.out.below (HP3.out.step h).below) (by decide) (by decide) (by decide)⟩
      obtain ⟨c0, c1, c2⟩ := FK.out _ (below_drew (Below.refl _ W3))
      go_region_held3 (fun w' => w'.cell? ⟨g3, 0, none⟩ = some (.int .i64 0) ∧ w'.cell? ⟨g3, 1, none⟩ = some (.int .i64 23) ∧ w'.cell? ⟨A, 1, none⟩ = some (.string (wordAt s 1))) (first | with_reducible exact ⟨c0, c1, c2⟩ | (refine FK.out _ ?_; (repeat (first | with_reducible exact Below.refl _ _ | with_reducible exact BX1.out | with_reducible apply below_drew | with_reducible apply below_alloc)); done) | go_keep) (first | (go_at_call 42; refine (CF.out _ (by (repeat (first | with_reducible exact Below.refl _ _ | with_reducible exact BX1.out | with_reducible apply below_drew | with_reducible apply below_alloc)))).mono ?_; rintro e w4 ⟨rfl, hb4⟩; (have BX1 : Aside0 (Below W3.heap.size W3 w4) := ⟨bthen (by (repeat (first | with_reducible exact Below.refl _ _ | with_reducible exact BX1.out | with_reducible apply below_drew | with_reducible apply below_alloc))) hb4⟩); clear hb4))
      have HP4 := Aside0.mk (HP3.out.step BX1.out)
      obtain ⟨⟨k0, k1, k2, k3, k4, k5, k6⟩, f0, f1, f2, f3, f4, f5, f6⟩ := all7 HP4.out.rule
      have m0 : w4.cell? ⟨G, 1, none⟩ = some (.int .u64 0) := blk_cell HP4.out.sets 1
      have p0 : w4.frozen? ⟨G, 1, none⟩ = false := blk_frozen HP4.out.sets 1
      clear c0 c1 c2
      cases S with
      | none =>
        have HN5 : Aside0 (RV = .agg #[.int .u64 0, .int .u64 0, .int .u64 0, .int .u64 0, .int .u64 0, .bool false, .bool false] ∧ RE = 12) := ⟨by
          have h5 : sets5 s = false := by rw [sets5, ← hS.out]; simp
          exact ⟨by rw [hRV.out, h5]; rfl, by rw [hRE.out, h5]; rfl⟩⟩
        obtain ⟨rfl, rfl⟩ := HN5.out
        go_wp2
        refine bodyPost_ret (results_ct rfl _ _ w.heap.size 63 #[.int .u64 0, .int .u64 0, .int .u64 0, .int .u64 0, .int .u64 0, .bool false, .bool false] (0, 0) _ rfl (blk7 HP4.out.rule) Tryd.underlying63 rfl (by kernel_rfl)) rfl ?_
        exact ⟨rfl, below_set7 HP4.out.below (Nat.le_refl _) _ _ _ _ _ _ _⟩
      | some x =>
        go_wp2
        go_roundg 3
        case measure => omega
        case rel =>
          refine ⟨2, rfl, by omega, ⟨HP4.out.put 1 _ (by show 1 < 5; decide) ?_⟩, ⟨fun j hj => ?_⟩⟩
          · have : setN s 1 = x := by rw [setN, ← hS.out]; rfl
            show (#[.int .u64 (setN s 0 : Nat), .int .u64 0, .int .u64 0, .int .u64 0, .int .u64 0] : Array Value).setIfInBounds 1 _ = #[.int .u64 (setN s 0 : Nat), .int .u64 (setN s 1 : Nat), .int .u64 0, .int .u64 0, .int .u64 0]
            rw [this]
            rfl
          · by_cases h : j < 1
            · exact HSM.out j h
            · obtain rfl : j = 1 := by omega
              rw [← hS.out]; rfl
    · have ix := idx5_2 wr
      go_upto_region 10 with (fail)
      clear ix
      obtain ⟨W3, hW3⟩ : ∃ W3, W3 = wr.alloc (.cells #[.int .i64 1, .int .i64 31] 98) := ⟨_, rfl⟩
      obtain ⟨g3, hg3⟩ : ∃ g3, g3 = wr.heap.size := ⟨_, rfl⟩
      have HS3 : Aside0 (W3.heap[g3]? = some (.cells #[.int .i64 1, .int .i64 31] 98 (0, 0))) := ⟨by rw [hW3, hg3]; exact blk_new _ _⟩
      have HP3 : Aside0 (Pd w A G s (arrS s 2) W3) := ⟨by rw [hW3]; exact HPR.out.step (below_alloc (Below.refl _ _) _)⟩
      rw [← hW3, ← hg3]
      clear hW3 hg3 n4
      obtain ⟨S, hS⟩ := named (setAt s 2)
      have FK : Aside0 (∀ w', Below W3.heap.size W3 w' → w'.cell? ⟨g3, 0, none⟩ = some (.int .i64 1) ∧ w'.cell? ⟨g3, 1, none⟩ = some (.int .i64 31) ∧ w'.cell? ⟨A, 2, none⟩ = some (.string (wordAt s 2))) := ⟨fun w' h => by
        obtain ⟨c0, c1, _, _⟩ := all2 (blk_keep HS3.out h)
        exact ⟨c0, c1, (HP3.out.step h).words.2.2.1⟩⟩
      have CF : Aside0 (∀ W', Below W3.heap.size W3 W' → Calls Tryd.prog 42 #[.agg #[.int .i64 1, .int .i64 31], .string (wordAt s 2)] W' fun e w' => e = .returned (.tuple #[.int .u64 (S.getD 0 : Nat), .bool S.isSome]) ∧ Below W'.heap.size W' w') := ⟨fun W' h => by
        rw [hS.out]
        exact field_any 1 31 (wordAt s 2) W' (HWS.out 2) (HM.out.below (HP3.out.step h).below) (by decide) (by decide) (by decide)⟩
      obtain ⟨c0, c1, c2⟩ := FK.out _ (below_drew (Below.refl _ W3))
      go_region_held3 (fun w' => w'.cell? ⟨g3, 0, none⟩ = some (.int .i64 1) ∧ w'.cell? ⟨g3, 1, none⟩ = some (.int .i64 31) ∧ w'.cell? ⟨A, 2, none⟩ = some (.string (wordAt s 2))) (first | with_reducible exact ⟨c0, c1, c2⟩ | (refine FK.out _ ?_; (repeat (first | with_reducible exact Below.refl _ _ | with_reducible exact BX1.out | with_reducible apply below_drew | with_reducible apply below_alloc)); done) | go_keep) (first | (go_at_call 42; refine (CF.out _ (by (repeat (first | with_reducible exact Below.refl _ _ | with_reducible exact BX1.out | with_reducible apply below_drew | with_reducible apply below_alloc)))).mono ?_; rintro e w4 ⟨rfl, hb4⟩; (have BX1 : Aside0 (Below W3.heap.size W3 w4) := ⟨bthen (by (repeat (first | with_reducible exact Below.refl _ _ | with_reducible exact BX1.out | with_reducible apply below_drew | with_reducible apply below_alloc))) hb4⟩); clear hb4))
      have HP4 := Aside0.mk (HP3.out.step BX1.out)
      obtain ⟨⟨k0, k1, k2, k3, k4, k5, k6⟩, f0, f1, f2, f3, f4, f5, f6⟩ := all7 HP4.out.rule
      have m0 : w4.cell? ⟨G, 2, none⟩ = some (.int .u64 0) := blk_cell HP4.out.sets 2
      have p0 : w4.frozen? ⟨G, 2, none⟩ = false := blk_frozen HP4.out.sets 2
      clear c0 c1 c2
      cases S with
      | none =>
        have HN5 : Aside0 (RV = .agg #[.int .u64 0, .int .u64 0, .int .u64 0, .int .u64 0, .int .u64 0, .bool false, .bool false] ∧ RE = 12) := ⟨by
          have h5 : sets5 s = false := by rw [sets5, ← hS.out]; simp
          exact ⟨by rw [hRV.out, h5]; rfl, by rw [hRE.out, h5]; rfl⟩⟩
        obtain ⟨rfl, rfl⟩ := HN5.out
        go_wp2
        refine bodyPost_ret (results_ct rfl _ _ w.heap.size 63 #[.int .u64 0, .int .u64 0, .int .u64 0, .int .u64 0, .int .u64 0, .bool false, .bool false] (0, 0) _ rfl (blk7 HP4.out.rule) Tryd.underlying63 rfl (by kernel_rfl)) rfl ?_
        exact ⟨rfl, below_set7 HP4.out.below (Nat.le_refl _) _ _ _ _ _ _ _⟩
      | some x =>
        go_wp2
        go_roundg 2
        case measure => omega
        case rel =>
          refine ⟨3, rfl, by omega, ⟨HP4.out.put 2 _ (by show 2 < 5; decide) ?_⟩, ⟨fun j hj => ?_⟩⟩
          · have : setN s 2 = x := by rw [setN, ← hS.out]; rfl
            show (#[.int .u64 (setN s 0 : Nat), .int .u64 (setN s 1 : Nat), .int .u64 0, .int .u64 0, .int .u64 0] : Array Value).setIfInBounds 2 _ = #[.int .u64 (setN s 0 : Nat), .int .u64 (setN s 1 : Nat), .int .u64 (setN s 2 : Nat), .int .u64 0, .int .u64 0]
            rw [this]
            rfl
          · by_cases h : j < 2
            · exact HSM.out j h
            · obtain rfl : j = 2 := by omega
              rw [← hS.out]; rfl
    · have ix := idx5_3 wr
      go_upto_region 10 with (fail)
      clear ix
      obtain ⟨W3, hW3⟩ : ∃ W3, W3 = wr.alloc (.cells #[.int .i64 1, .int .i64 12] 98) := ⟨_, rfl⟩
      obtain ⟨g3, hg3⟩ : ∃ g3, g3 = wr.heap.size := ⟨_, rfl⟩
      have HS3 : Aside0 (W3.heap[g3]? = some (.cells #[.int .i64 1, .int .i64 12] 98 (0, 0))) := ⟨by rw [hW3, hg3]; exact blk_new _ _⟩
      have HP3 : Aside0 (Pd w A G s (arrS s 3) W3) := ⟨by rw [hW3]; exact HPR.out.step (below_alloc (Below.refl _ _) _)⟩
      rw [← hW3, ← hg3]
      clear hW3 hg3 n4
      obtain ⟨S, hS⟩ := named (setAt s 3)
      have FK : Aside0 (∀ w', Below W3.heap.size W3 w' → w'.cell? ⟨g3, 0, none⟩ = some (.int .i64 1) ∧ w'.cell? ⟨g3, 1, none⟩ = some (.int .i64 12) ∧ w'.cell? ⟨A, 3, none⟩ = some (.string (wordAt s 3))) := ⟨fun w' h => by
        obtain ⟨c0, c1, _, _⟩ := all2 (blk_keep HS3.out h)
        exact ⟨c0, c1, (HP3.out.step h).words.2.2.2.1⟩⟩
      have CF : Aside0 (∀ W', Below W3.heap.size W3 W' → Calls Tryd.prog 42 #[.agg #[.int .i64 1, .int .i64 12], .string (wordAt s 3)] W' fun e w' => e = .returned (.tuple #[.int .u64 (S.getD 0 : Nat), .bool S.isSome]) ∧ Below W'.heap.size W' w') := ⟨fun W' h => by
        rw [hS.out]
        exact field_any 1 12 (wordAt s 3) W' (HWS.out 3) (HM.out.below (HP3.out.step h).below) (by decide) (by decide) (by decide)⟩
      obtain ⟨c0, c1, c2⟩ := FK.out _ (below_drew (Below.refl _ W3))
      go_region_held3 (fun w' => w'.cell? ⟨g3, 0, none⟩ = some (.int .i64 1) ∧ w'.cell? ⟨g3, 1, none⟩ = some (.int .i64 12) ∧ w'.cell? ⟨A, 3, none⟩ = some (.string (wordAt s 3))) (first | with_reducible exact ⟨c0, c1, c2⟩ | (refine FK.out _ ?_; (repeat (first | with_reducible exact Below.refl _ _ | with_reducible exact BX1.out | with_reducible apply below_drew | with_reducible apply below_alloc)); done) | go_keep) (first | (go_at_call 42; refine (CF.out _ (by (repeat (first | with_reducible exact Below.refl _ _ | with_reducible exact BX1.out | with_reducible apply below_drew | with_reducible apply below_alloc)))).mono ?_; rintro e w4 ⟨rfl, hb4⟩; (have BX1 : Aside0 (Below W3.heap.size W3 w4) := ⟨bthen (by (repeat (first | with_reducible exact Below.refl _ _ | with_reducible exact BX1.out | with_reducible apply below_drew | with_reducible apply below_alloc))) hb4⟩); clear hb4))
      have HP4 := Aside0.mk (HP3.out.step BX1.out)
      obtain ⟨⟨k0, k1, k2, k3, k4, k5, k6⟩, f0, f1, f2, f3, f4, f5, f6⟩ := all7 HP4.out.rule
      have m0 : w4.cell? ⟨G, 3, none⟩ = some (.int .u64 0) := blk_cell HP4.out.sets 3
      have p0 : w4.frozen? ⟨G, 3, none⟩ = false := blk_frozen HP4.out.sets 3
      clear c0 c1 c2
      cases S with
      | none =>
        have HN5 : Aside0 (RV = .agg #[.int .u64 0, .int .u64 0, .int .u64 0, .int .u64 0, .int .u64 0, .bool false, .bool false] ∧ RE = 12) := ⟨by
          have h5 : sets5 s = false := by rw [sets5, ← hS.out]; simp
          exact ⟨by rw [hRV.out, h5]; rfl, by rw [hRE.out, h5]; rfl⟩⟩
        obtain ⟨rfl, rfl⟩ := HN5.out
        go_wp2
        refine bodyPost_ret (results_ct rfl _ _ w.heap.size 63 #[.int .u64 0, .int .u64 0, .int .u64 0, .int .u64 0, .int .u64 0, .bool false, .bool false] (0, 0) _ rfl (blk7 HP4.out.rule) Tryd.underlying63 rfl (by kernel_rfl)) rfl ?_
        exact ⟨rfl, below_set7 HP4.out.below (Nat.le_refl _) _ _ _ _ _ _ _⟩
      | some x =>
        go_wp2
        go_roundg 1
        case measure => omega
        case rel =>
          refine ⟨4, rfl, by omega, ⟨HP4.out.put 3 _ (by show 3 < 5; decide) ?_⟩, ⟨fun j hj => ?_⟩⟩
          · have : setN s 3 = x := by rw [setN, ← hS.out]; rfl
            show (#[.int .u64 (setN s 0 : Nat), .int .u64 (setN s 1 : Nat), .int .u64 (setN s 2 : Nat), .int .u64 0, .int .u64 0] : Array Value).setIfInBounds 3 _ = #[.int .u64 (setN s 0 : Nat), .int .u64 (setN s 1 : Nat), .int .u64 (setN s 2 : Nat), .int .u64 (setN s 3 : Nat), .int .u64 0]
            rw [this]
            rfl
          · by_cases h : j < 3
            · exact HSM.out j h
            · obtain rfl : j = 3 := by omega
              rw [← hS.out]; rfl
    · have ix := idx5_4 wr
      go_upto_region 10 with (fail)
      clear ix
      obtain ⟨W3, hW3⟩ : ∃ W3, W3 = wr.alloc (.cells #[.int .i64 0, .int .i64 7] 98) := ⟨_, rfl⟩
      obtain ⟨g3, hg3⟩ : ∃ g3, g3 = wr.heap.size := ⟨_, rfl⟩
      have HS3 : Aside0 (W3.heap[g3]? = some (.cells #[.int .i64 0, .int .i64 7] 98 (0, 0))) := ⟨by rw [hW3, hg3]; exact blk_new _ _⟩
      have HP3 : Aside0 (Pd w A G s (arrS s 4) W3) := ⟨by rw [hW3]; exact HPR.out.step (below_alloc (Below.refl _ _) _)⟩
      rw [← hW3, ← hg3]
      clear hW3 hg3 n4
      obtain ⟨S, hS⟩ := named (setAt s 4)
      have FK : Aside0 (∀ w', Below W3.heap.size W3 w' → w'.cell? ⟨g3, 0, none⟩ = some (.int .i64 0) ∧ w'.cell? ⟨g3, 1, none⟩ = some (.int .i64 7) ∧ w'.cell? ⟨A, 4, none⟩ = some (.string (wordAt s 4))) := ⟨fun w' h => by
        obtain ⟨c0, c1, _, _⟩ := all2 (blk_keep HS3.out h)
        exact ⟨c0, c1, (HP3.out.step h).words.2.2.2.2⟩⟩
      have CF : Aside0 (∀ W', Below W3.heap.size W3 W' → Calls Tryd.prog 42 #[.agg #[.int .i64 0, .int .i64 7], .string (wordAt s 4)] W' fun e w' => e = .returned (.tuple #[.int .u64 (S.getD 0 : Nat), .bool S.isSome]) ∧ Below W'.heap.size W' w') := ⟨fun W' h => by
        rw [hS.out]
        exact field_any 0 7 (wordAt s 4) W' (HWS.out 4) (HM.out.below (HP3.out.step h).below) (by decide) (by decide) (by decide)⟩
      obtain ⟨c0, c1, c2⟩ := FK.out _ (below_drew (Below.refl _ W3))
      go_region_held3 (fun w' => w'.cell? ⟨g3, 0, none⟩ = some (.int .i64 0) ∧ w'.cell? ⟨g3, 1, none⟩ = some (.int .i64 7) ∧ w'.cell? ⟨A, 4, none⟩ = some (.string (wordAt s 4))) (first | with_reducible exact ⟨c0, c1, c2⟩ | (refine FK.out _ ?_; (repeat (first | with_reducible exact Below.refl _ _ | with_reducible exact BX1.out | with_reducible apply below_drew | with_reducible apply below_alloc)); done) | go_keep) (first | (go_at_call 42; refine (CF.out _ (by (repeat (first | with_reducible exact Below.refl _ _ | with_reducible exact BX1.out | with_reducible apply below_drew | with_reducible apply below_alloc)))).mono ?_; rintro e w4 ⟨rfl, hb4⟩; (have BX1 : Aside0 (Below W3.heap.size W3 w4) := ⟨bthen (by (repeat (first | with_reducible exact Below.refl _ _ | with_reducible exact BX1.out | with_reducible apply below_drew | with_reducible apply below_alloc))) hb4⟩); clear hb4))
      have HP4 := Aside0.mk (HP3.out.step BX1.out)
      obtain ⟨⟨k0, k1, k2, k3, k4, k5, k6⟩, f0, f1, f2, f3, f4, f5, f6⟩ := all7 HP4.out.rule
      have m0 : w4.cell? ⟨G, 4, none⟩ = some (.int .u64 0) := blk_cell HP4.out.sets 4
      have p0 : w4.frozen? ⟨G, 4, none⟩ = false := blk_frozen HP4.out.sets 4
      clear c0 c1 c2
      cases S with
      | none =>
        have HN5 : Aside0 (RV = .agg #[.int .u64 0, .int .u64 0, .int .u64 0, .int .u64 0, .int .u64 0, .bool false, .bool false] ∧ RE = 12) := ⟨by
          have h5 : sets5 s = false := by rw [sets5, ← hS.out]; simp
          exact ⟨by rw [hRV.out, h5]; rfl, by rw [hRE.out, h5]; rfl⟩⟩
        obtain ⟨rfl, rfl⟩ := HN5.out
        go_wp2
        refine bodyPost_ret (results_ct rfl _ _ w.heap.size 63 #[.int .u64 0, .int .u64 0, .int .u64 0, .int .u64 0, .int .u64 0, .bool false, .bool false] (0, 0) _ rfl (blk7 HP4.out.rule) Tryd.underlying63 rfl (by kernel_rfl)) rfl ?_
        exact ⟨rfl, below_set7 HP4.out.below (Nat.le_refl _) _ _ _ _ _ _ _⟩
      | some x =>
        go_wp2
        go_roundg 0
        case measure => omega
        case rel =>
          refine ⟨5, rfl, by omega, ⟨HP4.out.put 4 _ (by show 4 < 5; decide) ?_⟩, ⟨fun j hj => ?_⟩⟩
          · have : setN s 4 = x := by rw [setN, ← hS.out]; rfl
            show (#[.int .u64 (setN s 0 : Nat), .int .u64 (setN s 1 : Nat), .int .u64 (setN s 2 : Nat), .int .u64 (setN s 3 : Nat), .int .u64 0] : Array Value).setIfInBounds 4 _ = #[.int .u64 (setN s 0 : Nat), .int .u64 (setN s 1 : Nat), .int .u64 (setN s 2 : Nat), .int .u64 (setN s 3 : Nat), .int .u64 (setN s 4 : Nat)]
            rw [this]
            rfl
          · by_cases h : j < 4
            · exact HSM.out j h
            · obtain rfl : j = 4 := by omega
              rw [← hS.out]; rfl
    · have HS5 : Aside0 (sets5 s = true) := ⟨by rw [sets5, HSM.out 0 (by omega), HSM.out 1 (by omega), HSM.out 2 (by omega), HSM.out 3 (by omega), HSM.out 4 (by omega)]; rfl⟩
      have HN5 : Aside0 (RV = .agg #[.int .u64 (setN s 0 : Nat), .int .u64 (setN s 1 : Nat), .int .u64 (setN s 2 : Nat), .int .u64 (setN s 3 : Nat), .int .u64 (weekOf (setN s 4) : Nat), .bool ((wordAt s 2).toList == [42]), .bool ((wordAt s 4).toList == [42])] ∧ RE = 0) := ⟨by rw [hRV.out, HS5.out]; rfl, by rw [hRE.out, HS5.out]; rfl⟩
      obtain ⟨rfl, rfl⟩ := HN5.out
      have HPF : Pd w A G s #[.int .u64 (setN s 0 : Nat), .int .u64 (setN s 1 : Nat), .int .u64 (setN s 2 : Nat), .int .u64 (setN s 3 : Nat), .int .u64 (setN s 4 : Nat)] wr := HPR.out
      have e0 : wr.cell? ⟨G, 0, none⟩ = some (.int .u64 (setN s 0 : Nat)) := blk_cell HPF.sets 0
      have e1 : wr.cell? ⟨G, 1, none⟩ = some (.int .u64 (setN s 1 : Nat)) := blk_cell HPF.sets 1
      have e2 : wr.cell? ⟨G, 2, none⟩ = some (.int .u64 (setN s 2 : Nat)) := blk_cell HPF.sets 2
      have e3 : wr.cell? ⟨G, 3, none⟩ = some (.int .u64 (setN s 3 : Nat)) := blk_cell HPF.sets 3
      have e4 : wr.cell? ⟨G, 4, none⟩ = some (.int .u64 (setN s 4 : Nat)) := blk_cell HPF.sets 4
      have p4 : wr.frozen? ⟨G, 4, none⟩ = false := blk_frozen HPF.sets 4
      have HPFF := Aside0.mk HPF
      clear HPF
      go_upto_region 16 with (fail)
      have hwk := week_bits (set_lt s 4)
      rw [hwk]
      clear hwk e0 e1 e2 e3 e4 p4
      obtain ⟨W8, hW8⟩ : ∃ W8, W8 = wr.setCell ⟨G, 4, none⟩ (.int .u64 (weekOf (setN s 4) : Nat)) := ⟨_, rfl⟩
      have HP8 : Pd w A G s #[.int .u64 (setN s 0 : Nat), .int .u64 (setN s 1 : Nat), .int .u64 (setN s 2 : Nat), .int .u64 (setN s 3 : Nat), .int .u64 (weekOf (setN s 4) : Nat)] W8 := by rw [hW8]; exact HPFF.out.put 4 _ (by show 4 < 5; decide) rfl
      rw [← hW8]
      clear hW8
      have e0 : W8.cell? ⟨G, 0, none⟩ = some (.int .u64 (setN s 0 : Nat)) := blk_cell HP8.sets 0
      have e1 : W8.cell? ⟨G, 1, none⟩ = some (.int .u64 (setN s 1 : Nat)) := blk_cell HP8.sets 1
      have e2 : W8.cell? ⟨G, 2, none⟩ = some (.int .u64 (setN s 2 : Nat)) := blk_cell HP8.sets 2
      have e3 : W8.cell? ⟨G, 3, none⟩ = some (.int .u64 (setN s 3 : Nat)) := blk_cell HP8.sets 3
      have e4 : W8.cell? ⟨G, 4, none⟩ = some (.int .u64 (weekOf (setN s 4) : Nat)) := blk_cell HP8.sets 4
      obtain ⟨_, _, c2, _, c4⟩ := HP8.words
      obtain ⟨⟨k0, k1, k2, k3, k4, k5, k6⟩, f0, f1, f2, f3, f4, f5, f6⟩ := all7 HP8.rule
      have HP88 := Aside0.mk HP8
      clear HP8
      go_region
      go_wp2
      refine bodyPost_ret (results_ct rfl _ _ w.heap.size 63 #[.int .u64 (setN s 0 : Nat), .int .u64 (setN s 1 : Nat), .int .u64 (setN s 2 : Nat), .int .u64 (setN s 3 : Nat), .int .u64 (weekOf (setN s 4) : Nat), .bool ((wordAt s 2).toList == [42]), .bool ((wordAt s 4).toList == [42])] (0, 0) _ rfl (blk_drew (blk7 HP88.out.rule)) Tryd.underlying63 rfl (by kernel_rfl)) rfl ?_
      exact ⟨rfl, below_drew (below_set7 HP88.out.below (Nat.le_refl _) _ _ _ _ _ _ _)⟩

/-- a rule, as Parse lays it -/
def ruleV (s : ByteArray) : Array Value := if parseE s = 0 then #[.int .u64 (setN s 0 : Nat), .int .u64 (setN s 1 : Nat), .int .u64 (setN s 2 : Nat), .int .u64 (setN s 3 : Nat), .int .u64 (weekOf (setN s 4) : Nat), .bool ((wordAt s 2).toList == [42]), .bool ((wordAt s 4).toList == [42])] else #[.int .u64 0, .int .u64 0, .int .u64 0, .int .u64 0, .int .u64 0, .bool false, .bool false]
theorem parse_any (s : ByteArray) (w : World) (hz : s.size ≤ 9223372036854775807) (hm : MaxL w) :
    Calls Tryd.prog 25 #[.string s] w fun e w' => e = .returned (.tuple #[.agg (ruleV s), .int .i64 (parseE s)]) ∧ Below w.heap.size w w' := by
  by_cases h1 : 400 < s.size
  · have e : parseE s = 5 := by rw [parseE, if_pos h1]
    rw [ruleV, e]
    exact parse_long s w h1 hz
  · by_cases h2 : (wordsP s).length = 5
    · have e : parseE s = if sets5 s then 0 else 12 := by rw [parseE, if_neg h1, if_neg (fun h => h h2)]
      refine (parse_main s w h1 h2 hm).mono ?_
      rintro e' w' ⟨rfl, hb⟩
      refine ⟨?_, hb⟩
      rw [ruleV, e]
      cases sets5 s <;> rfl
    · have e : parseE s = 3 := by rw [parseE, if_neg h1, if_pos h2]
      rw [ruleV, e]
      exact parse_count s w h1 h2
end Go.Proofs.YteloamnakikbbaaDoor.Cron

/- cron: the whole scopes, a rule's sets, Check, walked. -/
namespace Go.Proofs.YteloamnakikbbaaDoor.Cron
set_option linter.unusedVariables false
set_option linter.unusedSimpArgs false
open Go.RowKit Go.Proofs.YteloamnakikbbaaDoorW.PrintWords Go.Proofs.YteloamnakikbbaaDoorW.PrintLast Go.Proofs.YteloamnakikbbaaDoor.Base Go.Proofs.YteloamnakikbbaaDoor.Cells Go.Proofs.YteloamnakikbbaaDoor.CronPure Go.Proofs.YteloamnakikbbaaDoor.NamesPure

def hasB (s n : Int) : Bool := bits .and .u64 s (IntKind.u64.wrap (2 ^ n.toNat)) != 0
set_option maxRecDepth 100000 in
theorem all_0 (w : World) : Calls Tryd.prog 81 #[.agg #[.int .i64 0, .int .i64 59]] w fun e w' => e = .returned (.int .u64 1152921504606846975) ∧ Below w.heap.size w w' := by
  have hwr : IntKind.i64.wrap (60 : Int) = 60 := rfl
  go_enter Tryd.func81, Tryd.ntmps81
  go_upto_region 1 with (fail)
  obtain ⟨c0, c1, _, _⟩ := all2 (blk_new w (.cells #[.int .i64 0, .int .i64 59] 98))
  go_region_held3 (fun w' => w'.cell? ⟨w.heap.size, 0, none⟩ = some (.int .i64 0) ∧ w'.cell? ⟨w.heap.size, 1, none⟩ = some (.int .i64 59)) (first | with_reducible exact ⟨c0, c1⟩ | go_keep) (fail)
  go_wp2
  go_ret
  exact ⟨rfl, below_drew (below_alloc (Below.refl _ _) _)⟩
set_option maxRecDepth 100000 in
theorem all_1 (w : World) : Calls Tryd.prog 81 #[.agg #[.int .i64 0, .int .i64 23]] w fun e w' => e = .returned (.int .u64 16777215) ∧ Below w.heap.size w w' := by
  have hwr : IntKind.i64.wrap (24 : Int) = 24 := rfl
  go_enter Tryd.func81, Tryd.ntmps81
  go_upto_region 1 with (fail)
  obtain ⟨c0, c1, _, _⟩ := all2 (blk_new w (.cells #[.int .i64 0, .int .i64 23] 98))
  go_region_held3 (fun w' => w'.cell? ⟨w.heap.size, 0, none⟩ = some (.int .i64 0) ∧ w'.cell? ⟨w.heap.size, 1, none⟩ = some (.int .i64 23)) (first | with_reducible exact ⟨c0, c1⟩ | go_keep) (fail)
  go_wp2
  go_ret
  exact ⟨rfl, below_drew (below_alloc (Below.refl _ _) _)⟩
set_option maxRecDepth 100000 in
theorem all_2 (w : World) : Calls Tryd.prog 81 #[.agg #[.int .i64 1, .int .i64 31]] w fun e w' => e = .returned (.int .u64 4294967294) ∧ Below w.heap.size w w' := by
  have hwr : IntKind.i64.wrap (32 : Int) = 32 := rfl
  go_enter Tryd.func81, Tryd.ntmps81
  go_upto_region 1 with (fail)
  obtain ⟨c0, c1, _, _⟩ := all2 (blk_new w (.cells #[.int .i64 1, .int .i64 31] 98))
  go_region_held3 (fun w' => w'.cell? ⟨w.heap.size, 0, none⟩ = some (.int .i64 1) ∧ w'.cell? ⟨w.heap.size, 1, none⟩ = some (.int .i64 31)) (first | with_reducible exact ⟨c0, c1⟩ | go_keep) (fail)
  go_wp2
  go_ret
  exact ⟨rfl, below_drew (below_alloc (Below.refl _ _) _)⟩
set_option maxRecDepth 100000 in
theorem all_3 (w : World) : Calls Tryd.prog 81 #[.agg #[.int .i64 1, .int .i64 12]] w fun e w' => e = .returned (.int .u64 8190) ∧ Below w.heap.size w w' := by
  have hwr : IntKind.i64.wrap (13 : Int) = 13 := rfl
  go_enter Tryd.func81, Tryd.ntmps81
  go_upto_region 1 with (fail)
  obtain ⟨c0, c1, _, _⟩ := all2 (blk_new w (.cells #[.int .i64 1, .int .i64 12] 98))
  go_region_held3 (fun w' => w'.cell? ⟨w.heap.size, 0, none⟩ = some (.int .i64 1) ∧ w'.cell? ⟨w.heap.size, 1, none⟩ = some (.int .i64 12)) (first | with_reducible exact ⟨c0, c1⟩ | go_keep) (fail)
  go_wp2
  go_ret
  exact ⟨rfl, below_drew (below_alloc (Below.refl _ _) _)⟩
set_option maxRecDepth 100000 in
theorem all_4 (w : World) : Calls Tryd.prog 81 #[.agg #[.int .i64 0, .int .i64 7]] w fun e w' => e = .returned (.int .u64 255) ∧ Below w.heap.size w w' := by
  have hwr : IntKind.i64.wrap (8 : Int) = 8 := rfl
  go_enter Tryd.func81, Tryd.ntmps81
  go_upto_region 1 with (fail)
  obtain ⟨c0, c1, _, _⟩ := all2 (blk_new w (.cells #[.int .i64 0, .int .i64 7] 98))
  go_region_held3 (fun w' => w'.cell? ⟨w.heap.size, 0, none⟩ = some (.int .i64 0) ∧ w'.cell? ⟨w.heap.size, 1, none⟩ = some (.int .i64 7)) (first | with_reducible exact ⟨c0, c1⟩ | go_keep) (fail)
  go_wp2
  go_ret
  exact ⟨rfl, below_drew (below_alloc (Below.refl _ _) _)⟩
set_option maxRecDepth 100000 in
theorem sets_any (a b c d f : Int) (x y : Bool) (w : World) : Calls Tryd.prog 70 #[.agg #[.int .u64 a, .int .u64 b, .int .u64 c, .int .u64 d, .int .u64 f, .bool x, .bool y]] w fun e w' => e = .returned (.agg #[.int .u64 a, .int .u64 b, .int .u64 c, .int .u64 d, .int .u64 f]) ∧ Below w.heap.size w w' := by
  go_enter Tryd.func70, Tryd.ntmps70
  go_wp2
  refine bodyPost_ret (results_cell_row rfl _ _ (w.heap.size + 1) 96 #[.int .u64 a, .int .u64 b, .int .u64 c, .int .u64 d, .int .u64 f] (0, 0) _ rfl (blk_new1 _ _ _ _) Tryd.underlying96 rfl (by kernel_rfl)) rfl ?_
  exact ⟨rfl, below_alloc (below_alloc (Below.refl _ _) _) _⟩
set_option maxRecDepth 100000 in
theorem has_any (s n : Int) (w : World) (h0 : 0 ≤ n) (h1 : n ≤ 63) : Calls Tryd.prog 73 #[.int .u64 s, .int .i64 n] w fun e w' => e = .returned (.bool (hasB s n)) ∧ Below w.heap.size w w' := by
  go_enter Tryd.func73, Tryd.ntmps73
  go_wp2
  go_ret
  exact ⟨rfl, Below.refl _ _⟩
end Go.Proofs.YteloamnakikbbaaDoor.Cron

/- cron: wholes, walked. -/
namespace Go.Proofs.YteloamnakikbbaaDoor.Cron
set_option linter.unusedVariables false
set_option linter.unusedSimpArgs false
open Go.RowKit Go.Proofs.YteloamnakikbbaaDoorW.PrintWords Go.Proofs.YteloamnakikbbaaDoorW.PrintLast Go.Proofs.YteloamnakikbbaaDoor.Base Go.Proofs.YteloamnakikbbaaDoor.Cells Go.Proofs.YteloamnakikbbaaDoor.CronPure Go.Proofs.YteloamnakikbbaaDoor.NamesPure

def arrW : Nat → Array Value
  | 0 => #[.int .u64 0, .int .u64 0, .int .u64 0, .int .u64 0, .int .u64 0]
  | 1 => #[.int .u64 1152921504606846975, .int .u64 0, .int .u64 0, .int .u64 0, .int .u64 0]
  | 2 => #[.int .u64 1152921504606846975, .int .u64 16777215, .int .u64 0, .int .u64 0, .int .u64 0]
  | 3 => #[.int .u64 1152921504606846975, .int .u64 16777215, .int .u64 4294967294, .int .u64 0, .int .u64 0]
  | 4 => #[.int .u64 1152921504606846975, .int .u64 16777215, .int .u64 4294967294, .int .u64 8190, .int .u64 0]
  | _ => #[.int .u64 1152921504606846975, .int .u64 16777215, .int .u64 4294967294, .int .u64 8190, .int .u64 255]
set_option maxRecDepth 100000 in
set_option maxHeartbeats 4000000 in
theorem wholes_any (w : World) : Calls Tryd.prog 69 #[] w fun e w' => e = .returned (.agg #[.int .u64 1152921504606846975, .int .u64 16777215, .int .u64 4294967294, .int .u64 8190, .int .u64 127]) ∧ Below w.heap.size w w' := by
  go_enter Tryd.func69, Tryd.ntmps69
  have H0 := Aside0.mk (And.intro (blk_new w (.cells #[.int .u64 0, .int .u64 0, .int .u64 0, .int .u64 0, .int .u64 0] 96)) (below_alloc (Below.refl _ w) (.cells #[.int .u64 0, .int .u64 0, .int .u64 0, .int .u64 0, .int .u64 0] 96)))
  go_wp2_with (go_at_call 41; refine (scopes_any _).mono ?_; rintro e w2 ⟨rfl, hb2⟩; (have HB2 := Aside0.mk (bthen H0.out.2 hb2)); (have HK2 := Aside0.mk (blk_keep H0.out.1 hb2)); clear hb2)
  go_loopg [4] 5 (fun g v4 wr => ∃ i : Nat, v4 = .int .i64 i ∧ g + i = 5 ∧ Aside0 (wr.heap[w.heap.size]? = some (.cells (arrW i) 96 (0, 0))) ∧ Aside0 (Below w.heap.size w wr))
  case atStart => exact ⟨0, rfl, by omega, HK2, HB2⟩
  case round =>
    obtain ⟨i, rfl, hg, HKR, HBR⟩ := hrel
    have n1 := blk_lt HKR.out
    rcases (show i = 0 ∨ i = 1 ∨ i = 2 ∨ i = 3 ∨ i = 4 ∨ i = 5 by omega) with rfl | rfl | rfl | rfl | rfl | rfl
    · have ix := idx5_0 wr
      go_upto_region 4 with (fail)
      clear ix
      obtain ⟨W3, hW3⟩ : ∃ W3, W3 = wr.alloc (.cells #[.int .i64 0, .int .i64 59] 98) := ⟨_, rfl⟩
      obtain ⟨g3, hg3⟩ : ∃ g3, g3 = wr.heap.size := ⟨_, rfl⟩
      have HS3 : Aside0 (W3.heap[g3]? = some (.cells #[.int .i64 0, .int .i64 59] 98 (0, 0))) := ⟨by rw [hW3, hg3]; exact blk_new _ _⟩
      have HK3 := Aside0.mk (blk_keep HKR.out (below_alloc (Below.refl _ wr) (.cells #[.int .i64 0, .int .i64 59] 98)))
      have HB3 := Aside0.mk (below_alloc HBR.out (.cells #[.int .i64 0, .int .i64 59] 98))
      rw [← hW3] at HK3 HB3
      rw [← hW3, ← hg3]
      clear hW3 hg3
      obtain ⟨c0, c1, _, _⟩ := all2 HS3.out
      go_wp2_with (go_at_call 81; refine (all_0 _).mono ?_; rintro e w4 ⟨rfl, hb4⟩; (have HK4 := Aside0.mk (blk_keep HK3.out hb4)); (have HB4 := Aside0.mk (bthen HB3.out hb4)); (have m0 : w4.cell? ⟨w.heap.size, 0, none⟩ = some (.int .u64 0) := blk_cell HK4.out 0); (have p0 : w4.frozen? ⟨w.heap.size, 0, none⟩ = false := blk_frozen HK4.out 0); clear hb4)
      go_roundg 4
      case measure => omega
      case rel => exact ⟨1, rfl, by omega, ⟨blk_put HK4.out 0 _ rfl⟩, ⟨HB4.out.setCell (p := ⟨w.heap.size, 0, none⟩) (Nat.le_refl _) _⟩⟩
    · have ix := idx5_1 wr
      go_upto_region 4 with (fail)
      clear ix
      obtain ⟨W3, hW3⟩ : ∃ W3, W3 = wr.alloc (.cells #[.int .i64 0, .int .i64 23] 98) := ⟨_, rfl⟩
      obtain ⟨g3, hg3⟩ : ∃ g3, g3 = wr.heap.size := ⟨_, rfl⟩
      have HS3 : Aside0 (W3.heap[g3]? = some (.cells #[.int .i64 0, .int .i64 23] 98 (0, 0))) := ⟨by rw [hW3, hg3]; exact blk_new _ _⟩
      have HK3 := Aside0.mk (blk_keep HKR.out (below_alloc (Below.refl _ wr) (.cells #[.int .i64 0, .int .i64 23] 98)))
      have HB3 := Aside0.mk (below_alloc HBR.out (.cells #[.int .i64 0, .int .i64 23] 98))
      rw [← hW3] at HK3 HB3
      rw [← hW3, ← hg3]
      clear hW3 hg3
      obtain ⟨c0, c1, _, _⟩ := all2 HS3.out
      go_wp2_with (go_at_call 81; refine (all_1 _).mono ?_; rintro e w4 ⟨rfl, hb4⟩; (have HK4 := Aside0.mk (blk_keep HK3.out hb4)); (have HB4 := Aside0.mk (bthen HB3.out hb4)); (have m0 : w4.cell? ⟨w.heap.size, 1, none⟩ = some (.int .u64 0) := blk_cell HK4.out 1); (have p0 : w4.frozen? ⟨w.heap.size, 1, none⟩ = false := blk_frozen HK4.out 1); clear hb4)
      go_roundg 3
      case measure => omega
      case rel => exact ⟨2, rfl, by omega, ⟨blk_put HK4.out 1 _ rfl⟩, ⟨HB4.out.setCell (p := ⟨w.heap.size, 1, none⟩) (Nat.le_refl _) _⟩⟩
    · have ix := idx5_2 wr
      go_upto_region 4 with (fail)
      clear ix
      obtain ⟨W3, hW3⟩ : ∃ W3, W3 = wr.alloc (.cells #[.int .i64 1, .int .i64 31] 98) := ⟨_, rfl⟩
      obtain ⟨g3, hg3⟩ : ∃ g3, g3 = wr.heap.size := ⟨_, rfl⟩
      have HS3 : Aside0 (W3.heap[g3]? = some (.cells #[.int .i64 1, .int .i64 31] 98 (0, 0))) := ⟨by rw [hW3, hg3]; exact blk_new _ _⟩
      have HK3 := Aside0.mk (blk_keep HKR.out (below_alloc (Below.refl _ wr) (.cells #[.int .i64 1, .int .i64 31] 98)))
      have HB3 := Aside0.mk (below_alloc HBR.out (.cells #[.int .i64 1, .int .i64 31] 98))
      rw [← hW3] at HK3 HB3
      rw [← hW3, ← hg3]
      clear hW3 hg3
      obtain ⟨c0, c1, _, _⟩ := all2 HS3.out
      go_wp2_with (go_at_call 81; refine (all_2 _).mono ?_; rintro e w4 ⟨rfl, hb4⟩; (have HK4 := Aside0.mk (blk_keep HK3.out hb4)); (have HB4 := Aside0.mk (bthen HB3.out hb4)); (have m0 : w4.cell? ⟨w.heap.size, 2, none⟩ = some (.int .u64 0) := blk_cell HK4.out 2); (have p0 : w4.frozen? ⟨w.heap.size, 2, none⟩ = false := blk_frozen HK4.out 2); clear hb4)
      go_roundg 2
      case measure => omega
      case rel => exact ⟨3, rfl, by omega, ⟨blk_put HK4.out 2 _ rfl⟩, ⟨HB4.out.setCell (p := ⟨w.heap.size, 2, none⟩) (Nat.le_refl _) _⟩⟩
    · have ix := idx5_3 wr
      go_upto_region 4 with (fail)
      clear ix
      obtain ⟨W3, hW3⟩ : ∃ W3, W3 = wr.alloc (.cells #[.int .i64 1, .int .i64 12] 98) := ⟨_, rfl⟩
      obtain ⟨g3, hg3⟩ : ∃ g3, g3 = wr.heap.size := ⟨_, rfl⟩
      have HS3 : Aside0 (W3.heap[g3]? = some (.cells #[.int .i64 1, .int .i64 12] 98 (0, 0))) := ⟨by rw [hW3, hg3]; exact blk_new _ _⟩
      have HK3 := Aside0.mk (blk_keep HKR.out (below_alloc (Below.refl _ wr) (.cells #[.int .i64 1, .int .i64 12] 98)))
      have HB3 := Aside0.mk (below_alloc HBR.out (.cells #[.int .i64 1, .int .i64 12] 98))
      rw [← hW3] at HK3 HB3
      rw [← hW3, ← hg3]
      clear hW3 hg3
      obtain ⟨c0, c1, _, _⟩ := all2 HS3.out
      go_wp2_with (go_at_call 81; refine (all_3 _).mono ?_; rintro e w4 ⟨rfl, hb4⟩; (have HK4 := Aside0.mk (blk_keep HK3.out hb4)); (have HB4 := Aside0.mk (bthen HB3.out hb4)); (have m0 : w4.cell? ⟨w.heap.size, 3, none⟩ = some (.int .u64 0) := blk_cell HK4.out 3); (have p0 : w4.frozen? ⟨w.heap.size, 3, none⟩ = false := blk_frozen HK4.out 3); clear hb4)
      go_roundg 1
      case measure => omega
      case rel => exact ⟨4, rfl, by omega, ⟨blk_put HK4.out 3 _ rfl⟩, ⟨HB4.out.setCell (p := ⟨w.heap.size, 3, none⟩) (Nat.le_refl _) _⟩⟩
    · have ix := idx5_4 wr
      go_upto_region 4 with (fail)
      clear ix
      obtain ⟨W3, hW3⟩ : ∃ W3, W3 = wr.alloc (.cells #[.int .i64 0, .int .i64 7] 98) := ⟨_, rfl⟩
      obtain ⟨g3, hg3⟩ : ∃ g3, g3 = wr.heap.size := ⟨_, rfl⟩
      have HS3 : Aside0 (W3.heap[g3]? = some (.cells #[.int .i64 0, .int .i64 7] 98 (0, 0))) := ⟨by rw [hW3, hg3]; exact blk_new _ _⟩
      have HK3 := Aside0.mk (blk_keep HKR.out (below_alloc (Below.refl _ wr) (.cells #[.int .i64 0, .int .i64 7] 98)))
      have HB3 := Aside0.mk (below_alloc HBR.out (.cells #[.int .i64 0, .int .i64 7] 98))
      rw [← hW3] at HK3 HB3
      rw [← hW3, ← hg3]
      clear hW3 hg3
      obtain ⟨c0, c1, _, _⟩ := all2 HS3.out
      go_wp2_with (go_at_call 81; refine (all_4 _).mono ?_; rintro e w4 ⟨rfl, hb4⟩; (have HK4 := Aside0.mk (blk_keep HK3.out hb4)); (have HB4 := Aside0.mk (bthen HB3.out hb4)); (have m0 : w4.cell? ⟨w.heap.size, 4, none⟩ = some (.int .u64 0) := blk_cell HK4.out 4); (have p0 : w4.frozen? ⟨w.heap.size, 4, none⟩ = false := blk_frozen HK4.out 4); clear hb4)
      go_roundg 0
      case measure => omega
      case rel => exact ⟨5, rfl, by omega, ⟨blk_put HK4.out 4 _ rfl⟩, ⟨HB4.out.setCell (p := ⟨w.heap.size, 4, none⟩) (Nat.le_refl _) _⟩⟩
    · have m0 : wr.cell? ⟨w.heap.size, 4, none⟩ = some (.int .u64 255) := blk_cell HKR.out 4
      have p0 : wr.frozen? ⟨w.heap.size, 4, none⟩ = false := blk_frozen HKR.out 4
      go_upto_region 7 with (fail)
      obtain ⟨W5, hW5⟩ : ∃ W5, W5 = wr.setCell ⟨w.heap.size, 4, none⟩ (.int .u64 127) := ⟨_, rfl⟩
      have HK5 : Aside0 (W5.heap[w.heap.size]? = some (.cells #[.int .u64 1152921504606846975, .int .u64 16777215, .int .u64 4294967294, .int .u64 8190, .int .u64 127] 96 (0, 0))) := ⟨by rw [hW5]; exact blk_put HKR.out 4 _ rfl⟩
      have HB5 : Aside0 (Below w.heap.size w W5) := ⟨by rw [hW5]; exact HBR.out.setCell (p := ⟨w.heap.size, 4, none⟩) (Nat.le_refl _) _⟩
      rw [← hW5]
      clear hW5 m0 p0
      have e0 := blk_cell HK5.out 0
      have e1 := blk_cell HK5.out 1
      have e2 := blk_cell HK5.out 2
      have e3 := blk_cell HK5.out 3
      have e4 := blk_cell HK5.out 4
      have q0 := blk_frozen HK5.out 0
      have q1 := blk_frozen HK5.out 1
      have q2 := blk_frozen HK5.out 2
      have q3 := blk_frozen HK5.out 3
      have q4 := blk_frozen HK5.out 4
      go_wp2
      refine bodyPost_ret (results_cell_row rfl _ _ w.heap.size 96 #[.int .u64 1152921504606846975, .int .u64 16777215, .int .u64 4294967294, .int .u64 8190, .int .u64 127] (0, 0) _ rfl (blk_put (blk_put (blk_put (blk_put (blk_put HK5.out 0 _ rfl) 1 _ rfl) 2 _ rfl) 3 _ rfl) 4 _ rfl) Tryd.underlying96 rfl (by kernel_rfl)) rfl ?_
      exact ⟨rfl, ((((HB5.out.setCell (p := ⟨w.heap.size, 0, none⟩) (Nat.le_refl _) _).setCell (p := ⟨w.heap.size, 1, none⟩) (Nat.le_refl _) _).setCell (p := ⟨w.heap.size, 2, none⟩) (Nat.le_refl _) _).setCell (p := ⟨w.heap.size, 3, none⟩) (Nat.le_refl _) _).setCell (p := ⟨w.heap.size, 4, none⟩) (Nat.le_refl _) _⟩
end Go.Proofs.YteloamnakikbbaaDoor.Cron

/- cron: Check, walked. -/
namespace Go.Proofs.YteloamnakikbbaaDoor.Cron
set_option linter.unusedVariables false
set_option linter.unusedSimpArgs false
open Go.RowKit Go.Proofs.YteloamnakikbbaaDoorW.PrintWords Go.Proofs.YteloamnakikbbaaDoorW.PrintLast Go.Proofs.YteloamnakikbbaaDoor.Base Go.Proofs.YteloamnakikbbaaDoor.Cells Go.Proofs.YteloamnakikbbaaDoor.CronPure Go.Proofs.YteloamnakikbbaaDoor.NamesPure

def badS (s all : Int) : Bool := (s == 0) || (bits .andNot .u64 s all != 0)
def setOk (a b c d f : Int) : Bool := !badS a 1152921504606846975 && (!badS b 16777215 && (!badS c 4294967294 && (!badS d 8190 && !badS f 127)))
def starOk (c f : Int) (x y : Bool) : Bool := !(x && (c != 4294967294)) && !(y && (f != 127))
def chkR (a b c d f : Int) (x y : Bool) : Bool := setOk a b c d f && starOk c f x y
theorem idxU_0 (a b c d f : Int) (w : World) : (Instr.index 96 (.agg #[.int .u64 a, .int .u64 b, .int .u64 c, .int .u64 d, .int .u64 f]) (.int .i64 0)).run Tryd.prog w = .ok (.int .u64 a) w := by
  simp [Instr.index, run_underlying Tryd.underlying96, asIntOf, go_sem, Tryd.sizeOf25]
theorem idxU_1 (a b c d f : Int) (w : World) : (Instr.index 96 (.agg #[.int .u64 a, .int .u64 b, .int .u64 c, .int .u64 d, .int .u64 f]) (.int .i64 1)).run Tryd.prog w = .ok (.int .u64 b) w := by
  simp [Instr.index, run_underlying Tryd.underlying96, asIntOf, go_sem, Tryd.sizeOf25]
theorem idxU_2 (a b c d f : Int) (w : World) : (Instr.index 96 (.agg #[.int .u64 a, .int .u64 b, .int .u64 c, .int .u64 d, .int .u64 f]) (.int .i64 2)).run Tryd.prog w = .ok (.int .u64 c) w := by
  simp [Instr.index, run_underlying Tryd.underlying96, asIntOf, go_sem, Tryd.sizeOf25]
theorem idxU_3 (a b c d f : Int) (w : World) : (Instr.index 96 (.agg #[.int .u64 a, .int .u64 b, .int .u64 c, .int .u64 d, .int .u64 f]) (.int .i64 3)).run Tryd.prog w = .ok (.int .u64 d) w := by
  simp [Instr.index, run_underlying Tryd.underlying96, asIntOf, go_sem, Tryd.sizeOf25]
theorem idxU_4 (a b c d f : Int) (w : World) : (Instr.index 96 (.agg #[.int .u64 a, .int .u64 b, .int .u64 c, .int .u64 d, .int .u64 f]) (.int .i64 4)).run Tryd.prog w = .ok (.int .u64 f) w := by
  simp [Instr.index, run_underlying Tryd.underlying96, asIntOf, go_sem, Tryd.sizeOf25]
set_option maxRecDepth 100000 in
set_option maxHeartbeats 4000000 in
theorem check_any (a b c d f : Int) (x y : Bool) (w : World) : Calls Tryd.prog 58 #[.agg #[.int .u64 a, .int .u64 b, .int .u64 c, .int .u64 d, .int .u64 f, .bool x, .bool y]] w fun e w' => e = .returned (.int .i64 (if chkR a b c d f x y then 0 else 9)) ∧ Below w.heap.size w w' := by
  obtain ⟨RE, hRE⟩ := named (if chkR a b c d f x y then (0 : Int) else 9)
  rw [← hRE.out]
  have HBD : Aside0 (∀ k, (k = badS a 1152921504606846975 ∨ k = badS b 16777215 ∨ k = badS c 4294967294 ∨ k = badS d 8190 ∨ k = badS f 127) → k = true → RE = 9) := ⟨fun k hk h => by
    rw [hRE.out]
    have : chkR a b c d f x y = false := by
      subst h
      unfold chkR setOk
      rcases hk with hk | hk | hk | hk | hk <;> rw [← hk] <;> simp
    rw [this]; rfl⟩
  have HR0 := Aside0.mk (And.intro (blk_new w (.cells #[.int .u64 a, .int .u64 b, .int .u64 c, .int .u64 d, .int .u64 f, .bool x, .bool y] 63)) (below_alloc (Below.refl _ w) (.cells #[.int .u64 a, .int .u64 b, .int .u64 c, .int .u64 d, .int .u64 f, .bool x, .bool y] 63)))
  go_enter Tryd.func58, Tryd.ntmps58
  go_upto_region 2 with (go_at_call 69; refine (wholes_any _).mono ?_; rintro e w2 ⟨rfl, hb2⟩; (have HB2 := Aside0.mk (bthen HR0.out.2 hb2)); (have HK2 := Aside0.mk (blk_keep HR0.out.1 hb2)); clear hb2)
  obtain ⟨W3, hW3⟩ : ∃ W3, W3 = w2.alloc (.cells #[.int .u64 1152921504606846975, .int .u64 16777215, .int .u64 4294967294, .int .u64 8190, .int .u64 127] 96) := ⟨_, rfl⟩
  obtain ⟨G, hG⟩ : ∃ G, G = w2.heap.size := ⟨_, rfl⟩
  have HS3 : Aside0 (W3.heap[G]? = some (.cells #[.int .u64 1152921504606846975, .int .u64 16777215, .int .u64 4294967294, .int .u64 8190, .int .u64 127] 96 (0, 0))) := ⟨by rw [hW3, hG]; exact blk_new _ _⟩
  have HK3 : Aside0 (W3.heap[w.heap.size]? = some (.cells #[.int .u64 a, .int .u64 b, .int .u64 c, .int .u64 d, .int .u64 f, .bool x, .bool y] 63 (0, 0))) := ⟨by rw [hW3]; exact blk_alloc HK2.out _⟩
  have HB3 : Aside0 (Below w.heap.size w W3) := ⟨by rw [hW3]; exact below_alloc HB2.out _⟩
  rw [← hW3, ← hG]
  clear hW3 hG
  obtain ⟨⟨k0, k1, k2, k3, k4, k5, k6⟩, _⟩ := all7 HK3.out
  go_wp2_with (go_at_call 70; refine (sets_any _ _ _ _ _ _ _ _).mono ?_; rintro e w4 ⟨rfl, hb4⟩; (have HK4 := Aside0.mk (blk_keep HK3.out hb4)); (have HS4 := Aside0.mk (blk_keep HS3.out hb4)); (have HB4 := Aside0.mk (bthen HB3.out hb4)); clear hb4)
  clear k0 k1 k2 k3 k4 k5 k6
  go_loopg [9] 5 (fun g v9 wr => ∃ i : Nat, v9 = .int .i64 i ∧ g + i = 5 ∧ Aside0 (wr = w4) ∧ Aside0 ((0 < i → badS a 1152921504606846975 = false) ∧ (1 < i → badS b 16777215 = false) ∧ (2 < i → badS c 4294967294 = false) ∧ (3 < i → badS d 8190 = false) ∧ (4 < i → badS f 127 = false)))
  case atStart => exact ⟨0, rfl, by omega, ⟨rfl⟩, ⟨by omega, by omega, by omega, by omega, by omega⟩⟩
  case round =>
    obtain ⟨i, rfl, hg, HW, HSM⟩ := hrel
    have hWr := HW.out
    subst hWr
    rcases (show i = 0 ∨ i = 1 ∨ i = 2 ∨ i = 3 ∨ i = 4 ∨ i = 5 by omega) with rfl | rfl | rfl | rfl | rfl | rfl
    · have ix := idxU_0 a b c d f wr
      have g0 : wr.cell? ⟨G, 0, none⟩ = some (.int .u64 1152921504606846975) := blk_cell HS4.out 0
      by_cases z : a = 0
      · have z1 : (a == 0) = true := by simp [z]
        obtain rfl := HBD.out _ (.inl rfl) (by rw [badS, z1]; rfl)
        clear z1
        subst z
        go_wp2
        go_ret
        exact ⟨rfl, HB4.out⟩
      have z1 : (a == 0) = false := by simp [z]
      cases z2 : (bits .andNot .u64 a 1152921504606846975 != 0) with
      | true =>
        obtain rfl := HBD.out _ (.inl rfl) (by rw [badS, z1, z2]; rfl)
        go_wp2
        go_ret
        exact ⟨rfl, HB4.out⟩
      | false =>
        have HZ : Aside0 (badS a 1152921504606846975 = false) := ⟨by rw [badS, z1, z2]; rfl⟩
        go_wp2
        go_roundg 4
        case measure => omega
        case rel => exact ⟨1, rfl, by omega, ⟨rfl⟩, ⟨fun _ => HZ.out, fun _ => absurd ‹_› (by omega), fun _ => absurd ‹_› (by omega), fun _ => absurd ‹_› (by omega), fun _ => absurd ‹_› (by omega)⟩⟩
    · have ix := idxU_1 a b c d f wr
      have g0 : wr.cell? ⟨G, 1, none⟩ = some (.int .u64 16777215) := blk_cell HS4.out 1
      by_cases z : b = 0
      · have z1 : (b == 0) = true := by simp [z]
        obtain rfl := HBD.out _ (.inr (.inl rfl)) (by rw [badS, z1]; rfl)
        clear z1
        subst z
        go_wp2
        go_ret
        exact ⟨rfl, HB4.out⟩
      have z1 : (b == 0) = false := by simp [z]
      cases z2 : (bits .andNot .u64 b 16777215 != 0) with
      | true =>
        obtain rfl := HBD.out _ (.inr (.inl rfl)) (by rw [badS, z1, z2]; rfl)
        go_wp2
        go_ret
        exact ⟨rfl, HB4.out⟩
      | false =>
        have HZ : Aside0 (badS b 16777215 = false) := ⟨by rw [badS, z1, z2]; rfl⟩
        go_wp2
        go_roundg 3
        case measure => omega
        case rel => exact ⟨2, rfl, by omega, ⟨rfl⟩, ⟨fun _ => HSM.out.1 (by omega), fun _ => HZ.out, fun _ => absurd ‹_› (by omega), fun _ => absurd ‹_› (by omega), fun _ => absurd ‹_› (by omega)⟩⟩
    · have ix := idxU_2 a b c d f wr
      have g0 : wr.cell? ⟨G, 2, none⟩ = some (.int .u64 4294967294) := blk_cell HS4.out 2
      by_cases z : c = 0
      · have z1 : (c == 0) = true := by simp [z]
        obtain rfl := HBD.out _ (.inr (.inr (.inl rfl))) (by rw [badS, z1]; rfl)
        clear z1
        subst z
        go_wp2
        go_ret
        exact ⟨rfl, HB4.out⟩
      have z1 : (c == 0) = false := by simp [z]
      cases z2 : (bits .andNot .u64 c 4294967294 != 0) with
      | true =>
        obtain rfl := HBD.out _ (.inr (.inr (.inl rfl))) (by rw [badS, z1, z2]; rfl)
        go_wp2
        go_ret
        exact ⟨rfl, HB4.out⟩
      | false =>
        have HZ : Aside0 (badS c 4294967294 = false) := ⟨by rw [badS, z1, z2]; rfl⟩
        go_wp2
        go_roundg 2
        case measure => omega
        case rel => exact ⟨3, rfl, by omega, ⟨rfl⟩, ⟨fun _ => HSM.out.1 (by omega), fun _ => HSM.out.2.1 (by omega), fun _ => HZ.out, fun _ => absurd ‹_› (by omega), fun _ => absurd ‹_› (by omega)⟩⟩
    · have ix := idxU_3 a b c d f wr
      have g0 : wr.cell? ⟨G, 3, none⟩ = some (.int .u64 8190) := blk_cell HS4.out 3
      by_cases z : d = 0
      · have z1 : (d == 0) = true := by simp [z]
        obtain rfl := HBD.out _ (.inr (.inr (.inr (.inl rfl)))) (by rw [badS, z1]; rfl)
        clear z1
        subst z
        go_wp2
        go_ret
        exact ⟨rfl, HB4.out⟩
      have z1 : (d == 0) = false := by simp [z]
      cases z2 : (bits .andNot .u64 d 8190 != 0) with
      | true =>
        obtain rfl := HBD.out _ (.inr (.inr (.inr (.inl rfl)))) (by rw [badS, z1, z2]; rfl)
        go_wp2
        go_ret
        exact ⟨rfl, HB4.out⟩
      | false =>
        have HZ : Aside0 (badS d 8190 = false) := ⟨by rw [badS, z1, z2]; rfl⟩
        go_wp2
        go_roundg 1
        case measure => omega
        case rel => exact ⟨4, rfl, by omega, ⟨rfl⟩, ⟨fun _ => HSM.out.1 (by omega), fun _ => HSM.out.2.1 (by omega), fun _ => HSM.out.2.2.1 (by omega), fun _ => HZ.out, fun _ => absurd ‹_› (by omega)⟩⟩
    · have ix := idxU_4 a b c d f wr
      have g0 : wr.cell? ⟨G, 4, none⟩ = some (.int .u64 127) := blk_cell HS4.out 4
      by_cases z : f = 0
      · have z1 : (f == 0) = true := by simp [z]
        obtain rfl := HBD.out _ (.inr (.inr (.inr (.inr rfl)))) (by rw [badS, z1]; rfl)
        clear z1
        subst z
        go_wp2
        go_ret
        exact ⟨rfl, HB4.out⟩
      have z1 : (f == 0) = false := by simp [z]
      cases z2 : (bits .andNot .u64 f 127 != 0) with
      | true =>
        obtain rfl := HBD.out _ (.inr (.inr (.inr (.inr rfl)))) (by rw [badS, z1, z2]; rfl)
        go_wp2
        go_ret
        exact ⟨rfl, HB4.out⟩
      | false =>
        have HZ : Aside0 (badS f 127 = false) := ⟨by rw [badS, z1, z2]; rfl⟩
        go_wp2
        go_roundg 0
        case measure => omega
        case rel => exact ⟨5, rfl, by omega, ⟨rfl⟩, ⟨fun _ => HSM.out.1 (by omega), fun _ => HSM.out.2.1 (by omega), fun _ => HSM.out.2.2.1 (by omega), fun _ => HSM.out.2.2.2.1 (by omega), fun _ => HZ.out⟩⟩
    · have HSO : Aside0 (setOk a b c d f = true) := ⟨by rw [setOk, HSM.out.1 (by omega), HSM.out.2.1 (by omega), HSM.out.2.2.1 (by omega), HSM.out.2.2.2.1 (by omega), HSM.out.2.2.2.2 (by omega)]; rfl⟩
      have HN : Aside0 (RE = if starOk c f x y then 0 else 9) := ⟨by rw [hRE.out, chkR, HSO.out, Bool.true_and]⟩
      obtain ⟨⟨k0, k1, k2, k3, k4, k5, k6⟩, _⟩ := all7 HK4.out
      have g2 : wr.cell? ⟨G, 2, none⟩ = some (.int .u64 4294967294) := blk_cell HS4.out 2
      have g4 : wr.cell? ⟨G, 4, none⟩ = some (.int .u64 127) := blk_cell HS4.out 4
      cases x <;> cases y <;> cases z1 : (c != 4294967294) <;> cases z2 : (f != 127) <;> (have HN2 := HN.out; simp only [starOk, z1, z2, Bool.false_and, Bool.true_and, Bool.not_false, Bool.not_true, Bool.and_true, Bool.and_false, if_true, if_false, Bool.false_eq_true] at HN2; subst HN2; clear HN; go_wp2; go_ret; exact ⟨rfl, HB4.out⟩)
end Go.Proofs.YteloamnakikbbaaDoor.Cron

/- The shelf's contract of math/bits.TrailingZeros64 at this translation (the numbers by name). -/
namespace Go.Proofs
open Go.Shelf Go.RowKit
def Tryd.bitsRen : Go.Shelf.Ren := ⟨fun | 29 => 82 | n => n, fun | 0 => 0 | 3 => 3 | 4 => 4 | 5 => 5 | 22 => 25 | 25 => 58 | 54 => 153 | n => n, fun | 1 => 0 | n => n⟩
theorem Tryd.lays29 : Lays7.n29 Tryd.prog Tryd.bitsRen := {
  mixed := by kernel_rfl
  f29 := Tryd.func82.trans (congrArg some (by kernel_rfl))
  t0 := by kernel_rfl
  a0 := Tryd.isAgg0
  z0 := Tryd.sizeOf0
  v0 := Tryd.zeroValue0
  i0 := by kernel_rfl
  t3 := Tryd.underlying3
  a3 := Tryd.isAgg3
  z3 := Tryd.sizeOf3
  v3 := Tryd.zeroValue3
  i3 := by kernel_rfl
  t4 := Tryd.underlying4
  a4 := Tryd.isAgg4
  z4 := Tryd.sizeOf4
  v4 := Tryd.zeroValue4
  i4 := by kernel_rfl
  t5 := Tryd.underlying5
  a5 := Tryd.isAgg5
  z5 := Tryd.sizeOf5
  v5 := Tryd.zeroValue5
  i5 := by kernel_rfl
  t22 := Tryd.underlying25
  a22 := Tryd.isAgg25
  z22 := Tryd.sizeOf25
  v22 := Tryd.zeroValue25
  i22 := by kernel_rfl
  t25 := Tryd.underlying58
  a25 := Tryd.isAgg58
  z25 := Tryd.sizeOf58
  v25 := Tryd.zeroValue58
  i25 := by kernel_rfl
  t54 := Tryd.underlying153
  a54 := Tryd.isAgg153
  z54 := Tryd.sizeOf153
  g1 := by kernel_rfl }
theorem Tryd.trailing (x : Nat) (hx : x < 18446744073709551616) (w : World) (hT : x ≠ 0 → TabAt 0 Lib.deBruijn64tab w) :
    Calls Tryd.prog 82 #[.int .u64 x] w fun e w' => e = .returned (.int .i64 (Lib.ctz 64 x)) ∧ w' = w := Any7.bits_TrailingZeros64 Tryd.lays29 x hx w hT
end Go.Proofs

/- cron: from, day, within, walked. -/
namespace Go.Proofs.YteloamnakikbbaaDoor.Cron
set_option linter.unusedVariables false
set_option linter.unusedSimpArgs false
open Go.RowKit Go.Proofs.YteloamnakikbbaaDoorW.PrintWords Go.Proofs.YteloamnakikbbaaDoorW.PrintLast Go.Proofs.YteloamnakikbbaaDoor.Base Go.Proofs.YteloamnakikbbaaDoor.Cells Go.Proofs.YteloamnakikbbaaDoor.CronPure Go.Proofs.YteloamnakikbbaaDoor.NamesPure

/-- the library's table of 64 places -/
def Tab64 (w : World) : Prop := TabAt 0 Lib.deBruijn64tab w
theorem Tab64.below {w w' : World} (h : Tab64 w) (hb : Below w.heap.size w w') : Tab64 w' := fun j hj => by
  have hc := h j hj
  exact (hb.cell (p := ⟨0, j, none⟩) (World.block_lt_of_cell? w _ hc)).trans hc
/-- the least of a set from a number on -/
def fromP (s n : Nat) : Option Nat := if 63 < n then none else if s >>> n = 0 then none else some (n + Lib.ctz 64 (s >>> n))
set_option maxRecDepth 100000 in
set_option maxHeartbeats 1000000 in
theorem from_no (s : Nat) (m : Int) (w : World) (h0 : 0 ≤ m) (h1 : m ≤ 63) (hq : (s : Int) / 2 ^ m.toNat = 0) : Calls Tryd.prog 74 #[.int .u64 s, .int .i64 m] w fun e w' => e = .returned (.tuple #[.int .i64 0, .bool false]) ∧ w' = w := by
  have h3 : ¬ ((63 : Int) < m) := by omega
  go_enter Tryd.func74, Tryd.ntmps74
  go_wp2
  refine bodyPost_ret (results_tmp2 rfl _ _ _) rfl ?_
  exact ⟨rfl, rfl⟩
set_option maxRecDepth 100000 in
set_option maxHeartbeats 1000000 in
theorem from_yes (s q K : Nat) (m : Int) (w : World) (h0 : 0 ≤ m) (h1 : m ≤ 63) (hq : (s : Int) / 2 ^ m.toNat = q) (hz : ((q : Int) == 0) = false) (hw : IntKind.i64.wrap (m + (K : Int)) = m + (K : Int))
    (HC : Aside0 (Calls Tryd.prog 82 #[.int .u64 q] w fun e w' => e = .returned (.int .i64 K) ∧ w' = w)) : Calls Tryd.prog 74 #[.int .u64 s, .int .i64 m] w fun e w' => e = .returned (.tuple #[.int .i64 (m + (K : Int)), .bool true]) ∧ w' = w := by
  have h3 : ¬ ((63 : Int) < m) := by omega
  go_enter Tryd.func74, Tryd.ntmps74
  go_wp2_with (go_at_call 82; refine HC.out.mono ?_; rintro e w2 ⟨rfl, rfl⟩)
  refine bodyPost_ret (results_tmp2 rfl _ _ _) rfl ?_
  exact ⟨rfl, rfl⟩
set_option maxRecDepth 100000 in
theorem from_big (s : Nat) (m : Int) (w : World) (h3 : 63 < m) : Calls Tryd.prog 74 #[.int .u64 s, .int .i64 m] w fun e w' => e = .returned (.tuple #[.int .i64 0, .bool false]) ∧ w' = w := by
  go_enter Tryd.func74, Tryd.ntmps74
  go_wp2
  refine bodyPost_ret (results_tmp2 rfl _ _ _) rfl ?_
  exact ⟨rfl, rfl⟩
theorem from_any (s n : Nat) (w : World) (hs : s < 18446744073709551616) (hT : Tab64 w) : Calls Tryd.prog 74 #[.int .u64 s, .int .i64 n] w fun e w' => e = .returned (.tuple #[.int .i64 ((fromP s n).getD 0 : Nat), .bool (fromP s n).isSome]) ∧ w' = w := by
  by_cases h1 : 63 < n
  · have h2 : fromP s n = none := by rw [fromP, if_pos h1]
    rw [h2]
    exact from_big s n w (by omega)
  obtain ⟨q, hq⟩ : ∃ q, q = s >>> n := ⟨_, rfl⟩
  have hq2 : (s : Int) / 2 ^ (n : Int).toNat = (q : Int) := by rw [hq, Nat.shiftRight_eq_div_pow, Int.toNat_natCast]; simp
  have hqs : q ≤ s := by rw [hq, Nat.shiftRight_eq_div_pow]; exact Nat.div_le_self _ _
  by_cases h4 : q = 0
  · have h2 : fromP s n = none := by rw [fromP, if_neg h1, if_pos (by rw [← hq]; exact h4)]
    rw [h2]
    exact from_no s n w (by omega) (by omega) (by rw [hq2, h4]; rfl)
  have h2 : fromP s n = some (n + Lib.ctz 64 q) := by rw [fromP, if_neg h1, if_neg (by rw [← hq]; exact h4), ← hq]
  have hk : Lib.ctz 64 q < 64 := by
    rw [Lib.ctz, if_neg h4]
    obtain ⟨_, _, h⟩ := Lib.ctzFrom_spec 64 q (by omega) (by omega)
    exact h
  rw [h2]
  have c := from_yes s q (Lib.ctz 64 q) n w (by omega) (by omega) hq2 (by simp; omega) (by rw [IntKind.wrap_i64]; omega) ⟨Tryd.trailing q (by omega) w (fun _ => hT)⟩
  refine c.mono fun e w' ⟨he, hb⟩ => ⟨?_, hb⟩
  rw [he]
  simp
end Go.Proofs.YteloamnakikbbaaDoor.Cron
